/- wharflaw23.live. (Printed by gen_subh.py.) -/
import Derived.Test.YtofdiilfedjhkaaDoorSubG
set_option linter.unusedVariables false
set_option linter.unusedSimpArgs false
namespace Go.Proofs.YtofdiilfedjhkaaDoor.Sub
open Go.RowKit U
theorem cell_keep {w w' : World} {a : Addr} {v : Value} (h : w.cell? a = some v) (hb : Below w.heap.size w w') : w'.cell? a = some v := (hb.cell (World.block_lt_of_cell? _ _ h)).trans h
theorem in_calls {P : Program} {f : FuncId} {args : Array Value} {W : World} {Q : Ending → World → Prop} (F : World → Prop) (hF : F W) (k : ∀ WS : World, F WS → Calls P f args WS Q) : Calls P f args W Q := k W hF
theorem Dealt_off (w : World) : Calls Tryd.prog 13 #[CV ⟨#[106, 111, 101]⟩ false true false false false false 0 0, .agg #[.int .i64 1, .string ⟨#[74, 111, 101]⟩, .string ⟨#[]⟩, .string ⟨#[]⟩, .bool false, .int .i64 0]] w fun e w' => ∃ g cp, e = .returned (.tuple #[CV ⟨#[106, 111, 101]⟩ true false false false false false 0 0, .agg #[.slice (some ⟨g, 0, none⟩) 1 cp, .slice none 0 0, .slice none 0 0]]) ∧
    w'.cell? ⟨g, 0, none⟩ = some (.string sS) ∧ Below w.heap.size w w' :=
  (Dealt_ok ⟨#[106, 111, 101]⟩ ⟨#[74, 111, 101]⟩ ⟨#[]⟩ ⟨#[]⟩ false false false false false 0 0 (by decide) (by decide) (by decide) w).mono fun e w' ⟨g, cp, h1, h2, h3⟩ => ⟨g, cp, h1, h2.cellAt 0 _ rfl, h3⟩
theorem Row_to (w : World) : Calls Tryd.prog 11 #[CV ⟨#[106, 111, 101]⟩ true false false false false false 0 0] w fun e w' => e = .returned (.string ⟨#[116, 111]⟩) ∧ Below w.heap.size w w' := Row_any ⟨#[106, 111, 101]⟩ true false false false false false 0 0 w
theorem Idle_joe (w : World) : Calls Tryd.prog 12 #[CV ⟨#[106, 111, 101]⟩ false false false false false false 0 0] w fun e w' => e = .returned (.bool true) ∧ Below w.heap.size w w' := Idle_any ⟨#[106, 111, 101]⟩ false false false false false false 0 0 w
theorem Idle_d (w : World) : Calls Tryd.prog 12 #[CV ⟨#[106, 111, 101]⟩ true false false false false false 0 0] w fun e w' => e = .returned (.bool false) ∧ Below w.heap.size w w' := Idle_any ⟨#[106, 111, 101]⟩ true false false false false false 0 0 w
set_option maxRecDepth 100000 in
set_option maxHeartbeats 4000000 in
theorem live_any (w : World) : Calls Tryd.prog 7 #[] w fun e w' => e = .returned (.bool true) ∧ Below w.heap.size w w' := by
  have HC1 := Lib.hid (fun w => User_sub ⟨#[106, 111, 101]⟩ ⟨#[74]⟩ ⟨#[103]⟩ false false false false false 0 0 w)
  have HC2 := Lib.hid (fun w => Dealt_off w)
  have HC3 := Lib.hid (fun w => Heard_on ⟨#[106, 111, 101]⟩ ⟨#[106, 111, 101]⟩ false false false false false 0 0 (by decide) (by decide) rfl w)
  have HC4 := Lib.hid (fun w => Heard_wants ⟨#[106, 111, 101]⟩ ⟨#[106, 111, 101]⟩ ⟨#[]⟩ true false false false false 0 0 (by decide) (by decide) rfl w)
  have HC5 := Lib.hid (fun w => User_ok ⟨#[106, 111, 101]⟩ ⟨#[]⟩ ⟨#[]⟩ true false false false false 0 0 w)
  have HC6 := Lib.hid Row_to
  have HC7 := Lib.hid Idle_joe
  have HC8 := Lib.hid Idle_d
  go_enter Tryd.func7, Tryd.ntmps7
  go_wp2_with fail
  refine (HC1.out _).mono ?_
  rintro e v1 ⟨g1, rfl, hg, hb⟩
  obtain ⟨a1, ha⟩ : ∃ g, g = v1.heap.size := ⟨_, rfl⟩
  obtain ⟨t1, ht⟩ : ∃ g, g = v1.heap.size + 1 := ⟨_, rfl⟩
  have HF1' : Hid (At a1 23 (CC ⟨#[106, 111, 101]⟩ false true false false false false 0 0) ((v1.alloc (.cells (CC ⟨#[106, 111, 101]⟩ false true false false false false 0 0) 23)).alloc (.cells #[.slice none 0 0, .slice none 0 0, .slice (some ⟨g1, 0, none⟩) 1 1] 29)) ∧ At t1 29 #[.slice none 0 0, .slice none 0 0, .slice (some ⟨g1, 0, none⟩) 1 1] ((v1.alloc (.cells (CC ⟨#[106, 111, 101]⟩ false true false false false false 0 0) 23)).alloc (.cells #[.slice none 0 0, .slice none 0 0, .slice (some ⟨g1, 0, none⟩) 1 1] 29)) ∧ At g1 42 #[.int .i64 1, .string ⟨#[106, 111, 101]⟩, .string ⟨#[74]⟩, .string ⟨#[103]⟩, .bool false] ((v1.alloc (.cells (CC ⟨#[106, 111, 101]⟩ false true false false false false 0 0) 23)).alloc (.cells #[.slice none 0 0, .slice none 0 0, .slice (some ⟨g1, 0, none⟩) 1 1] 29)) ∧ Below w.heap.size w ((v1.alloc (.cells (CC ⟨#[106, 111, 101]⟩ false true false false false false 0 0) 23)).alloc (.cells #[.slice none 0 0, .slice none 0 0, .slice (some ⟨g1, 0, none⟩) 1 1] 29))) := Lib.hid (by
    have hA : Below v1.heap.size v1 ((v1.alloc (.cells (CC ⟨#[106, 111, 101]⟩ false true false false false false 0 0) 23)).alloc (.cells #[.slice none 0 0, .slice none 0 0, .slice (some ⟨g1, 0, none⟩) 1 1] 29)) := ((Below.refl _ _).alloc (Nat.le_refl _) _).alloc (by simp) _
    have hB : Below w.heap.size w ((v1.alloc (.cells (CC ⟨#[106, 111, 101]⟩ false true false false false false 0 0) 23)).alloc (.cells #[.slice none 0 0, .slice none 0 0, .slice (some ⟨g1, 0, none⟩) 1 1] 29)) := hb.trans (hA.mono hb.size)
    exact ⟨(new_at v1 _ _ a1 ha).alloc _, new_at _ _ _ t1 (by rw [ht]; simp), At.below hg hA, hB⟩)
  clear hg hb
  go_wp2_with fail
  refine in_calls (fun x => At a1 23 (CC ⟨#[106, 111, 101]⟩ false true false false false false 0 0) x ∧ At t1 29 #[.slice none 0 0, .slice none 0 0, .slice (some ⟨g1, 0, none⟩) 1 1] x ∧ At g1 42 #[.int .i64 1, .string ⟨#[106, 111, 101]⟩, .string ⟨#[74]⟩, .string ⟨#[103]⟩, .bool false] x ∧ Below w.heap.size w x) HF1'.out (fun W1 hW => ?_)
  have HF1 := Lib.hid hW
  rw [show (Value.pointer (some ⟨v1.heap.size + 1, 0, none⟩)) = .pointer (some ⟨t1, 0, none⟩) by rw [ht]]
  rw [← ha]
  clear hW ha ht HF1'
  refine (HC2.out _).mono ?_
  rintro e v2 ⟨g2, cp2, rfl, hg, hb⟩
  obtain ⟨a2, ha⟩ : ∃ g, g = v2.heap.size := ⟨_, rfl⟩
  obtain ⟨t2, ht⟩ : ∃ g, g = v2.heap.size + 1 := ⟨_, rfl⟩
  have HF2' : Hid (At a1 23 (CC ⟨#[106, 111, 101]⟩ false true false false false false 0 0) ((v2.alloc (.cells (CC ⟨#[106, 111, 101]⟩ true false false false false false 0 0) 23)).alloc (.cells #[.slice (some ⟨g2, 0, none⟩) 1 cp2, .slice none 0 0, .slice none 0 0] 29)) ∧ At t1 29 #[.slice none 0 0, .slice none 0 0, .slice (some ⟨g1, 0, none⟩) 1 1] ((v2.alloc (.cells (CC ⟨#[106, 111, 101]⟩ true false false false false false 0 0) 23)).alloc (.cells #[.slice (some ⟨g2, 0, none⟩) 1 cp2, .slice none 0 0, .slice none 0 0] 29)) ∧ At g1 42 #[.int .i64 1, .string ⟨#[106, 111, 101]⟩, .string ⟨#[74]⟩, .string ⟨#[103]⟩, .bool false] ((v2.alloc (.cells (CC ⟨#[106, 111, 101]⟩ true false false false false false 0 0) 23)).alloc (.cells #[.slice (some ⟨g2, 0, none⟩) 1 cp2, .slice none 0 0, .slice none 0 0] 29)) ∧ At a2 23 (CC ⟨#[106, 111, 101]⟩ true false false false false false 0 0) ((v2.alloc (.cells (CC ⟨#[106, 111, 101]⟩ true false false false false false 0 0) 23)).alloc (.cells #[.slice (some ⟨g2, 0, none⟩) 1 cp2, .slice none 0 0, .slice none 0 0] 29)) ∧ At t2 29 #[.slice (some ⟨g2, 0, none⟩) 1 cp2, .slice none 0 0, .slice none 0 0] ((v2.alloc (.cells (CC ⟨#[106, 111, 101]⟩ true false false false false false 0 0) 23)).alloc (.cells #[.slice (some ⟨g2, 0, none⟩) 1 cp2, .slice none 0 0, .slice none 0 0] 29)) ∧ ((v2.alloc (.cells (CC ⟨#[106, 111, 101]⟩ true false false false false false 0 0) 23)).alloc (.cells #[.slice (some ⟨g2, 0, none⟩) 1 cp2, .slice none 0 0, .slice none 0 0] 29)).cell? ⟨g2, 0, none⟩ = some (.string sS) ∧ Below w.heap.size w ((v2.alloc (.cells (CC ⟨#[106, 111, 101]⟩ true false false false false false 0 0) 23)).alloc (.cells #[.slice (some ⟨g2, 0, none⟩) 1 cp2, .slice none 0 0, .slice none 0 0] 29))) := Lib.hid (by
    have hA : Below v2.heap.size v2 ((v2.alloc (.cells (CC ⟨#[106, 111, 101]⟩ true false false false false false 0 0) 23)).alloc (.cells #[.slice (some ⟨g2, 0, none⟩) 1 cp2, .slice none 0 0, .slice none 0 0] 29)) := ((Below.refl _ _).alloc (Nat.le_refl _) _).alloc (by simp) _
    have hB : Below W1.heap.size W1 ((v2.alloc (.cells (CC ⟨#[106, 111, 101]⟩ true false false false false false 0 0) 23)).alloc (.cells #[.slice (some ⟨g2, 0, none⟩) 1 cp2, .slice none 0 0, .slice none 0 0] 29)) := hb.trans (hA.mono hb.size)
    exact ⟨At.below HF1.out.1 hB, At.below HF1.out.2.1 hB, At.below HF1.out.2.2.1 hB, (new_at v2 _ _ a2 ha).alloc _, new_at _ _ _ t2 (by rw [ht]; simp), cell_keep hg hA, (HF1.out.2.2.2).trans (hB.mono (HF1.out.2.2.2).size)⟩)
  clear hg hb
  go_wp2_with fail
  refine in_calls (fun x => At a1 23 (CC ⟨#[106, 111, 101]⟩ false true false false false false 0 0) x ∧ At t1 29 #[.slice none 0 0, .slice none 0 0, .slice (some ⟨g1, 0, none⟩) 1 1] x ∧ At g1 42 #[.int .i64 1, .string ⟨#[106, 111, 101]⟩, .string ⟨#[74]⟩, .string ⟨#[103]⟩, .bool false] x ∧ At a2 23 (CC ⟨#[106, 111, 101]⟩ true false false false false false 0 0) x ∧ At t2 29 #[.slice (some ⟨g2, 0, none⟩) 1 cp2, .slice none 0 0, .slice none 0 0] x ∧ x.cell? ⟨g2, 0, none⟩ = some (.string sS) ∧ Below w.heap.size w x) HF2'.out (fun W2 hW => ?_)
  have HF2 := Lib.hid hW
  rw [show (Value.pointer (some ⟨v2.heap.size + 1, 0, none⟩)) = .pointer (some ⟨t2, 0, none⟩) by rw [ht]]
  rw [← ha]
  clear hW ha ht HF2'
  refine (HC3.out _).mono ?_
  rintro e v3 ⟨g3, cp3, rfl, hg, hb⟩
  obtain ⟨a3, ha⟩ : ∃ g, g = v3.heap.size := ⟨_, rfl⟩
  obtain ⟨t3, ht⟩ : ∃ g, g = v3.heap.size + 1 := ⟨_, rfl⟩
  have HF3' : Hid (At a1 23 (CC ⟨#[106, 111, 101]⟩ false true false false false false 0 0) ((v3.alloc (.cells (CC ⟨#[106, 111, 101]⟩ true false false false false true 0 0) 23)).alloc (.cells #[.slice (some ⟨g3, 0, none⟩) 1 cp3, .slice none 0 0, .slice none 0 0] 29)) ∧ At t1 29 #[.slice none 0 0, .slice none 0 0, .slice (some ⟨g1, 0, none⟩) 1 1] ((v3.alloc (.cells (CC ⟨#[106, 111, 101]⟩ true false false false false true 0 0) 23)).alloc (.cells #[.slice (some ⟨g3, 0, none⟩) 1 cp3, .slice none 0 0, .slice none 0 0] 29)) ∧ At g1 42 #[.int .i64 1, .string ⟨#[106, 111, 101]⟩, .string ⟨#[74]⟩, .string ⟨#[103]⟩, .bool false] ((v3.alloc (.cells (CC ⟨#[106, 111, 101]⟩ true false false false false true 0 0) 23)).alloc (.cells #[.slice (some ⟨g3, 0, none⟩) 1 cp3, .slice none 0 0, .slice none 0 0] 29)) ∧ At a2 23 (CC ⟨#[106, 111, 101]⟩ true false false false false false 0 0) ((v3.alloc (.cells (CC ⟨#[106, 111, 101]⟩ true false false false false true 0 0) 23)).alloc (.cells #[.slice (some ⟨g3, 0, none⟩) 1 cp3, .slice none 0 0, .slice none 0 0] 29)) ∧ At t2 29 #[.slice (some ⟨g2, 0, none⟩) 1 cp2, .slice none 0 0, .slice none 0 0] ((v3.alloc (.cells (CC ⟨#[106, 111, 101]⟩ true false false false false true 0 0) 23)).alloc (.cells #[.slice (some ⟨g3, 0, none⟩) 1 cp3, .slice none 0 0, .slice none 0 0] 29)) ∧ ((v3.alloc (.cells (CC ⟨#[106, 111, 101]⟩ true false false false false true 0 0) 23)).alloc (.cells #[.slice (some ⟨g3, 0, none⟩) 1 cp3, .slice none 0 0, .slice none 0 0] 29)).cell? ⟨g2, 0, none⟩ = some (.string sS) ∧ At a3 23 (CC ⟨#[106, 111, 101]⟩ true false false false false true 0 0) ((v3.alloc (.cells (CC ⟨#[106, 111, 101]⟩ true false false false false true 0 0) 23)).alloc (.cells #[.slice (some ⟨g3, 0, none⟩) 1 cp3, .slice none 0 0, .slice none 0 0] 29)) ∧ At t3 29 #[.slice (some ⟨g3, 0, none⟩) 1 cp3, .slice none 0 0, .slice none 0 0] ((v3.alloc (.cells (CC ⟨#[106, 111, 101]⟩ true false false false false true 0 0) 23)).alloc (.cells #[.slice (some ⟨g3, 0, none⟩) 1 cp3, .slice none 0 0, .slice none 0 0] 29)) ∧ ((v3.alloc (.cells (CC ⟨#[106, 111, 101]⟩ true false false false false true 0 0) 23)).alloc (.cells #[.slice (some ⟨g3, 0, none⟩) 1 cp3, .slice none 0 0, .slice none 0 0] 29)).cell? ⟨g3, 0, none⟩ = some (.string ⟨#[]⟩) ∧ Below w.heap.size w ((v3.alloc (.cells (CC ⟨#[106, 111, 101]⟩ true false false false false true 0 0) 23)).alloc (.cells #[.slice (some ⟨g3, 0, none⟩) 1 cp3, .slice none 0 0, .slice none 0 0] 29))) := Lib.hid (by
    have hA : Below v3.heap.size v3 ((v3.alloc (.cells (CC ⟨#[106, 111, 101]⟩ true false false false false true 0 0) 23)).alloc (.cells #[.slice (some ⟨g3, 0, none⟩) 1 cp3, .slice none 0 0, .slice none 0 0] 29)) := ((Below.refl _ _).alloc (Nat.le_refl _) _).alloc (by simp) _
    have hB : Below W2.heap.size W2 ((v3.alloc (.cells (CC ⟨#[106, 111, 101]⟩ true false false false false true 0 0) 23)).alloc (.cells #[.slice (some ⟨g3, 0, none⟩) 1 cp3, .slice none 0 0, .slice none 0 0] 29)) := hb.trans (hA.mono hb.size)
    exact ⟨At.below HF2.out.1 hB, At.below HF2.out.2.1 hB, At.below HF2.out.2.2.1 hB, At.below HF2.out.2.2.2.1 hB, At.below HF2.out.2.2.2.2.1 hB, cell_keep HF2.out.2.2.2.2.2.1 hB, (new_at v3 _ _ a3 ha).alloc _, new_at _ _ _ t3 (by rw [ht]; simp), cell_keep hg hA, (HF2.out.2.2.2.2.2.2).trans (hB.mono (HF2.out.2.2.2.2.2.2).size)⟩)
  clear hg hb
  have z0 := At.cell HF3'.out.2.2.2.1 0 _ rfl
  have z1 := At.cell HF3'.out.2.2.2.1 1 _ rfl
  have z2 := At.cell HF3'.out.2.2.2.1 2 _ rfl
  have z3 := At.cell HF3'.out.2.2.2.1 3 _ rfl
  have z4 := At.cell HF3'.out.2.2.2.1 4 _ rfl
  have z5 := At.cell HF3'.out.2.2.2.1 5 _ rfl
  have z6 := At.cell HF3'.out.2.2.2.1 6 _ rfl
  have z7 := At.cell HF3'.out.2.2.2.1 7 _ rfl
  have z8 := At.cell HF3'.out.2.2.2.1 8 _ rfl
  go_wp2_with fail
  clear z0 z1 z2 z3 z4 z5 z6 z7 z8
  refine in_calls (fun x => At a1 23 (CC ⟨#[106, 111, 101]⟩ false true false false false false 0 0) x ∧ At t1 29 #[.slice none 0 0, .slice none 0 0, .slice (some ⟨g1, 0, none⟩) 1 1] x ∧ At g1 42 #[.int .i64 1, .string ⟨#[106, 111, 101]⟩, .string ⟨#[74]⟩, .string ⟨#[103]⟩, .bool false] x ∧ At a2 23 (CC ⟨#[106, 111, 101]⟩ true false false false false false 0 0) x ∧ At t2 29 #[.slice (some ⟨g2, 0, none⟩) 1 cp2, .slice none 0 0, .slice none 0 0] x ∧ x.cell? ⟨g2, 0, none⟩ = some (.string sS) ∧ At a3 23 (CC ⟨#[106, 111, 101]⟩ true false false false false true 0 0) x ∧ At t3 29 #[.slice (some ⟨g3, 0, none⟩) 1 cp3, .slice none 0 0, .slice none 0 0] x ∧ x.cell? ⟨g3, 0, none⟩ = some (.string ⟨#[]⟩) ∧ Below w.heap.size w x) HF3'.out (fun W3 hW => ?_)
  have HF3 := Lib.hid hW
  rw [show (Value.pointer (some ⟨v3.heap.size + 1, 0, none⟩)) = .pointer (some ⟨t3, 0, none⟩) by rw [ht]]
  rw [← ha]
  clear hW ha ht HF3'
  refine (HC4.out _).mono ?_
  rintro e v4 ⟨g4, rfl, hg, hb⟩
  obtain ⟨a4, ha⟩ : ∃ g, g = v4.heap.size := ⟨_, rfl⟩
  obtain ⟨t4, ht⟩ : ∃ g, g = v4.heap.size + 1 := ⟨_, rfl⟩
  have HF4' : Hid (At a1 23 (CC ⟨#[106, 111, 101]⟩ false true false false false false 0 0) ((v4.alloc (.cells (CC ⟨#[106, 111, 101]⟩ true false false false true false 0 0) 23)).alloc (.cells #[.slice (some ⟨g4, 0, none⟩) 1 1, .slice none 0 0, .slice none 0 0] 29)) ∧ At t1 29 #[.slice none 0 0, .slice none 0 0, .slice (some ⟨g1, 0, none⟩) 1 1] ((v4.alloc (.cells (CC ⟨#[106, 111, 101]⟩ true false false false true false 0 0) 23)).alloc (.cells #[.slice (some ⟨g4, 0, none⟩) 1 1, .slice none 0 0, .slice none 0 0] 29)) ∧ At g1 42 #[.int .i64 1, .string ⟨#[106, 111, 101]⟩, .string ⟨#[74]⟩, .string ⟨#[103]⟩, .bool false] ((v4.alloc (.cells (CC ⟨#[106, 111, 101]⟩ true false false false true false 0 0) 23)).alloc (.cells #[.slice (some ⟨g4, 0, none⟩) 1 1, .slice none 0 0, .slice none 0 0] 29)) ∧ At a2 23 (CC ⟨#[106, 111, 101]⟩ true false false false false false 0 0) ((v4.alloc (.cells (CC ⟨#[106, 111, 101]⟩ true false false false true false 0 0) 23)).alloc (.cells #[.slice (some ⟨g4, 0, none⟩) 1 1, .slice none 0 0, .slice none 0 0] 29)) ∧ At t2 29 #[.slice (some ⟨g2, 0, none⟩) 1 cp2, .slice none 0 0, .slice none 0 0] ((v4.alloc (.cells (CC ⟨#[106, 111, 101]⟩ true false false false true false 0 0) 23)).alloc (.cells #[.slice (some ⟨g4, 0, none⟩) 1 1, .slice none 0 0, .slice none 0 0] 29)) ∧ ((v4.alloc (.cells (CC ⟨#[106, 111, 101]⟩ true false false false true false 0 0) 23)).alloc (.cells #[.slice (some ⟨g4, 0, none⟩) 1 1, .slice none 0 0, .slice none 0 0] 29)).cell? ⟨g2, 0, none⟩ = some (.string sS) ∧ At a3 23 (CC ⟨#[106, 111, 101]⟩ true false false false false true 0 0) ((v4.alloc (.cells (CC ⟨#[106, 111, 101]⟩ true false false false true false 0 0) 23)).alloc (.cells #[.slice (some ⟨g4, 0, none⟩) 1 1, .slice none 0 0, .slice none 0 0] 29)) ∧ At t3 29 #[.slice (some ⟨g3, 0, none⟩) 1 cp3, .slice none 0 0, .slice none 0 0] ((v4.alloc (.cells (CC ⟨#[106, 111, 101]⟩ true false false false true false 0 0) 23)).alloc (.cells #[.slice (some ⟨g4, 0, none⟩) 1 1, .slice none 0 0, .slice none 0 0] 29)) ∧ ((v4.alloc (.cells (CC ⟨#[106, 111, 101]⟩ true false false false true false 0 0) 23)).alloc (.cells #[.slice (some ⟨g4, 0, none⟩) 1 1, .slice none 0 0, .slice none 0 0] 29)).cell? ⟨g3, 0, none⟩ = some (.string ⟨#[]⟩) ∧ At a4 23 (CC ⟨#[106, 111, 101]⟩ true false false false true false 0 0) ((v4.alloc (.cells (CC ⟨#[106, 111, 101]⟩ true false false false true false 0 0) 23)).alloc (.cells #[.slice (some ⟨g4, 0, none⟩) 1 1, .slice none 0 0, .slice none 0 0] 29)) ∧ At t4 29 #[.slice (some ⟨g4, 0, none⟩) 1 1, .slice none 0 0, .slice none 0 0] ((v4.alloc (.cells (CC ⟨#[106, 111, 101]⟩ true false false false true false 0 0) 23)).alloc (.cells #[.slice (some ⟨g4, 0, none⟩) 1 1, .slice none 0 0, .slice none 0 0] 29)) ∧ At g4 9 #[.string ⟨#[115, 117, 98, 115, 99, 114, 105, 98, 101]⟩] ((v4.alloc (.cells (CC ⟨#[106, 111, 101]⟩ true false false false true false 0 0) 23)).alloc (.cells #[.slice (some ⟨g4, 0, none⟩) 1 1, .slice none 0 0, .slice none 0 0] 29)) ∧ Below w.heap.size w ((v4.alloc (.cells (CC ⟨#[106, 111, 101]⟩ true false false false true false 0 0) 23)).alloc (.cells #[.slice (some ⟨g4, 0, none⟩) 1 1, .slice none 0 0, .slice none 0 0] 29))) := Lib.hid (by
    have hA : Below v4.heap.size v4 ((v4.alloc (.cells (CC ⟨#[106, 111, 101]⟩ true false false false true false 0 0) 23)).alloc (.cells #[.slice (some ⟨g4, 0, none⟩) 1 1, .slice none 0 0, .slice none 0 0] 29)) := ((Below.refl _ _).alloc (Nat.le_refl _) _).alloc (by simp) _
    have hB : Below W3.heap.size W3 ((v4.alloc (.cells (CC ⟨#[106, 111, 101]⟩ true false false false true false 0 0) 23)).alloc (.cells #[.slice (some ⟨g4, 0, none⟩) 1 1, .slice none 0 0, .slice none 0 0] 29)) := hb.trans (hA.mono hb.size)
    exact ⟨At.below HF3.out.1 hB, At.below HF3.out.2.1 hB, At.below HF3.out.2.2.1 hB, At.below HF3.out.2.2.2.1 hB, At.below HF3.out.2.2.2.2.1 hB, cell_keep HF3.out.2.2.2.2.2.1 hB, At.below HF3.out.2.2.2.2.2.2.1 hB, At.below HF3.out.2.2.2.2.2.2.2.1 hB, cell_keep HF3.out.2.2.2.2.2.2.2.2.1 hB, (new_at v4 _ _ a4 ha).alloc _, new_at _ _ _ t4 (by rw [ht]; simp), At.below hg hA, (HF3.out.2.2.2.2.2.2.2.2.2).trans (hB.mono (HF3.out.2.2.2.2.2.2.2.2.2).size)⟩)
  clear hg hb
  go_wp2_with fail
  refine in_calls (fun x => At a1 23 (CC ⟨#[106, 111, 101]⟩ false true false false false false 0 0) x ∧ At t1 29 #[.slice none 0 0, .slice none 0 0, .slice (some ⟨g1, 0, none⟩) 1 1] x ∧ At g1 42 #[.int .i64 1, .string ⟨#[106, 111, 101]⟩, .string ⟨#[74]⟩, .string ⟨#[103]⟩, .bool false] x ∧ At a2 23 (CC ⟨#[106, 111, 101]⟩ true false false false false false 0 0) x ∧ At t2 29 #[.slice (some ⟨g2, 0, none⟩) 1 cp2, .slice none 0 0, .slice none 0 0] x ∧ x.cell? ⟨g2, 0, none⟩ = some (.string sS) ∧ At a3 23 (CC ⟨#[106, 111, 101]⟩ true false false false false true 0 0) x ∧ At t3 29 #[.slice (some ⟨g3, 0, none⟩) 1 cp3, .slice none 0 0, .slice none 0 0] x ∧ x.cell? ⟨g3, 0, none⟩ = some (.string ⟨#[]⟩) ∧ At a4 23 (CC ⟨#[106, 111, 101]⟩ true false false false true false 0 0) x ∧ At t4 29 #[.slice (some ⟨g4, 0, none⟩) 1 1, .slice none 0 0, .slice none 0 0] x ∧ At g4 9 #[.string ⟨#[115, 117, 98, 115, 99, 114, 105, 98, 101]⟩] x ∧ Below w.heap.size w x) HF4'.out (fun W4 hW => ?_)
  have HF4 := Lib.hid hW
  rw [show (Value.pointer (some ⟨v4.heap.size + 1, 0, none⟩)) = .pointer (some ⟨t4, 0, none⟩) by rw [ht]]
  rw [← ha]
  clear hW ha ht HF4'
  refine (HC5.out _).mono ?_
  rintro e v5 ⟨g5, rfl, hg, hb⟩
  obtain ⟨a5, ha⟩ : ∃ g, g = v5.heap.size := ⟨_, rfl⟩
  obtain ⟨t5, ht⟩ : ∃ g, g = v5.heap.size + 1 := ⟨_, rfl⟩
  have HF5' : Hid (At a1 23 (CC ⟨#[106, 111, 101]⟩ false true false false false false 0 0) ((v5.alloc (.cells (CC ⟨#[106, 111, 101]⟩ true false false true false false 0 0) 23)).alloc (.cells #[.slice none 0 0, .slice (some ⟨g5, 0, none⟩) 1 1, .slice none 0 0] 29)) ∧ At t1 29 #[.slice none 0 0, .slice none 0 0, .slice (some ⟨g1, 0, none⟩) 1 1] ((v5.alloc (.cells (CC ⟨#[106, 111, 101]⟩ true false false true false false 0 0) 23)).alloc (.cells #[.slice none 0 0, .slice (some ⟨g5, 0, none⟩) 1 1, .slice none 0 0] 29)) ∧ At g1 42 #[.int .i64 1, .string ⟨#[106, 111, 101]⟩, .string ⟨#[74]⟩, .string ⟨#[103]⟩, .bool false] ((v5.alloc (.cells (CC ⟨#[106, 111, 101]⟩ true false false true false false 0 0) 23)).alloc (.cells #[.slice none 0 0, .slice (some ⟨g5, 0, none⟩) 1 1, .slice none 0 0] 29)) ∧ At a2 23 (CC ⟨#[106, 111, 101]⟩ true false false false false false 0 0) ((v5.alloc (.cells (CC ⟨#[106, 111, 101]⟩ true false false true false false 0 0) 23)).alloc (.cells #[.slice none 0 0, .slice (some ⟨g5, 0, none⟩) 1 1, .slice none 0 0] 29)) ∧ At t2 29 #[.slice (some ⟨g2, 0, none⟩) 1 cp2, .slice none 0 0, .slice none 0 0] ((v5.alloc (.cells (CC ⟨#[106, 111, 101]⟩ true false false true false false 0 0) 23)).alloc (.cells #[.slice none 0 0, .slice (some ⟨g5, 0, none⟩) 1 1, .slice none 0 0] 29)) ∧ ((v5.alloc (.cells (CC ⟨#[106, 111, 101]⟩ true false false true false false 0 0) 23)).alloc (.cells #[.slice none 0 0, .slice (some ⟨g5, 0, none⟩) 1 1, .slice none 0 0] 29)).cell? ⟨g2, 0, none⟩ = some (.string sS) ∧ At a3 23 (CC ⟨#[106, 111, 101]⟩ true false false false false true 0 0) ((v5.alloc (.cells (CC ⟨#[106, 111, 101]⟩ true false false true false false 0 0) 23)).alloc (.cells #[.slice none 0 0, .slice (some ⟨g5, 0, none⟩) 1 1, .slice none 0 0] 29)) ∧ At t3 29 #[.slice (some ⟨g3, 0, none⟩) 1 cp3, .slice none 0 0, .slice none 0 0] ((v5.alloc (.cells (CC ⟨#[106, 111, 101]⟩ true false false true false false 0 0) 23)).alloc (.cells #[.slice none 0 0, .slice (some ⟨g5, 0, none⟩) 1 1, .slice none 0 0] 29)) ∧ ((v5.alloc (.cells (CC ⟨#[106, 111, 101]⟩ true false false true false false 0 0) 23)).alloc (.cells #[.slice none 0 0, .slice (some ⟨g5, 0, none⟩) 1 1, .slice none 0 0] 29)).cell? ⟨g3, 0, none⟩ = some (.string ⟨#[]⟩) ∧ At a4 23 (CC ⟨#[106, 111, 101]⟩ true false false false true false 0 0) ((v5.alloc (.cells (CC ⟨#[106, 111, 101]⟩ true false false true false false 0 0) 23)).alloc (.cells #[.slice none 0 0, .slice (some ⟨g5, 0, none⟩) 1 1, .slice none 0 0] 29)) ∧ At t4 29 #[.slice (some ⟨g4, 0, none⟩) 1 1, .slice none 0 0, .slice none 0 0] ((v5.alloc (.cells (CC ⟨#[106, 111, 101]⟩ true false false true false false 0 0) 23)).alloc (.cells #[.slice none 0 0, .slice (some ⟨g5, 0, none⟩) 1 1, .slice none 0 0] 29)) ∧ At g4 9 #[.string ⟨#[115, 117, 98, 115, 99, 114, 105, 98, 101]⟩] ((v5.alloc (.cells (CC ⟨#[106, 111, 101]⟩ true false false true false false 0 0) 23)).alloc (.cells #[.slice none 0 0, .slice (some ⟨g5, 0, none⟩) 1 1, .slice none 0 0] 29)) ∧ At a5 23 (CC ⟨#[106, 111, 101]⟩ true false false true false false 0 0) ((v5.alloc (.cells (CC ⟨#[106, 111, 101]⟩ true false false true false false 0 0) 23)).alloc (.cells #[.slice none 0 0, .slice (some ⟨g5, 0, none⟩) 1 1, .slice none 0 0] 29)) ∧ At t5 29 #[.slice none 0 0, .slice (some ⟨g5, 0, none⟩) 1 1, .slice none 0 0] ((v5.alloc (.cells (CC ⟨#[106, 111, 101]⟩ true false false true false false 0 0) 23)).alloc (.cells #[.slice none 0 0, .slice (some ⟨g5, 0, none⟩) 1 1, .slice none 0 0] 29)) ∧ At g5 35 (NC ⟨#[106, 111, 101]⟩ true) ((v5.alloc (.cells (CC ⟨#[106, 111, 101]⟩ true false false true false false 0 0) 23)).alloc (.cells #[.slice none 0 0, .slice (some ⟨g5, 0, none⟩) 1 1, .slice none 0 0] 29)) ∧ Below w.heap.size w ((v5.alloc (.cells (CC ⟨#[106, 111, 101]⟩ true false false true false false 0 0) 23)).alloc (.cells #[.slice none 0 0, .slice (some ⟨g5, 0, none⟩) 1 1, .slice none 0 0] 29))) := Lib.hid (by
    have hA : Below v5.heap.size v5 ((v5.alloc (.cells (CC ⟨#[106, 111, 101]⟩ true false false true false false 0 0) 23)).alloc (.cells #[.slice none 0 0, .slice (some ⟨g5, 0, none⟩) 1 1, .slice none 0 0] 29)) := ((Below.refl _ _).alloc (Nat.le_refl _) _).alloc (by simp) _
    have hB : Below W4.heap.size W4 ((v5.alloc (.cells (CC ⟨#[106, 111, 101]⟩ true false false true false false 0 0) 23)).alloc (.cells #[.slice none 0 0, .slice (some ⟨g5, 0, none⟩) 1 1, .slice none 0 0] 29)) := hb.trans (hA.mono hb.size)
    exact ⟨At.below HF4.out.1 hB, At.below HF4.out.2.1 hB, At.below HF4.out.2.2.1 hB, At.below HF4.out.2.2.2.1 hB, At.below HF4.out.2.2.2.2.1 hB, cell_keep HF4.out.2.2.2.2.2.1 hB, At.below HF4.out.2.2.2.2.2.2.1 hB, At.below HF4.out.2.2.2.2.2.2.2.1 hB, cell_keep HF4.out.2.2.2.2.2.2.2.2.1 hB, At.below HF4.out.2.2.2.2.2.2.2.2.2.1 hB, At.below HF4.out.2.2.2.2.2.2.2.2.2.2.1 hB, At.below HF4.out.2.2.2.2.2.2.2.2.2.2.2.1 hB, (new_at v5 _ _ a5 ha).alloc _, new_at _ _ _ t5 (by rw [ht]; simp), At.below hg hA, (HF4.out.2.2.2.2.2.2.2.2.2.2.2.2).trans (hB.mono (HF4.out.2.2.2.2.2.2.2.2.2.2.2.2).size)⟩)
  clear hg hb
  have y0 := At.cell HF5'.out.1 2 _ rfl
  have y1 := At.cell HF5'.out.2.1 2 _ rfl
  have y2 := At.cell HF5'.out.2.2.1 3 _ rfl
  have y4 := At.cell HF5'.out.2.2.2.2.1 0 _ rfl
  have y5 := HF5'.out.2.2.2.2.2.1
  have y6 := At.cell HF5'.out.2.2.2.2.2.2.2.1 0 _ rfl
  have y7 := HF5'.out.2.2.2.2.2.2.2.2.1
  have y8 := At.cell HF5'.out.2.2.2.2.2.2.2.2.2.2.1 0 _ rfl
  have y9 := At.cell HF5'.out.2.2.2.2.2.2.2.2.2.1 5 _ rfl
  have y10 := At.cell HF5'.out.2.2.2.2.2.2.2.2.2.2.2.2.2.2.1 8 _ rfl
  have z0 := At.cell HF5'.out.2.2.2.1 0 _ rfl
  have z1 := At.cell HF5'.out.2.2.2.1 1 _ rfl
  have z2 := At.cell HF5'.out.2.2.2.1 2 _ rfl
  have z3 := At.cell HF5'.out.2.2.2.1 3 _ rfl
  have z4 := At.cell HF5'.out.2.2.2.1 4 _ rfl
  have z5 := At.cell HF5'.out.2.2.2.1 5 _ rfl
  have z6 := At.cell HF5'.out.2.2.2.1 6 _ rfl
  have z7 := At.cell HF5'.out.2.2.2.1 7 _ rfl
  have z8 := At.cell HF5'.out.2.2.2.1 8 _ rfl
  have HD : Hid (At a2 23 (CC ⟨#[106, 111, 101]⟩ true false false false false false 0 0) ((v5.alloc (.cells (CC ⟨#[106, 111, 101]⟩ true false false true false false 0 0) 23)).alloc (.cells #[.slice none 0 0, .slice (some ⟨g5, 0, none⟩) 1 1, .slice none 0 0] 29)) ∧ Below w.heap.size w ((v5.alloc (.cells (CC ⟨#[106, 111, 101]⟩ true false false true false false 0 0) 23)).alloc (.cells #[.slice none 0 0, .slice (some ⟨g5, 0, none⟩) 1 1, .slice none 0 0] 29))) := Lib.hid ⟨HF5'.out.2.2.2.1, HF5'.out.2.2.2.2.2.2.2.2.2.2.2.2.2.2.2⟩
  go_wp2_with fail
  clear y0 y1 y2 y4 y5 y6 y7 y8 y9 y10 z0 z1 z2 z3 z4 z5 z6 z7 z8
  refine (HC6.out _).mono ?_
  rintro e v6 ⟨rfl, hb6⟩
  have HD6 : Hid (At a2 23 (CC ⟨#[106, 111, 101]⟩ true false false false false false 0 0) v6 ∧ Below w.heap.size w v6) := Lib.hid ⟨HD.out.1.below hb6, HD.out.2.trans (hb6.mono HD.out.2.size)⟩
  clear hb6
  go_wp2_with fail
  refine (HC7.out _).mono ?_
  rintro e v7 ⟨rfl, hb7⟩
  have HD7 : Hid (At a2 23 (CC ⟨#[106, 111, 101]⟩ true false false false false false 0 0) v7 ∧ Below w.heap.size w v7) := Lib.hid ⟨HD6.out.1.below hb7, HD6.out.2.trans (hb7.mono HD6.out.2.size)⟩
  clear hb7
  have z0 := At.cell HD7.out.1 0 _ rfl
  have z1 := At.cell HD7.out.1 1 _ rfl
  have z2 := At.cell HD7.out.1 2 _ rfl
  have z3 := At.cell HD7.out.1 3 _ rfl
  have z4 := At.cell HD7.out.1 4 _ rfl
  have z5 := At.cell HD7.out.1 5 _ rfl
  have z6 := At.cell HD7.out.1 6 _ rfl
  have z7 := At.cell HD7.out.1 7 _ rfl
  have z8 := At.cell HD7.out.1 8 _ rfl
  go_wp2_with fail
  clear z0 z1 z2 z3 z4 z5 z6 z7 z8
  refine (HC8.out _).mono ?_
  rintro e v8 ⟨rfl, hb8⟩
  have HD8 : Hid (Below w.heap.size w v8) := Lib.hid (HD7.out.2.trans (hb8.mono HD7.out.2.size))
  clear hb8
  go_wp2
  go_ret
  exact ⟨rfl, HD8.out⟩
end Go.Proofs.YtofdiilfedjhkaaDoor.Sub

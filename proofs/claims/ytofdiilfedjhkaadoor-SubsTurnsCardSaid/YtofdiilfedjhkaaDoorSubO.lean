/- wharflaw23.SubsTurns. (Printed by gen_subo.py.) -/
import Derived.Test.YtofdiilfedjhkaaDoorSubL
import Derived.Test.YtofdiilfedjhkaaDoorOrdB
set_option linter.unusedVariables false
set_option linter.unusedSimpArgs false
namespace Go.Proofs.YtofdiilfedjhkaaDoor.Sub
open Go.RowKit U
/-- Two structs, laid whole: what else was there stays. -/
theorem set12 {W : World} {bc bt : Nat} {Tc Tt : TypeId} {c0 c1 c2 c3 c4 c5 c6 c7 c8 d0 d1 d2 d3 d4 d5 d6 d7 d8 t0 t1 t2 u0 u1 u2 : Value} (hc : At bc Tc #[c0, c1, c2, c3, c4, c5, c6, c7, c8] W) (ht : At bt Tt #[t0, t1, t2] W) (hne : ¬ bc = bt) :
    ∃ X, X = ((((((((((((W.setCell ⟨bc, 0, none⟩ d0).setCell ⟨bc, 1, none⟩ d1).setCell ⟨bc, 2, none⟩ d2).setCell ⟨bc, 3, none⟩ d3).setCell ⟨bc, 4, none⟩ d4).setCell ⟨bc, 5, none⟩ d5).setCell ⟨bc, 6, none⟩ d6).setCell ⟨bc, 7, none⟩ d7).setCell ⟨bc, 8, none⟩ d8).setCell ⟨bt, 0, none⟩ u0).setCell ⟨bt, 1, none⟩ u1).setCell ⟨bt, 2, none⟩ u2) ∧
      At bc Tc #[d0, d1, d2, d3, d4, d5, d6, d7, d8] X ∧ At bt Tt #[u0, u1, u2] X ∧ (∀ w0 : World, w0.heap.size ≤ bc → w0.heap.size ≤ bt → Below w0.heap.size w0 W → Below w0.heap.size w0 X) ∧ (∀ g T cs, At g T cs W → ¬ g = bc → ¬ g = bt → At g T cs X) := by
  refine ⟨_, rfl, ?_, ?_, fun w0 hB hB' h => ?_, fun g T cs h h1 h2 => ?_⟩
  · exact at_other3 _ _ _ (at_set9 _ _ _ _ _ _ _ _ _ _ _ _ _ _ _ _ _ _ hc) hne
  · exact at_set3 _ _ _ _ _ _ (at_other9 _ _ _ _ _ _ _ _ _ ht (fun e => hne e.symm))
  · exact low_set3 _ _ _ (low_set9 _ _ _ _ _ _ _ _ _ h hB) hB'
  · exact at_other3 _ _ _ (at_other9 _ _ _ _ _ _ _ _ _ h h1) h2
set_option maxRecDepth 100000 in
set_option maxHeartbeats 4000000 in
theorem Turns_in (n al gr : ByteArray) (gn : Bool) (hn : n.size + al.size + gr.size ≤ 8000) (w : World) : Calls Tryd.prog 5 #[.string n, .string al, .string gr, .bool gn] w fun e w' => e = .returned (.bool true) ∧ Below w.heap.size w w' := by
  have HL := Lib.hid live_any
  have HC1 := Lib.hid (fun w => User_sub n al gr false false false false false 0 0 w)
  have HC2 : Hid (∀ w, Calls Tryd.prog 13 #[CV n false true false false false false 0 0, (.agg #[.int .i64 1, .string n, .string al, .string gr, .bool false, .int .i64 0])] w fun e w' => ∃ g cp, e = .returned (.tuple #[CV n true false false false false false 0 0, .agg #[.slice (some ⟨g, 0, none⟩) 1 cp, .slice none 0 0, .slice none 0 0]]) ∧ Below w.heap.size w w') :=
    Lib.hid (fun w => (Dealt_ok n n al gr false false false false false 0 0 (by omega) (by omega) rfl w).mono fun e w' ⟨g, cp, h1, h2, h3⟩ => ⟨g, cp, h1, h3⟩)
  have HR : Hid (∀ w, Calls Tryd.prog 11 #[CV n true false false false false false 0 0] w fun e w' => e = .returned (.string ⟨#[116, 111]⟩) ∧ Below w.heap.size w w') := Lib.hid (fun w => Row_any n true false false false false false 0 0 w)
  have HC3 := Lib.hid (fun w => Gone_on n true false false false false false 0 0 rfl w)
  have HC4 := Lib.hid (fun w => User_off n ⟨#[]⟩ ⟨#[]⟩ false false false false false 0 0 w)
  have hqn : (n.toList == n.toList) = true := beq_self_eq_true _
  have hqa : (al.toList == al.toList) = true := beq_self_eq_true _
  have hqg : (gr.toList == gr.toList) = true := beq_self_eq_true _
  have HA0 : Hid (At w.heap.size 23 (CC n false false false false false false 0 0) (w.alloc (.cells (CC n false false false false false false 0 0) 23)) ∧ Below w.heap.size w (w.alloc (.cells (CC n false false false false false false 0 0) 23))) := Lib.hid ⟨At.new w _ _, (Below.refl _ _).alloc (Nat.le_refl _) _⟩
  go_enter Tryd.func5, Tryd.ntmps5
  go_wp2_with fail
  obtain ⟨gc, hgc⟩ : ∃ g, g = w.heap.size := ⟨_, rfl⟩
  refine in_calls (fun x => At gc 23 (CC n false false false false false false 0 0) x ∧ Below w.heap.size w x) (by rw [hgc]; exact HA0.out) (fun W0 hW => ?_)
  have HF0 := Lib.hid hW
  rw [show (Value.pointer (some ⟨w.heap.size, 0, none⟩)) = .pointer (some ⟨gc, 0, none⟩) by rw [hgc]]
  clear hW hgc HA0
  refine (HC1.out _).mono ?_
  rintro e v1 ⟨g1, rfl, hg, hb⟩
  obtain ⟨a1, ha⟩ : ∃ g, g = v1.heap.size := ⟨_, rfl⟩
  obtain ⟨t1, ht⟩ : ∃ g, g = v1.heap.size + 1 := ⟨_, rfl⟩
  have HF1' : Hid (At gc 23 (CC n false false false false false false 0 0) ((v1.alloc (.cells (CC n false true false false false false 0 0) 23)).alloc (.cells #[.slice none 0 0, .slice none 0 0, .slice (some ⟨g1, 0, none⟩) 1 1] 29)) ∧ At a1 23 (CC n false true false false false false 0 0) ((v1.alloc (.cells (CC n false true false false false false 0 0) 23)).alloc (.cells #[.slice none 0 0, .slice none 0 0, .slice (some ⟨g1, 0, none⟩) 1 1] 29)) ∧ At t1 29 #[.slice none 0 0, .slice none 0 0, .slice (some ⟨g1, 0, none⟩) 1 1] ((v1.alloc (.cells (CC n false true false false false false 0 0) 23)).alloc (.cells #[.slice none 0 0, .slice none 0 0, .slice (some ⟨g1, 0, none⟩) 1 1] 29)) ∧ At g1 42 #[.int .i64 1, .string n, .string al, .string gr, .bool false] ((v1.alloc (.cells (CC n false true false false false false 0 0) 23)).alloc (.cells #[.slice none 0 0, .slice none 0 0, .slice (some ⟨g1, 0, none⟩) 1 1] 29)) ∧ Below w.heap.size w ((v1.alloc (.cells (CC n false true false false false false 0 0) 23)).alloc (.cells #[.slice none 0 0, .slice none 0 0, .slice (some ⟨g1, 0, none⟩) 1 1] 29))) := Lib.hid (by
    have hA : Below v1.heap.size v1 ((v1.alloc (.cells (CC n false true false false false false 0 0) 23)).alloc (.cells #[.slice none 0 0, .slice none 0 0, .slice (some ⟨g1, 0, none⟩) 1 1] 29)) := ((Below.refl _ _).alloc (Nat.le_refl _) _).alloc (by simp) _
    have hB : Below W0.heap.size W0 ((v1.alloc (.cells (CC n false true false false false false 0 0) 23)).alloc (.cells #[.slice none 0 0, .slice none 0 0, .slice (some ⟨g1, 0, none⟩) 1 1] 29)) := hb.trans (hA.mono hb.size)
    exact ⟨At.below HF0.out.1 hB, (new_at v1 _ _ a1 ha).alloc _, new_at _ _ _ t1 (by rw [ht]; simp), At.below hg hA, (HF0.out.2).trans (hB.mono (HF0.out.2).size)⟩)
  clear hg hb
  have c0 := At.cell HF1'.out.2.2.1 0 _ rfl
  have c1 := At.cell HF1'.out.2.2.1 1 _ rfl
  have c2 := At.cell HF1'.out.2.2.1 2 _ rfl
  have e0 := At.cell HF1'.out.2.2.2.1 0 _ rfl
  have e1 := At.cell HF1'.out.2.2.2.1 1 _ rfl
  have e2 := At.cell HF1'.out.2.2.2.1 2 _ rfl
  have e3 := At.cell HF1'.out.2.2.2.1 3 _ rfl
  have e4 := At.cell HF1'.out.2.2.2.1 4 _ rfl
  rw [ht] at c0 c1 c2
  go_wp2
  rw [← ht]
  rw [← ha]
  refine in_world (fun x => At gc 23 (CC n false false false false false false 0 0) x ∧ At a1 23 (CC n false true false false false false 0 0) x ∧ At t1 29 #[.slice none 0 0, .slice none 0 0, .slice (some ⟨g1, 0, none⟩) 1 1] x ∧ At g1 42 #[.int .i64 1, .string n, .string al, .string gr, .bool false] x ∧ Below w.heap.size w x) HF1'.out (fun W1 hW => ?_)
  have HF1 := Lib.hid hW
  clear hW c0 c1 c2 e0 e1 e2 e3 e4
  clear ha ht HF1'
  apply U.wp_cut4 (F := fun a2 t2 g2 cp x => At gc 23 (CC n false false false false false false 0 0) x ∧ At a2 23 (CC n true false false false false false 0 0) x ∧ At t2 29 #[.slice (some ⟨g2, 0, none⟩) 1 cp, .slice none 0 0, .slice none 0 0] x ∧ Below w.heap.size w x)
  · have HK : Hid (∀ u v : World, (At gc 23 (CC n false false false false false false 0 0) u ∧ At a1 23 (CC n false true false false false false 0 0) u ∧ At t1 29 #[.slice none 0 0, .slice none 0 0, .slice (some ⟨g1, 0, none⟩) 1 1] u ∧ At g1 42 #[.int .i64 1, .string n, .string al, .string gr, .bool false] u ∧ Below w.heap.size w u) → Below u.heap.size u v → (At gc 23 (CC n false false false false false false 0 0) v ∧ At a1 23 (CC n false true false false false false 0 0) v ∧ At t1 29 #[.slice none 0 0, .slice none 0 0, .slice (some ⟨g1, 0, none⟩) 1 1] v ∧ At g1 42 #[.int .i64 1, .string n, .string al, .string gr, .bool false] v ∧ Below w.heap.size w v)) := Lib.hid (fun u v h hb => ⟨h.1.below hb, h.2.1.below hb, h.2.2.1.below hb, h.2.2.2.1.below hb, (h.2.2.2.2).trans (hb.mono (h.2.2.2.2).size)⟩)
    have HS0 : Hid ((fun x : World => At gc 23 (CC n false false false false false false 0 0) x ∧ At a1 23 (CC n false true false false false false 0 0) x ∧ At t1 29 #[.slice none 0 0, .slice none 0 0, .slice (some ⟨g1, 0, none⟩) 1 1] x ∧ At g1 42 #[.int .i64 1, .string n, .string al, .string gr, .bool false] x ∧ Below w.heap.size w x) W1.drew) := Lib.hid (HK.out W1 W1.drew HF1.out (U.below_drewN (Below.refl _ _) 1))
    have p0 : ∀ x : U.In (fun x : World => At gc 23 (CC n false false false false false false 0 0) x ∧ At a1 23 (CC n false true false false false false 0 0) x ∧ At t1 29 #[.slice none 0 0, .slice none 0 0, .slice (some ⟨g1, 0, none⟩) 1 1] x ∧ At g1 42 #[.int .i64 1, .string n, .string al, .string gr, .bool false] x ∧ Below w.heap.size w x), x.w.cell? ⟨a1, 0, none⟩ = some (.string n) := fun x => At.cell x.h.2.1 0 _ rfl
    have p1 : ∀ x : U.In (fun x : World => At gc 23 (CC n false false false false false false 0 0) x ∧ At a1 23 (CC n false true false false false false 0 0) x ∧ At t1 29 #[.slice none 0 0, .slice none 0 0, .slice (some ⟨g1, 0, none⟩) 1 1] x ∧ At g1 42 #[.int .i64 1, .string n, .string al, .string gr, .bool false] x ∧ Below w.heap.size w x), x.w.cell? ⟨a1, 1, none⟩ = some (.bool false) := fun x => At.cell x.h.2.1 1 _ rfl
    have p2 : ∀ x : U.In (fun x : World => At gc 23 (CC n false false false false false false 0 0) x ∧ At a1 23 (CC n false true false false false false 0 0) x ∧ At t1 29 #[.slice none 0 0, .slice none 0 0, .slice (some ⟨g1, 0, none⟩) 1 1] x ∧ At g1 42 #[.int .i64 1, .string n, .string al, .string gr, .bool false] x ∧ Below w.heap.size w x), x.w.cell? ⟨a1, 2, none⟩ = some (.bool true) := fun x => At.cell x.h.2.1 2 _ rfl
    have p3 : ∀ x : U.In (fun x : World => At gc 23 (CC n false false false false false false 0 0) x ∧ At a1 23 (CC n false true false false false false 0 0) x ∧ At t1 29 #[.slice none 0 0, .slice none 0 0, .slice (some ⟨g1, 0, none⟩) 1 1] x ∧ At g1 42 #[.int .i64 1, .string n, .string al, .string gr, .bool false] x ∧ Below w.heap.size w x), x.w.cell? ⟨a1, 3, none⟩ = some (.bool false) := fun x => At.cell x.h.2.1 3 _ rfl
    have p4 : ∀ x : U.In (fun x : World => At gc 23 (CC n false false false false false false 0 0) x ∧ At a1 23 (CC n false true false false false false 0 0) x ∧ At t1 29 #[.slice none 0 0, .slice none 0 0, .slice (some ⟨g1, 0, none⟩) 1 1] x ∧ At g1 42 #[.int .i64 1, .string n, .string al, .string gr, .bool false] x ∧ Below w.heap.size w x), x.w.cell? ⟨a1, 4, none⟩ = some (.bool false) := fun x => At.cell x.h.2.1 4 _ rfl
    have p5 : ∀ x : U.In (fun x : World => At gc 23 (CC n false false false false false false 0 0) x ∧ At a1 23 (CC n false true false false false false 0 0) x ∧ At t1 29 #[.slice none 0 0, .slice none 0 0, .slice (some ⟨g1, 0, none⟩) 1 1] x ∧ At g1 42 #[.int .i64 1, .string n, .string al, .string gr, .bool false] x ∧ Below w.heap.size w x), x.w.cell? ⟨a1, 5, none⟩ = some (.bool false) := fun x => At.cell x.h.2.1 5 _ rfl
    have p6 : ∀ x : U.In (fun x : World => At gc 23 (CC n false false false false false false 0 0) x ∧ At a1 23 (CC n false true false false false false 0 0) x ∧ At t1 29 #[.slice none 0 0, .slice none 0 0, .slice (some ⟨g1, 0, none⟩) 1 1] x ∧ At g1 42 #[.int .i64 1, .string n, .string al, .string gr, .bool false] x ∧ Below w.heap.size w x), x.w.cell? ⟨a1, 6, none⟩ = some (.bool false) := fun x => At.cell x.h.2.1 6 _ rfl
    have p7 : ∀ x : U.In (fun x : World => At gc 23 (CC n false false false false false false 0 0) x ∧ At a1 23 (CC n false true false false false false 0 0) x ∧ At t1 29 #[.slice none 0 0, .slice none 0 0, .slice (some ⟨g1, 0, none⟩) 1 1] x ∧ At g1 42 #[.int .i64 1, .string n, .string al, .string gr, .bool false] x ∧ Below w.heap.size w x), x.w.cell? ⟨a1, 7, none⟩ = some (.int .i64 0) := fun x => At.cell x.h.2.1 7 _ rfl
    have p8 : ∀ x : U.In (fun x : World => At gc 23 (CC n false false false false false false 0 0) x ∧ At a1 23 (CC n false true false false false false 0 0) x ∧ At t1 29 #[.slice none 0 0, .slice none 0 0, .slice (some ⟨g1, 0, none⟩) 1 1] x ∧ At g1 42 #[.int .i64 1, .string n, .string al, .string gr, .bool false] x ∧ Below w.heap.size w x), x.w.cell? ⟨a1, 8, none⟩ = some (.int .i64 0) := fun x => At.cell x.h.2.1 8 _ rfl
    have p9 : ∀ x : U.In (fun x : World => At gc 23 (CC n false false false false false false 0 0) x ∧ At a1 23 (CC n false true false false false false 0 0) x ∧ At t1 29 #[.slice none 0 0, .slice none 0 0, .slice (some ⟨g1, 0, none⟩) 1 1] x ∧ At g1 42 #[.int .i64 1, .string n, .string al, .string gr, .bool false] x ∧ Below w.heap.size w x), x.w.cell? ⟨t1, 2, none⟩ = some (.slice (some ⟨g1, 0, none⟩) 1 1) := fun x => At.cell x.h.2.2.1 2 _ rfl
    have p10 : ∀ x : U.In (fun x : World => At gc 23 (CC n false false false false false false 0 0) x ∧ At a1 23 (CC n false true false false false false 0 0) x ∧ At t1 29 #[.slice none 0 0, .slice none 0 0, .slice (some ⟨g1, 0, none⟩) 1 1] x ∧ At g1 42 #[.int .i64 1, .string n, .string al, .string gr, .bool false] x ∧ Below w.heap.size w x), x.w.cell? ⟨g1, 0, none⟩ = some (.int .i64 1) := fun x => At.cell x.h.2.2.2.1 0 _ rfl
    have p11 : ∀ x : U.In (fun x : World => At gc 23 (CC n false false false false false false 0 0) x ∧ At a1 23 (CC n false true false false false false 0 0) x ∧ At t1 29 #[.slice none 0 0, .slice none 0 0, .slice (some ⟨g1, 0, none⟩) 1 1] x ∧ At g1 42 #[.int .i64 1, .string n, .string al, .string gr, .bool false] x ∧ Below w.heap.size w x), x.w.cell? ⟨g1, 1, none⟩ = some (.string n) := fun x => At.cell x.h.2.2.2.1 1 _ rfl
    have p12 : ∀ x : U.In (fun x : World => At gc 23 (CC n false false false false false false 0 0) x ∧ At a1 23 (CC n false true false false false false 0 0) x ∧ At t1 29 #[.slice none 0 0, .slice none 0 0, .slice (some ⟨g1, 0, none⟩) 1 1] x ∧ At g1 42 #[.int .i64 1, .string n, .string al, .string gr, .bool false] x ∧ Below w.heap.size w x), x.w.cell? ⟨g1, 2, none⟩ = some (.string al) := fun x => At.cell x.h.2.2.2.1 2 _ rfl
    have p13 : ∀ x : U.In (fun x : World => At gc 23 (CC n false false false false false false 0 0) x ∧ At a1 23 (CC n false true false false false false 0 0) x ∧ At t1 29 #[.slice none 0 0, .slice none 0 0, .slice (some ⟨g1, 0, none⟩) 1 1] x ∧ At g1 42 #[.int .i64 1, .string n, .string al, .string gr, .bool false] x ∧ Below w.heap.size w x), x.w.cell? ⟨g1, 3, none⟩ = some (.string gr) := fun x => At.cell x.h.2.2.2.1 3 _ rfl
    have p14 : ∀ x : U.In (fun x : World => At gc 23 (CC n false false false false false false 0 0) x ∧ At a1 23 (CC n false true false false false false 0 0) x ∧ At t1 29 #[.slice none 0 0, .slice none 0 0, .slice (some ⟨g1, 0, none⟩) 1 1] x ∧ At g1 42 #[.int .i64 1, .string n, .string al, .string gr, .bool false] x ∧ Below w.heap.size w x), x.w.cell? ⟨g1, 4, none⟩ = some (.bool false) := fun x => At.cell x.h.2.2.2.1 4 _ rfl
    haveI : Nonempty (U.In (fun x : World => At gc 23 (CC n false false false false false false 0 0) x ∧ At a1 23 (CC n false true false false false false 0 0) x ∧ At t1 29 #[.slice none 0 0, .slice none 0 0, .slice (some ⟨g1, 0, none⟩) 1 1] x ∧ At g1 42 #[.int .i64 1, .string n, .string al, .string gr, .bool false] x ∧ Below w.heap.size w x)) := ⟨⟨_, HS0.out⟩⟩
    refine U.wp_region_mixA (S := fun x : World => At gc 23 (CC n false false false false false false 0 0) x ∧ At a1 23 (CC n false true false false false false 0 0) x ∧ At t1 29 #[.slice none 0 0, .slice none 0 0, .slice (some ⟨g1, 0, none⟩) 1 1] x ∧ At g1 42 #[.int .i64 1, .string n, .string al, .string gr, .bool false] x ∧ Below w.heap.size w x) [0, 1, 2, 3, 4, 5] [] [0, 1, 2, 3, 4, 5, 10, 11] 8 #[true, true, true, true, true, true, false, false, false, false, false, false, false, false] (by kernel_rfl) (by kernel_rfl) HS0.out ?_
    simp only [List.filterMap_cons, List.filterMap_nil, List.getElem?_toArray, List.getElem?_cons_succ, List.getElem?_cons_zero]
    change wpQuiet _ _ _ _ [_, _, _, _, _, _] _
    repeat go_big_quiet_step (fail)
    refine wpQuiet_nil ?_
    clear p0 p1 p2 p3 p4 p5 p6 p7 p8 p9 p10 p11 p12 p13 p14 this
    obtain ⟨X0, hX0⟩ : ∃ X, X = W1.drew := ⟨_, rfl⟩
    rw [← hX0] at HS0 ⊢
    have HX0 : Hid (Below X0.heap.size X0 X0) := Lib.hid (Below.refl _ _)
    clear hX0
    unfold U.wpPartsA
    refine U.wpAnyM_three (i := 6) (j := 10) (k := 11) (L1 := #[true, true, true, true, true, true, true, false, false, false, false, false, false, false]) (L2 := #[true, true, true, true, true, true, false, false, false, false, true, false, false, false]) (L3 := #[true, true, true, true, true, true, false, false, false, false, false, true, false, false]) (by kernel_rfl) (by kernel_rfl) (by kernel_rfl) (by kernel_rfl) ?_ ?_ ?_ 
    · refine U.wpOp_step (o := _) rfl ?_
      go_wp2_with fail
      refine (HC2.out _).mono ?_
      rintro e X1 ⟨g2, cp, rfl, hq⟩
      have HX1 : Hid (Below X0.heap.size X0 X1) := Lib.hid ((HX0.out).trans (hq.mono (HX0.out).size))
      clear hq 
      go_wp2
      refine ⟨fun h => (by cases h), ?_⟩
      refine U.wpAnyM_pure (n := 4) (L := #[true, true, true, true, true, true, true, true, true, true, false, false, false, false]) (by kernel_rfl) (fun _ _ _ _ _ h => h) ⟨⟨_, HK.out _ _ HS0.out (HX1.out)⟩, rfl⟩ [7, 8, 9] _ _ (U.closed_of (by kernel_rfl)) (by kernel_rfl) (by kernel_rfl) ?_
      simp only [List.filterMap_cons, List.filterMap_nil, List.getElem?_toArray, List.getElem?_cons_succ, List.getElem?_cons_zero]
      change wpQuiet _ _ _ _ [_, _, _] _
      haveI : Nonempty (U.In (fun x : World => At gc 23 (CC n false false false false false false 0 0) x ∧ At a1 23 (CC n false true false false false false 0 0) x ∧ At t1 29 #[.slice none 0 0, .slice none 0 0, .slice (some ⟨g1, 0, none⟩) 1 1] x ∧ At g1 42 #[.int .i64 1, .string n, .string al, .string gr, .bool false] x ∧ Below w.heap.size w x)) := ⟨⟨_, HS0.out⟩⟩
      go_big_quiet_step (fail)
      go_big_quiet_step (fail)
      go_big_quiet_step (fail)
      clear this
      refine wpQuiet_nil ?_
      refine U.wpAnyM_two (i := 10) (j := 11) (L1 := #[true, true, true, true, true, true, true, true, true, true, true, false, false, false]) (L2 := #[true, true, true, true, true, true, true, true, true, true, false, true, false, false]) (by kernel_rfl) (by kernel_rfl) (by kernel_rfl) ?_ ?_ 
      · refine U.wpOp_step (o := _) rfl ?_
        go_wp2
        obtain ⟨X2, hX2⟩ : ∃ X, X = X1.alloc (.cells #[.string ⟨#[]⟩, .bool false, .bool false, .bool false, .bool false, .bool false, .bool false, .int .i64 0, .int .i64 0] 23) := ⟨_, rfl⟩
        obtain ⟨a2, ha2⟩ : ∃ g, g = X1.heap.size := ⟨_, rfl⟩
        have HX2 : Hid (Below X0.heap.size X0 X2 ∧ At a2 23 #[.string ⟨#[]⟩, .bool false, .bool false, .bool false, .bool false, .bool false, .bool false, .int .i64 0, .int .i64 0] X2 ∧ X0.heap.size ≤ a2) := Lib.hid (by
          have hq : Below X1.heap.size X1 X2 := by rw [hX2]; exact (Below.refl _ _).alloc (Nat.le_refl _) _
          exact ⟨(HX1.out).trans (hq.mono (HX1.out).size), by rw [hX2]; exact new_at _ _ _ _ ha2, by rw [ha2]; exact (HX1.out).size⟩)
        rw [← hX2, ← ha2]
        clear hX2 ha2
        refine ⟨fun _ _ => ⟨⟨_, HK.out _ _ HS0.out HX2.out.1⟩, rfl⟩, ?_⟩
        refine U.wpAnyM_one (i := 11) (L' := #[true, true, true, true, true, true, true, true, true, true, true, true, false, false]) (by kernel_rfl) (by kernel_rfl) ?_
        refine U.wpOp_step (o := _) rfl ?_
        go_wp2
        obtain ⟨X3, hX3⟩ : ∃ X, X = X2.alloc (.cells #[.slice none 0 0, .slice none 0 0, .slice none 0 0] 29) := ⟨_, rfl⟩
        obtain ⟨t2, ht2⟩ : ∃ g, g = X2.heap.size := ⟨_, rfl⟩
        have HX3 : Hid (Below X0.heap.size X0 X3 ∧ At a2 23 #[.string ⟨#[]⟩, .bool false, .bool false, .bool false, .bool false, .bool false, .bool false, .int .i64 0, .int .i64 0] X3 ∧ X0.heap.size ≤ a2 ∧ At t2 29 #[.slice none 0 0, .slice none 0 0, .slice none 0 0] X3 ∧ X0.heap.size ≤ t2) := Lib.hid (by
          have hq : Below X2.heap.size X2 X3 := by rw [hX3]; exact (Below.refl _ _).alloc (Nat.le_refl _) _
          exact ⟨(HX2.out.1).trans (hq.mono (HX2.out.1).size), (HX2.out.2.1).below hq, HX2.out.2.2, by rw [hX3]; exact new_at _ _ _ _ ht2, by rw [ht2]; exact (HX2.out.1).size⟩)
        rw [← hX3, ← ht2]
        clear hX3 ht2
        refine ⟨fun _ _ => ⟨⟨_, HK.out _ _ HS0.out HX3.out.1⟩, rfl⟩, ?_⟩
        have ne1 : ¬ a2 = t2 := at_type (HX3.out.2.1) (HX3.out.2.2.2.1) (by decide)
        have ne2 : ¬ t2 = a2 := fun e => ne1 e.symm
        obtain ⟨Y, hY, hYa, hYt, hYl, hYo⟩ := set12 (d0 := .string n) (d1 := .bool true) (d2 := .bool false) (d3 := .bool false) (d4 := .bool false) (d5 := .bool false) (d6 := .bool false) (d7 := .int .i64 0) (d8 := .int .i64 0) (u0 := .slice (some ⟨g2, 0, none⟩) 1 cp) (u1 := .slice none 0 0) (u2 := .slice none 0 0) (HX3.out.2.1) (HX3.out.2.2.2.1) ne1
        have HE : Hid (At gc 23 (CC n false false false false false false 0 0) Y ∧ At a2 23 (CC n true false false false false false 0 0) Y ∧ At t2 29 #[.slice (some ⟨g2, 0, none⟩) 1 cp, .slice none 0 0, .slice none 0 0] Y ∧ Below w.heap.size w Y) := Lib.hid (by
          have h0 := HK.out _ _ HS0.out HX3.out.1
          have l0 := HS0.out.1.lt
          have l1 := HS0.out.2.2.2.2.size
          have l2 := HX3.out.2.2.1
          have l3 := HX3.out.2.2.2.2
          exact ⟨hYo _ _ _ h0.1 (by omega) (by omega), hYa, hYt, hYl w (by omega) (by omega) h0.2.2.2.2⟩)
        clear hYa hYt hYl hYo
        have d0 := (HX3.out.2.1).free 0
        have dc0 := (HX3.out.2.1).cell 0 _ rfl
        have d1 := (HX3.out.2.1).free 1
        have dc1 := (HX3.out.2.1).cell 1 _ rfl
        have d2 := (HX3.out.2.1).free 2
        have dc2 := (HX3.out.2.1).cell 2 _ rfl
        have d3 := (HX3.out.2.1).free 3
        have dc3 := (HX3.out.2.1).cell 3 _ rfl
        have d4 := (HX3.out.2.1).free 4
        have dc4 := (HX3.out.2.1).cell 4 _ rfl
        have d5 := (HX3.out.2.1).free 5
        have dc5 := (HX3.out.2.1).cell 5 _ rfl
        have d6 := (HX3.out.2.1).free 6
        have dc6 := (HX3.out.2.1).cell 6 _ rfl
        have d7 := (HX3.out.2.1).free 7
        have dc7 := (HX3.out.2.1).cell 7 _ rfl
        have d8 := (HX3.out.2.1).free 8
        have dc8 := (HX3.out.2.1).cell 8 _ rfl
        have t0f := (HX3.out.2.2.2.1).free 0
        have tc0 := (HX3.out.2.2.2.1).cell 0 _ rfl
        have t1f := (HX3.out.2.2.2.1).free 1
        have tc1 := (HX3.out.2.2.2.1).cell 1 _ rfl
        have t2f := (HX3.out.2.2.2.1).free 2
        have tc2 := (HX3.out.2.2.2.1).cell 2 _ rfl
        clear HX3
        refine U.wpAnyM_one (i := 12) (L' := #[true, true, true, true, true, true, true, true, true, true, true, true, true, false]) (by kernel_rfl) (by kernel_rfl) ?_
        refine U.wpOp_step (o := _) rfl ?_
        go_wp2
        refine ⟨fun h => (by cases h), ?_⟩
        refine U.wpAnyM_one (i := 13) (L' := #[true, true, true, true, true, true, true, true, true, true, true, true, true, true]) (by kernel_rfl) (by kernel_rfl) ?_
        refine U.wpOp_step (o := _) rfl ?_
        go_wp2
        refine ⟨fun h => (by cases h), ?_⟩
        refine U.wpAnyM_end (by kernel_rfl) ?_
        rw [← hY]
        exact ⟨rfl, a2, t2, g2, cp, rfl, HE.out⟩
      · refine U.wpOp_step (o := _) rfl ?_
        go_wp2
        obtain ⟨X4, hX4⟩ : ∃ X, X = X1.alloc (.cells #[.slice none 0 0, .slice none 0 0, .slice none 0 0] 29) := ⟨_, rfl⟩
        obtain ⟨t2, ht2⟩ : ∃ g, g = X1.heap.size := ⟨_, rfl⟩
        have HX4 : Hid (Below X0.heap.size X0 X4 ∧ At t2 29 #[.slice none 0 0, .slice none 0 0, .slice none 0 0] X4 ∧ X0.heap.size ≤ t2) := Lib.hid (by
          have hq : Below X1.heap.size X1 X4 := by rw [hX4]; exact (Below.refl _ _).alloc (Nat.le_refl _) _
          exact ⟨(HX1.out).trans (hq.mono (HX1.out).size), by rw [hX4]; exact new_at _ _ _ _ ht2, by rw [ht2]; exact (HX1.out).size⟩)
        rw [← hX4, ← ht2]
        clear hX4 ht2
        refine ⟨fun _ _ => ⟨⟨_, HK.out _ _ HS0.out HX4.out.1⟩, rfl⟩, ?_⟩
        refine U.wpAnyM_one (i := 10) (L' := #[true, true, true, true, true, true, true, true, true, true, true, true, false, false]) (by kernel_rfl) (by kernel_rfl) ?_
        refine U.wpOp_step (o := _) rfl ?_
        go_wp2
        obtain ⟨X5, hX5⟩ : ∃ X, X = X4.alloc (.cells #[.string ⟨#[]⟩, .bool false, .bool false, .bool false, .bool false, .bool false, .bool false, .int .i64 0, .int .i64 0] 23) := ⟨_, rfl⟩
        obtain ⟨a2, ha2⟩ : ∃ g, g = X4.heap.size := ⟨_, rfl⟩
        have HX5 : Hid (Below X0.heap.size X0 X5 ∧ At t2 29 #[.slice none 0 0, .slice none 0 0, .slice none 0 0] X5 ∧ X0.heap.size ≤ t2 ∧ At a2 23 #[.string ⟨#[]⟩, .bool false, .bool false, .bool false, .bool false, .bool false, .bool false, .int .i64 0, .int .i64 0] X5 ∧ X0.heap.size ≤ a2) := Lib.hid (by
          have hq : Below X4.heap.size X4 X5 := by rw [hX5]; exact (Below.refl _ _).alloc (Nat.le_refl _) _
          exact ⟨(HX4.out.1).trans (hq.mono (HX4.out.1).size), (HX4.out.2.1).below hq, HX4.out.2.2, by rw [hX5]; exact new_at _ _ _ _ ha2, by rw [ha2]; exact (HX4.out.1).size⟩)
        rw [← hX5, ← ha2]
        clear hX5 ha2
        refine ⟨fun _ _ => ⟨⟨_, HK.out _ _ HS0.out HX5.out.1⟩, rfl⟩, ?_⟩
        have ne1 : ¬ a2 = t2 := at_type (HX5.out.2.2.2.1) (HX5.out.2.1) (by decide)
        have ne2 : ¬ t2 = a2 := fun e => ne1 e.symm
        obtain ⟨Y, hY, hYa, hYt, hYl, hYo⟩ := set12 (d0 := .string n) (d1 := .bool true) (d2 := .bool false) (d3 := .bool false) (d4 := .bool false) (d5 := .bool false) (d6 := .bool false) (d7 := .int .i64 0) (d8 := .int .i64 0) (u0 := .slice (some ⟨g2, 0, none⟩) 1 cp) (u1 := .slice none 0 0) (u2 := .slice none 0 0) (HX5.out.2.2.2.1) (HX5.out.2.1) ne1
        have HE : Hid (At gc 23 (CC n false false false false false false 0 0) Y ∧ At a2 23 (CC n true false false false false false 0 0) Y ∧ At t2 29 #[.slice (some ⟨g2, 0, none⟩) 1 cp, .slice none 0 0, .slice none 0 0] Y ∧ Below w.heap.size w Y) := Lib.hid (by
          have h0 := HK.out _ _ HS0.out HX5.out.1
          have l0 := HS0.out.1.lt
          have l1 := HS0.out.2.2.2.2.size
          have l2 := HX5.out.2.2.2.2
          have l3 := HX5.out.2.2.1
          exact ⟨hYo _ _ _ h0.1 (by omega) (by omega), hYa, hYt, hYl w (by omega) (by omega) h0.2.2.2.2⟩)
        clear hYa hYt hYl hYo
        have d0 := (HX5.out.2.2.2.1).free 0
        have dc0 := (HX5.out.2.2.2.1).cell 0 _ rfl
        have d1 := (HX5.out.2.2.2.1).free 1
        have dc1 := (HX5.out.2.2.2.1).cell 1 _ rfl
        have d2 := (HX5.out.2.2.2.1).free 2
        have dc2 := (HX5.out.2.2.2.1).cell 2 _ rfl
        have d3 := (HX5.out.2.2.2.1).free 3
        have dc3 := (HX5.out.2.2.2.1).cell 3 _ rfl
        have d4 := (HX5.out.2.2.2.1).free 4
        have dc4 := (HX5.out.2.2.2.1).cell 4 _ rfl
        have d5 := (HX5.out.2.2.2.1).free 5
        have dc5 := (HX5.out.2.2.2.1).cell 5 _ rfl
        have d6 := (HX5.out.2.2.2.1).free 6
        have dc6 := (HX5.out.2.2.2.1).cell 6 _ rfl
        have d7 := (HX5.out.2.2.2.1).free 7
        have dc7 := (HX5.out.2.2.2.1).cell 7 _ rfl
        have d8 := (HX5.out.2.2.2.1).free 8
        have dc8 := (HX5.out.2.2.2.1).cell 8 _ rfl
        have t0f := (HX5.out.2.1).free 0
        have tc0 := (HX5.out.2.1).cell 0 _ rfl
        have t1f := (HX5.out.2.1).free 1
        have tc1 := (HX5.out.2.1).cell 1 _ rfl
        have t2f := (HX5.out.2.1).free 2
        have tc2 := (HX5.out.2.1).cell 2 _ rfl
        clear HX5
        refine U.wpAnyM_one (i := 12) (L' := #[true, true, true, true, true, true, true, true, true, true, true, true, true, false]) (by kernel_rfl) (by kernel_rfl) ?_
        refine U.wpOp_step (o := _) rfl ?_
        go_wp2
        refine ⟨fun h => (by cases h), ?_⟩
        refine U.wpAnyM_one (i := 13) (L' := #[true, true, true, true, true, true, true, true, true, true, true, true, true, true]) (by kernel_rfl) (by kernel_rfl) ?_
        refine U.wpOp_step (o := _) rfl ?_
        go_wp2
        refine ⟨fun h => (by cases h), ?_⟩
        refine U.wpAnyM_end (by kernel_rfl) ?_
        rw [← hY]
        exact ⟨rfl, a2, t2, g2, cp, rfl, HE.out⟩
    · refine U.wpOp_step (o := _) rfl ?_
      go_wp2
      obtain ⟨X6, hX6⟩ : ∃ X, X = X0.alloc (.cells #[.string ⟨#[]⟩, .bool false, .bool false, .bool false, .bool false, .bool false, .bool false, .int .i64 0, .int .i64 0] 23) := ⟨_, rfl⟩
      obtain ⟨a2, ha2⟩ : ∃ g, g = X0.heap.size := ⟨_, rfl⟩
      have HX6 : Hid (Below X0.heap.size X0 X6 ∧ At a2 23 #[.string ⟨#[]⟩, .bool false, .bool false, .bool false, .bool false, .bool false, .bool false, .int .i64 0, .int .i64 0] X6 ∧ X0.heap.size ≤ a2) := Lib.hid (by
        have hq : Below X0.heap.size X0 X6 := by rw [hX6]; exact (Below.refl _ _).alloc (Nat.le_refl _) _
        exact ⟨(HX0.out).trans (hq.mono (HX0.out).size), by rw [hX6]; exact new_at _ _ _ _ ha2, by rw [ha2]; exact (HX0.out).size⟩)
      rw [← hX6, ← ha2]
      clear hX6 ha2
      refine ⟨fun _ _ => ⟨⟨_, HK.out _ _ HS0.out HX6.out.1⟩, rfl⟩, ?_⟩
      refine U.wpAnyM_two (i := 6) (j := 11) (L1 := #[true, true, true, true, true, true, true, false, false, false, true, false, false, false]) (L2 := #[true, true, true, true, true, true, false, false, false, false, true, true, false, false]) (by kernel_rfl) (by kernel_rfl) (by kernel_rfl) ?_ ?_ 
      · refine U.wpOp_step (o := _) rfl ?_
        go_wp2_with fail
        refine (HC2.out _).mono ?_
        rintro e X7 ⟨g2, cp, rfl, hq⟩
        have HX7 : Hid (Below X0.heap.size X0 X7 ∧ At a2 23 #[.string ⟨#[]⟩, .bool false, .bool false, .bool false, .bool false, .bool false, .bool false, .int .i64 0, .int .i64 0] X7 ∧ X0.heap.size ≤ a2) := Lib.hid ⟨(HX6.out.1).trans (hq.mono (HX6.out.1).size), (HX6.out.2.1).below hq, HX6.out.2.2⟩
        clear hq 
        go_wp2
        refine ⟨fun h => (by cases h), ?_⟩
        refine U.wpAnyM_pure (n := 3) (L := #[true, true, true, true, true, true, true, true, true, true, true, false, false, false]) (by kernel_rfl) (fun _ _ _ _ _ h => h) ⟨⟨_, HK.out _ _ HS0.out (HX7.out.1)⟩, rfl⟩ [7, 8, 9] _ _ (U.closed_of (by kernel_rfl)) (by kernel_rfl) (by kernel_rfl) ?_
        simp only [List.filterMap_cons, List.filterMap_nil, List.getElem?_toArray, List.getElem?_cons_succ, List.getElem?_cons_zero]
        change wpQuiet _ _ _ _ [_, _, _] _
        haveI : Nonempty (U.In (fun x : World => At gc 23 (CC n false false false false false false 0 0) x ∧ At a1 23 (CC n false true false false false false 0 0) x ∧ At t1 29 #[.slice none 0 0, .slice none 0 0, .slice (some ⟨g1, 0, none⟩) 1 1] x ∧ At g1 42 #[.int .i64 1, .string n, .string al, .string gr, .bool false] x ∧ Below w.heap.size w x)) := ⟨⟨_, HS0.out⟩⟩
        go_big_quiet_step (fail)
        go_big_quiet_step (fail)
        go_big_quiet_step (fail)
        clear this
        refine wpQuiet_nil ?_
        refine U.wpAnyM_one (i := 11) (L' := #[true, true, true, true, true, true, true, true, true, true, true, true, false, false]) (by kernel_rfl) (by kernel_rfl) ?_
        refine U.wpOp_step (o := _) rfl ?_
        go_wp2
        obtain ⟨X8, hX8⟩ : ∃ X, X = X7.alloc (.cells #[.slice none 0 0, .slice none 0 0, .slice none 0 0] 29) := ⟨_, rfl⟩
        obtain ⟨t2, ht2⟩ : ∃ g, g = X7.heap.size := ⟨_, rfl⟩
        have HX8 : Hid (Below X0.heap.size X0 X8 ∧ At a2 23 #[.string ⟨#[]⟩, .bool false, .bool false, .bool false, .bool false, .bool false, .bool false, .int .i64 0, .int .i64 0] X8 ∧ X0.heap.size ≤ a2 ∧ At t2 29 #[.slice none 0 0, .slice none 0 0, .slice none 0 0] X8 ∧ X0.heap.size ≤ t2) := Lib.hid (by
          have hq : Below X7.heap.size X7 X8 := by rw [hX8]; exact (Below.refl _ _).alloc (Nat.le_refl _) _
          exact ⟨(HX7.out.1).trans (hq.mono (HX7.out.1).size), (HX7.out.2.1).below hq, HX7.out.2.2, by rw [hX8]; exact new_at _ _ _ _ ht2, by rw [ht2]; exact (HX7.out.1).size⟩)
        rw [← hX8, ← ht2]
        clear hX8 ht2
        refine ⟨fun _ _ => ⟨⟨_, HK.out _ _ HS0.out HX8.out.1⟩, rfl⟩, ?_⟩
        have ne1 : ¬ a2 = t2 := at_type (HX8.out.2.1) (HX8.out.2.2.2.1) (by decide)
        have ne2 : ¬ t2 = a2 := fun e => ne1 e.symm
        obtain ⟨Y, hY, hYa, hYt, hYl, hYo⟩ := set12 (d0 := .string n) (d1 := .bool true) (d2 := .bool false) (d3 := .bool false) (d4 := .bool false) (d5 := .bool false) (d6 := .bool false) (d7 := .int .i64 0) (d8 := .int .i64 0) (u0 := .slice (some ⟨g2, 0, none⟩) 1 cp) (u1 := .slice none 0 0) (u2 := .slice none 0 0) (HX8.out.2.1) (HX8.out.2.2.2.1) ne1
        have HE : Hid (At gc 23 (CC n false false false false false false 0 0) Y ∧ At a2 23 (CC n true false false false false false 0 0) Y ∧ At t2 29 #[.slice (some ⟨g2, 0, none⟩) 1 cp, .slice none 0 0, .slice none 0 0] Y ∧ Below w.heap.size w Y) := Lib.hid (by
          have h0 := HK.out _ _ HS0.out HX8.out.1
          have l0 := HS0.out.1.lt
          have l1 := HS0.out.2.2.2.2.size
          have l2 := HX8.out.2.2.1
          have l3 := HX8.out.2.2.2.2
          exact ⟨hYo _ _ _ h0.1 (by omega) (by omega), hYa, hYt, hYl w (by omega) (by omega) h0.2.2.2.2⟩)
        clear hYa hYt hYl hYo
        have d0 := (HX8.out.2.1).free 0
        have dc0 := (HX8.out.2.1).cell 0 _ rfl
        have d1 := (HX8.out.2.1).free 1
        have dc1 := (HX8.out.2.1).cell 1 _ rfl
        have d2 := (HX8.out.2.1).free 2
        have dc2 := (HX8.out.2.1).cell 2 _ rfl
        have d3 := (HX8.out.2.1).free 3
        have dc3 := (HX8.out.2.1).cell 3 _ rfl
        have d4 := (HX8.out.2.1).free 4
        have dc4 := (HX8.out.2.1).cell 4 _ rfl
        have d5 := (HX8.out.2.1).free 5
        have dc5 := (HX8.out.2.1).cell 5 _ rfl
        have d6 := (HX8.out.2.1).free 6
        have dc6 := (HX8.out.2.1).cell 6 _ rfl
        have d7 := (HX8.out.2.1).free 7
        have dc7 := (HX8.out.2.1).cell 7 _ rfl
        have d8 := (HX8.out.2.1).free 8
        have dc8 := (HX8.out.2.1).cell 8 _ rfl
        have t0f := (HX8.out.2.2.2.1).free 0
        have tc0 := (HX8.out.2.2.2.1).cell 0 _ rfl
        have t1f := (HX8.out.2.2.2.1).free 1
        have tc1 := (HX8.out.2.2.2.1).cell 1 _ rfl
        have t2f := (HX8.out.2.2.2.1).free 2
        have tc2 := (HX8.out.2.2.2.1).cell 2 _ rfl
        clear HX8
        refine U.wpAnyM_one (i := 12) (L' := #[true, true, true, true, true, true, true, true, true, true, true, true, true, false]) (by kernel_rfl) (by kernel_rfl) ?_
        refine U.wpOp_step (o := _) rfl ?_
        go_wp2
        refine ⟨fun h => (by cases h), ?_⟩
        refine U.wpAnyM_one (i := 13) (L' := #[true, true, true, true, true, true, true, true, true, true, true, true, true, true]) (by kernel_rfl) (by kernel_rfl) ?_
        refine U.wpOp_step (o := _) rfl ?_
        go_wp2
        refine ⟨fun h => (by cases h), ?_⟩
        refine U.wpAnyM_end (by kernel_rfl) ?_
        rw [← hY]
        exact ⟨rfl, a2, t2, g2, cp, rfl, HE.out⟩
      · refine U.wpOp_step (o := _) rfl ?_
        go_wp2
        obtain ⟨X9, hX9⟩ : ∃ X, X = X6.alloc (.cells #[.slice none 0 0, .slice none 0 0, .slice none 0 0] 29) := ⟨_, rfl⟩
        obtain ⟨t2, ht2⟩ : ∃ g, g = X6.heap.size := ⟨_, rfl⟩
        have HX9 : Hid (Below X0.heap.size X0 X9 ∧ At a2 23 #[.string ⟨#[]⟩, .bool false, .bool false, .bool false, .bool false, .bool false, .bool false, .int .i64 0, .int .i64 0] X9 ∧ X0.heap.size ≤ a2 ∧ At t2 29 #[.slice none 0 0, .slice none 0 0, .slice none 0 0] X9 ∧ X0.heap.size ≤ t2) := Lib.hid (by
          have hq : Below X6.heap.size X6 X9 := by rw [hX9]; exact (Below.refl _ _).alloc (Nat.le_refl _) _
          exact ⟨(HX6.out.1).trans (hq.mono (HX6.out.1).size), (HX6.out.2.1).below hq, HX6.out.2.2, by rw [hX9]; exact new_at _ _ _ _ ht2, by rw [ht2]; exact (HX6.out.1).size⟩)
        rw [← hX9, ← ht2]
        clear hX9 ht2
        refine ⟨fun _ _ => ⟨⟨_, HK.out _ _ HS0.out HX9.out.1⟩, rfl⟩, ?_⟩
        refine U.wpAnyM_one (i := 6) (L' := #[true, true, true, true, true, true, true, false, false, false, true, true, false, false]) (by kernel_rfl) (by kernel_rfl) ?_
        refine U.wpOp_step (o := _) rfl ?_
        go_wp2_with fail
        refine (HC2.out _).mono ?_
        rintro e X10 ⟨g2, cp, rfl, hq⟩
        have HX10 : Hid (Below X0.heap.size X0 X10 ∧ At a2 23 #[.string ⟨#[]⟩, .bool false, .bool false, .bool false, .bool false, .bool false, .bool false, .int .i64 0, .int .i64 0] X10 ∧ X0.heap.size ≤ a2 ∧ At t2 29 #[.slice none 0 0, .slice none 0 0, .slice none 0 0] X10 ∧ X0.heap.size ≤ t2) := Lib.hid ⟨(HX9.out.1).trans (hq.mono (HX9.out.1).size), (HX9.out.2.1).below hq, HX9.out.2.2.1, (HX9.out.2.2.2.1).below hq, HX9.out.2.2.2.2⟩
        clear hq 
        go_wp2
        refine ⟨fun h => (by cases h), ?_⟩
        refine U.wpAnyM_pure (n := 2) (L := #[true, true, true, true, true, true, true, true, true, true, true, true, false, false]) (by kernel_rfl) (fun _ _ _ _ _ h => h) ⟨⟨_, HK.out _ _ HS0.out (HX10.out.1)⟩, rfl⟩ [7, 8, 9] _ _ (U.closed_of (by kernel_rfl)) (by kernel_rfl) (by kernel_rfl) ?_
        simp only [List.filterMap_cons, List.filterMap_nil, List.getElem?_toArray, List.getElem?_cons_succ, List.getElem?_cons_zero]
        change wpQuiet _ _ _ _ [_, _, _] _
        haveI : Nonempty (U.In (fun x : World => At gc 23 (CC n false false false false false false 0 0) x ∧ At a1 23 (CC n false true false false false false 0 0) x ∧ At t1 29 #[.slice none 0 0, .slice none 0 0, .slice (some ⟨g1, 0, none⟩) 1 1] x ∧ At g1 42 #[.int .i64 1, .string n, .string al, .string gr, .bool false] x ∧ Below w.heap.size w x)) := ⟨⟨_, HS0.out⟩⟩
        go_big_quiet_step (fail)
        go_big_quiet_step (fail)
        go_big_quiet_step (fail)
        clear this
        refine wpQuiet_nil ?_
        have ne1 : ¬ a2 = t2 := at_type (HX10.out.2.1) (HX10.out.2.2.2.1) (by decide)
        have ne2 : ¬ t2 = a2 := fun e => ne1 e.symm
        obtain ⟨Y, hY, hYa, hYt, hYl, hYo⟩ := set12 (d0 := .string n) (d1 := .bool true) (d2 := .bool false) (d3 := .bool false) (d4 := .bool false) (d5 := .bool false) (d6 := .bool false) (d7 := .int .i64 0) (d8 := .int .i64 0) (u0 := .slice (some ⟨g2, 0, none⟩) 1 cp) (u1 := .slice none 0 0) (u2 := .slice none 0 0) (HX10.out.2.1) (HX10.out.2.2.2.1) ne1
        have HE : Hid (At gc 23 (CC n false false false false false false 0 0) Y ∧ At a2 23 (CC n true false false false false false 0 0) Y ∧ At t2 29 #[.slice (some ⟨g2, 0, none⟩) 1 cp, .slice none 0 0, .slice none 0 0] Y ∧ Below w.heap.size w Y) := Lib.hid (by
          have h0 := HK.out _ _ HS0.out HX10.out.1
          have l0 := HS0.out.1.lt
          have l1 := HS0.out.2.2.2.2.size
          have l2 := HX10.out.2.2.1
          have l3 := HX10.out.2.2.2.2
          exact ⟨hYo _ _ _ h0.1 (by omega) (by omega), hYa, hYt, hYl w (by omega) (by omega) h0.2.2.2.2⟩)
        clear hYa hYt hYl hYo
        have d0 := (HX10.out.2.1).free 0
        have dc0 := (HX10.out.2.1).cell 0 _ rfl
        have d1 := (HX10.out.2.1).free 1
        have dc1 := (HX10.out.2.1).cell 1 _ rfl
        have d2 := (HX10.out.2.1).free 2
        have dc2 := (HX10.out.2.1).cell 2 _ rfl
        have d3 := (HX10.out.2.1).free 3
        have dc3 := (HX10.out.2.1).cell 3 _ rfl
        have d4 := (HX10.out.2.1).free 4
        have dc4 := (HX10.out.2.1).cell 4 _ rfl
        have d5 := (HX10.out.2.1).free 5
        have dc5 := (HX10.out.2.1).cell 5 _ rfl
        have d6 := (HX10.out.2.1).free 6
        have dc6 := (HX10.out.2.1).cell 6 _ rfl
        have d7 := (HX10.out.2.1).free 7
        have dc7 := (HX10.out.2.1).cell 7 _ rfl
        have d8 := (HX10.out.2.1).free 8
        have dc8 := (HX10.out.2.1).cell 8 _ rfl
        have t0f := (HX10.out.2.2.2.1).free 0
        have tc0 := (HX10.out.2.2.2.1).cell 0 _ rfl
        have t1f := (HX10.out.2.2.2.1).free 1
        have tc1 := (HX10.out.2.2.2.1).cell 1 _ rfl
        have t2f := (HX10.out.2.2.2.1).free 2
        have tc2 := (HX10.out.2.2.2.1).cell 2 _ rfl
        clear HX10
        refine U.wpAnyM_one (i := 12) (L' := #[true, true, true, true, true, true, true, true, true, true, true, true, true, false]) (by kernel_rfl) (by kernel_rfl) ?_
        refine U.wpOp_step (o := _) rfl ?_
        go_wp2
        refine ⟨fun h => (by cases h), ?_⟩
        refine U.wpAnyM_one (i := 13) (L' := #[true, true, true, true, true, true, true, true, true, true, true, true, true, true]) (by kernel_rfl) (by kernel_rfl) ?_
        refine U.wpOp_step (o := _) rfl ?_
        go_wp2
        refine ⟨fun h => (by cases h), ?_⟩
        refine U.wpAnyM_end (by kernel_rfl) ?_
        rw [← hY]
        exact ⟨rfl, a2, t2, g2, cp, rfl, HE.out⟩
    · refine U.wpOp_step (o := _) rfl ?_
      go_wp2
      obtain ⟨X11, hX11⟩ : ∃ X, X = X0.alloc (.cells #[.slice none 0 0, .slice none 0 0, .slice none 0 0] 29) := ⟨_, rfl⟩
      obtain ⟨t2, ht2⟩ : ∃ g, g = X0.heap.size := ⟨_, rfl⟩
      have HX11 : Hid (Below X0.heap.size X0 X11 ∧ At t2 29 #[.slice none 0 0, .slice none 0 0, .slice none 0 0] X11 ∧ X0.heap.size ≤ t2) := Lib.hid (by
        have hq : Below X0.heap.size X0 X11 := by rw [hX11]; exact (Below.refl _ _).alloc (Nat.le_refl _) _
        exact ⟨(HX0.out).trans (hq.mono (HX0.out).size), by rw [hX11]; exact new_at _ _ _ _ ht2, by rw [ht2]; exact (HX0.out).size⟩)
      rw [← hX11, ← ht2]
      clear hX11 ht2
      refine ⟨fun _ _ => ⟨⟨_, HK.out _ _ HS0.out HX11.out.1⟩, rfl⟩, ?_⟩
      refine U.wpAnyM_two (i := 6) (j := 10) (L1 := #[true, true, true, true, true, true, true, false, false, false, false, true, false, false]) (L2 := #[true, true, true, true, true, true, false, false, false, false, true, true, false, false]) (by kernel_rfl) (by kernel_rfl) (by kernel_rfl) ?_ ?_ 
      · refine U.wpOp_step (o := _) rfl ?_
        go_wp2_with fail
        refine (HC2.out _).mono ?_
        rintro e X12 ⟨g2, cp, rfl, hq⟩
        have HX12 : Hid (Below X0.heap.size X0 X12 ∧ At t2 29 #[.slice none 0 0, .slice none 0 0, .slice none 0 0] X12 ∧ X0.heap.size ≤ t2) := Lib.hid ⟨(HX11.out.1).trans (hq.mono (HX11.out.1).size), (HX11.out.2.1).below hq, HX11.out.2.2⟩
        clear hq 
        go_wp2
        refine ⟨fun h => (by cases h), ?_⟩
        refine U.wpAnyM_pure (n := 3) (L := #[true, true, true, true, true, true, true, true, true, true, false, true, false, false]) (by kernel_rfl) (fun _ _ _ _ _ h => h) ⟨⟨_, HK.out _ _ HS0.out (HX12.out.1)⟩, rfl⟩ [7, 8, 9] _ _ (U.closed_of (by kernel_rfl)) (by kernel_rfl) (by kernel_rfl) ?_
        simp only [List.filterMap_cons, List.filterMap_nil, List.getElem?_toArray, List.getElem?_cons_succ, List.getElem?_cons_zero]
        change wpQuiet _ _ _ _ [_, _, _] _
        haveI : Nonempty (U.In (fun x : World => At gc 23 (CC n false false false false false false 0 0) x ∧ At a1 23 (CC n false true false false false false 0 0) x ∧ At t1 29 #[.slice none 0 0, .slice none 0 0, .slice (some ⟨g1, 0, none⟩) 1 1] x ∧ At g1 42 #[.int .i64 1, .string n, .string al, .string gr, .bool false] x ∧ Below w.heap.size w x)) := ⟨⟨_, HS0.out⟩⟩
        go_big_quiet_step (fail)
        go_big_quiet_step (fail)
        go_big_quiet_step (fail)
        clear this
        refine wpQuiet_nil ?_
        refine U.wpAnyM_one (i := 10) (L' := #[true, true, true, true, true, true, true, true, true, true, true, true, false, false]) (by kernel_rfl) (by kernel_rfl) ?_
        refine U.wpOp_step (o := _) rfl ?_
        go_wp2
        obtain ⟨X13, hX13⟩ : ∃ X, X = X12.alloc (.cells #[.string ⟨#[]⟩, .bool false, .bool false, .bool false, .bool false, .bool false, .bool false, .int .i64 0, .int .i64 0] 23) := ⟨_, rfl⟩
        obtain ⟨a2, ha2⟩ : ∃ g, g = X12.heap.size := ⟨_, rfl⟩
        have HX13 : Hid (Below X0.heap.size X0 X13 ∧ At t2 29 #[.slice none 0 0, .slice none 0 0, .slice none 0 0] X13 ∧ X0.heap.size ≤ t2 ∧ At a2 23 #[.string ⟨#[]⟩, .bool false, .bool false, .bool false, .bool false, .bool false, .bool false, .int .i64 0, .int .i64 0] X13 ∧ X0.heap.size ≤ a2) := Lib.hid (by
          have hq : Below X12.heap.size X12 X13 := by rw [hX13]; exact (Below.refl _ _).alloc (Nat.le_refl _) _
          exact ⟨(HX12.out.1).trans (hq.mono (HX12.out.1).size), (HX12.out.2.1).below hq, HX12.out.2.2, by rw [hX13]; exact new_at _ _ _ _ ha2, by rw [ha2]; exact (HX12.out.1).size⟩)
        rw [← hX13, ← ha2]
        clear hX13 ha2
        refine ⟨fun _ _ => ⟨⟨_, HK.out _ _ HS0.out HX13.out.1⟩, rfl⟩, ?_⟩
        have ne1 : ¬ a2 = t2 := at_type (HX13.out.2.2.2.1) (HX13.out.2.1) (by decide)
        have ne2 : ¬ t2 = a2 := fun e => ne1 e.symm
        obtain ⟨Y, hY, hYa, hYt, hYl, hYo⟩ := set12 (d0 := .string n) (d1 := .bool true) (d2 := .bool false) (d3 := .bool false) (d4 := .bool false) (d5 := .bool false) (d6 := .bool false) (d7 := .int .i64 0) (d8 := .int .i64 0) (u0 := .slice (some ⟨g2, 0, none⟩) 1 cp) (u1 := .slice none 0 0) (u2 := .slice none 0 0) (HX13.out.2.2.2.1) (HX13.out.2.1) ne1
        have HE : Hid (At gc 23 (CC n false false false false false false 0 0) Y ∧ At a2 23 (CC n true false false false false false 0 0) Y ∧ At t2 29 #[.slice (some ⟨g2, 0, none⟩) 1 cp, .slice none 0 0, .slice none 0 0] Y ∧ Below w.heap.size w Y) := Lib.hid (by
          have h0 := HK.out _ _ HS0.out HX13.out.1
          have l0 := HS0.out.1.lt
          have l1 := HS0.out.2.2.2.2.size
          have l2 := HX13.out.2.2.2.2
          have l3 := HX13.out.2.2.1
          exact ⟨hYo _ _ _ h0.1 (by omega) (by omega), hYa, hYt, hYl w (by omega) (by omega) h0.2.2.2.2⟩)
        clear hYa hYt hYl hYo
        have d0 := (HX13.out.2.2.2.1).free 0
        have dc0 := (HX13.out.2.2.2.1).cell 0 _ rfl
        have d1 := (HX13.out.2.2.2.1).free 1
        have dc1 := (HX13.out.2.2.2.1).cell 1 _ rfl
        have d2 := (HX13.out.2.2.2.1).free 2
        have dc2 := (HX13.out.2.2.2.1).cell 2 _ rfl
        have d3 := (HX13.out.2.2.2.1).free 3
        have dc3 := (HX13.out.2.2.2.1).cell 3 _ rfl
        have d4 := (HX13.out.2.2.2.1).free 4
        have dc4 := (HX13.out.2.2.2.1).cell 4 _ rfl
        have d5 := (HX13.out.2.2.2.1).free 5
        have dc5 := (HX13.out.2.2.2.1).cell 5 _ rfl
        have d6 := (HX13.out.2.2.2.1).free 6
        have dc6 := (HX13.out.2.2.2.1).cell 6 _ rfl
        have d7 := (HX13.out.2.2.2.1).free 7
        have dc7 := (HX13.out.2.2.2.1).cell 7 _ rfl
        have d8 := (HX13.out.2.2.2.1).free 8
        have dc8 := (HX13.out.2.2.2.1).cell 8 _ rfl
        have t0f := (HX13.out.2.1).free 0
        have tc0 := (HX13.out.2.1).cell 0 _ rfl
        have t1f := (HX13.out.2.1).free 1
        have tc1 := (HX13.out.2.1).cell 1 _ rfl
        have t2f := (HX13.out.2.1).free 2
        have tc2 := (HX13.out.2.1).cell 2 _ rfl
        clear HX13
        refine U.wpAnyM_one (i := 12) (L' := #[true, true, true, true, true, true, true, true, true, true, true, true, true, false]) (by kernel_rfl) (by kernel_rfl) ?_
        refine U.wpOp_step (o := _) rfl ?_
        go_wp2
        refine ⟨fun h => (by cases h), ?_⟩
        refine U.wpAnyM_one (i := 13) (L' := #[true, true, true, true, true, true, true, true, true, true, true, true, true, true]) (by kernel_rfl) (by kernel_rfl) ?_
        refine U.wpOp_step (o := _) rfl ?_
        go_wp2
        refine ⟨fun h => (by cases h), ?_⟩
        refine U.wpAnyM_end (by kernel_rfl) ?_
        rw [← hY]
        exact ⟨rfl, a2, t2, g2, cp, rfl, HE.out⟩
      · refine U.wpOp_step (o := _) rfl ?_
        go_wp2
        obtain ⟨X14, hX14⟩ : ∃ X, X = X11.alloc (.cells #[.string ⟨#[]⟩, .bool false, .bool false, .bool false, .bool false, .bool false, .bool false, .int .i64 0, .int .i64 0] 23) := ⟨_, rfl⟩
        obtain ⟨a2, ha2⟩ : ∃ g, g = X11.heap.size := ⟨_, rfl⟩
        have HX14 : Hid (Below X0.heap.size X0 X14 ∧ At t2 29 #[.slice none 0 0, .slice none 0 0, .slice none 0 0] X14 ∧ X0.heap.size ≤ t2 ∧ At a2 23 #[.string ⟨#[]⟩, .bool false, .bool false, .bool false, .bool false, .bool false, .bool false, .int .i64 0, .int .i64 0] X14 ∧ X0.heap.size ≤ a2) := Lib.hid (by
          have hq : Below X11.heap.size X11 X14 := by rw [hX14]; exact (Below.refl _ _).alloc (Nat.le_refl _) _
          exact ⟨(HX11.out.1).trans (hq.mono (HX11.out.1).size), (HX11.out.2.1).below hq, HX11.out.2.2, by rw [hX14]; exact new_at _ _ _ _ ha2, by rw [ha2]; exact (HX11.out.1).size⟩)
        rw [← hX14, ← ha2]
        clear hX14 ha2
        refine ⟨fun _ _ => ⟨⟨_, HK.out _ _ HS0.out HX14.out.1⟩, rfl⟩, ?_⟩
        refine U.wpAnyM_one (i := 6) (L' := #[true, true, true, true, true, true, true, false, false, false, true, true, false, false]) (by kernel_rfl) (by kernel_rfl) ?_
        refine U.wpOp_step (o := _) rfl ?_
        go_wp2_with fail
        refine (HC2.out _).mono ?_
        rintro e X15 ⟨g2, cp, rfl, hq⟩
        have HX15 : Hid (Below X0.heap.size X0 X15 ∧ At t2 29 #[.slice none 0 0, .slice none 0 0, .slice none 0 0] X15 ∧ X0.heap.size ≤ t2 ∧ At a2 23 #[.string ⟨#[]⟩, .bool false, .bool false, .bool false, .bool false, .bool false, .bool false, .int .i64 0, .int .i64 0] X15 ∧ X0.heap.size ≤ a2) := Lib.hid ⟨(HX14.out.1).trans (hq.mono (HX14.out.1).size), (HX14.out.2.1).below hq, HX14.out.2.2.1, (HX14.out.2.2.2.1).below hq, HX14.out.2.2.2.2⟩
        clear hq 
        go_wp2
        refine ⟨fun h => (by cases h), ?_⟩
        refine U.wpAnyM_pure (n := 2) (L := #[true, true, true, true, true, true, true, true, true, true, true, true, false, false]) (by kernel_rfl) (fun _ _ _ _ _ h => h) ⟨⟨_, HK.out _ _ HS0.out (HX15.out.1)⟩, rfl⟩ [7, 8, 9] _ _ (U.closed_of (by kernel_rfl)) (by kernel_rfl) (by kernel_rfl) ?_
        simp only [List.filterMap_cons, List.filterMap_nil, List.getElem?_toArray, List.getElem?_cons_succ, List.getElem?_cons_zero]
        change wpQuiet _ _ _ _ [_, _, _] _
        haveI : Nonempty (U.In (fun x : World => At gc 23 (CC n false false false false false false 0 0) x ∧ At a1 23 (CC n false true false false false false 0 0) x ∧ At t1 29 #[.slice none 0 0, .slice none 0 0, .slice (some ⟨g1, 0, none⟩) 1 1] x ∧ At g1 42 #[.int .i64 1, .string n, .string al, .string gr, .bool false] x ∧ Below w.heap.size w x)) := ⟨⟨_, HS0.out⟩⟩
        go_big_quiet_step (fail)
        go_big_quiet_step (fail)
        go_big_quiet_step (fail)
        clear this
        refine wpQuiet_nil ?_
        have ne1 : ¬ a2 = t2 := at_type (HX15.out.2.2.2.1) (HX15.out.2.1) (by decide)
        have ne2 : ¬ t2 = a2 := fun e => ne1 e.symm
        obtain ⟨Y, hY, hYa, hYt, hYl, hYo⟩ := set12 (d0 := .string n) (d1 := .bool true) (d2 := .bool false) (d3 := .bool false) (d4 := .bool false) (d5 := .bool false) (d6 := .bool false) (d7 := .int .i64 0) (d8 := .int .i64 0) (u0 := .slice (some ⟨g2, 0, none⟩) 1 cp) (u1 := .slice none 0 0) (u2 := .slice none 0 0) (HX15.out.2.2.2.1) (HX15.out.2.1) ne1
        have HE : Hid (At gc 23 (CC n false false false false false false 0 0) Y ∧ At a2 23 (CC n true false false false false false 0 0) Y ∧ At t2 29 #[.slice (some ⟨g2, 0, none⟩) 1 cp, .slice none 0 0, .slice none 0 0] Y ∧ Below w.heap.size w Y) := Lib.hid (by
          have h0 := HK.out _ _ HS0.out HX15.out.1
          have l0 := HS0.out.1.lt
          have l1 := HS0.out.2.2.2.2.size
          have l2 := HX15.out.2.2.2.2
          have l3 := HX15.out.2.2.1
          exact ⟨hYo _ _ _ h0.1 (by omega) (by omega), hYa, hYt, hYl w (by omega) (by omega) h0.2.2.2.2⟩)
        clear hYa hYt hYl hYo
        have d0 := (HX15.out.2.2.2.1).free 0
        have dc0 := (HX15.out.2.2.2.1).cell 0 _ rfl
        have d1 := (HX15.out.2.2.2.1).free 1
        have dc1 := (HX15.out.2.2.2.1).cell 1 _ rfl
        have d2 := (HX15.out.2.2.2.1).free 2
        have dc2 := (HX15.out.2.2.2.1).cell 2 _ rfl
        have d3 := (HX15.out.2.2.2.1).free 3
        have dc3 := (HX15.out.2.2.2.1).cell 3 _ rfl
        have d4 := (HX15.out.2.2.2.1).free 4
        have dc4 := (HX15.out.2.2.2.1).cell 4 _ rfl
        have d5 := (HX15.out.2.2.2.1).free 5
        have dc5 := (HX15.out.2.2.2.1).cell 5 _ rfl
        have d6 := (HX15.out.2.2.2.1).free 6
        have dc6 := (HX15.out.2.2.2.1).cell 6 _ rfl
        have d7 := (HX15.out.2.2.2.1).free 7
        have dc7 := (HX15.out.2.2.2.1).cell 7 _ rfl
        have d8 := (HX15.out.2.2.2.1).free 8
        have dc8 := (HX15.out.2.2.2.1).cell 8 _ rfl
        have t0f := (HX15.out.2.1).free 0
        have tc0 := (HX15.out.2.1).cell 0 _ rfl
        have t1f := (HX15.out.2.1).free 1
        have tc1 := (HX15.out.2.1).cell 1 _ rfl
        have t2f := (HX15.out.2.1).free 2
        have tc2 := (HX15.out.2.1).cell 2 _ rfl
        clear HX15
        refine U.wpAnyM_one (i := 12) (L' := #[true, true, true, true, true, true, true, true, true, true, true, true, true, false]) (by kernel_rfl) (by kernel_rfl) ?_
        refine U.wpOp_step (o := _) rfl ?_
        go_wp2
        refine ⟨fun h => (by cases h), ?_⟩
        refine U.wpAnyM_one (i := 13) (L' := #[true, true, true, true, true, true, true, true, true, true, true, true, true, true]) (by kernel_rfl) (by kernel_rfl) ?_
        refine U.wpOp_step (o := _) rfl ?_
        go_wp2
        refine ⟨fun h => (by cases h), ?_⟩
        refine U.wpAnyM_end (by kernel_rfl) ?_
        rw [← hY]
        exact ⟨rfl, a2, t2, g2, cp, rfl, HE.out⟩
  intro a2 t2 g2 cp W2 hW
  have HF2 := Lib.hid hW
  clear hW
  have q0 : W2.cell? ⟨a2, 0, none⟩ = some (.string n) := At.cell (HF2.out.2.1) 0 _ rfl
  have q1 : W2.cell? ⟨a2, 1, none⟩ = some (.bool true) := At.cell (HF2.out.2.1) 1 _ rfl
  have q2 : W2.cell? ⟨a2, 2, none⟩ = some (.bool false) := At.cell (HF2.out.2.1) 2 _ rfl
  have q3 : W2.cell? ⟨a2, 3, none⟩ = some (.bool false) := At.cell (HF2.out.2.1) 3 _ rfl
  have q4 : W2.cell? ⟨a2, 4, none⟩ = some (.bool false) := At.cell (HF2.out.2.1) 4 _ rfl
  have q5 : W2.cell? ⟨a2, 5, none⟩ = some (.bool false) := At.cell (HF2.out.2.1) 5 _ rfl
  have q6 : W2.cell? ⟨a2, 6, none⟩ = some (.bool false) := At.cell (HF2.out.2.1) 6 _ rfl
  have q7 : W2.cell? ⟨a2, 7, none⟩ = some (.int .i64 0) := At.cell (HF2.out.2.1) 7 _ rfl
  have q8 : W2.cell? ⟨a2, 8, none⟩ = some (.int .i64 0) := At.cell (HF2.out.2.1) 8 _ rfl
  have r0 : W2.cell? ⟨t2, 0, none⟩ = some (.slice (some ⟨g2, 0, none⟩) 1 cp) := At.cell (HF2.out.2.2.1) 0 _ rfl
  go_wp2_with fail
  refine (HR.out _).mono ?_
  rintro e W3 ⟨rfl, hb3⟩
  have HF3 : Hid (At gc 23 (CC n false false false false false false 0 0) W3 ∧ At a2 23 (CC n true false false false false false 0 0) W3 ∧ At t2 29 #[.slice (some ⟨g2, 0, none⟩) 1 cp, .slice none 0 0, .slice none 0 0] W3 ∧ Below w.heap.size w W3) := Lib.hid ⟨HF2.out.1.below hb3, HF2.out.2.1.below hb3, HF2.out.2.2.1.below hb3, (HF2.out.2.2.2).trans (hb3.mono (HF2.out.2.2.2).size)⟩
  clear hb3 HF2 q0 q1 q2 q3 q4 q5 q6 q7 q8 r0
  have q0 : W3.cell? ⟨a2, 0, none⟩ = some (.string n) := At.cell (HF3.out.2.1) 0 _ rfl
  have q1 : W3.cell? ⟨a2, 1, none⟩ = some (.bool true) := At.cell (HF3.out.2.1) 1 _ rfl
  have q2 : W3.cell? ⟨a2, 2, none⟩ = some (.bool false) := At.cell (HF3.out.2.1) 2 _ rfl
  have q3 : W3.cell? ⟨a2, 3, none⟩ = some (.bool false) := At.cell (HF3.out.2.1) 3 _ rfl
  have q4 : W3.cell? ⟨a2, 4, none⟩ = some (.bool false) := At.cell (HF3.out.2.1) 4 _ rfl
  have q5 : W3.cell? ⟨a2, 5, none⟩ = some (.bool false) := At.cell (HF3.out.2.1) 5 _ rfl
  have q6 : W3.cell? ⟨a2, 6, none⟩ = some (.bool false) := At.cell (HF3.out.2.1) 6 _ rfl
  have q7 : W3.cell? ⟨a2, 7, none⟩ = some (.int .i64 0) := At.cell (HF3.out.2.1) 7 _ rfl
  have q8 : W3.cell? ⟨a2, 8, none⟩ = some (.int .i64 0) := At.cell (HF3.out.2.1) 8 _ rfl
  cases gn
  · go_wp2_with fail
    refine (HC4.out _).mono ?_
    rintro e v4 ⟨g3, g4, rfl, hg, hg4, hb⟩
    obtain ⟨a3, ha⟩ : ∃ g, g = v4.heap.size := ⟨_, rfl⟩
    obtain ⟨t3, ht⟩ : ∃ g, g = v4.heap.size + 1 := ⟨_, rfl⟩
    have HF4' : Hid (At gc 23 (CC n false false false false false false 0 0) ((v4.alloc (.cells (CC n false false false false false false 0 0) 23)).alloc (.cells #[.slice (some ⟨g3, 0, none⟩) 1 1, .slice none 0 0, .slice (some ⟨g4, 0, none⟩) 1 1] 29)) ∧ At a3 23 (CC n false false false false false false 0 0) ((v4.alloc (.cells (CC n false false false false false false 0 0) 23)).alloc (.cells #[.slice (some ⟨g3, 0, none⟩) 1 1, .slice none 0 0, .slice (some ⟨g4, 0, none⟩) 1 1] 29)) ∧ At t3 29 #[.slice (some ⟨g3, 0, none⟩) 1 1, .slice none 0 0, .slice (some ⟨g4, 0, none⟩) 1 1] ((v4.alloc (.cells (CC n false false false false false false 0 0) 23)).alloc (.cells #[.slice (some ⟨g3, 0, none⟩) 1 1, .slice none 0 0, .slice (some ⟨g4, 0, none⟩) 1 1] 29)) ∧ At g3 9 #[.string unsS] ((v4.alloc (.cells (CC n false false false false false false 0 0) 23)).alloc (.cells #[.slice (some ⟨g3, 0, none⟩) 1 1, .slice none 0 0, .slice (some ⟨g4, 0, none⟩) 1 1] 29)) ∧ At g4 42 #[.int .i64 2, .string n, .string ⟨#[]⟩, .string ⟨#[]⟩, .bool false] ((v4.alloc (.cells (CC n false false false false false false 0 0) 23)).alloc (.cells #[.slice (some ⟨g3, 0, none⟩) 1 1, .slice none 0 0, .slice (some ⟨g4, 0, none⟩) 1 1] 29)) ∧ Below w.heap.size w ((v4.alloc (.cells (CC n false false false false false false 0 0) 23)).alloc (.cells #[.slice (some ⟨g3, 0, none⟩) 1 1, .slice none 0 0, .slice (some ⟨g4, 0, none⟩) 1 1] 29))) := Lib.hid (by
      have hA : Below v4.heap.size v4 ((v4.alloc (.cells (CC n false false false false false false 0 0) 23)).alloc (.cells #[.slice (some ⟨g3, 0, none⟩) 1 1, .slice none 0 0, .slice (some ⟨g4, 0, none⟩) 1 1] 29)) := ((Below.refl _ _).alloc (Nat.le_refl _) _).alloc (by simp) _
      have hB : Below W3.heap.size W3 ((v4.alloc (.cells (CC n false false false false false false 0 0) 23)).alloc (.cells #[.slice (some ⟨g3, 0, none⟩) 1 1, .slice none 0 0, .slice (some ⟨g4, 0, none⟩) 1 1] 29)) := hb.trans (hA.mono hb.size)
      exact ⟨At.below HF3.out.1 hB, (new_at v4 _ _ a3 ha).alloc _, new_at _ _ _ t3 (by rw [ht]; simp), At.below hg hA, At.below hg4 hA, (HF3.out.2.2.2).trans (hB.mono (HF3.out.2.2.2).size)⟩)
    clear hg hb hg4 q0 q1 q2 q3 q4 q5 q6 q7 q8
    have z0 : ((v4.alloc (.cells (CC n false false false false false false 0 0) 23)).alloc (.cells #[.slice (some ⟨g3, 0, none⟩) 1 1, .slice none 0 0, .slice (some ⟨g4, 0, none⟩) 1 1] 29)).cell? ⟨gc, 0, none⟩ = some (.string n) := At.cell HF4'.out.1 0 _ rfl
    have z1 : ((v4.alloc (.cells (CC n false false false false false false 0 0) 23)).alloc (.cells #[.slice (some ⟨g3, 0, none⟩) 1 1, .slice none 0 0, .slice (some ⟨g4, 0, none⟩) 1 1] 29)).cell? ⟨gc, 1, none⟩ = some (.bool false) := At.cell HF4'.out.1 1 _ rfl
    have z2 : ((v4.alloc (.cells (CC n false false false false false false 0 0) 23)).alloc (.cells #[.slice (some ⟨g3, 0, none⟩) 1 1, .slice none 0 0, .slice (some ⟨g4, 0, none⟩) 1 1] 29)).cell? ⟨gc, 2, none⟩ = some (.bool false) := At.cell HF4'.out.1 2 _ rfl
    have z3 : ((v4.alloc (.cells (CC n false false false false false false 0 0) 23)).alloc (.cells #[.slice (some ⟨g3, 0, none⟩) 1 1, .slice none 0 0, .slice (some ⟨g4, 0, none⟩) 1 1] 29)).cell? ⟨gc, 3, none⟩ = some (.bool false) := At.cell HF4'.out.1 3 _ rfl
    have z4 : ((v4.alloc (.cells (CC n false false false false false false 0 0) 23)).alloc (.cells #[.slice (some ⟨g3, 0, none⟩) 1 1, .slice none 0 0, .slice (some ⟨g4, 0, none⟩) 1 1] 29)).cell? ⟨gc, 4, none⟩ = some (.bool false) := At.cell HF4'.out.1 4 _ rfl
    have z5 : ((v4.alloc (.cells (CC n false false false false false false 0 0) 23)).alloc (.cells #[.slice (some ⟨g3, 0, none⟩) 1 1, .slice none 0 0, .slice (some ⟨g4, 0, none⟩) 1 1] 29)).cell? ⟨gc, 5, none⟩ = some (.bool false) := At.cell HF4'.out.1 5 _ rfl
    have z6 : ((v4.alloc (.cells (CC n false false false false false false 0 0) 23)).alloc (.cells #[.slice (some ⟨g3, 0, none⟩) 1 1, .slice none 0 0, .slice (some ⟨g4, 0, none⟩) 1 1] 29)).cell? ⟨gc, 6, none⟩ = some (.bool false) := At.cell HF4'.out.1 6 _ rfl
    have z7 : ((v4.alloc (.cells (CC n false false false false false false 0 0) 23)).alloc (.cells #[.slice (some ⟨g3, 0, none⟩) 1 1, .slice none 0 0, .slice (some ⟨g4, 0, none⟩) 1 1] 29)).cell? ⟨gc, 7, none⟩ = some (.int .i64 0) := At.cell HF4'.out.1 7 _ rfl
    have z8 : ((v4.alloc (.cells (CC n false false false false false false 0 0) 23)).alloc (.cells #[.slice (some ⟨g3, 0, none⟩) 1 1, .slice none 0 0, .slice (some ⟨g4, 0, none⟩) 1 1] 29)).cell? ⟨gc, 8, none⟩ = some (.int .i64 0) := At.cell HF4'.out.1 8 _ rfl
    have y0 : ((v4.alloc (.cells (CC n false false false false false false 0 0) 23)).alloc (.cells #[.slice (some ⟨g3, 0, none⟩) 1 1, .slice none 0 0, .slice (some ⟨g4, 0, none⟩) 1 1] 29)).cell? ⟨v4.heap.size, 0, none⟩ = some (.string n) := by rw [← ha]; exact At.cell HF4'.out.2.1 0 _ rfl
    have y1 : ((v4.alloc (.cells (CC n false false false false false false 0 0) 23)).alloc (.cells #[.slice (some ⟨g3, 0, none⟩) 1 1, .slice none 0 0, .slice (some ⟨g4, 0, none⟩) 1 1] 29)).cell? ⟨v4.heap.size, 1, none⟩ = some (.bool false) := by rw [← ha]; exact At.cell HF4'.out.2.1 1 _ rfl
    have y2 : ((v4.alloc (.cells (CC n false false false false false false 0 0) 23)).alloc (.cells #[.slice (some ⟨g3, 0, none⟩) 1 1, .slice none 0 0, .slice (some ⟨g4, 0, none⟩) 1 1] 29)).cell? ⟨v4.heap.size, 2, none⟩ = some (.bool false) := by rw [← ha]; exact At.cell HF4'.out.2.1 2 _ rfl
    have y3 : ((v4.alloc (.cells (CC n false false false false false false 0 0) 23)).alloc (.cells #[.slice (some ⟨g3, 0, none⟩) 1 1, .slice none 0 0, .slice (some ⟨g4, 0, none⟩) 1 1] 29)).cell? ⟨v4.heap.size, 3, none⟩ = some (.bool false) := by rw [← ha]; exact At.cell HF4'.out.2.1 3 _ rfl
    have y4 : ((v4.alloc (.cells (CC n false false false false false false 0 0) 23)).alloc (.cells #[.slice (some ⟨g3, 0, none⟩) 1 1, .slice none 0 0, .slice (some ⟨g4, 0, none⟩) 1 1] 29)).cell? ⟨v4.heap.size, 4, none⟩ = some (.bool false) := by rw [← ha]; exact At.cell HF4'.out.2.1 4 _ rfl
    have y5 : ((v4.alloc (.cells (CC n false false false false false false 0 0) 23)).alloc (.cells #[.slice (some ⟨g3, 0, none⟩) 1 1, .slice none 0 0, .slice (some ⟨g4, 0, none⟩) 1 1] 29)).cell? ⟨v4.heap.size, 5, none⟩ = some (.bool false) := by rw [← ha]; exact At.cell HF4'.out.2.1 5 _ rfl
    have y6 : ((v4.alloc (.cells (CC n false false false false false false 0 0) 23)).alloc (.cells #[.slice (some ⟨g3, 0, none⟩) 1 1, .slice none 0 0, .slice (some ⟨g4, 0, none⟩) 1 1] 29)).cell? ⟨v4.heap.size, 6, none⟩ = some (.bool false) := by rw [← ha]; exact At.cell HF4'.out.2.1 6 _ rfl
    have y7 : ((v4.alloc (.cells (CC n false false false false false false 0 0) 23)).alloc (.cells #[.slice (some ⟨g3, 0, none⟩) 1 1, .slice none 0 0, .slice (some ⟨g4, 0, none⟩) 1 1] 29)).cell? ⟨v4.heap.size, 7, none⟩ = some (.int .i64 0) := by rw [← ha]; exact At.cell HF4'.out.2.1 7 _ rfl
    have y8 : ((v4.alloc (.cells (CC n false false false false false false 0 0) 23)).alloc (.cells #[.slice (some ⟨g3, 0, none⟩) 1 1, .slice none 0 0, .slice (some ⟨g4, 0, none⟩) 1 1] 29)).cell? ⟨v4.heap.size, 8, none⟩ = some (.int .i64 0) := by rw [← ha]; exact At.cell HF4'.out.2.1 8 _ rfl
    have x0 : ((v4.alloc (.cells (CC n false false false false false false 0 0) 23)).alloc (.cells #[.slice (some ⟨g3, 0, none⟩) 1 1, .slice none 0 0, .slice (some ⟨g4, 0, none⟩) 1 1] 29)).cell? ⟨v4.heap.size + 1, 0, none⟩ = some (.slice (some ⟨g3, 0, none⟩) 1 1) := by rw [← ht]; exact At.cell HF4'.out.2.2.1 0 _ rfl
    have x1 : ((v4.alloc (.cells (CC n false false false false false false 0 0) 23)).alloc (.cells #[.slice (some ⟨g3, 0, none⟩) 1 1, .slice none 0 0, .slice (some ⟨g4, 0, none⟩) 1 1] 29)).cell? ⟨v4.heap.size + 1, 1, none⟩ = some (.slice none 0 0) := by rw [← ht]; exact At.cell HF4'.out.2.2.1 1 _ rfl
    have x2 : ((v4.alloc (.cells (CC n false false false false false false 0 0) 23)).alloc (.cells #[.slice (some ⟨g3, 0, none⟩) 1 1, .slice none 0 0, .slice (some ⟨g4, 0, none⟩) 1 1] 29)).cell? ⟨v4.heap.size + 1, 2, none⟩ = some (.slice (some ⟨g4, 0, none⟩) 1 1) := by rw [← ht]; exact At.cell HF4'.out.2.2.1 2 _ rfl
    have u0 : ((v4.alloc (.cells (CC n false false false false false false 0 0) 23)).alloc (.cells #[.slice (some ⟨g3, 0, none⟩) 1 1, .slice none 0 0, .slice (some ⟨g4, 0, none⟩) 1 1] 29)).cell? ⟨g3, 0, none⟩ = some (.string unsS) := At.cell HF4'.out.2.2.2.1 0 _ rfl
    have w0 : ((v4.alloc (.cells (CC n false false false false false false 0 0) 23)).alloc (.cells #[.slice (some ⟨g3, 0, none⟩) 1 1, .slice none 0 0, .slice (some ⟨g4, 0, none⟩) 1 1] 29)).cell? ⟨g4, 0, none⟩ = some (.int .i64 2) := At.cell HF4'.out.2.2.2.2.1 0 _ rfl
    have w1 : ((v4.alloc (.cells (CC n false false false false false false 0 0) 23)).alloc (.cells #[.slice (some ⟨g3, 0, none⟩) 1 1, .slice none 0 0, .slice (some ⟨g4, 0, none⟩) 1 1] 29)).cell? ⟨g4, 1, none⟩ = some (.string n) := At.cell HF4'.out.2.2.2.2.1 1 _ rfl
    have w2 : ((v4.alloc (.cells (CC n false false false false false false 0 0) 23)).alloc (.cells #[.slice (some ⟨g3, 0, none⟩) 1 1, .slice none 0 0, .slice (some ⟨g4, 0, none⟩) 1 1] 29)).cell? ⟨g4, 2, none⟩ = some (.string ⟨#[]⟩) := At.cell HF4'.out.2.2.2.2.1 2 _ rfl
    have w3 : ((v4.alloc (.cells (CC n false false false false false false 0 0) 23)).alloc (.cells #[.slice (some ⟨g3, 0, none⟩) 1 1, .slice none 0 0, .slice (some ⟨g4, 0, none⟩) 1 1] 29)).cell? ⟨g4, 3, none⟩ = some (.string ⟨#[]⟩) := At.cell HF4'.out.2.2.2.2.1 3 _ rfl
    have w4 : ((v4.alloc (.cells (CC n false false false false false false 0 0) 23)).alloc (.cells #[.slice (some ⟨g3, 0, none⟩) 1 1, .slice none 0 0, .slice (some ⟨g4, 0, none⟩) 1 1] 29)).cell? ⟨g4, 4, none⟩ = some (.bool false) := At.cell HF4'.out.2.2.2.2.1 4 _ rfl
    go_wp2_with fail
    refine (HL.out _).mono ?_
    rintro e w9 ⟨rfl, hb9⟩
    have H9 : Hid (Below w.heap.size w w9) := Lib.hid (HF4'.out.2.2.2.2.2.trans (hb9.mono HF4'.out.2.2.2.2.2.size))
    clear hb9
    go_wp2
    go_ret
    exact ⟨rfl, H9.out⟩
  · go_wp2_with fail
    refine (HC3.out _).mono ?_
    rintro e v4 ⟨g3, rfl, hg, hb⟩
    obtain ⟨a3, ha⟩ : ∃ g, g = v4.heap.size := ⟨_, rfl⟩
    obtain ⟨t3, ht⟩ : ∃ g, g = v4.heap.size + 1 := ⟨_, rfl⟩
    have HF4' : Hid (At gc 23 (CC n false false false false false false 0 0) ((v4.alloc (.cells (CC n false false false false false false 0 0) 23)).alloc (.cells #[.slice (some ⟨g3, 0, none⟩) 1 1, .slice none 0 0, .slice none 0 0] 29)) ∧ At a3 23 (CC n false false false false false false 0 0) ((v4.alloc (.cells (CC n false false false false false false 0 0) 23)).alloc (.cells #[.slice (some ⟨g3, 0, none⟩) 1 1, .slice none 0 0, .slice none 0 0] 29)) ∧ At t3 29 #[.slice (some ⟨g3, 0, none⟩) 1 1, .slice none 0 0, .slice none 0 0] ((v4.alloc (.cells (CC n false false false false false false 0 0) 23)).alloc (.cells #[.slice (some ⟨g3, 0, none⟩) 1 1, .slice none 0 0, .slice none 0 0] 29)) ∧ At g3 9 #[.string unsS] ((v4.alloc (.cells (CC n false false false false false false 0 0) 23)).alloc (.cells #[.slice (some ⟨g3, 0, none⟩) 1 1, .slice none 0 0, .slice none 0 0] 29)) ∧ Below w.heap.size w ((v4.alloc (.cells (CC n false false false false false false 0 0) 23)).alloc (.cells #[.slice (some ⟨g3, 0, none⟩) 1 1, .slice none 0 0, .slice none 0 0] 29))) := Lib.hid (by
      have hA : Below v4.heap.size v4 ((v4.alloc (.cells (CC n false false false false false false 0 0) 23)).alloc (.cells #[.slice (some ⟨g3, 0, none⟩) 1 1, .slice none 0 0, .slice none 0 0] 29)) := ((Below.refl _ _).alloc (Nat.le_refl _) _).alloc (by simp) _
      have hB : Below W3.heap.size W3 ((v4.alloc (.cells (CC n false false false false false false 0 0) 23)).alloc (.cells #[.slice (some ⟨g3, 0, none⟩) 1 1, .slice none 0 0, .slice none 0 0] 29)) := hb.trans (hA.mono hb.size)
      exact ⟨At.below HF3.out.1 hB, (new_at v4 _ _ a3 ha).alloc _, new_at _ _ _ t3 (by rw [ht]; simp), At.below hg hA, (HF3.out.2.2.2).trans (hB.mono (HF3.out.2.2.2).size)⟩)
    clear hg hb q0 q1 q2 q3 q4 q5 q6 q7 q8
    have z0 : ((v4.alloc (.cells (CC n false false false false false false 0 0) 23)).alloc (.cells #[.slice (some ⟨g3, 0, none⟩) 1 1, .slice none 0 0, .slice none 0 0] 29)).cell? ⟨gc, 0, none⟩ = some (.string n) := At.cell HF4'.out.1 0 _ rfl
    have z1 : ((v4.alloc (.cells (CC n false false false false false false 0 0) 23)).alloc (.cells #[.slice (some ⟨g3, 0, none⟩) 1 1, .slice none 0 0, .slice none 0 0] 29)).cell? ⟨gc, 1, none⟩ = some (.bool false) := At.cell HF4'.out.1 1 _ rfl
    have z2 : ((v4.alloc (.cells (CC n false false false false false false 0 0) 23)).alloc (.cells #[.slice (some ⟨g3, 0, none⟩) 1 1, .slice none 0 0, .slice none 0 0] 29)).cell? ⟨gc, 2, none⟩ = some (.bool false) := At.cell HF4'.out.1 2 _ rfl
    have z3 : ((v4.alloc (.cells (CC n false false false false false false 0 0) 23)).alloc (.cells #[.slice (some ⟨g3, 0, none⟩) 1 1, .slice none 0 0, .slice none 0 0] 29)).cell? ⟨gc, 3, none⟩ = some (.bool false) := At.cell HF4'.out.1 3 _ rfl
    have z4 : ((v4.alloc (.cells (CC n false false false false false false 0 0) 23)).alloc (.cells #[.slice (some ⟨g3, 0, none⟩) 1 1, .slice none 0 0, .slice none 0 0] 29)).cell? ⟨gc, 4, none⟩ = some (.bool false) := At.cell HF4'.out.1 4 _ rfl
    have z5 : ((v4.alloc (.cells (CC n false false false false false false 0 0) 23)).alloc (.cells #[.slice (some ⟨g3, 0, none⟩) 1 1, .slice none 0 0, .slice none 0 0] 29)).cell? ⟨gc, 5, none⟩ = some (.bool false) := At.cell HF4'.out.1 5 _ rfl
    have z6 : ((v4.alloc (.cells (CC n false false false false false false 0 0) 23)).alloc (.cells #[.slice (some ⟨g3, 0, none⟩) 1 1, .slice none 0 0, .slice none 0 0] 29)).cell? ⟨gc, 6, none⟩ = some (.bool false) := At.cell HF4'.out.1 6 _ rfl
    have z7 : ((v4.alloc (.cells (CC n false false false false false false 0 0) 23)).alloc (.cells #[.slice (some ⟨g3, 0, none⟩) 1 1, .slice none 0 0, .slice none 0 0] 29)).cell? ⟨gc, 7, none⟩ = some (.int .i64 0) := At.cell HF4'.out.1 7 _ rfl
    have z8 : ((v4.alloc (.cells (CC n false false false false false false 0 0) 23)).alloc (.cells #[.slice (some ⟨g3, 0, none⟩) 1 1, .slice none 0 0, .slice none 0 0] 29)).cell? ⟨gc, 8, none⟩ = some (.int .i64 0) := At.cell HF4'.out.1 8 _ rfl
    have y0 : ((v4.alloc (.cells (CC n false false false false false false 0 0) 23)).alloc (.cells #[.slice (some ⟨g3, 0, none⟩) 1 1, .slice none 0 0, .slice none 0 0] 29)).cell? ⟨v4.heap.size, 0, none⟩ = some (.string n) := by rw [← ha]; exact At.cell HF4'.out.2.1 0 _ rfl
    have y1 : ((v4.alloc (.cells (CC n false false false false false false 0 0) 23)).alloc (.cells #[.slice (some ⟨g3, 0, none⟩) 1 1, .slice none 0 0, .slice none 0 0] 29)).cell? ⟨v4.heap.size, 1, none⟩ = some (.bool false) := by rw [← ha]; exact At.cell HF4'.out.2.1 1 _ rfl
    have y2 : ((v4.alloc (.cells (CC n false false false false false false 0 0) 23)).alloc (.cells #[.slice (some ⟨g3, 0, none⟩) 1 1, .slice none 0 0, .slice none 0 0] 29)).cell? ⟨v4.heap.size, 2, none⟩ = some (.bool false) := by rw [← ha]; exact At.cell HF4'.out.2.1 2 _ rfl
    have y3 : ((v4.alloc (.cells (CC n false false false false false false 0 0) 23)).alloc (.cells #[.slice (some ⟨g3, 0, none⟩) 1 1, .slice none 0 0, .slice none 0 0] 29)).cell? ⟨v4.heap.size, 3, none⟩ = some (.bool false) := by rw [← ha]; exact At.cell HF4'.out.2.1 3 _ rfl
    have y4 : ((v4.alloc (.cells (CC n false false false false false false 0 0) 23)).alloc (.cells #[.slice (some ⟨g3, 0, none⟩) 1 1, .slice none 0 0, .slice none 0 0] 29)).cell? ⟨v4.heap.size, 4, none⟩ = some (.bool false) := by rw [← ha]; exact At.cell HF4'.out.2.1 4 _ rfl
    have y5 : ((v4.alloc (.cells (CC n false false false false false false 0 0) 23)).alloc (.cells #[.slice (some ⟨g3, 0, none⟩) 1 1, .slice none 0 0, .slice none 0 0] 29)).cell? ⟨v4.heap.size, 5, none⟩ = some (.bool false) := by rw [← ha]; exact At.cell HF4'.out.2.1 5 _ rfl
    have y6 : ((v4.alloc (.cells (CC n false false false false false false 0 0) 23)).alloc (.cells #[.slice (some ⟨g3, 0, none⟩) 1 1, .slice none 0 0, .slice none 0 0] 29)).cell? ⟨v4.heap.size, 6, none⟩ = some (.bool false) := by rw [← ha]; exact At.cell HF4'.out.2.1 6 _ rfl
    have y7 : ((v4.alloc (.cells (CC n false false false false false false 0 0) 23)).alloc (.cells #[.slice (some ⟨g3, 0, none⟩) 1 1, .slice none 0 0, .slice none 0 0] 29)).cell? ⟨v4.heap.size, 7, none⟩ = some (.int .i64 0) := by rw [← ha]; exact At.cell HF4'.out.2.1 7 _ rfl
    have y8 : ((v4.alloc (.cells (CC n false false false false false false 0 0) 23)).alloc (.cells #[.slice (some ⟨g3, 0, none⟩) 1 1, .slice none 0 0, .slice none 0 0] 29)).cell? ⟨v4.heap.size, 8, none⟩ = some (.int .i64 0) := by rw [← ha]; exact At.cell HF4'.out.2.1 8 _ rfl
    have x0 : ((v4.alloc (.cells (CC n false false false false false false 0 0) 23)).alloc (.cells #[.slice (some ⟨g3, 0, none⟩) 1 1, .slice none 0 0, .slice none 0 0] 29)).cell? ⟨v4.heap.size + 1, 0, none⟩ = some (.slice (some ⟨g3, 0, none⟩) 1 1) := by rw [← ht]; exact At.cell HF4'.out.2.2.1 0 _ rfl
    have x1 : ((v4.alloc (.cells (CC n false false false false false false 0 0) 23)).alloc (.cells #[.slice (some ⟨g3, 0, none⟩) 1 1, .slice none 0 0, .slice none 0 0] 29)).cell? ⟨v4.heap.size + 1, 1, none⟩ = some (.slice none 0 0) := by rw [← ht]; exact At.cell HF4'.out.2.2.1 1 _ rfl
    have x2 : ((v4.alloc (.cells (CC n false false false false false false 0 0) 23)).alloc (.cells #[.slice (some ⟨g3, 0, none⟩) 1 1, .slice none 0 0, .slice none 0 0] 29)).cell? ⟨v4.heap.size + 1, 2, none⟩ = some (.slice none 0 0) := by rw [← ht]; exact At.cell HF4'.out.2.2.1 2 _ rfl
    have u0 : ((v4.alloc (.cells (CC n false false false false false false 0 0) 23)).alloc (.cells #[.slice (some ⟨g3, 0, none⟩) 1 1, .slice none 0 0, .slice none 0 0] 29)).cell? ⟨g3, 0, none⟩ = some (.string unsS) := At.cell HF4'.out.2.2.2.1 0 _ rfl
    go_wp2_with fail
    refine (HL.out _).mono ?_
    rintro e w9 ⟨rfl, hb9⟩
    have H9 : Hid (Below w.heap.size w w9) := Lib.hid (HF4'.out.2.2.2.2.trans (hb9.mono HF4'.out.2.2.2.2.size))
    clear hb9
    go_wp2
    go_ret
    exact ⟨rfl, H9.out⟩
set_option maxHeartbeats 1000000 in
theorem SubsTurns_walk (n al gr : ByteArray) (gn : Bool) (h1 : n.size ≤ 140737488351232) (h2 : al.size ≤ 140737488351232) (h3 : gr.size ≤ 140737488351232) (w : World) : Calls Tryd.prog 5 #[.string n, .string al, .string gr, .bool gn] w fun e w' => e = .returned (.bool true) ∧ Below w.heap.size w w' := by
  by_cases hn : n.size + al.size + gr.size ≤ 8000
  · exact Turns_in n al gr gn hn w
  · have HL := Lib.hid live_any
    go_enter Tryd.func5, Tryd.ntmps5
    go_wp2_with fail
    refine (HL.out _).mono ?_
    rintro e w1 ⟨rfl, hb1⟩
    have H1 := Lib.hid hb1
    clear hb1
    go_wp2
    go_ret
    exact ⟨rfl, H1.out⟩
end Go.Proofs.YtofdiilfedjhkaaDoor.Sub

/- jid.Check and jid.Parse at this translation. -/
import Derived.Test.YthifpbaebbodoaaDoorJidA
import Derived.Test.YthifpbaebbodoaaDoorCls
import Derived.Deep.RegionHeld3
set_option linter.unusedVariables false
set_option linter.unusedSimpArgs false
namespace Go.Proofs.YthifpbaebbodoaaDoor.Jid
open Go.RowKit GlyP Gly Strs JidP

/-- The box of an address in the heap; what was there ahead is as it was. -/
structure Box (w0 : World) (g : Nat) (a b c : ByteArray) (w : World) : Prop where
  cells : U.At g 24 #[.string a, .string b, .string c] w
  low : Below w0.heap.size w0 w
theorem Box.drew {w0 : World} {g : Nat} {a b c : ByteArray} {w : World} (h : Box w0 g a b c w) : Box w0 g a b c w.drew :=
  ⟨U.At.drewN h.cells 1, U.below_drewN h.low 1⟩
theorem Box.below {w0 : World} {g : Nat} {a b c : ByteArray} {w w' : World} (h : Box w0 g a b c w) (hb : Below w.heap.size w w') : Box w0 g a b c w' :=
  ⟨h.cells.below hb, h.low.trans (hb.mono h.low.size)⟩
theorem Box.all {w0 : World} {g : Nat} {a b c : ByteArray} {w : World} (h : Box w0 g a b c w) :
    w.cell? ⟨g, 0, none⟩ = some (.string a) ∧ w.cell? ⟨g, 1, none⟩ = some (.string b) ∧ w.cell? ⟨g, 2, none⟩ = some (.string c) ∧ Box w0 g a b c w :=
  ⟨h.cells.cell 0 _ rfl, h.cells.cell 1 _ rfl, h.cells.cell 2 _ rfl, h⟩

theorem pieces_le (c : UInt8) : ∀ l, ∀ p ∈ pieces c l, p.length ≤ l.length
  | [], p, h => by simp [pieces] at h; subst h; simp
  | x :: l, p, h => by
    simp only [pieces] at h
    by_cases hx : x = c
    · rw [if_pos hx] at h
      rcases List.mem_cons.1 h with rfl | h
      · simp
      · have := pieces_le c l p h
        rw [List.length_cons]; omega
    · rw [if_neg hx] at h
      split at h
      · rename_i q qs hq
        have ih := pieces_le c l
        rw [hq] at ih
        rcases List.mem_cons.1 h with rfl | h
        · have := ih q List.mem_cons_self
          rw [List.length_cons, List.length_cons]; omega
        · have := ih p (List.mem_cons_of_mem _ h)
          rw [List.length_cons]; omega
      · rename_i hq
        exact absurd hq (pieces_ne c l)

theorem countByte_le (c : UInt8) (b : ByteArray) : Lib.countByte b.data.toList c ≤ b.size := by
  unfold Lib.countByte
  have := List.count_le_length (a := c) (l := b.data.toList)
  rw [U.len_data] at this
  exact this

abbrev PartSays (s : ByteArray) (r : Bool) : Prop := Hid (∀ w, Calls Tryd.prog 26 #[.string s] w fun e w' => e = .returned (.bool r) ∧ Below w.heap.size w w')
abbrev NodeSays (s : ByteArray) (r : Bool) : Prop := Hid (∀ w, Calls Tryd.prog 27 #[.string s] w fun e w' => e = .returned (.bool r) ∧ Below w.heap.size w w')
abbrev NormSays (a b c A B : ByteArray) : Prop := Hid (∀ w, Calls Tryd.prog 18 #[.agg #[.string a, .string b, .string c]] w fun e w' => e = .returned (.agg #[.string A, .string B, .string c]) ∧ Below w.heap.size w w')

set_option maxHeartbeats 2000000 in
theorem Check_a (a b c : ByteArray) (ha : a.size ≤ 68719476736) (hb : b.size ≤ 68719476736) (hc : c.size ≤ 68719476736) (w : World)
    (A B : ByteArray) (HN : NormSays a b c A B) (h1 : ¬ A.toList = a.toList) :
    Calls Tryd.prog 14 #[.agg #[.string a, .string b, .string c]] w fun e w' => e = .returned (.int .i64 30) ∧ Below w.heap.size w w' := by
  go_enter Tryd.func14, Tryd.ntmps14
  have bx0 : Box w w.heap.size a b c (w.alloc (.cells #[.string a, .string b, .string c] 24)).drew := Box.drew ⟨U.At.new w _ _, (Below.refl _ w).alloc (Nat.le_refl _) _⟩
  have BX0 := Lib.hid bx0
  haveI : Nonempty (U.In (Box w w.heap.size a b c)) := ⟨⟨_, bx0⟩⟩
  have f0 := fun x : U.In (Box w w.heap.size a b c) => (Box.all x.h).1
  have f1 := fun x : U.In (Box w w.heap.size a b c) => (Box.all x.h).2.1
  have f2 := fun x : U.In (Box w w.heap.size a b c) => (Box.all x.h).2.2.1
  clear bx0
  go_wp2
  refine U.region_in (S := Box w w.heap.size a b c) (by kernel_rfl) (by kernel_rfl) BX0.out ?_
  repeat go_big_quiet_step (first
    | (go_at_call 18; exact U.call_in _ (HN.out _) (fun _ _ => Box.below)))
  refine wpQuiet_nil ?_
  intro w1 bx
  clear f0 f1 f2 this
  have c1 := bx.all.2.1
  have BX := Lib.hid bx
  clear bx
  go_wp2_with fail
  refine (Split_one 46 b (by omega) _).mono ?_
  rintro e w2 ⟨g, rfl, hb2, hs2⟩
  obtain ⟨ps, hps⟩ : ∃ ps, ps = pieces 46 b.data.toList := ⟨_, rfl⟩
  rw [← hps] at hs2 ⊢
  have b2 := (BX.out.below hb2).low
  have hpl := pieces_len 46 b.data.toList
  have hcl := countByte_le 46 b
  rw [← hps] at hpl
  clear hps
  go_wp2_with fail
  go_loop [3, 34] (fun t i => t = .bool false ∧ ∃ k : Nat, k ≤ ps.length ∧ i = .int .i64 k) (fun t i => ps.length - (intOf i).toNat)
  case atStart => exact ⟨rfl, 0, by omega, rfl⟩
  case round =>
    obtain ⟨rfl, k, hk, rfl⟩ := hrel
    by_cases hlt : k < ps.length
    · have hc0 := hs2 k hlt
      go_wp2
      go_round
      case rel => exact ⟨rfl, k + 1, by omega, by go_num⟩
      case measure => simp [intOf]; omega
    · go_wp2
      go_ret
      exact ⟨rfl, b2⟩

set_option maxHeartbeats 2000000 in
theorem Check_b (a b c : ByteArray) (ha : a.size ≤ 68719476736) (hb : b.size ≤ 68719476736) (hc : c.size ≤ 68719476736) (w : World)
    (A B : ByteArray) (HN : NormSays a b c A B) (h1 : A.toList = a.toList) (h2 : ¬ B.toList = b.toList) :
    Calls Tryd.prog 14 #[.agg #[.string a, .string b, .string c]] w fun e w' => e = .returned (.int .i64 30) ∧ Below w.heap.size w w' := by
  go_enter Tryd.func14, Tryd.ntmps14
  have bx0 : Box w w.heap.size a b c (w.alloc (.cells #[.string a, .string b, .string c] 24)).drew := Box.drew ⟨U.At.new w _ _, (Below.refl _ w).alloc (Nat.le_refl _) _⟩
  have BX0 := Lib.hid bx0
  haveI : Nonempty (U.In (Box w w.heap.size a b c)) := ⟨⟨_, bx0⟩⟩
  have f0 := fun x : U.In (Box w w.heap.size a b c) => (Box.all x.h).1
  have f1 := fun x : U.In (Box w w.heap.size a b c) => (Box.all x.h).2.1
  have f2 := fun x : U.In (Box w w.heap.size a b c) => (Box.all x.h).2.2.1
  clear bx0
  go_wp2
  refine U.region_in (S := Box w w.heap.size a b c) (by kernel_rfl) (by kernel_rfl) BX0.out ?_
  repeat go_big_quiet_step (first
    | (go_at_call 18; exact U.call_in _ (HN.out _) (fun _ _ => Box.below)))
  refine wpQuiet_nil ?_
  intro w1 bx
  clear f0 f1 f2 this
  have c1 := bx.all.2.1
  have BX := Lib.hid bx
  clear bx
  go_wp2_with fail
  refine (Split_one 46 b (by omega) _).mono ?_
  rintro e w2 ⟨g, rfl, hb2, hs2⟩
  obtain ⟨ps, hps⟩ : ∃ ps, ps = pieces 46 b.data.toList := ⟨_, rfl⟩
  rw [← hps] at hs2 ⊢
  have b2 := (BX.out.below hb2).low
  have hpl := pieces_len 46 b.data.toList
  have hcl := countByte_le 46 b
  rw [← hps] at hpl
  clear hps
  go_wp2_with fail
  go_loop [3, 34] (fun t i => t = .bool false ∧ ∃ k : Nat, k ≤ ps.length ∧ i = .int .i64 k) (fun t i => ps.length - (intOf i).toNat)
  case atStart => exact ⟨rfl, 0, by omega, rfl⟩
  case round =>
    obtain ⟨rfl, k, hk, rfl⟩ := hrel
    by_cases hlt : k < ps.length
    · have hc0 := hs2 k hlt
      go_wp2
      go_round
      case rel => exact ⟨rfl, k + 1, by omega, by go_num⟩
      case measure => simp [intOf]; omega
    · go_wp2
      go_ret
      exact ⟨rfl, b2⟩

set_option maxHeartbeats 2000000 in
theorem Check_c (a b c : ByteArray) (ha : a.size ≤ 68719476736) (hb : b.size ≤ 68719476736) (hc : c.size ≤ 68719476736) (w : World)
    (A B : ByteArray) (HN : NormSays a b c A B) (h1 : A.toList = a.toList) (h2 : B.toList = b.toList) (Ha : PartSays a false) :
    Calls Tryd.prog 14 #[.agg #[.string a, .string b, .string c]] w fun e w' => e = .returned (.int .i64 30) ∧ Below w.heap.size w w' := by
  go_enter Tryd.func14, Tryd.ntmps14
  have bx0 : Box w w.heap.size a b c (w.alloc (.cells #[.string a, .string b, .string c] 24)).drew := Box.drew ⟨U.At.new w _ _, (Below.refl _ w).alloc (Nat.le_refl _) _⟩
  have BX0 := Lib.hid bx0
  haveI : Nonempty (U.In (Box w w.heap.size a b c)) := ⟨⟨_, bx0⟩⟩
  have f0 := fun x : U.In (Box w w.heap.size a b c) => (Box.all x.h).1
  have f1 := fun x : U.In (Box w w.heap.size a b c) => (Box.all x.h).2.1
  have f2 := fun x : U.In (Box w w.heap.size a b c) => (Box.all x.h).2.2.1
  clear bx0
  go_wp2
  refine U.region_in (S := Box w w.heap.size a b c) (by kernel_rfl) (by kernel_rfl) BX0.out ?_
  repeat go_big_quiet_step (first
    | (go_at_call 18; exact U.call_in _ (HN.out _) (fun _ _ => Box.below))
    | (go_at_call_of 26 (Value.string a); exact U.call_in _ (Ha.out _) (fun _ _ => Box.below)))
  refine wpQuiet_nil ?_
  intro w1 bx
  clear f0 f1 f2 this
  have c1 := bx.all.2.1
  have BX := Lib.hid bx
  clear bx
  go_wp2_with fail
  refine (Split_one 46 b (by omega) _).mono ?_
  rintro e w2 ⟨g, rfl, hb2, hs2⟩
  obtain ⟨ps, hps⟩ : ∃ ps, ps = pieces 46 b.data.toList := ⟨_, rfl⟩
  rw [← hps] at hs2 ⊢
  have b2 := (BX.out.below hb2).low
  have hpl := pieces_len 46 b.data.toList
  have hcl := countByte_le 46 b
  rw [← hps] at hpl
  clear hps
  go_wp2_with fail
  go_loop [3, 34] (fun t i => t = .bool false ∧ ∃ k : Nat, k ≤ ps.length ∧ i = .int .i64 k) (fun t i => ps.length - (intOf i).toNat)
  case atStart => exact ⟨rfl, 0, by omega, rfl⟩
  case round =>
    obtain ⟨rfl, k, hk, rfl⟩ := hrel
    by_cases hlt : k < ps.length
    · have hc0 := hs2 k hlt
      go_wp2
      go_round
      case rel => exact ⟨rfl, k + 1, by omega, by go_num⟩
      case measure => simp [intOf]; omega
    · go_wp2
      go_ret
      exact ⟨rfl, b2⟩

set_option maxHeartbeats 2000000 in
theorem Check_d (a b c : ByteArray) (ha : a.size ≤ 68719476736) (hb : b.size ≤ 68719476736) (hc : c.size ≤ 68719476736) (w : World)
    (A B : ByteArray) (HN : NormSays a b c A B) (h1 : A.toList = a.toList) (h2 : B.toList = b.toList) (Ha : PartSays a true) (Hb : PartSays b false) :
    Calls Tryd.prog 14 #[.agg #[.string a, .string b, .string c]] w fun e w' => e = .returned (.int .i64 30) ∧ Below w.heap.size w w' := by
  go_enter Tryd.func14, Tryd.ntmps14
  have bx0 : Box w w.heap.size a b c (w.alloc (.cells #[.string a, .string b, .string c] 24)).drew := Box.drew ⟨U.At.new w _ _, (Below.refl _ w).alloc (Nat.le_refl _) _⟩
  have BX0 := Lib.hid bx0
  haveI : Nonempty (U.In (Box w w.heap.size a b c)) := ⟨⟨_, bx0⟩⟩
  have f0 := fun x : U.In (Box w w.heap.size a b c) => (Box.all x.h).1
  have f1 := fun x : U.In (Box w w.heap.size a b c) => (Box.all x.h).2.1
  have f2 := fun x : U.In (Box w w.heap.size a b c) => (Box.all x.h).2.2.1
  clear bx0
  go_wp2
  refine U.region_in (S := Box w w.heap.size a b c) (by kernel_rfl) (by kernel_rfl) BX0.out ?_
  repeat go_big_quiet_step (first
    | (go_at_call 18; exact U.call_in _ (HN.out _) (fun _ _ => Box.below))
    | (go_at_call_of 26 (Value.string a); exact U.call_in _ (Ha.out _) (fun _ _ => Box.below))
    | (go_at_call_of 26 (Value.string b); exact U.call_in _ (Hb.out _) (fun _ _ => Box.below)))
  refine wpQuiet_nil ?_
  intro w1 bx
  clear f0 f1 f2 this
  have c1 := bx.all.2.1
  have BX := Lib.hid bx
  clear bx
  go_wp2_with fail
  refine (Split_one 46 b (by omega) _).mono ?_
  rintro e w2 ⟨g, rfl, hb2, hs2⟩
  obtain ⟨ps, hps⟩ : ∃ ps, ps = pieces 46 b.data.toList := ⟨_, rfl⟩
  rw [← hps] at hs2 ⊢
  have b2 := (BX.out.below hb2).low
  have hpl := pieces_len 46 b.data.toList
  have hcl := countByte_le 46 b
  rw [← hps] at hpl
  clear hps
  go_wp2_with fail
  go_loop [3, 34] (fun t i => t = .bool false ∧ ∃ k : Nat, k ≤ ps.length ∧ i = .int .i64 k) (fun t i => ps.length - (intOf i).toNat)
  case atStart => exact ⟨rfl, 0, by omega, rfl⟩
  case round =>
    obtain ⟨rfl, k, hk, rfl⟩ := hrel
    by_cases hlt : k < ps.length
    · have hc0 := hs2 k hlt
      go_wp2
      go_round
      case rel => exact ⟨rfl, k + 1, by omega, by go_num⟩
      case measure => simp [intOf]; omega
    · go_wp2
      go_ret
      exact ⟨rfl, b2⟩

set_option maxHeartbeats 2000000 in
theorem Check_e (a b c : ByteArray) (ha : a.size ≤ 68719476736) (hb : b.size ≤ 68719476736) (hc : c.size ≤ 68719476736) (w : World)
    (A B : ByteArray) (HN : NormSays a b c A B) (h1 : A.toList = a.toList) (h2 : B.toList = b.toList) (Ha : PartSays a true) (Hb : PartSays b true) (Hc : PartSays c false) :
    Calls Tryd.prog 14 #[.agg #[.string a, .string b, .string c]] w fun e w' => e = .returned (.int .i64 30) ∧ Below w.heap.size w w' := by
  go_enter Tryd.func14, Tryd.ntmps14
  have bx0 : Box w w.heap.size a b c (w.alloc (.cells #[.string a, .string b, .string c] 24)).drew := Box.drew ⟨U.At.new w _ _, (Below.refl _ w).alloc (Nat.le_refl _) _⟩
  have BX0 := Lib.hid bx0
  haveI : Nonempty (U.In (Box w w.heap.size a b c)) := ⟨⟨_, bx0⟩⟩
  have f0 := fun x : U.In (Box w w.heap.size a b c) => (Box.all x.h).1
  have f1 := fun x : U.In (Box w w.heap.size a b c) => (Box.all x.h).2.1
  have f2 := fun x : U.In (Box w w.heap.size a b c) => (Box.all x.h).2.2.1
  clear bx0
  go_wp2
  refine U.region_in (S := Box w w.heap.size a b c) (by kernel_rfl) (by kernel_rfl) BX0.out ?_
  repeat go_big_quiet_step (first
    | (go_at_call 18; exact U.call_in _ (HN.out _) (fun _ _ => Box.below))
    | (go_at_call_of 26 (Value.string a); exact U.call_in _ (Ha.out _) (fun _ _ => Box.below))
    | (go_at_call_of 26 (Value.string b); exact U.call_in _ (Hb.out _) (fun _ _ => Box.below))
    | (go_at_call_of 26 (Value.string c); exact U.call_in _ (Hc.out _) (fun _ _ => Box.below)))
  refine wpQuiet_nil ?_
  intro w1 bx
  clear f0 f1 f2 this
  have c1 := bx.all.2.1
  have BX := Lib.hid bx
  clear bx
  go_wp2_with fail
  refine (Split_one 46 b (by omega) _).mono ?_
  rintro e w2 ⟨g, rfl, hb2, hs2⟩
  obtain ⟨ps, hps⟩ : ∃ ps, ps = pieces 46 b.data.toList := ⟨_, rfl⟩
  rw [← hps] at hs2 ⊢
  have b2 := (BX.out.below hb2).low
  have hpl := pieces_len 46 b.data.toList
  have hcl := countByte_le 46 b
  rw [← hps] at hpl
  clear hps
  go_wp2_with fail
  go_loop [3, 34] (fun t i => t = .bool false ∧ ∃ k : Nat, k ≤ ps.length ∧ i = .int .i64 k) (fun t i => ps.length - (intOf i).toNat)
  case atStart => exact ⟨rfl, 0, by omega, rfl⟩
  case round =>
    obtain ⟨rfl, k, hk, rfl⟩ := hrel
    by_cases hlt : k < ps.length
    · have hc0 := hs2 k hlt
      go_wp2
      go_round
      case rel => exact ⟨rfl, k + 1, by omega, by go_num⟩
      case measure => simp [intOf]; omega
    · go_wp2
      go_ret
      exact ⟨rfl, b2⟩

set_option maxHeartbeats 2000000 in
theorem Check_f (a b c : ByteArray) (ha : a.size ≤ 68719476736) (hb : b.size ≤ 68719476736) (hc : c.size ≤ 68719476736) (w : World)
    (A B : ByteArray) (HN : NormSays a b c A B) (h1 : A.toList = a.toList) (h2 : B.toList = b.toList) (Ha : PartSays a true) (Hb : PartSays b true) (Hc : PartSays c true) (Hn : NodeSays a false) :
    Calls Tryd.prog 14 #[.agg #[.string a, .string b, .string c]] w fun e w' => e = .returned (.int .i64 30) ∧ Below w.heap.size w w' := by
  go_enter Tryd.func14, Tryd.ntmps14
  have bx0 : Box w w.heap.size a b c (w.alloc (.cells #[.string a, .string b, .string c] 24)).drew := Box.drew ⟨U.At.new w _ _, (Below.refl _ w).alloc (Nat.le_refl _) _⟩
  have BX0 := Lib.hid bx0
  haveI : Nonempty (U.In (Box w w.heap.size a b c)) := ⟨⟨_, bx0⟩⟩
  have f0 := fun x : U.In (Box w w.heap.size a b c) => (Box.all x.h).1
  have f1 := fun x : U.In (Box w w.heap.size a b c) => (Box.all x.h).2.1
  have f2 := fun x : U.In (Box w w.heap.size a b c) => (Box.all x.h).2.2.1
  clear bx0
  go_wp2
  refine U.region_in (S := Box w w.heap.size a b c) (by kernel_rfl) (by kernel_rfl) BX0.out ?_
  repeat go_big_quiet_step (first
    | (go_at_call 18; exact U.call_in _ (HN.out _) (fun _ _ => Box.below))
    | (go_at_call_of 26 (Value.string a); exact U.call_in _ (Ha.out _) (fun _ _ => Box.below))
    | (go_at_call_of 26 (Value.string b); exact U.call_in _ (Hb.out _) (fun _ _ => Box.below))
    | (go_at_call_of 26 (Value.string c); exact U.call_in _ (Hc.out _) (fun _ _ => Box.below))
    | (go_at_call 27; exact U.call_in _ (Hn.out _) (fun _ _ => Box.below)))
  refine wpQuiet_nil ?_
  intro w1 bx
  clear f0 f1 f2 this
  have c1 := bx.all.2.1
  have BX := Lib.hid bx
  clear bx
  go_wp2_with fail
  refine (Split_one 46 b (by omega) _).mono ?_
  rintro e w2 ⟨g, rfl, hb2, hs2⟩
  obtain ⟨ps, hps⟩ : ∃ ps, ps = pieces 46 b.data.toList := ⟨_, rfl⟩
  rw [← hps] at hs2 ⊢
  have b2 := (BX.out.below hb2).low
  have hpl := pieces_len 46 b.data.toList
  have hcl := countByte_le 46 b
  rw [← hps] at hpl
  clear hps
  go_wp2_with fail
  go_loop [3, 34] (fun t i => t = .bool false ∧ ∃ k : Nat, k ≤ ps.length ∧ i = .int .i64 k) (fun t i => ps.length - (intOf i).toNat)
  case atStart => exact ⟨rfl, 0, by omega, rfl⟩
  case round =>
    obtain ⟨rfl, k, hk, rfl⟩ := hrel
    by_cases hlt : k < ps.length
    · have hc0 := hs2 k hlt
      go_wp2
      go_round
      case rel => exact ⟨rfl, k + 1, by omega, by go_num⟩
      case measure => simp [intOf]; omega
    · go_wp2
      go_ret
      exact ⟨rfl, b2⟩

theorem all_step (ps : List (List UInt8)) (k : Nat) (h : k < ps.length) : (ps.drop k).all isLabel = (isLabel ps[k] && (ps.drop (k + 1)).all isLabel) := by
  rw [List.drop_eq_getElem_cons h]; rfl
theorem all_ends (ps : List (List UInt8)) (k : Nat) (h : ps.length ≤ k) : (ps.drop k).all isLabel = true := by
  rw [List.drop_eq_nil_of_le h]; rfl

set_option maxHeartbeats 2000000 in
theorem Check_g (a b c : ByteArray) (ha : a.size ≤ 68719476736) (hb : b.size ≤ 68719476736) (hc : c.size ≤ 68719476736) (w : World)
    (A B : ByteArray) (HN : NormSays a b c A B) (h1 : A.toList = a.toList) (h2 : B.toList = b.toList) (Ha : PartSays a true) (Hb : PartSays b true) (Hc : PartSays c true) (Hn : NodeSays a true) (R : Int) (HR : Hid (R = if (pieces 46 b.data.toList).all isLabel = true then 0 else 30)) :
    Calls Tryd.prog 14 #[.agg #[.string a, .string b, .string c]] w fun e w' => e = .returned (.int .i64 R) ∧ Below w.heap.size w w' := by
  go_enter Tryd.func14, Tryd.ntmps14
  have bx0 : Box w w.heap.size a b c (w.alloc (.cells #[.string a, .string b, .string c] 24)).drew := Box.drew ⟨U.At.new w _ _, (Below.refl _ w).alloc (Nat.le_refl _) _⟩
  have BX0 := Lib.hid bx0
  haveI : Nonempty (U.In (Box w w.heap.size a b c)) := ⟨⟨_, bx0⟩⟩
  have f0 := fun x : U.In (Box w w.heap.size a b c) => (Box.all x.h).1
  have f1 := fun x : U.In (Box w w.heap.size a b c) => (Box.all x.h).2.1
  have f2 := fun x : U.In (Box w w.heap.size a b c) => (Box.all x.h).2.2.1
  clear bx0
  go_wp2
  refine U.region_in (S := Box w w.heap.size a b c) (by kernel_rfl) (by kernel_rfl) BX0.out ?_
  repeat go_big_quiet_step (first
    | (go_at_call 18; exact U.call_in _ (HN.out _) (fun _ _ => Box.below))
    | (go_at_call_of 26 (Value.string a); exact U.call_in _ (Ha.out _) (fun _ _ => Box.below))
    | (go_at_call_of 26 (Value.string b); exact U.call_in _ (Hb.out _) (fun _ _ => Box.below))
    | (go_at_call_of 26 (Value.string c); exact U.call_in _ (Hc.out _) (fun _ _ => Box.below))
    | (go_at_call 27; exact U.call_in _ (Hn.out _) (fun _ _ => Box.below)))
  refine wpQuiet_nil ?_
  intro w1 bx
  clear f0 f1 f2 this
  have c1 := bx.all.2.1
  have BX := Lib.hid bx
  clear bx
  go_wp2_with fail
  refine (Split_one 46 b (by omega) _).mono ?_
  rintro e w2 ⟨g, rfl, hb2, hs2⟩
  obtain ⟨ps, hps⟩ : ∃ ps, ps = pieces 46 b.data.toList := ⟨_, rfl⟩
  rw [← hps] at hs2 HR ⊢
  have b2 := (BX.out.below hb2).low
  have hpl := pieces_len 46 b.data.toList
  have hcl := countByte_le 46 b
  rw [← hps] at hpl
  have HL := Lib.hid (pieces_le 46 b.data.toList)
  rw [← hps] at HL
  clear hps
  go_wp2_with fail
  go_loop [3, 34] (fun t i => ∃ k : Nat, ∃ ok : Bool, k ≤ ps.length ∧ i = .int .i64 k ∧ t = .bool ok ∧ Hid (ps.all isLabel = (ok && (ps.drop k).all isLabel))) (fun t i => ps.length - (intOf i).toNat)
  case atStart => exact ⟨0, true, by omega, rfl, rfl, Lib.hid rfl⟩
  case round =>
    obtain ⟨k, ok, hk, rfl, rfl, HA⟩ := hrel
    by_cases hlt : k < ps.length
    · have hc0 := hs2 k hlt
      have HD := Lib.hid (all_step ps k hlt)
      have hsz : (⟨(ps[k]).toArray⟩ : ByteArray).size ≤ 68719476736 := by
        have := HL.out _ (List.getElem_mem hlt)
        rw [← U.len_data]; exact Nat.le_trans this (by rw [U.len_data]; exact hb)
      have HZ := Lib.hid hsz
      clear hsz
      cases ok with
      | false =>
        go_wp2
        go_round
        case rel => exact ⟨k + 1, false, by omega, by go_num, rfl, Lib.hid (by rw [HA.out]; rfl)⟩
        case measure => simp [intOf]; omega
      | true =>
        go_wp2_with fail
        refine (isLabel_any _ HZ.out _).mono ?_
        rintro e w3 ⟨rfl, rfl⟩
        go_wp2
        go_round
        case rel => exact ⟨k + 1, isLabel ps[k], by omega, by go_num, rfl, Lib.hid (by rw [HA.out, HD.out, Bool.true_and])⟩
        case measure => simp [intOf]; omega
    · have hkk : ps.length ≤ k := by omega
      have HE := Lib.hid (all_ends ps k hkk)
      clear hkk
      cases ok with
      | false =>
        have HV := Lib.hid (show ps.all isLabel = false from by rw [HA.out]; rfl)
        go_wp2
        go_ret
        exact ⟨by rw [HR.out, HV.out]; rfl, b2⟩
      | true =>
        have HV := Lib.hid (show ps.all isLabel = true from by rw [HA.out, HE.out]; rfl)
        go_wp2
        go_ret
        exact ⟨by rw [HR.out, HV.out]; rfl, b2⟩

/-- A part's bytes. -/
def jOf (a b c : ByteArray) : J := ⟨a.data.toList, b.data.toList, c.data.toList⟩
theorem toList_mk (l : List UInt8) : (⟨l.toArray⟩ : ByteArray).toList = l := by rw [Lib.toList_data]
theorem partSays (s : ByteArray) (h : s.size ≤ 68719476736) (r : Bool) (hr : isPart s.data.toList = r) : PartSays s r := Lib.hid (fun w => by subst hr; exact isPart_any s h w)
theorem nodeSays (s : ByteArray) (h : s.size ≤ 68719476736) (r : Bool) (hr : isNode s.data.toList = r) : NodeSays s r := Lib.hid (fun w => by
  subst hr; exact (isNode_any s h w).mono (fun e w' ⟨h1, h2⟩ => ⟨h1, h2 ▸ Below.refl _ _⟩))

theorem Check_any (a b c : ByteArray) (ha : a.size ≤ 68719476736) (hb : b.size ≤ 68719476736) (hc : c.size ≤ 68719476736) (w : World) :
    Calls Tryd.prog 14 #[.agg #[.string a, .string b, .string c]] w fun e w' => e = .returned (.int .i64 (if ok (jOf a b c) = true then 0 else 30)) ∧ Below w.heap.size w w' := by
  have HN : NormSays a b c ⟨(a.data.toList.map low).toArray⟩ ⟨(trimPoint (b.data.toList.map low)).toArray⟩ := Lib.hid (fun w => Norm_any a b c ha hb w)
  have e1 : (⟨(a.data.toList.map low).toArray⟩ : ByteArray).toList = a.data.toList.map low := toList_mk _
  have e2 : (⟨(trimPoint (b.data.toList.map low)).toArray⟩ : ByteArray).toList = trimPoint (b.data.toList.map low) := toList_mk _
  have hn : (norm (jOf a b c) == jOf a b c) = (decide (a.data.toList.map low = a.data.toList) && decide (trimPoint (b.data.toList.map low) = b.data.toList)) := by
    rw [Bool.eq_iff_iff]
    simp only [beq_iff_eq, Bool.and_eq_true, decide_eq_true_eq, norm, jOf, J.mk.injEq, and_true]
  by_cases h1 : a.data.toList.map low = a.data.toList
  · by_cases h2 : trimPoint (b.data.toList.map low) = b.data.toList
    · have hn' : (norm (jOf a b c) == jOf a b c) = true := by rw [hn, decide_eq_true h1, decide_eq_true h2]; rfl
      rw [← Lib.toList_data a] at h1
      rw [← Lib.toList_data b] at h2
      have g1 : (⟨(a.data.toList.map low).toArray⟩ : ByteArray).toList = a.toList := by rw [e1, ← Lib.toList_data a, h1]
      have g2 : (⟨(trimPoint (b.data.toList.map low)).toArray⟩ : ByteArray).toList = b.toList := by rw [e2, ← Lib.toList_data b, h2]
      cases pa : isPart a.data.toList with
      | false =>
        rw [show ok (jOf a b c) = false from by unfold ok; rw [hn']; show (true && (isPart a.data.toList && _)) = false; rw [pa]; rfl, if_neg (by decide)]
        exact Check_c a b c ha hb hc w _ _ HN g1 g2 (partSays a ha _ pa)
      | true =>
        cases pb : isPart b.data.toList with
        | false =>
          rw [show ok (jOf a b c) = false from by unfold ok; rw [hn']; show (true && (isPart a.data.toList && (isPart b.data.toList && _))) = false; rw [pa, pb]; rfl, if_neg (by decide)]
          exact Check_d a b c ha hb hc w _ _ HN g1 g2 (partSays a ha _ pa) (partSays b hb _ pb)
        | true =>
          cases pc : isPart c.data.toList with
          | false =>
            rw [show ok (jOf a b c) = false from by unfold ok; rw [hn']; show (true && (isPart a.data.toList && (isPart b.data.toList && (isPart c.data.toList && _)))) = false; rw [pa, pb, pc]; rfl, if_neg (by decide)]
            exact Check_e a b c ha hb hc w _ _ HN g1 g2 (partSays a ha _ pa) (partSays b hb _ pb) (partSays c hc _ pc)
          | true =>
            cases pn : isNode a.data.toList with
            | false =>
              rw [show ok (jOf a b c) = false from by unfold ok; rw [hn']; show (true && (isPart a.data.toList && (isPart b.data.toList && (isPart c.data.toList && (isNode a.data.toList && _))))) = false; rw [pa, pb, pc, pn]; rfl, if_neg (by decide)]
              exact Check_f a b c ha hb hc w _ _ HN g1 g2 (partSays a ha _ pa) (partSays b hb _ pb) (partSays c hc _ pc) (nodeSays a ha _ pn)
            | true =>
              rw [show ok (jOf a b c) = (pieces 46 b.data.toList).all isLabel from by unfold ok; rw [hn']; show (true && (isPart a.data.toList && (isPart b.data.toList && (isPart c.data.toList && (isNode a.data.toList && _))))) = _; rw [pa, pb, pc, pn]; rfl]
              exact Check_g a b c ha hb hc w _ _ HN g1 g2 (partSays a ha _ pa) (partSays b hb _ pb) (partSays c hc _ pc) (nodeSays a ha _ pn) _ (Lib.hid rfl)
    · rw [show ok (jOf a b c) = false from by unfold ok; rw [hn, decide_eq_false h2, Bool.and_false]; rfl, if_neg (by decide)]
      have g1 : (⟨(a.data.toList.map low).toArray⟩ : ByteArray).toList = a.toList := by rw [e1, Lib.toList_data a, h1]
      exact Check_b a b c ha hb hc w _ _ HN g1 (by rw [e2, Lib.toList_data b]; exact h2)
  · rw [show ok (jOf a b c) = false from by unfold ok; rw [hn, decide_eq_false h1, Bool.false_and]; rfl, if_neg (by decide)]
    exact Check_a a b c ha hb hc w _ _ HN (by rw [e1, Lib.toList_data a]; exact h1)
end Go.Proofs.YthifpbaebbodoaaDoor.Jid

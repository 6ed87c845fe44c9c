/- wharflaw23.SubsRows. (Printed by gen_subi.py.) -/
import Derived.Test.YtofdiilfedjhkaaDoorSubH
set_option linter.unusedVariables false
set_option linter.unusedSimpArgs false
namespace Go.Proofs.YtofdiilfedjhkaaDoor.Sub
open Go.RowKit U
theorem Idle_plain (n : ByteArray) (st idle : Int) (w : World) : Calls Tryd.prog 12 #[CV n false false false false false false st idle] w fun e w' => e = .returned (.bool true) ∧ Below w.heap.size w w' := Idle_any n false false false false false false st idle w
set_option maxHeartbeats 2000000 in
theorem Rows_11 (n : ByteArray) (pend await ask onl : Bool) (st idle : Int) (hn : n.size ≤ 8000) (w : World) : Calls Tryd.prog 4 #[CV n true pend await true ask onl st idle] w fun e w' => e = .returned (.bool true) ∧ Below w.heap.size w w' := by
  have HL := Lib.hid live_any
  have HR : Hid (∀ w, Calls Tryd.prog 11 #[CV n true pend await true ask onl st idle] w fun e w' => e = .returned (.string ⟨#[98, 111, 116, 104]⟩) ∧ Below w.heap.size w w') := Lib.hid (fun w => Row_any n true pend await true ask onl st idle w)
  have HP := Lib.hid (Idle_plain n st idle)
  obtain ⟨X, hX⟩ : ∃ X, X = (!true && !pend && !await && !true && !ask && !onl) := ⟨_, rfl⟩
  have HI : Hid (∀ w, Calls Tryd.prog 12 #[CV n true pend await true ask onl st idle] w fun e w' => e = .returned (.bool X) ∧ Below w.heap.size w w') := Lib.hid (fun w => by rw [hX]; exact Idle_any n true pend await true ask onl st idle w)
  have hX2 : X = false := by rw [hX]; simp
  subst hX2
  clear hX
  have hA := At.new w 23 (CC n true pend await true ask onl st idle)
  have HA : Hid (At w.heap.size 23 (CC n true pend await true ask onl st idle) (w.alloc (.cells (CC n true pend await true ask onl st idle) 23)) ∧ Below w.heap.size w (w.alloc (.cells (CC n true pend await true ask onl st idle) 23))) := Lib.hid ⟨hA, (Below.refl _ _).alloc (Nat.le_refl _) _⟩
  clear hA
  go_enter Tryd.func4, Tryd.ntmps4
  go_wp2_with fail
  refine (HR.out _).mono ?_
  rintro e w1 ⟨rfl, hb1⟩
  have H1 : Hid (At w.heap.size 23 (CC n true pend await true ask onl st idle) w1 ∧ Below w.heap.size w w1) := Lib.hid ⟨HA.out.1.below hb1, HA.out.2.trans (hb1.mono HA.out.2.size)⟩
  clear hb1
  have z0 := H1.out.1.cell 0 _ rfl
  have z1 := H1.out.1.cell 1 _ rfl
  have z2 := H1.out.1.cell 2 _ rfl
  have z3 := H1.out.1.cell 3 _ rfl
  have z4 := H1.out.1.cell 4 _ rfl
  have z5 := H1.out.1.cell 5 _ rfl
  have z6 := H1.out.1.cell 6 _ rfl
  have z7 := H1.out.1.cell 7 _ rfl
  have z8 := H1.out.1.cell 8 _ rfl
  go_wp2_with fail
  clear z0 z1 z2 z3 z4 z5 z6 z7 z8
  refine (HP.out _).mono ?_
  rintro e w2 ⟨rfl, hb2⟩
  have H2 : Hid (At w.heap.size 23 (CC n true pend await true ask onl st idle) w2 ∧ Below w.heap.size w w2) := Lib.hid ⟨H1.out.1.below hb2, H1.out.2.trans (hb2.mono H1.out.2.size)⟩
  clear hb2
  have z0 := H2.out.1.cell 0 _ rfl
  have z1 := H2.out.1.cell 1 _ rfl
  have z2 := H2.out.1.cell 2 _ rfl
  have z3 := H2.out.1.cell 3 _ rfl
  have z4 := H2.out.1.cell 4 _ rfl
  have z5 := H2.out.1.cell 5 _ rfl
  have z6 := H2.out.1.cell 6 _ rfl
  have z7 := H2.out.1.cell 7 _ rfl
  have z8 := H2.out.1.cell 8 _ rfl
  go_wp2_with fail
  clear z0 z1 z2 z3 z4 z5 z6 z7 z8
  refine (HI.out _).mono ?_
  rintro e w3 ⟨rfl, hb3⟩
  have H3 := Lib.hid (H2.out.2.trans (hb3.mono H2.out.2.size))
  clear hb3
  go_wp2_with fail
  refine (HL.out _).mono ?_
  rintro e w4 ⟨rfl, hb4⟩
  have H4 := Lib.hid (H3.out.trans (hb4.mono H3.out.size))
  clear hb4
  go_wp2
  go_ret
  exact ⟨rfl, H4.out⟩
set_option maxHeartbeats 2000000 in
theorem Rows_10 (n : ByteArray) (pend await ask onl : Bool) (st idle : Int) (hn : n.size ≤ 8000) (w : World) : Calls Tryd.prog 4 #[CV n true pend await false ask onl st idle] w fun e w' => e = .returned (.bool true) ∧ Below w.heap.size w w' := by
  have HL := Lib.hid live_any
  have HR : Hid (∀ w, Calls Tryd.prog 11 #[CV n true pend await false ask onl st idle] w fun e w' => e = .returned (.string ⟨#[116, 111]⟩) ∧ Below w.heap.size w w') := Lib.hid (fun w => Row_any n true pend await false ask onl st idle w)
  have HP := Lib.hid (Idle_plain n st idle)
  obtain ⟨X, hX⟩ : ∃ X, X = (!true && !pend && !await && !false && !ask && !onl) := ⟨_, rfl⟩
  have HI : Hid (∀ w, Calls Tryd.prog 12 #[CV n true pend await false ask onl st idle] w fun e w' => e = .returned (.bool X) ∧ Below w.heap.size w w') := Lib.hid (fun w => by rw [hX]; exact Idle_any n true pend await false ask onl st idle w)
  have hX2 : X = false := by rw [hX]; simp
  subst hX2
  clear hX
  have hA := At.new w 23 (CC n true pend await false ask onl st idle)
  have HA : Hid (At w.heap.size 23 (CC n true pend await false ask onl st idle) (w.alloc (.cells (CC n true pend await false ask onl st idle) 23)) ∧ Below w.heap.size w (w.alloc (.cells (CC n true pend await false ask onl st idle) 23))) := Lib.hid ⟨hA, (Below.refl _ _).alloc (Nat.le_refl _) _⟩
  clear hA
  go_enter Tryd.func4, Tryd.ntmps4
  go_wp2_with fail
  refine (HR.out _).mono ?_
  rintro e w1 ⟨rfl, hb1⟩
  have H1 : Hid (At w.heap.size 23 (CC n true pend await false ask onl st idle) w1 ∧ Below w.heap.size w w1) := Lib.hid ⟨HA.out.1.below hb1, HA.out.2.trans (hb1.mono HA.out.2.size)⟩
  clear hb1
  have z0 := H1.out.1.cell 0 _ rfl
  have z1 := H1.out.1.cell 1 _ rfl
  have z2 := H1.out.1.cell 2 _ rfl
  have z3 := H1.out.1.cell 3 _ rfl
  have z4 := H1.out.1.cell 4 _ rfl
  have z5 := H1.out.1.cell 5 _ rfl
  have z6 := H1.out.1.cell 6 _ rfl
  have z7 := H1.out.1.cell 7 _ rfl
  have z8 := H1.out.1.cell 8 _ rfl
  go_wp2_with fail
  clear z0 z1 z2 z3 z4 z5 z6 z7 z8
  refine (HP.out _).mono ?_
  rintro e w2 ⟨rfl, hb2⟩
  have H2 : Hid (At w.heap.size 23 (CC n true pend await false ask onl st idle) w2 ∧ Below w.heap.size w w2) := Lib.hid ⟨H1.out.1.below hb2, H1.out.2.trans (hb2.mono H1.out.2.size)⟩
  clear hb2
  have z0 := H2.out.1.cell 0 _ rfl
  have z1 := H2.out.1.cell 1 _ rfl
  have z2 := H2.out.1.cell 2 _ rfl
  have z3 := H2.out.1.cell 3 _ rfl
  have z4 := H2.out.1.cell 4 _ rfl
  have z5 := H2.out.1.cell 5 _ rfl
  have z6 := H2.out.1.cell 6 _ rfl
  have z7 := H2.out.1.cell 7 _ rfl
  have z8 := H2.out.1.cell 8 _ rfl
  go_wp2_with fail
  clear z0 z1 z2 z3 z4 z5 z6 z7 z8
  refine (HI.out _).mono ?_
  rintro e w3 ⟨rfl, hb3⟩
  have H3 := Lib.hid (H2.out.2.trans (hb3.mono H2.out.2.size))
  clear hb3
  go_wp2_with fail
  refine (HL.out _).mono ?_
  rintro e w4 ⟨rfl, hb4⟩
  have H4 := Lib.hid (H3.out.trans (hb4.mono H3.out.size))
  clear hb4
  go_wp2
  go_ret
  exact ⟨rfl, H4.out⟩
set_option maxHeartbeats 2000000 in
theorem Rows_01 (n : ByteArray) (pend await ask onl : Bool) (st idle : Int) (hn : n.size ≤ 8000) (w : World) : Calls Tryd.prog 4 #[CV n false pend await true ask onl st idle] w fun e w' => e = .returned (.bool true) ∧ Below w.heap.size w w' := by
  have HL := Lib.hid live_any
  have HR : Hid (∀ w, Calls Tryd.prog 11 #[CV n false pend await true ask onl st idle] w fun e w' => e = .returned (.string ⟨#[102, 114, 111, 109]⟩) ∧ Below w.heap.size w w') := Lib.hid (fun w => Row_any n false pend await true ask onl st idle w)
  have HP := Lib.hid (Idle_plain n st idle)
  obtain ⟨X, hX⟩ : ∃ X, X = (!false && !pend && !await && !true && !ask && !onl) := ⟨_, rfl⟩
  have HI : Hid (∀ w, Calls Tryd.prog 12 #[CV n false pend await true ask onl st idle] w fun e w' => e = .returned (.bool X) ∧ Below w.heap.size w w') := Lib.hid (fun w => by rw [hX]; exact Idle_any n false pend await true ask onl st idle w)
  have hX2 : X = false := by rw [hX]; simp
  subst hX2
  clear hX
  have hA := At.new w 23 (CC n false pend await true ask onl st idle)
  have HA : Hid (At w.heap.size 23 (CC n false pend await true ask onl st idle) (w.alloc (.cells (CC n false pend await true ask onl st idle) 23)) ∧ Below w.heap.size w (w.alloc (.cells (CC n false pend await true ask onl st idle) 23))) := Lib.hid ⟨hA, (Below.refl _ _).alloc (Nat.le_refl _) _⟩
  clear hA
  go_enter Tryd.func4, Tryd.ntmps4
  go_wp2_with fail
  refine (HR.out _).mono ?_
  rintro e w1 ⟨rfl, hb1⟩
  have H1 : Hid (At w.heap.size 23 (CC n false pend await true ask onl st idle) w1 ∧ Below w.heap.size w w1) := Lib.hid ⟨HA.out.1.below hb1, HA.out.2.trans (hb1.mono HA.out.2.size)⟩
  clear hb1
  have z0 := H1.out.1.cell 0 _ rfl
  have z1 := H1.out.1.cell 1 _ rfl
  have z2 := H1.out.1.cell 2 _ rfl
  have z3 := H1.out.1.cell 3 _ rfl
  have z4 := H1.out.1.cell 4 _ rfl
  have z5 := H1.out.1.cell 5 _ rfl
  have z6 := H1.out.1.cell 6 _ rfl
  have z7 := H1.out.1.cell 7 _ rfl
  have z8 := H1.out.1.cell 8 _ rfl
  go_wp2_with fail
  clear z0 z1 z2 z3 z4 z5 z6 z7 z8
  refine (HP.out _).mono ?_
  rintro e w2 ⟨rfl, hb2⟩
  have H2 : Hid (At w.heap.size 23 (CC n false pend await true ask onl st idle) w2 ∧ Below w.heap.size w w2) := Lib.hid ⟨H1.out.1.below hb2, H1.out.2.trans (hb2.mono H1.out.2.size)⟩
  clear hb2
  have z0 := H2.out.1.cell 0 _ rfl
  have z1 := H2.out.1.cell 1 _ rfl
  have z2 := H2.out.1.cell 2 _ rfl
  have z3 := H2.out.1.cell 3 _ rfl
  have z4 := H2.out.1.cell 4 _ rfl
  have z5 := H2.out.1.cell 5 _ rfl
  have z6 := H2.out.1.cell 6 _ rfl
  have z7 := H2.out.1.cell 7 _ rfl
  have z8 := H2.out.1.cell 8 _ rfl
  go_wp2_with fail
  clear z0 z1 z2 z3 z4 z5 z6 z7 z8
  refine (HI.out _).mono ?_
  rintro e w3 ⟨rfl, hb3⟩
  have H3 := Lib.hid (H2.out.2.trans (hb3.mono H2.out.2.size))
  clear hb3
  go_wp2_with fail
  refine (HL.out _).mono ?_
  rintro e w4 ⟨rfl, hb4⟩
  have H4 := Lib.hid (H3.out.trans (hb4.mono H3.out.size))
  clear hb4
  go_wp2
  go_ret
  exact ⟨rfl, H4.out⟩
set_option maxHeartbeats 2000000 in
theorem Rows_00 (n : ByteArray) (pend await ask onl : Bool) (st idle : Int) (hn : n.size ≤ 8000) (w : World) : Calls Tryd.prog 4 #[CV n false pend await false ask onl st idle] w fun e w' => e = .returned (.bool true) ∧ Below w.heap.size w w' := by
  have HL := Lib.hid live_any
  have HR : Hid (∀ w, Calls Tryd.prog 11 #[CV n false pend await false ask onl st idle] w fun e w' => e = .returned (.string ⟨#[110, 111, 110, 101]⟩) ∧ Below w.heap.size w w') := Lib.hid (fun w => Row_any n false pend await false ask onl st idle w)
  have HP := Lib.hid (Idle_plain n st idle)
  obtain ⟨X, hX⟩ : ∃ X, X = (!false && !pend && !await && !false && !ask && !onl) := ⟨_, rfl⟩
  have HI : Hid (∀ w, Calls Tryd.prog 12 #[CV n false pend await false ask onl st idle] w fun e w' => e = .returned (.bool X) ∧ Below w.heap.size w w') := Lib.hid (fun w => by rw [hX]; exact Idle_any n false pend await false ask onl st idle w)

  clear hX

  have hA := At.new w 23 (CC n false pend await false ask onl st idle)
  have HA : Hid (At w.heap.size 23 (CC n false pend await false ask onl st idle) (w.alloc (.cells (CC n false pend await false ask onl st idle) 23)) ∧ Below w.heap.size w (w.alloc (.cells (CC n false pend await false ask onl st idle) 23))) := Lib.hid ⟨hA, (Below.refl _ _).alloc (Nat.le_refl _) _⟩
  clear hA
  go_enter Tryd.func4, Tryd.ntmps4
  go_wp2_with fail
  refine (HR.out _).mono ?_
  rintro e w1 ⟨rfl, hb1⟩
  have H1 : Hid (At w.heap.size 23 (CC n false pend await false ask onl st idle) w1 ∧ Below w.heap.size w w1) := Lib.hid ⟨HA.out.1.below hb1, HA.out.2.trans (hb1.mono HA.out.2.size)⟩
  clear hb1
  have z0 := H1.out.1.cell 0 _ rfl
  have z1 := H1.out.1.cell 1 _ rfl
  have z2 := H1.out.1.cell 2 _ rfl
  have z3 := H1.out.1.cell 3 _ rfl
  have z4 := H1.out.1.cell 4 _ rfl
  have z5 := H1.out.1.cell 5 _ rfl
  have z6 := H1.out.1.cell 6 _ rfl
  have z7 := H1.out.1.cell 7 _ rfl
  have z8 := H1.out.1.cell 8 _ rfl
  go_wp2_with fail
  clear z0 z1 z2 z3 z4 z5 z6 z7 z8
  refine (HP.out _).mono ?_
  rintro e w2 ⟨rfl, hb2⟩
  have H2 : Hid (At w.heap.size 23 (CC n false pend await false ask onl st idle) w2 ∧ Below w.heap.size w w2) := Lib.hid ⟨H1.out.1.below hb2, H1.out.2.trans (hb2.mono H1.out.2.size)⟩
  clear hb2
  have z0 := H2.out.1.cell 0 _ rfl
  have z1 := H2.out.1.cell 1 _ rfl
  have z2 := H2.out.1.cell 2 _ rfl
  have z3 := H2.out.1.cell 3 _ rfl
  have z4 := H2.out.1.cell 4 _ rfl
  have z5 := H2.out.1.cell 5 _ rfl
  have z6 := H2.out.1.cell 6 _ rfl
  have z7 := H2.out.1.cell 7 _ rfl
  have z8 := H2.out.1.cell 8 _ rfl
  go_wp2_with fail
  clear z0 z1 z2 z3 z4 z5 z6 z7 z8
  refine (HI.out _).mono ?_
  rintro e w3 ⟨rfl, hb3⟩
  have H3 := Lib.hid (H2.out.2.trans (hb3.mono H2.out.2.size))
  clear hb3
  cases X with
  | true =>
    go_wp2_with fail
    refine (HL.out _).mono ?_
    rintro e w4 ⟨rfl, hb4⟩
    have H4 := Lib.hid (H3.out.trans (hb4.mono H3.out.size))
    clear hb4
    go_wp2
    go_ret
    exact ⟨rfl, H4.out⟩
  | false =>
    go_wp2_with fail
    refine (HL.out _).mono ?_
    rintro e w4 ⟨rfl, hb4⟩
    have H4 := Lib.hid (H3.out.trans (hb4.mono H3.out.size))
    clear hb4
    go_wp2
    go_ret
    exact ⟨rfl, H4.out⟩
set_option maxHeartbeats 1000000 in
theorem SubsRows_walk (n : ByteArray) (tt pend await from_ ask onl : Bool) (st idle : Int) (w : World) : Calls Tryd.prog 4 #[CV n tt pend await from_ ask onl st idle] w fun e w' => e = .returned (.bool true) ∧ Below w.heap.size w w' := by
  by_cases hn : n.size ≤ 8000
  · cases tt <;> cases from_
    · exact Rows_00 n pend await ask onl st idle hn w
    · exact Rows_01 n pend await ask onl st idle hn w
    · exact Rows_10 n pend await ask onl st idle hn w
    · exact Rows_11 n pend await ask onl st idle hn w
  · have HL := Lib.hid live_any
    go_enter Tryd.func4, Tryd.ntmps4
    go_wp2_with fail
    refine (HL.out _).mono ?_
    rintro e w1 ⟨rfl, hb1⟩
    have H1 := Lib.hid (((Below.refl w.heap.size w).alloc (Nat.le_refl _) (.cells (CC n tt pend await from_ ask onl st idle) 23)).trans (hb1.mono (by simp)))
    clear hb1
    go_wp2
    go_ret
    exact ⟨rfl, H1.out⟩
end Go.Proofs.YtofdiilfedjhkaaDoor.Sub

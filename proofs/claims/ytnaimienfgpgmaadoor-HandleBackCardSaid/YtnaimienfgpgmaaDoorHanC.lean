/- wharflaw04.HandleChecks: its walk. -/
import Derived.Test.YtnaimienfgpgmaaDoorZ0
import Derived.Test.YtnaimienfgpgmaaDoorZ1
import Derived.Test.YtnaimienfgpgmaaDoorZ2
import Derived.Test.YtnaimienfgpgmaaDoorZ3
set_option linter.unusedVariables false
set_option linter.unusedSimpArgs false
namespace Go.Proofs.YtnaimienfgpgmaaDoor.HanL
open Go.RowKit F Han HanP

abbrev SayI (f : Nat) (args : Array Value) (n : Int) : Prop := Hid (∀ w, Calls Tryd.prog f args w fun e w' => e = .returned (.int .i64 n) ∧ Below w.heap.size w w')
abbrev SayB (f : Nat) (args : Array Value) (b : Bool) : Prop := Hid (∀ w, Calls Tryd.prog f args w fun e w' => e = .returned (.bool b) ∧ Below w.heap.size w w')
abbrev SayS (f : Nat) (args : Array Value) (s : ByteArray) : Prop := Hid (∀ w, Calls Tryd.prog f args w fun e w' => e = .returned (.string s) ∧ Below w.heap.size w w')
theorem numB_at (n : Int) (w : World) : Calls Tryd.prog 9 #[.int .i64 n] w fun e w' => e = .returned (.int .i64 n) ∧ Below w.heap.size w w' :=
  (num_at n w).mono fun e w' ⟨h1, h2⟩ => ⟨h1, h2 ▸ Below.refl _ _⟩
theorem HandleChecks_big (s t : ByteArray) (hb : (3000 : Int) < (s.size : Int) + (t.size : Int)) (hs : s.size ≤ 140737488351232) (ht : t.size ≤ 140737488351232) (w : World) :
    Calls Tryd.prog 3 #[.string s, .string t] w fun e w' => e = .returned (.bool true) ∧ Below w.heap.size w w' := by
  go_enter Tryd.func3, Tryd.ntmps3
  go_wp2_with fail
  refine (hlive _).mono ?_
  rintro e w1 ⟨rfl, hb1⟩
  go_wp2
  go_ret
  exact ⟨rfl, hb1⟩
set_option maxHeartbeats 2000000 in
theorem HandleChecks_yes (s t : ByteArray) (hb : ¬ (3000 : Int) < (s.size : Int) + (t.size : Int)) (HC : SayI 10 #[.string s] 0) (HI : SayB 11 #[.string s] true)
    (HN : SayS 12 #[.string s] (normB s)) (HR : SayS 13 #[.string s] (normB s)) (HT : SayS 13 #[.string t] (normB t))
    (HS : SayB 14 #[.string s, .string t] ((normB s).toList == (normB t).toList)) (w : World) :
    Calls Tryd.prog 3 #[.string s, .string t] w fun e w' => e = .returned (.bool true) ∧ Below w.heap.size w w' := by
  have K0 := Lib.hid (Below.refl w.heap.size w)
  obtain ⟨A, hA⟩ : ∃ A, A = normB s := ⟨_, rfl⟩
  obtain ⟨B, hB⟩ : ∃ B, B = normB t := ⟨_, rfl⟩
  rw [← hA] at HN HR HS
  rw [← hB] at HT HS
  clear hA hB
  go_enter Tryd.func3, Tryd.ntmps3
  go_wp2_with fail
  refine (HC.out _).mono ?_
  rintro e w1 ⟨rfl, hb⟩
  have K1 := Lib.hid (U.below_then K0.out hb)
  clear hb
  go_wp2_with fail
  refine (numB_at 0 _).mono ?_
  rintro e w2 ⟨rfl, hb⟩
  have K2 := Lib.hid (U.below_then K1.out hb)
  clear hb
  go_wp2_with fail
  refine (HI.out _).mono ?_
  rintro e w3 ⟨rfl, hb⟩
  have K3 := Lib.hid (U.below_then K2.out hb)
  clear hb
  go_wp2_with fail
  refine (HC.out _).mono ?_
  rintro e w4 ⟨rfl, hb⟩
  have K4 := Lib.hid (U.below_then K3.out hb)
  clear hb
  go_wp2_with fail
  refine (numB_at 0 _).mono ?_
  rintro e w5 ⟨rfl, hb⟩
  have K5 := Lib.hid (U.below_then K4.out hb)
  clear hb
  go_wp2_with fail
  refine (HN.out _).mono ?_
  rintro e w6 ⟨rfl, hb⟩
  have K6 := Lib.hid (U.below_then K5.out hb)
  clear hb
  go_wp2_with fail
  refine (HR.out _).mono ?_
  rintro e w7 ⟨rfl, hb⟩
  have K7 := Lib.hid (U.below_then K6.out hb)
  clear hb
  go_wp2_with fail
  refine (HS.out _).mono ?_
  rintro e w8 ⟨rfl, hb⟩
  have K8 := Lib.hid (U.below_then K7.out hb)
  clear hb
  go_wp2_with fail
  refine (HR.out _).mono ?_
  rintro e w9 ⟨rfl, hb⟩
  have K9 := Lib.hid (U.below_then K8.out hb)
  clear hb
  go_wp2_with fail
  refine (HT.out _).mono ?_
  rintro e w10 ⟨rfl, hb⟩
  have K10 := Lib.hid (U.below_then K9.out hb)
  clear hb
  go_wp2_with fail
  refine (hlive _).mono ?_
  rintro e w11 ⟨rfl, hb⟩
  have K11 := Lib.hid (U.below_then K10.out hb)
  clear hb
  go_wp2
  go_ret
  exact ⟨rfl, K11.out⟩
set_option maxHeartbeats 2000000 in
theorem HandleChecks_no (s t : ByteArray) (hb : ¬ (3000 : Int) < (s.size : Int) + (t.size : Int)) (HC : SayI 10 #[.string s] 40) (HI : SayB 11 #[.string s] false)
    (HN : SayS 12 #[.string s] (normB s)) (HR : SayS 13 #[.string s] (normB s)) (HT : SayS 13 #[.string t] (normB t))
    (HS : SayB 14 #[.string s, .string t] ((normB s).toList == (normB t).toList)) (w : World) :
    Calls Tryd.prog 3 #[.string s, .string t] w fun e w' => e = .returned (.bool true) ∧ Below w.heap.size w w' := by
  have K0 := Lib.hid (Below.refl w.heap.size w)
  obtain ⟨A, hA⟩ : ∃ A, A = normB s := ⟨_, rfl⟩
  obtain ⟨B, hB⟩ : ∃ B, B = normB t := ⟨_, rfl⟩
  rw [← hA] at HN HR HS
  rw [← hB] at HT HS
  clear hA hB
  go_enter Tryd.func3, Tryd.ntmps3
  go_wp2_with fail
  refine (HC.out _).mono ?_
  rintro e w1 ⟨rfl, hb⟩
  have K1 := Lib.hid (U.below_then K0.out hb)
  clear hb
  go_wp2_with fail
  refine (numB_at 40 _).mono ?_
  rintro e w2 ⟨rfl, hb⟩
  have K2 := Lib.hid (U.below_then K1.out hb)
  clear hb
  go_wp2_with fail
  refine (HI.out _).mono ?_
  rintro e w3 ⟨rfl, hb⟩
  have K3 := Lib.hid (U.below_then K2.out hb)
  clear hb
  go_wp2_with fail
  refine (HC.out _).mono ?_
  rintro e w4 ⟨rfl, hb⟩
  have K4 := Lib.hid (U.below_then K3.out hb)
  clear hb
  go_wp2_with fail
  refine (numB_at 40 _).mono ?_
  rintro e w5 ⟨rfl, hb⟩
  have K5 := Lib.hid (U.below_then K4.out hb)
  clear hb
  go_wp2_with fail
  refine (HC.out _).mono ?_
  rintro e w6 ⟨rfl, hb⟩
  have K6 := Lib.hid (U.below_then K5.out hb)
  clear hb
  go_wp2_with fail
  refine (numB_at 40 _).mono ?_
  rintro e w7 ⟨rfl, hb⟩
  have K7 := Lib.hid (U.below_then K6.out hb)
  clear hb
  go_wp2_with fail
  refine (HN.out _).mono ?_
  rintro e w8 ⟨rfl, hb⟩
  have K8 := Lib.hid (U.below_then K7.out hb)
  clear hb
  go_wp2_with fail
  refine (HR.out _).mono ?_
  rintro e w9 ⟨rfl, hb⟩
  have K9 := Lib.hid (U.below_then K8.out hb)
  clear hb
  go_wp2_with fail
  refine (HS.out _).mono ?_
  rintro e w10 ⟨rfl, hb⟩
  have K10 := Lib.hid (U.below_then K9.out hb)
  clear hb
  go_wp2_with fail
  refine (HR.out _).mono ?_
  rintro e w11 ⟨rfl, hb⟩
  have K11 := Lib.hid (U.below_then K10.out hb)
  clear hb
  go_wp2_with fail
  refine (HT.out _).mono ?_
  rintro e w12 ⟨rfl, hb⟩
  have K12 := Lib.hid (U.below_then K11.out hb)
  clear hb
  go_wp2_with fail
  refine (hlive _).mono ?_
  rintro e w13 ⟨rfl, hb⟩
  have K13 := Lib.hid (U.below_then K12.out hb)
  clear hb
  go_wp2
  go_ret
  exact ⟨rfl, K13.out⟩
theorem HandleChecks_walk (s t : ByteArray) (hs : s.size ≤ 140737488351232) (ht : t.size ≤ 140737488351232) (w : World) :
    Calls Tryd.prog 3 #[.string s, .string t] w fun e w' => e = .returned (.bool true) ∧ Below w.heap.size w w' := by
  by_cases hb : (3000 : Int) < (s.size : Int) + (t.size : Int)
  · exact HandleChecks_big s t hb hs ht w
  · have a1 : s.size ≤ hm := by unfold hm; omega
    have a2 : t.size ≤ hm := by unfold hm; omega
    have HN : SayS 12 #[.string s] (normB s) := Lib.hid fun w => handle_Norm.calls s _ w (by unfold handle_Norm.f; rw [if_pos (hm_hl a1)])
    have HR : SayS 13 #[.string s] (normB s) := Lib.hid fun w => wharfref04_Norm.calls s _ w (by unfold wharfref04_Norm.f; rw [if_pos a1])
    have HT : SayS 13 #[.string t] (normB t) := Lib.hid fun w => wharfref04_Norm.calls t _ w (by unfold wharfref04_Norm.f; rw [if_pos a2])
    have HS : SayB 14 #[.string s, .string t] ((normB s).toList == (normB t).toList) := Lib.hid fun w => handle_Same.calls s t _ w (by
      unfold handle_Same.f; rw [if_pos ⟨hm_hl a1, hm_hl a2⟩, Lib.toList_data, Lib.toList_data]; rfl)
    cases hk : isName s.data.toList with
    | true => exact HandleChecks_yes s t hb (Lib.hid fun w => handle_Check.calls s _ w (by unfold handle_Check.f; rw [if_pos a1, hk]; rfl)) (Lib.hid fun w => wharfref04_Is.calls s _ w (by unfold wharfref04_Is.f; rw [if_pos a1, hk])) HN HR HT HS w
    | false => exact HandleChecks_no s t hb (Lib.hid fun w => handle_Check.calls s _ w (by unfold handle_Check.f; rw [if_pos a1, hk]; rfl)) (Lib.hid fun w => wharfref04_Is.calls s _ w (by unfold wharfref04_Is.f; rw [if_pos a1, hk])) HN HR HT HS w
end Go.Proofs.YtnaimienfgpgmaaDoor.HanL

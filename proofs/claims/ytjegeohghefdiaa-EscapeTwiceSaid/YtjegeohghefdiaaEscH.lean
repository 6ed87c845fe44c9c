/- The law EscapeTwice, walked: every text escaped twice and unescaped twice comes back. -/
import Derived.Test.YtjegeohghefdiaaEscM
set_option linter.unusedVariables false
namespace Go.Proofs.Ytjegeohghefdiaa.L
open Go.RowKit EscP Esc EscL EscM

theorem live_any (w : World) : Calls Try.prog 8 #[] w fun e w' => e = .returned (.bool true) ∧ Below w.heap.size w w' :=
  Px.wharflaw02_live.calls true w EscM.live_holds
theorem num_any (n : Int) (w : World) : Calls Try.prog 11 #[.int .i64 n] w fun e w' => e = .returned (.int .i64 n) ∧ w = w' := by
  go_enter Try.func11, Try.ntmps11
  go_wp2
  go_ret
  exact ⟨rfl, rfl⟩

set_option maxHeartbeats 1000000 in
theorem EscapeTwice_walk (a0 : ByteArray) (w : World) (w0 : a0.size ≤ 140737488351232) :
    Calls Try.prog 7 #[.string a0] w fun e w' => e = .returned (.bool true) ∧ Below w.heap.size w w' := by
  by_cases hn : (3000 : Int) < a0.size
  · go_enter Try.func7, Try.ntmps7
    go_wp2_with fail
    refine (live_any _).mono ?_
    rintro e w1 ⟨rfl, hb⟩
    go_wp2
    go_ret
    exact ⟨rfl, hb⟩
  · have hs : a0.size ≤ 3000 := by omega
    cases hb : bad a0.data.toList with
    | true =>
      go_enter Try.func7, Try.ntmps7
      go_wp2_with fail
      refine (Escape_bad a0 (by omega) hb _).mono ?_
      rintro e w1 ⟨rfl, hb1⟩
      go_wp2_with fail
      refine (num_any _ _).mono ?_
      rintro e w2 ⟨rfl, rfl⟩
      go_wp2_with fail
      refine (live_any _).mono ?_
      rintro e w3 ⟨rfl, hb3⟩
      go_wp2
      go_ret
      exact ⟨rfl, U.below_then hb1 hb3⟩
    | false =>
      have hl := escG_le a0.data.toList
      rw [U.len_data] at hl
      obtain ⟨x, hx⟩ : ∃ x, x = escG a0.data.toList := ⟨_, rfl⟩
      have hxb : bad x = false := by rw [hx]; exact bad_escG _ hb
      have hl2 := escG_le x
      have hu1 : un x = a0.data.toList := by rw [hx]; exact un_escG _ hb
      have hu2 := un_escG x hxb
      rw [← hx] at hl
      have E1 := Lib.hid (show (un (escG x)) = x from hu2)
      have E2 := Lib.hid hu1
      clear hu1 hu2
      have hE := fun w => Escape_good a0 (by omega) hb w
      rw [← hx] at hE
      have HE := Lib.hid hE
      clear hx hE hb
      go_enter Try.func7, Try.ntmps7
      go_wp2_with fail
      refine (HE.out _).mono ?_
      rintro e w1 ⟨rfl, hb1⟩
      go_wp2_with fail
      refine (num_any _ _).mono ?_
      rintro e w2 ⟨rfl, rfl⟩
      go_wp2_with fail
      refine (Escape_good ⟨x.toArray⟩ (by rw [mk_size]; omega) hxb _).mono ?_
      rintro e w2 ⟨rfl, hb2⟩
      have hb12 := U.below_then hb1 hb2
      go_wp2_with fail
      refine (num_any _ _).mono ?_
      rintro e w3 ⟨rfl, rfl⟩
      go_wp2_with fail
      refine (Unescape_any _ (by rw [mk_size]; exact Nat.le_trans hl2 (by omega)) _).mono ?_
      rintro e w4 ⟨rfl, hb4⟩
      have hb14 := U.below_then hb12 hb4
      rw [show (un (⟨(escG (⟨x.toArray⟩ : ByteArray).data.toList).toArray⟩ : ByteArray).data.toList) = x from E1.out]
      go_wp2_with fail
      refine (Unescape_any _ (by rw [mk_size]; exact Nat.le_trans hl2 (by omega)) _).mono ?_
      rintro e w5 ⟨rfl, hb5⟩
      have hb15 := U.below_then hb14 hb5
      rw [show (un (⟨(escG (⟨x.toArray⟩ : ByteArray).data.toList).toArray⟩ : ByteArray).data.toList) = x from E1.out]
      go_wp2_with fail
      refine (Unescape_any _ (by rw [mk_size]; omega) _).mono ?_
      rintro e w6 ⟨rfl, hb6⟩
      have hb16 := U.below_then hb15 hb6
      rw [mk_list, E2.out]
      go_wp2_with fail
      refine (live_any _).mono ?_
      rintro e w7 ⟨rfl, hb7⟩
      go_wp2
      go_ret
      exact ⟨rfl, U.below_then hb16 hb7⟩
end Go.Proofs.Ytjegeohghefdiaa.L

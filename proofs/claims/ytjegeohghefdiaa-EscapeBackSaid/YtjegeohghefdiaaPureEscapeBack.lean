/- What was escaped may be in an address, comes back, and is not shorter; for every input the law answers true. -/
import Derived.Test.YtjegeohghefdiaaEscM
namespace Go.Proofs.Ytjegeohghefdiaa.Pure
open Go.RowKit Go.Proofs.Ytjegeohghefdiaa.Px Go.Proofs.Ytjegeohghefdiaa.F Go.Proofs.YtjegeohghefdiaaW.PrintWords EscP Esc EscL EscM

theorem bad_bt (s : ByteArray) (h : bad s.data.toList = true) (hn : s.toList ≠ []) (hs : s.size ≤ 3000) : 0 < (s.size : Int) ∧ (bt s 0 = 32 ∨ (0 ≤ wrap64 ((s.size : Int) - 1) ∧ wrap64 ((s.size : Int) - 1) < s.size ∧ bt s (wrap64 ((s.size : Int) - 1)) = 32)) := by
  have hp : 0 < s.size := by
    rcases Nat.eq_zero_or_pos s.size with h0 | h0
    · exact absurd (U.toList_nil s h0) hn
    · exact h0
  have hw : wrap64 ((s.size : Int) - 1) = ((s.size - 1 : Nat) : Int) := by unfold wrap64; omega
  refine ⟨by omega, ?_⟩
  rw [bad_eq s hp, Bool.or_eq_true] at h
  rcases h with h | h
  · left
    have := bt_at s 0 hp
    rw [← this]; simpa using h
  · right
    rw [hw]
    refine ⟨by omega, by omega, ?_⟩
    have hb := bt_at s ((s.size - 1 : Nat) : Int) (by omega)
    rw [← hb]
    simpa using h

theorem EscapeBack : wharflaw02_EscapeBack.Pure := by
  intro s hs
  unfold wharflaw02_EscapeBack.f
  by_cases hn : (s.size : Int) > 3000
  · rw [if_pos hn, live_holds]; rfl
  · rw [if_neg hn]
    cases hb : bad s.data.toList with
    | true =>
      rw [esc_bad s (by omega) hb, live_holds]
      simp only [num_f, Option.bind_some]
      rw [if_neg (by decide), if_pos (U.toList_nil _ rfl)]
      by_cases he : s.toList = []
      · rw [if_pos he]
      · rw [if_neg he]
        obtain ⟨h1, h2⟩ := bad_bt s hb he (by omega)
        rw [if_pos h1]
        by_cases h0 : bt s 0 = 32
        · rw [if_pos h0]
        · rw [if_neg h0]
          obtain ⟨h3, h4, h5⟩ := h2.resolve_left h0
          rw [if_pos h3, if_pos h4, if_pos h5]
    | false =>
      have hl := escG_le s.data.toList
      have hg := escG_ge s.data.toList
      rw [U.len_data] at hl hg
      rw [esc_good s (by omega) hb, live_holds]
      simp only [num_f, Option.bind_some]
      rw [is_ok _ (by rw [mk_size]; omega), mk_list, isOk_escG _ hb, unesc _ (by rw [mk_size]; omega), mk_list, un_escG _ hb]
      simp only [Option.bind_some, if_true]
      rw [if_pos (by have := mk_size (escG s.data.toList); omega)]
end Go.Proofs.Ytjegeohghefdiaa.Pure

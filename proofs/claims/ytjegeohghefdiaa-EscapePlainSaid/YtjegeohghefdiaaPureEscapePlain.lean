/- Letters and digits stay as they are; what is unescaped does not get longer; for every input the law answers true. -/
import Derived.Test.YtjegeohghefdiaaEscM
import Derived.Test.YtjegeohghefdiaaPx2
namespace Go.Proofs.Ytjegeohghefdiaa.Pure
open Go.RowKit Go.Proofs.Ytjegeohghefdiaa.Px Go.Proofs.Ytjegeohghefdiaa.F Go.Proofs.YtjegeohghefdiaaW.PrintWords EscP Esc EscL EscM

theorem plain_at (s : ByteArray) (i : Nat) (h : i < s.size) : plainB s[i] = ((decide (97 ≤ bt s i) && decide (bt s i ≤ 122)) || (decide (48 ≤ bt s i) && decide (bt s i ≤ 57))) := by
  have hb := bt_at s i h
  simp only [Int.toNat_natCast] at hb
  rw [← hb]
  unfold plainB
  have e1 : (97 ≤ s[i]) ↔ ((97 : Int) ≤ (s[i].toNat : Int)) := by rw [UInt8.le_iff_toNat_le]; simp; omega
  have e2 : (s[i] ≤ 122) ↔ ((s[i].toNat : Int) ≤ 122) := by rw [UInt8.le_iff_toNat_le]; simp; omega
  have e3 : (48 ≤ s[i]) ↔ ((48 : Int) ≤ (s[i].toNat : Int)) := by rw [UInt8.le_iff_toNat_le]; simp; omega
  have e4 : (s[i] ≤ 57) ↔ ((s[i].toNat : Int) ≤ 57) := by rw [UInt8.le_iff_toNat_le]; simp; omega
  rw [decide_eq_decide.2 e1, decide_eq_decide.2 e2, decide_eq_decide.2 e3, decide_eq_decide.2 e4]

theorem plain_end (s : ByteArray) (hs : s.size ≤ 3000) (hp : s.data.toList.all plainB = true) (k : Nat) : wharflaw02_EscapePlain.l0 (k + 1) s s.size = some true := by
  simp only [wharflaw02_EscapePlain.l0]
  rw [if_neg (by omega)]
  by_cases he : s.toList = []
  · rw [if_pos he, live_holds]; rfl
  · rw [if_neg he]
    have hne : s.data.toList ≠ [] := by rw [← Lib.toList_data]; exact he
    rw [esc_good s (by omega) (plain_bad _ hne hp), plain_escG _ hp, unesc s (by omega), is_ok s (by omega), plain_isOk _ hne hp, live_holds]
    have hu : un s.data.toList = s.data.toList := plain_unG _ _ _ (Nat.le_refl _) hp
    rw [hu]
    have hs2 : (⟨s.data.toList.toArray⟩ : ByteArray) = s := rfl
    simp [num_f]
theorem plain_loop (s : ByteArray) (hs : s.size ≤ 3000) : ∀ (d i : Nat), i + d = s.size → (s.data.toList.take i).all plainB = true → wharflaw02_EscapePlain.l0 (d + 1) s (i : Int) = some true
  | 0, i, h, hp => by
    obtain rfl : i = s.size := by omega
    rw [← U.len_data, List.take_length] at hp
    exact plain_end s hs hp 0
  | d + 1, i, h, hp => by
    have hi : i < s.size := by omega
    have hw : wrap64 ((i : Int) + 1) = ((i + 1 : Nat) : Int) := by unfold wrap64; omega
    have ht : plainB s[i] = true → wharflaw02_EscapePlain.l0 (d + 1) s ((i + 1 : Nat) : Int) = some true := by
      intro hq
      refine plain_loop s hs d (i + 1) (by omega) ?_
      rw [List.take_succ_eq_append_getElem (by rw [U.len_data]; exact hi), List.all_append, hp]
      simp only [List.all_cons, List.all_nil, Bool.and_true, Bool.true_and]
      exact hq
    have hpl := plain_at s i hi
    rw [wharflaw02_EscapePlain.l0]
    simp only [live_holds, Option.bind_some, hw]
    rw [if_pos (by omega), if_pos (by omega)]
    by_cases h1 : bt s i ≥ 97
    · rw [if_pos h1]
      by_cases h2 : bt s i ≤ 122
      · rw [if_pos h2]; exact ht (by rw [hpl]; simp [h1, h2])
      · rw [if_neg h2, if_pos (by omega), if_neg (by omega)]
    · rw [if_neg h1]
      by_cases h3 : bt s i ≥ 48
      · rw [if_pos h3]
        by_cases h4 : bt s i ≤ 57
        · rw [if_pos h4]; exact ht (by rw [hpl]; simp [h3, h4])
        · rw [if_neg h4]
      · rw [if_neg h3]

theorem EscapePlain : wharflaw02_EscapePlain.Pure := by
  intro s t hs ht
  have hw : wrap64 ((s.size : Int) + (t.size : Int)) = (s.size : Int) + (t.size : Int) := by unfold wrap64; omega
  refine ⟨s.size + 1, ?_⟩
  unfold wharflaw02_EscapePlain.f
  rw [hw]
  by_cases hn : (s.size : Int) + (t.size : Int) > 3000
  · rw [if_pos hn, live_holds]; rfl
  · rw [if_neg hn, unesc t (by omega)]
    simp only [Option.bind_some]
    have := unG_le t.data.toList.length true t.data.toList
    rw [U.len_data] at this
    rw [if_neg (by rw [mk_size, un, U.len_data]; omega)]
    exact plain_loop s (by omega) s.size 0 (by omega) (by simp)
end Go.Proofs.Ytjegeohghefdiaa.Pure

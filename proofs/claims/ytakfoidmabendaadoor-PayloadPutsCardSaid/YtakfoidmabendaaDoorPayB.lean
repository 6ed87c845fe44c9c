/- A number's digits: the document's, whatever number it is given. -/
import Derived.Test.YtakfoidmabendaaDoorPayA
import Derived.Test.YtakfoidmabendaaDoorUtil
import Derived.IntWalk
set_option linter.unusedVariables false
set_option linter.unusedSimpArgs false
namespace Go.Proofs.YtakfoidmabendaaDoor.Pay
open Go.RowKit Go.Proofs.YtakfoidmabendaaDoor.E U
def tenS : ByteArray := ⟨#[48, 49, 50, 51, 52, 53, 54, 55, 56, 57]⟩
/-- The digits so far. -/
def ac (n : Int) : Nat → List UInt8
  | 0 => []
  | k + 1 => ch (fq n k) :: ac n k
theorem dlq_ac (n : Int) (j : Nat) : ∀ (f k : Nat), k < j → j ≤ k + f + 1 → (∀ i, k < i → i < j → fq n i > 0) → (¬ fq n j > 0 ∨ j = k + f + 1) → dlq n f k (ac n k) = ac n j := by
  intro f
  induction f with
  | zero => intro k h1 h2 h3 h4; have : j = k + 1 := by omega
            subst this; rfl
  | succ f ih =>
    intro k h1 h2 h3 h4
    unfold dlq
    by_cases hj : j = k + 1
    · subst hj
      rcases h4 with h4 | h4
      · rw [if_neg h4]; rfl
      · omega
    · rw [if_pos (h3 (k + 1) (by omega) (by omega))]
      exact ih (k + 1) (by omega) (by omega) (fun i a b => h3 i (by omega) b) (by rcases h4 with h4 | h4; exact .inl h4; exact .inr (by omega))
theorem dl_ac (n : Int) (j : Nat) (h0 : 0 < j) (h1 : ∀ i, 0 < i → i < j → fq n i > 0) (h2 : ¬ fq n j > 0) : dl n = ac n j := by
  have hj : j ≤ 20 := by
    rcases Nat.lt_or_ge 20 j with h | h
    · exact (fq_end n fun k hk => h1 (k + 1) (by omega) (by omega)).elim
    · exact h
  exact dlq_ac n j 19 0 h0 (by omega) (fun i a b => h1 i a b) (.inl h2)
theorem ten_cut (x : Int) (hx : 0 < x) : tenS.extract (x.tmod 10).toNat ((x.tmod 10).toNat + 1) = ⟨#[ch x]⟩ := by
  have h1 : 0 ≤ x.tmod 10 := Int.tmod_nonneg _ (by omega)
  have h2 : x.tmod 10 < 10 := Int.tmod_lt_of_pos _ (by omega)
  unfold ch
  generalize x.tmod 10 = r at h1 h2
  have : r = 0 ∨ r = 1 ∨ r = 2 ∨ r = 3 ∨ r = 4 ∨ r = 5 ∨ r = 6 ∨ r = 7 ∨ r = 8 ∨ r = 9 := by omega
  rcases this with rfl | rfl | rfl | rfl | rfl | rfl | rfl | rfl | rfl | rfl <;> rfl
set_option maxHeartbeats 1000000 in
theorem RDigits_any (n : Int) (w : World) : Calls Tryd.prog 46 #[.int .i64 n] w fun e w' => e = .returned (.string (D n)) ∧ Below w.heap.size w w' := by
  by_cases hn : n ≤ 0
  · have hf : fq n 0 = 0 := by unfold fq; split <;> omega
    have hd : D n = ⟨#[48]⟩ := by
      have h1 : fq n 1 = 0 := by unfold fq; rw [hf]; rfl
      have : dl n = ac n 1 := dl_ac n 1 (by omega) (fun i a b => by omega) (by omega)
      rw [D_eq, this]
      simp only [ac, hf]; rfl
    rw [hd]
    clear hd hf
    go_enter Tryd.func46, Tryd.ntmps46
    go_wp2
    go_ret
    exact ⟨rfl, Below.refl _ w⟩
  · have hn : 0 < n := by omega
    have hn' : ¬ n ≤ 0 := by omega
    have hf : fq n 0 = n := by unfold fq; rw [if_neg (by omega)]
    have HD := Lib.hid (D_eq n)
    have HF := Lib.hid hf
    clear hf
    go_enter Tryd.func46, Tryd.ntmps46
    go_wp2
    go_loop [0, 3] (fun v s => ∃ (k : Nat) (acc : ByteArray) (x : Int), v = .int .i64 x ∧ s = .string acc ∧ Hid (x = fq n k ∧ acc.data.toList = ac n k ∧ ∀ i, i < k → fq n i > 0)) (fun v _ => (intOf v).toNat)
    case atStart => exact ⟨0, ⟨#[]⟩, n, rfl, rfl, Lib.hid ⟨HF.out.symm, rfl, fun i hi => by omega⟩⟩
    case round =>
      obtain ⟨k, acc, x, rfl, rfl, HA⟩ := hrel
      by_cases hx : 0 < x
      · have hm : x % 10 = x.tmod 10 := (Int.tmod_eq_emod_of_nonneg (by omega)).symm
        have h10 : 0 ≤ x % 10 := by omega
        have hsz : acc.size ≤ 20 := by
          have h1 : acc.size = (ac n k).length := by rw [← HA.out.2.1]; rfl
          have h2 : ∀ k, (ac n k).length = k := by
            intro k
            induction k with
            | zero => rfl
            | succ k ih => simp [ac, ih]
          rw [h1, h2]
          rcases Nat.lt_or_ge 20 k with h | h
          · exact (fq_end n fun i hi => HA.out.2.2 (i + 1) (by omega)).elim
          · exact h
        have HC := Lib.hid (ten_cut x hx)
        have HM := Lib.hid hm
        clear hm
        go_wp2
        refine ⟨⟨k + 1, _, _, rfl, rfl, Lib.hid ⟨?_, ?_, ?_⟩⟩, ?_⟩
        · rw [HA.out.1, ← IntWalk.i64_left]; rfl
        · have e : tenS.extract (x % 10).toNat (x % 10 + 1).toNat = ⟨#[ch x]⟩ := by
            rw [← HC.out, ← HM.out, show (x % 10 + 1).toNat = (x % 10).toNat + 1 from by omega]
          show (tenS.extract (x % 10).toNat (x % 10 + 1).toNat ++ acc).data.toList = _
          rw [e]
          simp only [ac, ← HA.out.1, ← HA.out.2.1]
          simp
        · intro i hi
          by_cases hik : i = k
          · subst hik; rw [← HA.out.1]; exact hx
          · exact HA.out.2.2 i (by omega)
        · simp only [intOf]
          have h3 : wrap64 (x.tdiv 10) < x := by
            rw [Int.tdiv_eq_ediv_of_nonneg (by omega)]
            unfold wrap64
            omega
          omega
      · have hk : 0 < k := by
          rcases Nat.eq_zero_or_pos k with h | h
          · exfalso
            have := HA.out.1
            rw [h, HF.out] at this
            omega
          · exact h
        have e : D n = acc := by
          have h1 := HA.out
          have h2 := dl_ac n k hk (fun i _ b => h1.2.2 i b) (by rw [← h1.1]; exact hx)
          rw [D_eq, h2, ← h1.2.1]
        have HE := Lib.hid e
        clear e
        go_wp2
        go_ret
        exact ⟨by rw [HE.out]; rfl, Below.refl _ w⟩
end Go.Proofs.YtakfoidmabendaaDoor.Pay

/- The law PayloadDigits, walked whole. -/
import Derived.Test.YtakfoidmabendaaDoorPayD0
import Derived.Test.YtakfoidmabendaaDoorEvS
import Derived.Test.YtakfoidmabendaaDoorUtil
import Derived.IntWalk
set_option linter.unusedVariables false
set_option linter.unusedSimpArgs false
namespace Go.Proofs.YtakfoidmabendaaDoor.Pay
open Go.RowKit Go.Proofs.YtakfoidmabendaaDoor.E U
def secs : ByteArray := ⟨#[115, 101, 99, 111, 110, 100, 115]⟩
set_option maxRecDepth 100000 in
theorem last_attr (n : Int) (w : World) : Calls Tryd.prog 17 #[.int .i64 n] w fun e w₁ => ∃ x, e = .returned x ∧ Below w.heap.size w w₁ ∧
    Calls Tryd.prog 16 (#[x] ++ #[.string secs]) w₁ fun e w₂ => e = .returned (.string (D n)) ∧ Below w.heap.size w w₂ :=
  calls_out2 (st := false) (K := KP) mixed KP_ok (G := 64) (cf := 100000) (n := 60) (ora := [(6, .bit true)])
    (p := fun _ => [(!ByteArray.toList (ByteArray.mk (List.toArray (hd n :: tl n))) == ByteArray.toList (ByteArray.mk #[])) = true]) (fun Fr => by kernel_rfl) (fun _ => all_cons (by simp) all_nil) rfl rfl rfl w

/-! ### the digits of a number that is not below 0 -/
theorem fq0 (n : Int) (h : 0 ≤ n) : fq n 0 = n := by unfold fq; rw [if_neg (by omega)]
theorem fq_div (n : Int) (h : 0 ≤ n) (h2 : n ≤ 9223372036854775807) : ∀ k, 0 ≤ fq n k ∧ fq n k ≤ 9223372036854775807 ∧ fq n (k + 1) = fq n k / 10 := by
  have step : ∀ k, 0 ≤ fq n k → fq n k ≤ 9223372036854775807 → fq n (k + 1) = fq n k / 10 := by
    intro k a b
    show IntKind.i64.wrap ((fq n k).tdiv 10) = _
    rw [Int.tdiv_eq_ediv_of_nonneg a, IntKind.wrap_i64]
    omega
  intro k
  induction k with
  | zero => rw [fq0 n h]; exact ⟨h, h2, by have := step 0 (by rw [fq0 n h]; exact h) (by rw [fq0 n h]; exact h2); rw [fq0 n h] at this; exact this⟩
  | succ k ih =>
    obtain ⟨a, b, c⟩ := ih
    have h1 : 0 ≤ fq n (k + 1) := by omega
    have h2 : fq n (k + 1) ≤ 9223372036854775807 := by omega
    exact ⟨h1, h2, step (k + 1) h1 h2⟩
theorem ac_get (n : Int) : ∀ (j i : Nat), i < j → (ac n j)[i]? = some (ch (fq n (j - 1 - i))) := by
  intro j
  induction j with
  | zero => intro i h; omega
  | succ j ih =>
    intro i h
    cases i with
    | zero => simp [ac]
    | succ i =>
      simp only [ac, List.getElem?_cons_succ]
      rw [ih i (by omega)]
      congr 2; congr 1; omega
theorem ac_len (n : Int) : ∀ j, (ac n j).length = j := by
  intro j
  induction j with
  | zero => rfl
  | succ j ih => simp [ac, ih]
theorem ch_val (x : Int) (h : 0 ≤ x) : ((ch x).toNat : Int) = 48 + x % 10 := by
  unfold ch
  rw [Int.tmod_eq_emod_of_nonneg h]
  have h1 : 0 ≤ x % 10 := by omega
  have h2 : x % 10 < 10 := by omega
  generalize x % 10 = r at h1 h2
  have : r = 0 ∨ r = 1 ∨ r = 2 ∨ r = 3 ∨ r = 4 ∨ r = 5 ∨ r = 6 ∨ r = 7 ∨ r = 8 ∨ r = 9 := by omega
  rcases this with rfl | rfl | rfl | rfl | rfl | rfl | rfl | rfl | rfl | rfl <;> rfl
theorem dl_some (n : Int) (h : 0 ≤ n) (h2 : n ≤ 9223372036854775807) : ∃ j, 0 < j ∧ j ≤ 19 ∧ dl n = ac n j ∧ fq n j = 0 ∧ ∀ i, 0 < i → i < j → fq n i > 0 := by
  have hd := fq_div n h h2
  have h19 : fq n 19 = 0 := by
    have e0 := fq0 n h
    have d0 := hd 0; have d1 := hd 1; have d2 := hd 2; have d3 := hd 3; have d4 := hd 4; have d5 := hd 5; have d6 := hd 6; have d7 := hd 7; have d8 := hd 8; have d9 := hd 9
    have d10 := hd 10; have d11 := hd 11; have d12 := hd 12; have d13 := hd 13; have d14 := hd 14; have d15 := hd 15; have d16 := hd 16; have d17 := hd 17; have d18 := hd 18
    simp only [Nat.zero_add, Nat.reduceAdd] at *
    omega
  have key : ∀ m, m ≤ 19 → (∃ j, 0 < j ∧ j ≤ 19 ∧ fq n j = 0 ∧ ∀ i, 0 < i → i < j → fq n i > 0) ∨ ∀ i, 0 < i → i ≤ m → fq n i > 0 := by
    intro m
    induction m with
    | zero => intro _; exact .inr fun i a b => by omega
    | succ m ih =>
      intro hm
      rcases ih (by omega) with h | h
      · exact .inl h
      · by_cases hz : fq n (m + 1) > 0
        · exact .inr fun i a b => by
            by_cases e : i = m + 1
            · subst e; exact hz
            · exact h i a (by omega)
        · exact .inl ⟨m + 1, by omega, hm, by have := (hd (m + 1)).1; omega, fun i a b => h i a (by omega)⟩
  rcases key 19 (by omega) with ⟨j, a, b, c, d⟩ | h
  · exact ⟨j, a, b, dl_ac n j a d (by omega), c, d⟩
  · have := h 19 (by omega) (by omega); omega
set_option maxHeartbeats 2000000 in
theorem PayloadDigits_walk (n : Int) (hw : (Lit.int .i64 n).wf = true) (w : World) : Calls Tryd.prog 4 #[.int .i64 n] w fun e w' => e = .returned (.bool true) ∧ Below w.heap.size w w' := by
  have HL : Hid (∀ w, Calls Tryd.prog 7 #[] w fun e w' => e = .returned (.bool true) ∧ Below w.heap.size w w') := Lib.hid live_any
  have HA := Lib.hid (last_attr n w)
  have hr : -9223372036854775808 ≤ n ∧ n ≤ 9223372036854775807 := by simpa [Lit.wf, IntKind.min, IntKind.max, IntKind.bits, IntKind.signed] using hw
  obtain ⟨hr1, hr2⟩ := hr
  clear hw
  by_cases hn : n < 0
  · have hD : D n = ⟨#[48]⟩ := by
      have hf : fq n 0 = 0 := by unfold fq; split <;> omega
      have h1 : fq n 1 = 0 := by show IntKind.i64.wrap ((fq n 0).tdiv 10) = 0; rw [hf]; rfl
      have : dl n = ac n 1 := dl_ac n 1 (by omega) (fun i a b => by omega) (by omega)
      rw [D_eq, this]
      simp only [ac, hf]; rfl
    rw [hD] at HA
    clear hD
    go_enter Tryd.func4, Tryd.ntmps4
    go_wp2_with fail
    refine HA.out.mono ?_
    rintro e w1 ⟨x, rfl, hb1, hc⟩
    have HC := Lib.hid hc
    clear hc
    go_wp2_with fail
    refine HC.out.mono ?_
    rintro e w2 ⟨rfl, hb2⟩
    go_wp2_with fail
    refine (HL.out _).mono ?_
    rintro e w3 ⟨rfl, hb3⟩
    go_wp2
    go_ret
    exact ⟨rfl, hb2.trans (hb3.mono hb2.size)⟩
  · have hn0 : 0 ≤ n := by omega
    obtain ⟨j, j1, j2, hdl, hfj, hpos⟩ := dl_some n hn0 hr2
    have hf := fq_div n hn0 hr2
    have hS : (D n).data.toList = ac n j := by rw [D_eq, hdl]
    generalize D n = S at HA hS
    have hsz : S.size = j := by
      have : S.data.toList.length = j := by rw [hS, ac_len]
      exact this
    have hbyte : ∀ k (h : k < S.size), ((S[k]).toNat : Int) = 48 + fq n (j - 1 - k) % 10 := by
      intro k h
      have h1 : S.data.toList[k]? = some (ch (fq n (j - 1 - k))) := by rw [hS]; exact ac_get n j k (by omega)
      have h2 : S[k] = ch (fq n (j - 1 - k)) := by
        have hk : k < S.data.toList.length := h
        rw [List.getElem?_eq_getElem hk] at h1
        have h3 : S.data[k] = ch (fq n (j - 1 - k)) := by simpa using h1
        exact h3
      rw [h2, ch_val _ (hf _).1]
    have HB := Lib.hid hbyte
    have HF := Lib.hid hf
    have HJ := Lib.hid (And.intro hfj hpos)
    have HE := Lib.hid (fq0 n hn0)
    have HZ := Lib.hid hsz
    have hz1 : 0 < S.size := by omega
    have hz2 : S.size ≤ 19 := by omega
    clear hbyte hf hfj hpos hS hdl hsz
    go_enter Tryd.func4, Tryd.ntmps4
    go_wp2_with fail
    refine HA.out.mono ?_
    rintro e w1 ⟨x, rfl, hb1, hc⟩
    have HC := Lib.hid hc
    clear hc
    go_wp2_with fail
    refine HC.out.mono ?_
    rintro e w2 ⟨rfl, hb2⟩
    go_wp2
    go_loop [4, 5] (fun m i => ∃ (k : Nat) (x : Int), k ≤ S.size ∧ m = .int .i64 x ∧ i = .int .i64 k ∧ 0 ≤ x ∧ x ≤ 9223372036854775807 ∧ Hid (x = fq n (j - k))) (fun _ i => S.size - (intOf i).toNat)
    case atStart => exact ⟨0, 0, by omega, rfl, rfl, by omega, by omega, Lib.hid (by rw [Nat.sub_zero]; exact HJ.out.1.symm)⟩
    case round =>
      obtain ⟨k, x, hk, rfl, rfl, hx0, hx1, HX⟩ := hrel
      by_cases hlt : k < S.size
      · have hfk := HF.out (j - 1 - k)
        have hd : x = fq n (j - 1 - k) / 10 := by
          rw [HX.out, ← hfk.2.2]
          congr 1
          have := HZ.out
          omega
        have hb := HB.out k hlt
        have h1 : 48 ≤ (S[k].toNat : Int) := by omega
        have h2 : (S[k].toNat : Int) ≤ 57 := by omega
        have h3 : 10 * x + ((S[k].toNat : Int) - 48) = fq n (j - 1 - k) := by omega
        have h4 : 10 * x + ((S[k].toNat : Int) - 48) ≤ 9223372036854775807 := by omega
        have h5 : 0 ≤ 10 * x + ((S[k].toNat : Int) - 48) := by omega
        have h6 : ¬ x > (9223372036854775807 - ((S[k].toNat : Int) - 48)) / 10 := by omega
        have H3 := Lib.hid h3
        clear h3 hb hd hfk
        go_wp2
        refine ⟨⟨k + 1, _, by omega, rfl, by go_num, h5, h4, Lib.hid (by rw [H3.out]; congr 1; omega)⟩, by simp [intOf]; omega⟩
      · have hkj : k = S.size := by omega
        have hxn : x = n := by rw [HX.out, ← HE.out]; congr 1; have := HZ.out; omega
        subst hxn
        clear HX
        have hne : ¬ S.toList = [] := by
          intro e
          have h1 : S.toList = S.data.toList := Lib.toList_data S
          rw [h1] at e
          have h2 : S.data.toList.length = S.size := rfl
          rw [e] at h2
          simp at h2
          omega
        have hne2 : S.toList.isEmpty = false := by cases h : S.toList <;> simp_all
        by_cases h1 : S.size = 1
        · have H1 := Lib.hid h1
          have h1' : ((S.size : Int) == 1) = true := by simp; omega
          clear h1
          go_wp2_with fail
          refine (HL.out _).mono ?_
          rintro e w3 ⟨rfl, hb3⟩
          go_wp2
          go_ret
          exact ⟨rfl, hb2.trans (hb3.mono hb2.size)⟩
        · have h0 : ¬ ((S[0]'(by omega)).toNat : Int) = 48 := by
            have hb := HB.out 0 (by omega)
            have h3 := HF.out (j - 1)
            have h4 := HJ.out
            have h5 := HZ.out
            have h6 := h4.2 (j - 1) (by omega) (by omega)
            rw [show j - 1 + 1 = j from by omega] at h3
            rw [show j - 1 - 0 = j - 1 from by omega] at hb
            omega
          have h1' : ((S.size : Int) == 1) = false := by simp; omega
          go_wp2_with fail
          refine (HL.out _).mono ?_
          rintro e w3 ⟨rfl, hb3⟩
          go_wp2
          go_ret
          exact ⟨congrArg (fun b => Ending.returned (Value.bool b)) (bne_iff_ne.mpr h0), hb2.trans (hb3.mono hb2.size)⟩
end Go.Proofs.YtakfoidmabendaaDoor.Pay

/- digest.Salted, wharflaw07.DigestSalted, DigestLengths. -/
import Derived.Test.YtcgopnknnolhkaaDgL
set_option linter.unusedVariables false
set_option linter.unusedSimpArgs false
namespace Go.Proofs.Ytcgopnknnolhkaa.Dg
open Go.RowKit U
set_option maxHeartbeats 1000000 in
theorem Salted_any (k p t M D : ByteArray) (hs : k.size + M.size + t.size ≤ 50000) (cm : ∀ w, Calls Try.prog 8 #[.string p] w fun e w' => e = .returned (.string M) ∧ Below w.heap.size w w') (cd : ∀ w, Calls Try.prog 8 #[.string (k ++ M ++ t)] w fun e w' => e = .returned (.string D) ∧ Below w.heap.size w w') (w : World) :
    Calls Try.prog 14 #[.string k, .string p, .string t] w fun e w' => e = .returned (.string D) ∧ Below w.heap.size w w' := by
  have CM := Lib.hid cm
  have CD := Lib.hid cd
  clear cm cd
  go_enter Try.func14, Try.ntmps14
  go_wp2_with fail
  refine (CM.out _).mono ?_
  rintro e w1 ⟨rfl, b1⟩
  have B1 := Lib.hid b1
  clear b1
  go_wp2_with fail
  refine (CD.out _).mono ?_
  rintro e w2 ⟨rfl, b2⟩
  have B2 := Lib.hid (B1.out.trans (b2.mono B1.out.size))
  clear b2
  go_wp2
  go_ret
  exact ⟨rfl, B2.out⟩
set_option maxHeartbeats 1000000 in
theorem DigestSalted_walk (k p t : ByteArray) (hk : k.size ≤ 140737488351232) (hp : p.size ≤ 140737488351232) (ht : t.size ≤ 140737488351232) (w : World) : Calls Try.prog 6 #[.string k, .string p, .string t] w fun e w' => e = .returned (.bool true) ∧ Below w.heap.size w w' := by
  have HL := Lib.hid live_any
  by_cases h : k.size + p.size + t.size ≤ 3000
  · obtain ⟨X, -, -, x1, x2⟩ := hexs k (by omega)
    obtain ⟨M, -, m0, m1, m2⟩ := md5s p (by omega)
    have hn : (k ++ M ++ t).size ≤ 50000 := by rw [ByteArray.size_append, ByteArray.size_append]; omega
    obtain ⟨D, -, d0, d1, d2⟩ := md5s (k ++ M ++ t) hn
    have X1 := Lib.hid x1
    have X2 := Lib.hid x2
    have M2 := Lib.hid m2
    have D2 := Lib.hid d2
    have S1 := Lib.hid (Salted_any k p t M D (by omega) m1 d1)
    have hq : (D.toList == D.toList) = true := beq_self_eq_true _
    have hx : (X.toList == X.toList) = true := beq_self_eq_true _
    clear x1 x2 m1 m2 d1 d2 hn
    go_enter Try.func6, Try.ntmps6
    go_wp2_with fail
    refine (X1.out _).mono ?_
    rintro e w1 ⟨rfl, b1⟩
    have B1 := Lib.hid b1
    clear b1
    go_wp2_with fail
    refine (X2.out _).mono ?_
    rintro e w2 ⟨rfl, b2⟩
    have B2 := Lib.hid (B1.out.trans (b2.mono B1.out.size))
    clear b2
    go_wp2_with fail
    refine (S1.out _).mono ?_
    rintro e w3 ⟨rfl, b3⟩
    have B3 := Lib.hid (B2.out.trans (b3.mono B2.out.size))
    clear b3
    go_wp2_with fail
    refine (M2.out _).mono ?_
    rintro e w4 ⟨rfl, b4⟩
    have B4 := Lib.hid (B3.out.trans (b4.mono B3.out.size))
    clear b4
    go_wp2_with fail
    refine (D2.out _).mono ?_
    rintro e w5 ⟨rfl, b5⟩
    have B5 := Lib.hid (B4.out.trans (b5.mono B4.out.size))
    clear b5
    go_wp2_with fail
    refine (HL.out _).mono ?_
    rintro e w6 ⟨rfl, b6⟩
    have B6 := Lib.hid (B5.out.trans (b6.mono B5.out.size))
    clear b6
    go_wp2
    go_ret
    exact ⟨rfl, B6.out⟩
  · go_enter Try.func6, Try.ntmps6
    go_wp2_with fail
    refine (HL.out _).mono ?_
    rintro e w1 ⟨rfl, b1⟩
    have B1 := Lib.hid b1
    clear b1
    go_wp2
    go_ret
    exact ⟨rfl, B1.out⟩
/-- A digit's byte. -/
def isD (c : UInt8) : Prop := (48 ≤ c.toNat ∧ c.toNat ≤ 57) ∨ (97 ≤ c.toNat ∧ c.toNat ≤ 102)
theorem hexd_isD (n : Nat) (h : n < 16) : isD (hexd n) := by
  unfold isD
  match n, h with
  | 0, _ => exact .inl (by decide)
  | 1, _ => exact .inl (by decide)
  | 2, _ => exact .inl (by decide)
  | 3, _ => exact .inl (by decide)
  | 4, _ => exact .inl (by decide)
  | 5, _ => exact .inl (by decide)
  | 6, _ => exact .inl (by decide)
  | 7, _ => exact .inl (by decide)
  | 8, _ => exact .inl (by decide)
  | 9, _ => exact .inl (by decide)
  | 10, _ => exact .inr (by decide)
  | 11, _ => exact .inr (by decide)
  | 12, _ => exact .inr (by decide)
  | 13, _ => exact .inr (by decide)
  | 14, _ => exact .inr (by decide)
  | 15, _ => exact .inr (by decide)
  | n + 16, h => exact absurd h (by omega)
theorem hex_isD (l : List UInt8) : ∀ c ∈ hex l, isD c := by
  intro c hc
  unfold hex at hc
  rw [List.mem_flatMap] at hc
  obtain ⟨b, -, hc⟩ := hc
  have := b.toNat_lt
  simp only [List.mem_cons, List.not_mem_nil, or_false] at hc
  rcases hc with rfl | rfl
  · exact hexd_isD _ (by omega)
  · exact hexd_isD _ (by omega)
theorem T_isD (l : List UInt8) (k : Nat) (h : k < (T (hex l)).size) : isD (T (hex l))[k] := by
  refine hex_isD l _ ?_
  have : (T (hex l))[k] = (hex l)[k]'(by rw [T_size] at h; exact h) := rfl
  rw [this]
  exact List.getElem_mem _
theorem hexd_inj : ∀ a, a < 16 → ∀ b, b < 16 → hexd a = hexd b → a = b := by decide +kernel
theorem hex_inj : ∀ a b : List UInt8, hex a = hex b → a = b
  | [], [], _ => rfl
  | [], b :: r, h => by simp [hex] at h
  | a :: r, [], h => by simp [hex] at h
  | a :: r, b :: q, h => by
    have h' : [hexd (a.toNat / 16), hexd (a.toNat % 16)] ++ hex r = [hexd (b.toNat / 16), hexd (b.toNat % 16)] ++ hex q := h
    simp only [List.cons_append, List.nil_append, List.cons.injEq] at h'
    obtain ⟨h1, h2, h3⟩ := h'
    have ha := a.toNat_lt
    have hb := b.toNat_lt
    have e1 := hexd_inj _ (by omega) _ (by omega) h1
    have e2 := hexd_inj _ (by omega) _ (by omega) h2
    have e : a = b := UInt8.toNat_inj.1 (by omega)
    rw [e, hex_inj r q h3]
theorem hex_app (a b : List UInt8) : hex (a ++ b) = hex a ++ hex b := by unfold hex; rw [List.flatMap_append]
theorem T_eq (s t : ByteArray) : ((T (hex s.data.toList)).toList == (T (hex t.data.toList)).toList) = (s.toList == t.toList) := by
  rw [Lib.toList_data, Lib.toList_data, Lib.toList_data, Lib.toList_data, T_data, T_data]
  rw [Bool.eq_iff_iff, beq_iff_eq, beq_iff_eq]
  exact ⟨hex_inj _ _, fun h => by rw [h]⟩
end Go.Proofs.Ytcgopnknnolhkaa.Dg

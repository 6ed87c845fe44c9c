/- digest: the digits of a text. -/
import Derived.Test.YtcgopnknnolhkaaDgP
import Derived.Test.YtcgopnknnolhkaaBld
import Derived.Test.YtcgopnknnolhkaaCls
set_option linter.unusedVariables false
set_option linter.unusedSimpArgs false
namespace Go.Proofs.Ytcgopnknnolhkaa.Dg
open Go.RowKit U
def digS : ByteArray := ⟨#[48, 49, 50, 51, 52, 53, 54, 55, 56, 57, 97, 98, 99, 100, 101, 102]⟩
theorem digS_size : digS.size = 16 := rfl
theorem digS_at (k : Nat) (h : k < 16) (h' : k < digS.size) : digS[k] = hexd k := by
  match k, h with
  | 0, _ => rfl
  | 1, _ => rfl
  | 2, _ => rfl
  | 3, _ => rfl
  | 4, _ => rfl
  | 5, _ => rfl
  | 6, _ => rfl
  | 7, _ => rfl
  | 8, _ => rfl
  | 9, _ => rfl
  | 10, _ => rfl
  | 11, _ => rfl
  | 12, _ => rfl
  | 13, _ => rfl
  | 14, _ => rfl
  | 15, _ => rfl
  | n + 16, h => exact absurd h (by omega)
theorem wrap8 (n : Int) : IntKind.u8.wrap n = n % 256 := by simp [IntKind.wrap, IntKind.bits, IntKind.signed]
theorem digS_cut (k : Nat) (h : k < 16) : (digS.extract k (k + 1)).data.toList = [hexd k] := by
  match k, h with
  | 0, _ => rfl
  | 1, _ => rfl
  | 2, _ => rfl
  | 3, _ => rfl
  | 4, _ => rfl
  | 5, _ => rfl
  | 6, _ => rfl
  | 7, _ => rfl
  | 8, _ => rfl
  | 9, _ => rfl
  | 10, _ => rfl
  | 11, _ => rfl
  | 12, _ => rfl
  | 13, _ => rfl
  | 14, _ => rfl
  | 15, _ => rfl
  | n + 16, h => exact absurd h (by omega)
theorem hex_next (l : List UInt8) (c : UInt8) : hex (l ++ [c]) = hex l ++ [hexd (c.toNat / 16)] ++ [hexd (c.toNat % 16)] := by simp [hex]
theorem hex_length (l : List UInt8) : (hex l).length = 2 * l.length := by
  induction l with
  | nil => rfl
  | cons a l ih => simp [hex] at ih ⊢; omega
theorem take_next (s : ByteArray) (k : Nat) (h : k < s.size) : s.data.toList.take (k + 1) = s.data.toList.take k ++ [s[k]] := by
  have hl : k < s.data.toList.length := by rw [U.len_data]; exact h
  rw [List.take_succ_eq_append_getElem hl]; rfl
set_option maxHeartbeats 1000000 in
theorem Hex_any (s : ByteArray) (hs : s.size ≤ 50000) (w : World) : Calls Try.prog 12 #[.string s] w fun e w' => e = .returned (.string ⟨(hex s.data.toList).toArray⟩) ∧ Below w.heap.size w w' := by
  go_enter Try.func12, Try.ntmps12
  go_wp2
  go_loopw [7] (fun i wr => ∃ k : Nat, k ≤ s.size ∧ i = .int .i64 k ∧ Hid (Bld.Is w.heap.size w.heap.size (Lib.byteCells (hex (s.data.toList.take k))) wr) ∧ Below w.heap.size w wr) (fun i _ => s.size - (intOf i).toNat)
  case atStart => exact ⟨0, by omega, rfl, Lib.hid (Bld.fresh w), (Below.refl _ w).alloc (Nat.le_refl _) _⟩
  case round =>
    obtain ⟨k, hk, rfl, HI, hb⟩ := hrel
    by_cases hlt : k < s.size
    · have hq0 : ∃ q : Nat, q < 16 ∧ q = s[k].toNat / 16 := ⟨_, by have := s[k].toNat_lt; omega, rfl⟩
      have hr0 : ∃ r : Nat, r < 16 ∧ r = s[k].toNat % 16 := ⟨_, by omega, rfl⟩
      obtain ⟨q, hq, hqe⟩ := hq0
      obtain ⟨r, hr, hre⟩ := hr0
      have e1 : (s[k].toNat : Int) / 16 = (q : Int) := by omega
      have e2 : bits .and .u8 (s[k].toNat : Int) 15 = (r : Int) := by
        have := bits_mask .u8 8 (by decide) (fun n h0 h1 => by rw [show IntKind.u8.wrap n = n % 256 by simp [IntKind.wrap, IntKind.bits, IntKind.signed]]; omega) 4 (by decide) (s[k].toNat : Int) (by omega) (by have := s[k].toNat_lt; omega)
        have e : ((2 : Int) ^ 4 - 1) = 15 := by decide
        rw [e] at this
        rw [this]; omega
      have HX := Lib.hid (hex_next (s.data.toList.take k) s[k])
      rw [← take_next s k hlt, ← hqe, ← hre] at HX
      clear hqe hre
      have HL := Lib.hid (hex_length (s.data.toList.take k))
      have HT : Hid ((s.data.toList.take k).length ≤ k) := Lib.hid (by rw [List.length_take]; omega)
      go_wp2_with fail
      refine (Bld.put_byte _ _ _ (hexd q) _ (congrArg (fun x : UInt8 => (x.toNat : Int)) (digS_at q hq _)) _ HI.out (by rw [HL.out]; have := HT.out; omega) hb.size).mono ?_
      rintro e w1 ⟨rfl, hi1, hb1, -⟩
      have HI1 := Lib.hid hi1
      have HB1 := Lib.hid (hb.trans hb1)
      clear hi1 hb1
      go_wp2_with fail
      refine (Bld.put_byte _ _ _ (hexd r) _ (congrArg (fun x : UInt8 => (x.toNat : Int)) (digS_at r hr _)) _ HI1.out (by rw [List.length_append, HL.out]; simp; have := HT.out; omega) HB1.out.size).mono ?_
      rintro e w2 ⟨rfl, hi2, hb2, -⟩
      rw [← HX.out] at hi2
      have HI2 := Lib.hid hi2
      have HB2 := Lib.hid (HB1.out.trans hb2)
      clear hi2 hb2
      go_wp2
      go_roundw
      case rel => exact ⟨k + 1, by omega, by go_num, HI2, HB2.out⟩
      case measure => simp [intOf]; omega
    · have hk : k = s.size := by omega
      have ht : s.data.toList.take k = s.data.toList := List.take_of_length_le (by rw [U.len_data]; omega)
      rw [ht] at HI
      clear ht
      go_wp2_with fail
      refine (Bld.text _ _ _ _ HI.out hb.size).mono ?_
      rintro e w2 ⟨rfl, hb2⟩
      go_wp2
      go_ret
      exact ⟨rfl, hb.trans hb2⟩
set_option maxHeartbeats 1000000 in
theorem RHex_any (s : ByteArray) (hs : s.size ≤ 50000) (w : World) : Calls Try.prog 13 #[.string s] w fun e w' => e = .returned (.string ⟨(hex s.data.toList).toArray⟩) ∧ Below w.heap.size w w' := by
  go_enter Try.func13, Try.ntmps13
  go_wp2
  go_loopw [4, 5] (fun o i wr => ∃ (k : Nat) (acc : ByteArray), k ≤ s.size ∧ o = .string acc ∧ i = .int .i64 k ∧ Hid (acc.data.toList = hex (s.data.toList.take k)) ∧ acc.size ≤ 2 * k ∧ Below w.heap.size w wr) (fun _ i _ => s.size - (intOf i).toNat)
  case atStart => exact ⟨0, ⟨#[]⟩, by omega, rfl, rfl, Lib.hid rfl, by simp [ByteArray.size], Below.refl _ w⟩
  case round =>
    obtain ⟨k, acc, hk, rfl, rfl, HA, hal, hb⟩ := hrel
    by_cases hlt : k < s.size
    · have hq0 : ∃ q : Nat, q < 16 ∧ q = s[k].toNat / 16 := ⟨_, by have := s[k].toNat_lt; omega, rfl⟩
      have hr0 : ∃ r : Nat, r < 16 ∧ r = s[k].toNat % 16 := ⟨_, by omega, rfl⟩
      obtain ⟨q, hq, hqe⟩ := hq0
      obtain ⟨r, hr, hre⟩ := hr0
      have e1 : (s[k].toNat : Int) / 16 = (q : Int) := by omega
      have e2 : (s[k].toNat : Int) % 16 = (r : Int) := by omega
      have HX := Lib.hid (hex_next (s.data.toList.take k) s[k])
      rw [← take_next s k hlt, ← hqe, ← hre] at HX
      clear hqe hre
      have v1 : IntKind.u8.wrap (q : Int) = (q : Int) := by rw [wrap8]; omega
      have v2 : IntKind.u8.wrap ((q : Int) + 1) = (q : Int) + 1 := by rw [wrap8]; omega
      have v3 : IntKind.u8.wrap (r : Int) = (r : Int) := by rw [wrap8]; omega
      have v4 : IntKind.u8.wrap ((r : Int) + 1) = (r : Int) + 1 := by rw [wrap8]; omega
      have k1 : ∀ x : World, (Instr.slice 9 (.string ⟨#[48, 49, 50, 51, 52, 53, 54, 55, 56, 57, 97, 98, 99, 100, 101, 102]⟩) (some (.int .u8 (q : Int))) (some (.int .u8 ((q : Int) + 1))) none).run Try.prog x = .ok (.string (digS.extract q (q + 1))) x := fun x =>
        run_slice_string (P := Try.prog) x 9 digS .u8 .u8 (q : Int) ((q + 1 : Nat) : Int) Try.underlying9 (by omega) (by omega) (by rw [digS_size]; omega)
      have k2 : ∀ x : World, (Instr.slice 9 (.string ⟨#[48, 49, 50, 51, 52, 53, 54, 55, 56, 57, 97, 98, 99, 100, 101, 102]⟩) (some (.int .u8 (r : Int))) (some (.int .u8 ((r : Int) + 1))) none).run Try.prog x = .ok (.string (digS.extract r (r + 1))) x := fun x =>
        run_slice_string (P := Try.prog) x 9 digS .u8 .u8 (r : Int) ((r + 1 : Nat) : Int) Try.underlying9 (by omega) (by omega) (by rw [digS_size]; omega)
      have HQ := Lib.hid (digS_cut q hq)
      have HR := Lib.hid (digS_cut r hr)
      go_wp2
      go_big_quiet (fail)
      go_wp2
      go_roundw
      case rel => exact ⟨k + 1, acc ++ digS.extract q (q + 1) ++ digS.extract r (r + 1), by omega, rfl, by go_num, Lib.hid (by rw [HX.out, ← HA.out, ← HQ.out, ← HR.out]; simp), by
        have h1 : (digS.extract q (q + 1)).size ≤ 1 := by rw [ByteArray.size_extract]; omega
        have h2 : (digS.extract r (r + 1)).size ≤ 1 := by rw [ByteArray.size_extract]; omega
        rw [ByteArray.size_append, ByteArray.size_append]; omega, U.below_drewN hb _⟩
      case measure => simp [intOf]; omega
    · have hk : k = s.size := by omega
      have ht : s.data.toList.take k = s.data.toList := List.take_of_length_le (by rw [U.len_data]; omega)
      rw [ht] at HA
      clear ht
      go_wp2
      go_ret
      exact ⟨by rw [← HA.out]; rfl, hb⟩
end Go.Proofs.Ytcgopnknnolhkaa.Dg

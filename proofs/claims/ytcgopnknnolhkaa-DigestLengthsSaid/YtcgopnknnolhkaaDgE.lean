/- wharfref07: the padding. -/
import Derived.Test.YtcgopnknnolhkaaDgD
set_option linter.unusedVariables false
set_option linter.unusedSimpArgs false
namespace Go.Proofs.Ytcgopnknnolhkaa.Dg
open Go.RowKit U
def B8 (m k : Nat) : UInt8 := UInt8.ofNat (m / 2 ^ (8 * k))
theorem low_byte (m k : Nat) (hk : k < 4) (hm : m < 4294967296) : ((UInt32.ofNat m) >>> UInt32.ofNat (8 * k)).toUInt8 = B8 m k := by
  apply UInt8.toNat_inj.1
  unfold B8
  rw [UInt32.toNat_toUInt8, UInt32.toNat_shiftRight, UInt32.toNat_ofNat', UInt32.toNat_ofNat', UInt8.toNat_ofNat', Nat.mod_eq_of_lt (show 8 * k < 2 ^ 32 by omega), Nat.mod_eq_of_lt (show 8 * k < 32 by omega), Nat.mod_eq_of_lt (show m < 2 ^ 32 by omega), Nat.shiftRight_eq_div_pow]
theorem high_byte (m k : Nat) (hk : 4 ≤ k) (hk2 : k < 8) (hm : m < 4294967296) : B8 m k = 0 := by
  unfold B8
  have : m / 2 ^ (8 * k) = 0 := Nat.div_eq_of_lt (Nat.lt_of_lt_of_le hm (by
    have : 2 ^ 32 ≤ 2 ^ (8 * k) := Nat.pow_le_pow_right (by decide) (by omega)
    omega))
  rw [this]; rfl
theorem len8_eq (n : Nat) (hn : n ≤ 100000) : len8 n = [B8 (n * 8) 7, B8 (n * 8) 6, B8 (n * 8) 5, B8 (n * 8) 4, B8 (n * 8) 3, B8 (n * 8) 2, B8 (n * 8) 1, B8 (n * 8) 0] := by
  have hm : n * 8 < 4294967296 := by omega
  have h0 : n * 8 / 4294967296 = 0 := by omega
  rw [high_byte _ 7 (by decide) (by decide) hm, high_byte _ 6 (by decide) (by decide) hm, high_byte _ 5 (by decide) (by decide) hm, high_byte _ 4 (by decide) (by decide) hm]
  rw [← low_byte _ 3 (by decide) hm, ← low_byte _ 2 (by decide) hm, ← low_byte _ 1 (by decide) hm, ← low_byte _ 0 (by decide) hm]
  unfold len8 be4
  rw [h0]
  have hz : (UInt32.ofNat (n * 8)) >>> UInt32.ofNat (8 * 0) = UInt32.ofNat (n * 8) := by
    apply UInt32.toNat_inj.1
    rw [UInt32.toNat_shiftRight]; rfl
  rw [hz]
  rfl
/-- The bytes of the length in the order in which the reference lays them. -/
def lay8 (least : Bool) (m i : Nat) : List UInt8 := (List.range i).map fun j => B8 m (if least then j else 7 - j)
theorem lay8_next (least : Bool) (m i : Nat) : lay8 least m (i + 1) = lay8 least m i ++ [B8 m (if least then i else 7 - i)] := by unfold lay8; rw [List.range_succ, List.map_append]; rfl
theorem lay8_all (least : Bool) (n : Nat) (hn : n ≤ 100000) : lay8 least (n * 8) 8 = if least then (len8 n).reverse else len8 n := by
  rw [len8_eq n hn]
  cases least <;> rfl
theorem B8_val (n k : Nat) : (n : Int) * 8 / (2 : Int) ^ (8 * k) % (256 : Int) = ((B8 (n * 8) k).toNat : Int) := by
  unfold B8
  rw [UInt8.toNat_ofNat', Int.natCast_emod, Int.natCast_ediv, Int.natCast_mul, Int.natCast_pow]; rfl
set_option maxHeartbeats 2000000 in
theorem rfill_any (least : Bool) (s : ByteArray) (hs : s.size ≤ 50000) (w : World) : Calls Try.prog 20 #[.string s, .bool least] w (FillPost (fill s.data.toList least) w) := by
  have hcv := Lib.run_convert_string_bytes (P := Try.prog) w 9 33 5 s Try.underlying9 Try.underlying33 Try.underlying5
  have h1 : Soft (Lib.bytesWorld w 5 s) w.heap.size (.slice (some ⟨w.heap.size, 0, none⟩) s.size (grownCap w s.size 0 5)) s.size (bv s.data.toList) := Soft.bytes w 5 s (by unfold maxLen; omega)
  have hb1 := U.below_bytesWorld w 5 s
  obtain ⟨CP, hCP⟩ : ∃ CP, CP = grownCap w s.size 0 5 := ⟨_, rfl⟩
  obtain ⟨W1, hW1⟩ : ∃ W1, W1 = Lib.bytesWorld w 5 s := ⟨_, rfl⟩
  rw [← hCP, ← hW1] at hcv h1
  rw [← hW1] at hb1
  clear hCP hW1
  obtain ⟨L, hL⟩ : ∃ L, L = s.data.toList := ⟨_, rfl⟩
  have HLN : Hid (L.length = s.size) := Lib.hid (by rw [hL]; exact U.len_data s)
  rw [← hL] at h1 ⊢
  clear hL
  obtain ⟨i0, hi, hz0, hz1, hz2⟩ := info_parts infoU8
  have h2 := h1.below ((Below.refl W1.heap.size W1).alloc (Nat.le_refl _) (.cells #[.int .u8 128] 5))
  have HC := Lib.hid (lit_cells W1 [.int .u8 128] 5)
  have hsz1 := hb1.size
  have hb2 := Lib.hid (hb1.alloc (show w.heap.size ≤ W1.heap.size by omega) (.cells #[.int .u8 128] 5))
  have H2 := Lib.hid h2
  clear hb1 h1
  go_enter Try.func20, Try.ntmps20
  go_wp2_with (at_builtin; refine wpList_append_soft _ rfl _ _ 33 rfl w.heap.size 5 i0 (.int .u8 0) 1 Try.underlying33 hi hz0 hz1 hz2 rfl _ _ _ rfl h2 ⟨W1.heap.size, 0, none⟩ 1 1 [.int .u8 128] rfl rfl ?c1 ?c2 ?c3 ?c4 ?c5 ?_)
  case c1 => exact HC.out
  case c2 =>
    intro z hz
    rw [List.mem_singleton] at hz
    rw [hz]; rfl
  case c3 => simp only [maxLen]; omega
  case c4 => omega
  case c5 => simp; omega
  intro v' w5 hown' hgrow
  have HB5 := Lib.hid (grown_below hb2.out H2.out hgrow)
  obtain ⟨g5, cp5, rfl, hg5⟩ := hown'.form (by omega)
  have HO5 : Hid (Soft w5 w.heap.size (.slice (some ⟨g5, 0, none⟩) (s.size + 1) cp5) (s.size + 1) (bv (L ++ [128] ++ List.replicate 0 0))) := Lib.hid (by
    rw [List.replicate_zero, List.append_nil, bv_append]; exact hown')
  clear hown' hgrow h2 hcv hg5 hb2 H2 HC hsz1
  obtain ⟨K, hK⟩ : ∃ K, K = padN s.size := ⟨_, rfl⟩
  have HK := Lib.hid hK
  clear hK
  go_wp2
  go_loopw [5] (fun v wq => ∃ (k N g cp : Nat), k ≤ K ∧ N = s.size + 1 + k ∧ v = .slice (some ⟨g, 0, none⟩) N cp ∧ Hid (Soft wq w.heap.size v N (bv (L ++ [128] ++ List.replicate k 0)) ∧ Below w.heap.size w wq)) (fun v _ => match v with | .slice _ l _ => K + s.size + 1 - l | _ => 0)
  case atStart => exact ⟨0, s.size + 1, g5, cp5, by omega, by omega, rfl, Lib.hid ⟨HO5.out, HB5.out⟩⟩
  case round =>
    obtain ⟨k, N, g, cp, hk, hN, rfl, HR⟩ := hrel
    have hK9 := HK.out
    unfold padN at hK9
    have hNN := Lib.hid hN
    have hN2 : N ≤ 60000 := by omega
    by_cases hlt : k < K
    · have t1 : ((N : Int) % 64 != 56) = true := by rw [bne_iff_ne]; omega
      have h7 := HR.out.1.below ((Below.refl wr.heap.size wr).alloc (Nat.le_refl _) (.cells #[.int .u8 0] 5))
      have HC := Lib.hid (lit_cells wr [.int .u8 0] 5)
      have hsz := HR.out.2.size
      have HB7 := Lib.hid (HR.out.2.alloc (show w.heap.size ≤ wr.heap.size by omega) (.cells #[.int .u8 0] 5))
      have H7 := Lib.hid h7
      clear hN hK9
      go_wp2_with (at_builtin; refine wpList_append_soft _ rfl _ _ 33 rfl w.heap.size 5 i0 (.int .u8 0) 1 Try.underlying33 hi hz0 hz1 hz2 rfl _ _ _ rfl h7 ⟨wr.heap.size, 0, none⟩ 1 1 [.int .u8 0] rfl rfl ?c1 ?c2 ?c3 ?c4 ?c5 ?_)
      case c1 => exact HC.out
      case c2 =>
        intro z hz
        rw [List.mem_singleton] at hz
        rw [hz]; rfl
      case c3 => simp only [maxLen]; omega
      case c4 => omega
      case c5 => simp; omega
      intro v' w6 hown' hgrow
      have HB6 := Lib.hid (grown_below HB7.out H7.out hgrow)
      obtain ⟨g6, cp6, rfl, hg6⟩ := hown'.form (by omega)
      have HO6 : Hid (Soft w6 w.heap.size (.slice (some ⟨g6, 0, none⟩) (N + 1) cp6) (N + 1) (bv (L ++ [128] ++ List.replicate (k + 1) 0))) := Lib.hid (by
        rw [List.replicate_succ', ← List.append_assoc, bv_append, List.append_assoc L [128]]; exact hown')
      clear hown' hgrow hg6 h7
      go_wp2
      go_roundw
      case rel => exact ⟨k + 1, N + 1, g6, cp6, by omega, by have := hNN.out; omega, rfl, Lib.hid ⟨HO6.out, HB6.out⟩⟩
      case measure => have := hNN.out; simp; omega
    · have hkK : k = K := by omega
      have t1 : ((N : Int) % 64 != 56) = false := by rw [bne_eq_false_iff_eq]; omega
      obtain ⟨M, hM⟩ : ∃ M, M = L ++ [128] ++ List.replicate k 0 := ⟨_, rfl⟩
      have HM : Hid (M.length = N) := Lib.hid (by rw [hM]; simp only [List.length_append, List.length_replicate, HLN.out, hN, List.length_cons, List.length_nil])
      have HP : Hid (fill L least = M ++ lay8 least (s.size * 8) 8) := Lib.hid (by
        rw [hM, lay8_all least s.size (by omega), hkK, HK.out, ← HLN.out]; rfl)
      have HR2 : Hid (Soft wr w.heap.size (.slice (some ⟨g, 0, none⟩) N cp) N (bv (M ++ lay8 least (s.size * 8) 0)) ∧ Below w.heap.size w wr) := Lib.hid (by rw [show lay8 least (s.size * 8) 0 = [] from rfl, List.append_nil, hM]; exact HR.out)
      clear hN hK9 hlt hM HR hNN hkK hk HK HO5 HB5
      go_wp2
      go_loopw [5, 7] (fun v j wq => ∃ (i N2 g cp : Nat), i ≤ 8 ∧ N2 = N + i ∧ j = .int .i64 i ∧ v = .slice (some ⟨g, 0, none⟩) N2 cp ∧ Hid (Soft wq w.heap.size v N2 (bv (M ++ lay8 least (s.size * 8) i)) ∧ Below w.heap.size w wq)) (fun _ j _ => 8 - (intOf j).toNat)
      case atStart => exact ⟨0, N, g, cp, by omega, rfl, rfl, rfl, HR2⟩
      case round =>
        obtain ⟨i, N2, g2, cp2, hi8, hN2', rfl, rfl, HR3⟩ := hrel
        have hNN := Lib.hid hN2'
        have hN3 : N2 ≤ 70000 := by omega
        clear hN2'
        by_cases hi9 : i < 8
        · cases least with
          | true =>
            have hE : Hid ((s.size : Int) * 8 / (2 : Int) ^ (8 * i) % (256 : Int) = ((B8 (s.size * 8) i).toNat : Int)) := Lib.hid (B8_val s.size i)
            have HNX : Hid (bv (M ++ lay8 true (s.size * 8) (i + 1)) = bv (M ++ lay8 true (s.size * 8) i) ++ [.int .u8 ((s.size : Int) * 8 / 2 ^ (8 * i) % 256)]) := Lib.hid (by rw [lay8_next, ← List.append_assoc, bv_append, hE.out]; rfl)
            have h7 := HR3.out.1.below ((Below.refl wr.heap.size wr).alloc (Nat.le_refl _) (.cells #[.int .u8 ((s.size : Int) * 8 / 2 ^ (8 * i) % 256)] 5))
            have HC := Lib.hid (lit_cells wr [.int .u8 ((s.size : Int) * 8 / 2 ^ (8 * i) % 256)] 5)
            have hsz := HR3.out.2.size
            have HB7 := Lib.hid (HR3.out.2.alloc (show w.heap.size ≤ wr.heap.size by omega) (.cells #[.int .u8 ((s.size : Int) * 8 / 2 ^ (8 * i) % 256)] 5))
            have H7 := Lib.hid h7
            go_wp2_with (at_builtin; refine wpList_append_soft _ rfl _ _ 33 rfl w.heap.size 5 i0 (.int .u8 0) 1 Try.underlying33 hi hz0 hz1 hz2 rfl _ _ _ rfl h7 ⟨wr.heap.size, 0, none⟩ 1 1 [.int .u8 ((s.size : Int) * 8 / 2 ^ (8 * i) % 256)] rfl rfl ?c1 ?c2 ?c3 ?c4 ?c5 ?_)
            case c1 => exact HC.out
            case c2 =>
              intro z hz
              rw [List.mem_singleton] at hz
              rw [hz]; rfl
            case c3 => simp only [maxLen]; omega
            case c4 => omega
            case c5 => simp; omega
            intro v' w6 hown' hgrow
            have HB6 := Lib.hid (grown_below HB7.out H7.out hgrow)
            obtain ⟨g6, cp6, rfl, hg6⟩ := hown'.form (by omega)
            rw [← HNX.out] at hown'
            have HO6 := Lib.hid hown'
            clear hown' hgrow hg6 h7
            go_wp2
            go_roundw
            case rel => exact ⟨i + 1, N2 + 1, g6, cp6, by omega, by have := hNN.out; omega, by go_num, rfl, Lib.hid ⟨HO6.out, HB6.out⟩⟩
            case measure => simp [intOf]; omega
          | false =>
            obtain ⟨m, hm⟩ : ∃ m, m = 7 - i := ⟨_, rfl⟩
            have hm7 : (7 : Int) - (i : Int) = (m : Int) := by omega
            have hmm : m ≤ 7 := by omega
            have HMI := Lib.hid hm
            clear hm
            have hE : Hid ((s.size : Int) * 8 / (2 : Int) ^ (8 * m) % (256 : Int) = ((B8 (s.size * 8) m).toNat : Int)) := Lib.hid (B8_val s.size m)
            have HNX : Hid (bv (M ++ lay8 false (s.size * 8) (i + 1)) = bv (M ++ lay8 false (s.size * 8) i) ++ [.int .u8 ((s.size : Int) * 8 / 2 ^ (8 * m) % 256)]) := Lib.hid (by rw [lay8_next, ← List.append_assoc, bv_append, hE.out]; rw [show (if (false : Bool) then i else 7 - i) = m by rw [HMI.out]; rfl]; rfl)
            have h7 := HR3.out.1.below ((Below.refl wr.heap.size wr).alloc (Nat.le_refl _) (.cells #[.int .u8 ((s.size : Int) * 8 / 2 ^ (8 * m) % 256)] 5))
            have HC := Lib.hid (lit_cells wr [.int .u8 ((s.size : Int) * 8 / 2 ^ (8 * m) % 256)] 5)
            have hsz := HR3.out.2.size
            have HB7 := Lib.hid (HR3.out.2.alloc (show w.heap.size ≤ wr.heap.size by omega) (.cells #[.int .u8 ((s.size : Int) * 8 / 2 ^ (8 * m) % 256)] 5))
            have H7 := Lib.hid h7
            go_wp2_with (at_builtin; refine wpList_append_soft _ rfl _ _ 33 rfl w.heap.size 5 i0 (.int .u8 0) 1 Try.underlying33 hi hz0 hz1 hz2 rfl _ _ _ rfl h7 ⟨wr.heap.size, 0, none⟩ 1 1 [.int .u8 ((s.size : Int) * 8 / 2 ^ (8 * m) % 256)] rfl rfl ?c1 ?c2 ?c3 ?c4 ?c5 ?_)
            case c1 => exact HC.out
            case c2 =>
              intro z hz
              rw [List.mem_singleton] at hz
              rw [hz]; rfl
            case c3 => simp only [maxLen]; omega
            case c4 => omega
            case c5 => simp; omega
            intro v' w6 hown' hgrow
            have HB6 := Lib.hid (grown_below HB7.out H7.out hgrow)
            obtain ⟨g6, cp6, rfl, hg6⟩ := hown'.form (by omega)
            rw [← HNX.out] at hown'
            have HO6 := Lib.hid hown'
            clear hown' hgrow hg6 h7
            go_wp2
            go_roundw
            case rel => exact ⟨i + 1, N2 + 1, g6, cp6, by omega, by have := hNN.out; omega, by go_num, rfl, Lib.hid ⟨HO6.out, HB6.out⟩⟩
            case measure => simp [intOf]; omega
        · have hi88 : i = 8 := by omega
          subst hi88
          go_wp2
          go_ret
          unfold FillPost
          have hl : (fill L least).length = N2 := by rw [HP.out, List.length_append, HM.out, hNN.out]; rfl
          refine ⟨g2, cp2, by rw [hl]; rfl, ?_, HR3.out.2⟩
          unfold BR
          rw [hl, HP.out]
          exact HR3.out.1
end Go.Proofs.Ytcgopnknnolhkaa.Dg

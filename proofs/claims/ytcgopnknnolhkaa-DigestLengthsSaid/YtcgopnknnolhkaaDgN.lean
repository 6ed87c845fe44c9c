/- digest: SHA-1 of a text. -/
import Derived.Test.YtcgopnknnolhkaaDgM
set_option linter.unusedVariables false
set_option linter.unusedSimpArgs false
namespace Go.Proofs.Ytcgopnknnolhkaa.Dg
open Go.RowKit U
theorem mOB_gd (l : List UInt8) (n : Nat) : mOB (gd l (64 * n)) = fun i => wdBE l (64 * n + 4 * i) := by
  funext i
  unfold mOB wdBE gd
  simp only [Nat.add_assoc]
def pre1 (q : V) (k : Nat) : List UInt8 := ((List.range k).map fun i => be4 (vat q i)).flatten
theorem pre1_next (q : V) (k : Nat) : pre1 q (k + 1) = pre1 q k ++ be4 (vat q k) := by simp [pre1, List.range_succ]
theorem pre1_length (q : V) (k : Nat) : (pre1 q k).length = 4 * k := by
  induction k with
  | zero => rfl
  | succ k ih =>
    have h4 : (be4 (vat q k)).length = 4 := rfl
    rw [pre1_next, List.length_append, ih, h4]; omega
theorem idx5 (q : V) (k : Nat) (hk : k < 5) (w : World) : (Instr.index 45 (.agg (vcells q)) (.int .i64 (k : Int))).run Try.prog w = .ok (.int .u32 (u (vat q k))) w :=
  U.run_index_arr (P := Try.prog) 45 28 5 (vcells q) k _ Try.underlying45 Try.isAgg28 Try.sizeOf28 hk (vat_at q k hk)
set_option maxRecDepth 100000 in
set_option maxHeartbeats 2000000 in
theorem Sha1_any (s : ByteArray) (hs : s.size ≤ 50000) (w : World) : Calls Try.prog 10 #[.string s] w fun e w' => e = .returned (.string ⟨(sha1 s.data.toList).toArray⟩) ∧ Below w.heap.size w w' := by
  have HFL := Lib.hid (filled_any false s hs)
  have HMD : Hid (sha1 s.data.toList = be4 (rounds1 (fill s.data.toList false) ((fill s.data.toList false).length / 64)).a ++ be4 (rounds1 (fill s.data.toList false) ((fill s.data.toList false).length / 64)).b ++ be4 (rounds1 (fill s.data.toList false) ((fill s.data.toList false).length / 64)).c ++ be4 (rounds1 (fill s.data.toList false) ((fill s.data.toList false).length / 64)).d ++ be4 (rounds1 (fill s.data.toList false) ((fill s.data.toList false).length / 64)).e) := Lib.hid rfl
  obtain ⟨D, hD⟩ : ∃ D, D = sha1 s.data.toList := ⟨_, rfl⟩
  rw [← hD] at HMD ⊢
  clear hD
  obtain ⟨h64, h65⟩ := fill64 s.data.toList false
  have hlen : (fill s.data.toList false).length ≤ 60000 := by rw [fill_length]; have := U.len_data s; omega
  obtain ⟨L, hL⟩ : ∃ L, L = fill s.data.toList false := ⟨_, rfl⟩
  rw [← hL] at HFL HMD h64 h65 hlen
  clear hL
  obtain ⟨n, hn⟩ : ∃ n, L.length = 64 * n := ⟨L.length / 64, by omega⟩
  rw [show L.length / 64 = n by omega] at HMD
  have HLN := Lib.hid hn
  have hn1 : 1 ≤ n := by omega
  have hn2 : n ≤ 1000 := by omega
  have HX2 : Hid (At w.heap.size 45 (vcells (rounds1 L 0)) (w.alloc (.cells #[.int .u32 1732584193, .int .u32 4023233417, .int .u32 2562383102, .int .u32 271733878, .int .u32 3285377520] 45)) ∧ Below w.heap.size w (w.alloc (.cells #[.int .u32 1732584193, .int .u32 4023233417, .int .u32 2562383102, .int .u32 271733878, .int .u32 3285377520] 45)) ∧ w.heap.size < (w.alloc (.cells #[.int .u32 1732584193, .int .u32 4023233417, .int .u32 2562383102, .int .u32 271733878, .int .u32 3285377520] 45)).heap.size) := Lib.hid
    ⟨At.new w _ _, (Below.refl w.heap.size w).alloc (Nat.le_refl _) _, by simp⟩
  clear h64 h65 hlen hn
  go_enter Try.func10, Try.ntmps10
  go_wp2_with fail
  obtain ⟨w2, hw2⟩ : ∃ w2, w2 = (w.alloc (.cells #[.int .u32 1732584193, .int .u32 4023233417, .int .u32 2562383102, .int .u32 271733878, .int .u32 3285377520] 45)) := ⟨_, rfl⟩
  rw [← hw2] at HX2 ⊢
  obtain ⟨gH, hgH⟩ : ∃ g, g = w.heap.size := ⟨_, rfl⟩
  have HGH := Lib.hid hgH
  rw [← hgH] at HX2 ⊢
  clear hw2 hgH
  refine (HFL.out _).mono ?_
  rintro e w3 ⟨g, cp, rfl, h3, hb3⟩
  unfold BR at h3
  rw [HLN.out] at h3 ⊢
  obtain ⟨hcp1, _, hcp2⟩ := h3.cap_ge
  have hgB : w2.heap.size ≤ g := by
    obtain ⟨g', cp', e, hh, _⟩ := h3.form (by omega)
    injection e with e _ _; injection e with e; injection e with e; rw [e]; exact hh
  have HX3 : Hid (At gH 45 (vcells (rounds1 L 0)) w3 ∧ Soft w3 w2.heap.size (.slice (some ⟨g, 0, none⟩) (64 * n) cp) (64 * n) (bv L) ∧ Below w.heap.size w w3) := Lib.hid
    ⟨HX2.out.1.below hb3, h3, by rw [← HGH.out]; exact HX2.out.2.1.trans (hb3.mono (by have := HX2.out.2.2; omega))⟩
  have HNE : Hid (g ≠ gH ∧ w.heap.size ≤ gH) := Lib.hid (by
    have h5 := HX2.out.2.2
    have h6 := HGH.out
    exact ⟨by omega, by omega⟩)
  have hm : maxLen = 9223372036854775807 := by decide
  rw [hm] at hcp2
  clear h3 hb3 hgB hm
  go_wp2
  go_loopw [4] (fun v wq => ∃ (j o C : Nat), j ≤ n ∧ v = .slice (some ⟨g, o, none⟩) (64 * (n - j)) C ∧ (j < n → o = 64 * j ∧ 64 * (n - j) ≤ C) ∧ C ≤ 9223372036854775807 ∧ Hid (At gH 45 (vcells (rounds1 L j)) wq ∧ Soft wq w2.heap.size (.slice (some ⟨g, 0, none⟩) (64 * n) cp) (64 * n) (bv L) ∧ Below w.heap.size w wq)) (fun v _ => match v with | .slice _ l _ => l | _ => 0)
  case atStart => exact ⟨0, 0, cp, by omega, rfl, fun _ => ⟨rfl, by omega⟩, hcp2, HX3⟩
  case round =>
    obtain ⟨j, o, C, hj, rfl, ho, hC, HR⟩ := hrel
    by_cases hlt : j < n
    · obtain ⟨rfl, hLC⟩ := ho hlt
      have HBK := Lib.hid (block1_any (L := 64 * (n - j)) (C := C) HR.out.1 (bts_of (j := j) HR.out.2.1 HLN.out (by omega)) HNE.out.1 (by omega) hLC hC)
      obtain ⟨M, hM⟩ : ∃ M, M = n - j := ⟨_, rfl⟩
      have hM1 : 1 ≤ M := by omega
      have hM2 : M ≤ 1000 := by omega
      rw [← hM] at HBK hLC ⊢
      have HMJ := Lib.hid hM
      clear hM ho
      have l0 : (0 : Int) < 64 * (M : Int) := by omega
      have l1 : (64 : Int) ≤ 64 * (M : Int) := by omega
      have l2 : (64 : Int) ≤ (C : Int) := by omega
      by_cases hC64 : C = 64
      · subst hC64
        go_wp2_with fail
        refine HBK.out.mono ?_
        rintro e w5 ⟨rfl, h5, hg5⟩
        have HN : Hid (At gH 45 (vcells (rounds1 L (j + 1))) w5 ∧ Soft w5 w2.heap.size (.slice (some ⟨g, 0, none⟩) (64 * n) cp) (64 * n) (bv L) ∧ Below w.heap.size w w5) := Lib.hid
          ⟨by rw [rounds1_next, ← mOB_gd]; exact h5, HR.out.2.1.kept hg5 (fun b hb e => by injection hb with hb; injection e with e; exact HNE.out.1 (hb.trans e.symm)), HR.out.2.2.grown hg5 HR.out.2.2.size (fun b hb => by injection hb with hb; rw [← hb]; exact HNE.out.2)⟩
        clear h5 hg5 HBK
        go_wp2
        go_roundw
        case rel => exact ⟨j + 1, 64 * j, 0, by omega, by rw [show n - (j + 1) = M - 1 by have := HMJ.out; omega]; congr 1; omega, fun h => by have := HMJ.out; omega, by omega, HN⟩
        case measure => simp; omega
      · go_wp2_with fail
        refine HBK.out.mono ?_
        rintro e w5 ⟨rfl, h5, hg5⟩
        have HN : Hid (At gH 45 (vcells (rounds1 L (j + 1))) w5 ∧ Soft w5 w2.heap.size (.slice (some ⟨g, 0, none⟩) (64 * n) cp) (64 * n) (bv L) ∧ Below w.heap.size w w5) := Lib.hid
          ⟨by rw [rounds1_next, ← mOB_gd]; exact h5, HR.out.2.1.kept hg5 (fun b hb e => by injection hb with hb; injection e with e; exact HNE.out.1 (hb.trans e.symm)), HR.out.2.2.grown hg5 HR.out.2.2.size (fun b hb => by injection hb with hb; rw [← hb]; exact HNE.out.2)⟩
        clear h5 hg5 HBK
        go_wp2
        go_roundw
        case rel => exact ⟨j + 1, 64 * j + 64, C - 64, by omega, by rw [show n - (j + 1) = M - 1 by have := HMJ.out; omega]; congr 1; omega, fun h => ⟨by omega, by have := HMJ.out; omega⟩, by omega, HN⟩
        case measure => simp; omega
    · have hjn : j = n := by omega
      have hq : Hid (At gH 45 (vcells (rounds1 L n)) wr ∧ Below w.heap.size w wr) := Lib.hid (by rw [← hjn]; exact ⟨HR.out.1, HR.out.2.2⟩)
      obtain ⟨R, hR⟩ : ∃ R, R = rounds1 L n := ⟨_, rfl⟩
      have HD : Hid (D = pre1 R 5) := Lib.hid (by rw [HMD.out, ← hR]; simp [pre1, List.range_succ, vat])
      rw [← hR] at hq
      have hz : n - j = 0 := by omega
      rw [hz, Nat.mul_zero]
      have c0 := vc0 hq.out.1
      have c1 := vc1 hq.out.1
      have c2 := vc2 hq.out.1
      have c3 := vc3 hq.out.1
      have c4 := vc4 hq.out.1
      have HI := Lib.hid (idx5 R)
      have hix : ∀ (k : Nat) (hk : k < 5) (w : World), (Instr.index 45 (.agg #[.int .u32 (u R.a), .int .u32 (u R.b), .int .u32 (u R.c), .int .u32 (u R.d), .int .u32 (u R.e)]) (.int .i64 (k : Int))).run Try.prog w = .ok (.int .u32 (u (vat R k))) w := fun k hk w => HI.out k hk w
      have HIX := Lib.hid hix
      clear hR hjn hlt ho hj hix hz
      go_wp2
      go_loopw [5, 19] (fun v i wq => ∃ k : Nat, k ≤ 5 ∧ i = .int .i64 k ∧ Hid (Soft wq w.heap.size v (4 * k) (bv (pre1 R k)) ∧ Below w.heap.size w wq)) (fun _ i _ => 5 - (intOf i).toNat)
      case atStart => exact ⟨0, by omega, rfl, Lib.hid ⟨Soft.nil _ _, hq.out.2⟩⟩
      case round =>
        obtain ⟨k, hk, rfl, HS⟩ := hrel
        by_cases hk4 : k < 5
        · have hx := HIX.out k hk4
          have HA : Hid (Calls Try.prog 18 #[u5, .int .u32 (u (vat R k)), .bool false] wr (AppPost w.heap.size u5 (pre1 R k ++ be4 (vat R k)) wr)) := Lib.hid (app_any false (by unfold BR; rw [pre1_length]; exact HS.out.1) HS.out.2.size (by rw [pre1_length]; omega) (vat R k))
          have HP : Hid (pre1 R k ++ be4 (vat R k) = pre1 R (k + 1) ∧ (pre1 R (k + 1)).length = 4 * (k + 1)) := Lib.hid ⟨(pre1_next R k).symm, pre1_length R (k + 1)⟩
          rw [HP.out.1] at HA
          obtain ⟨y, hy⟩ : ∃ y, y = vat R k := ⟨_, rfl⟩
          rw [← hy] at hx HA
          clear hy
          go_wp2_with fail
          refine HA.out.mono ?_
          rintro e w5 ⟨g5, cp5, rfl, h5, hg5⟩
          have HN : Hid (Soft w5 w.heap.size (.slice (some ⟨g5, 0, none⟩) (4 * (k + 1)) cp5) (4 * (k + 1)) (bv (pre1 R (k + 1))) ∧ Below w.heap.size w w5) := Lib.hid ⟨by unfold BR at h5; rw [HP.out.2] at h5; exact h5, grown_below HS.out.2 HS.out.1 hg5⟩
          rw [HP.out.2]
          clear h5 hg5 hx
          go_wp2
          go_roundw
          case rel => exact ⟨k + 1, by omega, by go_num, HN⟩
          case measure => simp [intOf]; omega
        · have hkk : k = 5 := by omega
          subst hkk
          obtain ⟨g5, cp5, rfl, hg5⟩ := HS.out.1.form (by omega)
          have hl16 : (pre1 R 5).length = 20 := pre1_length R 5
          have hcv := run_convert_bytes_back (P := Try.prog) wr 33 9 5 ⟨g5, 0, none⟩ cp5 (pre1 R 5) Try.underlying33 Try.underlying5 Try.underlying9 (fun j hj => by
            rw [addz]
            exact HS.out.1.cellAt j _ (bv_at _ j hj))
          rw [hl16, ← HD.out] at hcv
          clear hl16
          go_wp2
          go_ret
          exact ⟨rfl, HS.out.2⟩
end Go.Proofs.Ytcgopnknnolhkaa.Dg

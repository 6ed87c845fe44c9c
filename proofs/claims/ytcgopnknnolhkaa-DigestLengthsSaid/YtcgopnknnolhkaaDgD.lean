/- digest: the padding. -/
import Derived.Test.YtcgopnknnolhkaaDgC
import Derived.Laws.IdiomCopy
import Derived.Lib.LazyBuf
set_option linter.unusedVariables false
set_option linter.unusedSimpArgs false
namespace Go.Proofs.Ytcgopnknnolhkaa.Dg
open Go.RowKit U
theorem sz1 : ∀ w, (Go.sizeOf 5).run Try.prog w = .ok 1 w := Try.sizeOf5
theorem mk_run (n : Nat) (hn : n ≤ 100000) (w : World) : (Instr.makeSlice 33 (.int .i64 (n : Int)) (.int .i64 ((n : Int) + 72))).run Try.prog w = .ok (.slice (some ⟨w.heap.size, 0, none⟩) n (n + 72)) (w.alloc (.cells (List.replicate (n + 72) (.int .u8 0)).toArray 5)) := by
  obtain ⟨i0, hi, hz0, hz1, hz2⟩ := info_parts infoU8
  have := run_makeSlice (P := Try.prog) (w := w) 33 5 i0 _ Try.underlying33 hi hz0 .i64 .i64 (n : Int) ((n : Int) + 72) (by omega) (by omega) (by rw [hz1]; omega) (by rw [hz2]; omega) (by omega)
  rw [this, hz1]
  have e1 : ((n : Int) + 72).toNat = n + 72 := by omega
  rw [e1, Int.toNat_natCast, Nat.mul_one]
  have e2 : madeCells (Value.int .u8 0).cells (n + 72) = (List.replicate (n + 72) (Value.int .u8 0)).toArray := by
    have := toList_madeCells_one (Value.int .u8 0) (n + 72)
    rw [← this]; rfl
  rw [e2]
theorem soft0 (n : Nat) (hn : n ≤ 100000) (w : World) : Soft (w.alloc (.cells (List.replicate (n + 72) (.int .u8 0)).toArray 5)) w.heap.size (.slice (some ⟨w.heap.size, 0, none⟩) 0 (n + 72)) 0 [] := by
  refine ⟨rfl, .inr ⟨w.heap.size, n + 72, rfl, Nat.le_refl _, by simp, by omega, by unfold maxLen; omega, (fun j u h => by simp at h), (fun j hj => ⟨?_, (At.new w _ _).free j⟩)⟩⟩
  rw [(At.new w 5 (List.replicate (n + 72) (.int .u8 0)).toArray).cell j (.int .u8 0) (by rw [List.getElem?_toArray, List.getElem?_replicate, if_pos hj])]; rfl
theorem copy_run (s : ByteArray) (hs : s.size ≤ 100000) (w : World) (ty : TypeId) : (Builtin.copy_ #[33, 9] ty #[.slice (some ⟨w.heap.size, 0, none⟩) s.size (s.size + 72), .string s]).run Try.prog (w.alloc (.cells (List.replicate (s.size + 72) (.int .u8 0)).toArray 5)) =
    .ok (goInt s.size) ((w.alloc (.cells (List.replicate (s.size + 72) (.int .u8 0)).toArray 5)).setCells w.heap.size 0 (bv s.data.toList)) := by
  have h0 := At.new w 5 (List.replicate (s.size + 72) (.int .u8 0)).toArray
  exact run_copy_string (P := Try.prog) _ _ _ ty 5 w.heap.size 0 s.size (s.size + 72) s Try.underlying33 sz1 (Nat.le_refl _) (fun j hj => by rw [Nat.zero_add, h0.cell j (.int .u8 0) (by rw [List.getElem?_toArray, List.getElem?_replicate, if_pos (by omega)])]; rfl) (fun j _ => h0.free _)
def FillPost (l : List UInt8) (w : World) (e : Ending) (w' : World) : Prop := ∃ g cp, e = .returned (.slice (some ⟨g, 0, none⟩) l.length cp) ∧ BR w' w.heap.size (.slice (some ⟨g, 0, none⟩) l.length cp) l ∧ Below w.heap.size w w'
theorem grown_below {w0 w w' : World} {v : Value} {n : Nat} {xs : List Value} (h : Below w0.heap.size w0 w) (hs : Soft w w0.heap.size v n xs) (hg : w.grownBy w' v.ownBlock) : Below w0.heap.size w0 w' := by
  refine h.grown hg h.size (fun k hk => ?_)
  rcases hs.2 with ⟨rfl, _⟩ | ⟨g, cap, rfl, hB, _⟩
  · cases hk
  · have : g = k := by simpa [Value.ownBlock] using hk
    omega
theorem low_high (n : Nat) (hn : n ≤ 100000) : ((n : Int) * 8 = u (UInt32.ofNat (n * 8))) ∧ (n : Int) * 8 / 4294967296 = 0 ∧ (0 : Int) = u (UInt32.ofNat (n * 8 / 4294967296)) := by
  refine ⟨?_, by omega, ?_⟩
  · unfold u; rw [UInt32.toNat_ofNat', Nat.mod_eq_of_lt (by omega)]; omega
  · unfold u; rw [UInt32.toNat_ofNat', Nat.mod_eq_of_lt (by omega)]; omega
set_option maxHeartbeats 2000000 in
theorem filled_any (least : Bool) (s : ByteArray) (hs : s.size ≤ 50000) (w : World) : Calls Try.prog 16 #[.string s, .bool least] w (FillPost (fill s.data.toList least) w) := by
  have hmk := mk_run s.size (by omega) w
  have HCP := Lib.hid (fun ty => copy_run s (by omega) w ty)
  have hdl : s.data.toList.length = s.size := U.len_data s
  have h1 := Soft.sets (bv s.data.toList) 0 [] _ (soft0 s.size (by omega) w) (by rw [bv_len, hdl]; omega)
  rw [bv_len, hdl, Nat.zero_add, List.nil_append] at h1
  have hb1 : Below w.heap.size w ((w.alloc (.cells (List.replicate (s.size + 72) (.int .u8 0)).toArray 5)).setCells w.heap.size 0 (bv s.data.toList)) :=
    ((Below.refl _ _).alloc (Nat.le_refl _) _).grown (grown_sets _ _ _ _) (by simp) (fun k hk => by injection hk with hk; omega)
  obtain ⟨W1, hW1⟩ : ∃ W1, W1 = (w.alloc (.cells (List.replicate (s.size + 72) (.int .u8 0)).toArray 5)).setCells w.heap.size 0 (bv s.data.toList) := ⟨_, rfl⟩
  rw [← hW1] at HCP h1 hb1
  obtain ⟨F, hF⟩ : ∃ F, F = (List.replicate (s.size + 72) (Value.int .u8 0)).toArray := ⟨_, rfl⟩
  rw [← hF] at HCP hmk
  clear hW1 hF
  obtain ⟨L, hL⟩ : ∃ L, L = s.data.toList := ⟨_, rfl⟩
  rw [← hL] at h1 ⊢
  have HLN : Hid (L.length = s.size) := Lib.hid (by rw [hL]; exact hdl)
  clear hdl hL
  obtain ⟨i0, hi, hz0, hz1, hz2⟩ := info_parts infoU8
  have hst : W1.heap.size + 0 ≥ w.heap.size := by have := hb1.size; omega
  have h2 := h1.below ((Below.refl W1.heap.size W1).alloc (Nat.le_refl _) (.cells #[.int .u8 128] 5))
  have HC := Lib.hid (lit_cells W1 [.int .u8 128] 5)
  have hb2 := Lib.hid (hb1.alloc (show w.heap.size ≤ W1.heap.size by omega) (.cells #[.int .u8 128] 5))
  have H2 := Lib.hid h2
  clear hb1 h1
  go_enter Try.func16, Try.ntmps16
  go_wp2
  rw [HCP.out]
  go_wp2_with (at_builtin; refine wpList_append_soft _ rfl _ _ 33 rfl w.heap.size 5 i0 (.int .u8 0) 1 Try.underlying33 hi hz0 hz1 hz2 rfl _ _ _ rfl h2 ⟨W1.heap.size, 0, none⟩ 1 1 [.int .u8 128] rfl rfl ?c1 ?c2 ?c3 ?c4 ?c5 ?_)
  case c1 => exact HC.out
  case c2 =>
    intro z hz
    rw [List.mem_singleton] at hz
    rw [hz]; rfl
  case c3 => simp only [maxLen]; omega
  case c4 => omega
  case c5 => simp; omega
  intro v' w5 hown' hgrow
  have HB5 := Lib.hid (grown_below hb2.out H2.out hgrow)
  obtain ⟨g5, cp5, rfl, hg5⟩ := hown'.form (by omega)
  have HO5 : Hid (Soft w5 w.heap.size (.slice (some ⟨g5, 0, none⟩) (s.size + 1) cp5) (s.size + 1) (bv (L ++ [128] ++ List.replicate 0 0))) := Lib.hid (by
    rw [List.replicate_zero, List.append_nil, bv_append]; exact hown')
  clear hown' hgrow h2 hmk hg5 hb2 H2 HC HCP hst
  obtain ⟨K, hK⟩ : ∃ K, K = padN s.size := ⟨_, rfl⟩
  have HK := Lib.hid hK
  clear hK
  go_wp2
  go_loopw [5] (fun v wq => ∃ (k N g cp : Nat), k ≤ K ∧ N = s.size + 1 + k ∧ v = .slice (some ⟨g, 0, none⟩) N cp ∧ Hid (Soft wq w.heap.size v N (bv (L ++ [128] ++ List.replicate k 0)) ∧ Below w.heap.size w wq)) (fun v _ => match v with | .slice _ l _ => K + s.size + 1 - l | _ => 0)
  case atStart => exact ⟨0, s.size + 1, g5, cp5, by omega, by omega, rfl, Lib.hid ⟨HO5.out, HB5.out⟩⟩
  case round =>
    obtain ⟨k, N, g, cp, hk, hN, rfl, HR⟩ := hrel
    have hK9 := HK.out
    unfold padN at hK9
    have hNN := Lib.hid hN
    have hN2 : N ≤ 60000 := by omega
    by_cases hlt : k < K
    · have t1 : ((N : Int) % 64 != 56) = true := by rw [bne_iff_ne]; omega
      have h7 := HR.out.1.below ((Below.refl wr.heap.size wr).alloc (Nat.le_refl _) (.cells #[.int .u8 0] 5))
      have HC := Lib.hid (lit_cells wr [.int .u8 0] 5)
      have hsz := HR.out.2.size
      have HB7 := Lib.hid (HR.out.2.alloc (show w.heap.size ≤ wr.heap.size by omega) (.cells #[.int .u8 0] 5))
      have H7 := Lib.hid h7
      clear hN hK9
      go_wp2_with (at_builtin; refine wpList_append_soft _ rfl _ _ 33 rfl w.heap.size 5 i0 (.int .u8 0) 1 Try.underlying33 hi hz0 hz1 hz2 rfl _ _ _ rfl h7 ⟨wr.heap.size, 0, none⟩ 1 1 [.int .u8 0] rfl rfl ?c1 ?c2 ?c3 ?c4 ?c5 ?_)
      case c1 => exact HC.out
      case c2 =>
        intro z hz
        rw [List.mem_singleton] at hz
        rw [hz]; rfl
      case c3 => simp only [maxLen]; omega
      case c4 => omega
      case c5 => simp; omega
      intro v' w6 hown' hgrow
      have HB6 := Lib.hid (grown_below HB7.out H7.out hgrow)
      obtain ⟨g6, cp6, rfl, hg6⟩ := hown'.form (by omega)
      have HO6 : Hid (Soft w6 w.heap.size (.slice (some ⟨g6, 0, none⟩) (N + 1) cp6) (N + 1) (bv (L ++ [128] ++ List.replicate (k + 1) 0))) := Lib.hid (by
        rw [List.replicate_succ', ← List.append_assoc, bv_append, List.append_assoc L [128]]; exact hown')
      clear hown' hgrow hg6 h7
      go_wp2
      go_roundw
      case rel => exact ⟨k + 1, N + 1, g6, cp6, by omega, by have := hNN.out; omega, rfl, Lib.hid ⟨HO6.out, HB6.out⟩⟩
      case measure => have := hNN.out; simp; omega
    · have hkK : k = K := by omega
      have t1 : ((N : Int) % 64 != 56) = false := by rw [bne_eq_false_iff_eq]; omega
      obtain ⟨q1, q2, q3⟩ := low_high s.size (by omega)
      obtain ⟨LW, hLW⟩ : ∃ x, x = (if least then (be4 (UInt32.ofNat (s.size * 8))).reverse else be4 (UInt32.ofNat (s.size * 8))) := ⟨_, rfl⟩
      obtain ⟨HW, hHW⟩ : ∃ x, x = (if least then (be4 (UInt32.ofNat (s.size * 8 / 4294967296))).reverse else be4 (UInt32.ofNat (s.size * 8 / 4294967296))) := ⟨_, rfl⟩
      have lLW : LW.length = 4 := by rw [hLW]; cases least <;> rfl
      have lHW : HW.length = 4 := by rw [hHW]; cases least <;> rfl
      obtain ⟨M, hM⟩ : ∃ M, M = L ++ [128] ++ List.replicate k 0 := ⟨_, rfl⟩
      have lM : M.length = N := by rw [hM]; simp only [List.length_append, List.length_replicate, HLN.out, hN, List.length_cons, List.length_nil]
      have HP : Hid (fill L least = if least then M ++ LW ++ HW else M ++ HW ++ LW) := Lib.hid (by
        rw [hM, hLW, hHW, hkK, HK.out, ← HLN.out]
        unfold fill len8
        cases least with
        | true => simp only [if_true, List.reverse_append, List.append_assoc]
        | false => simp only [Bool.false_eq_true, if_false, List.append_assoc])
      have HAL : Hid (∀ (v : Value) (l : List UInt8) (n : Nat) (w9 : World), Soft w9 w.heap.size v n (bv l) → l.length = n → w.heap.size ≤ w9.heap.size → n ≤ 100000 → Calls Try.prog 18 #[v, .int .u32 ((s.size : Int) * 8), .bool least] w9 (AppPost w.heap.size v (l ++ LW) w9)) := Lib.hid (fun v l n w9 h1 h2 h3 h4 => by subst h2; rw [hLW, q1]; exact app_any least h1 h3 h4 _)
      have HAH : Hid (∀ (v : Value) (l : List UInt8) (n : Nat) (w9 : World), Soft w9 w.heap.size v n (bv l) → l.length = n → w.heap.size ≤ w9.heap.size → n ≤ 100000 → Calls Try.prog 18 #[v, .int .u32 0, .bool least] w9 (AppPost w.heap.size v (l ++ HW) w9)) := Lib.hid (fun v l n w9 h1 h2 h3 h4 => by subst h2; rw [hHW, q3]; exact app_any least h1 h3 h4 _)
      have HR2 : Hid (Soft wr w.heap.size (.slice (some ⟨g, 0, none⟩) N cp) N (bv M) ∧ Below w.heap.size w wr) := Lib.hid (by rw [hM]; exact HR.out)
      have HM := Lib.hid lM
      have HLW := Lib.hid lLW
      have HHW := Lib.hid lHW
      clear hN hK9 q1 q3 hlt hLW hHW lLW lHW hM lM HR hNN
      cases least with
      | true =>
        go_wp2_with fail
        refine (HAL.out _ _ _ _ HR2.out.1 HM.out HR2.out.2.size (by omega)).mono ?_
        rintro e w6 ⟨g6, cp6, rfl, h6, hg6⟩
        have HB6 := Lib.hid (grown_below HR2.out.2 HR2.out.1 hg6)
        have hl6 : (M ++ LW).length = N + 4 := by rw [List.length_append, HM.out, HLW.out]
        unfold BR at h6
        rw [hl6] at h6 ⊢
        have H6 := Lib.hid h6
        have HL6 := Lib.hid hl6
        clear h6 hg6 hl6
        go_wp2_with fail
        refine (HAH.out _ _ _ _ H6.out HL6.out HB6.out.size (by omega)).mono ?_
        rintro e w7 ⟨g7, cp7, rfl, h7, hg7⟩
        have HB7 := Lib.hid (grown_below HB6.out H6.out hg7)
        have hl7 : (M ++ LW ++ HW).length = N + 8 := by rw [List.length_append, HL6.out, HHW.out]
        have hf : fill L true = M ++ LW ++ HW := by have := HP.out; simpa using this
        unfold BR at h7
        rw [hl7] at h7 ⊢
        have H7 := Lib.hid h7
        have HF := Lib.hid hf
        have HL7 := Lib.hid hl7
        clear h7 hg7 hl7 hf HP
        go_wp2
        go_ret
        rw [HF.out]
        unfold FillPost BR
        rw [HL7.out]
        exact ⟨g7, cp7, rfl, H7.out, HB7.out⟩
      | false =>
        go_wp2_with fail
        refine (HAH.out _ _ _ _ HR2.out.1 HM.out HR2.out.2.size (by omega)).mono ?_
        rintro e w6 ⟨g6, cp6, rfl, h6, hg6⟩
        have HB6 := Lib.hid (grown_below HR2.out.2 HR2.out.1 hg6)
        have hl6 : (M ++ HW).length = N + 4 := by rw [List.length_append, HM.out, HHW.out]
        unfold BR at h6
        rw [hl6] at h6 ⊢
        have H6 := Lib.hid h6
        have HL6 := Lib.hid hl6
        clear h6 hg6 hl6
        go_wp2_with fail
        refine (HAL.out _ _ _ _ H6.out HL6.out HB6.out.size (by omega)).mono ?_
        rintro e w7 ⟨g7, cp7, rfl, h7, hg7⟩
        have HB7 := Lib.hid (grown_below HB6.out H6.out hg7)
        have hl7 : (M ++ HW ++ LW).length = N + 8 := by rw [List.length_append, HL6.out, HLW.out]
        have hf : fill L false = M ++ HW ++ LW := by have := HP.out; simpa using this
        unfold BR at h7
        rw [hl7] at h7 ⊢
        have H7 := Lib.hid h7
        have HF := Lib.hid hf
        have HL7 := Lib.hid hl7
        clear h7 hg7 hl7 hf HP
        go_wp2
        go_ret
        rw [HF.out]
        unfold FillPost BR
        rw [HL7.out]
        exact ⟨g7, cp7, rfl, H7.out, HB7.out⟩
end Go.Proofs.Ytcgopnknnolhkaa.Dg

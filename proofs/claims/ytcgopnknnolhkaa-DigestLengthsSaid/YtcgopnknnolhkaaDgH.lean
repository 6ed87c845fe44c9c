/- digest: MD5 of a text. -/
import Derived.Test.YtcgopnknnolhkaaDgG
set_option linter.unusedVariables false
set_option linter.unusedSimpArgs false
namespace Go.Proofs.Ytcgopnknnolhkaa.Dg
open Go.RowKit U
theorem wpList_alloc64 {ops : Array Oper} {Q : Exit → Act → World → Prop} {rest : List Oper} {o : Oper} {a : Act} {w : World} (hgd : o.guard = none) (ho : o.op = Op.alloc 31)
    (h : wpList Try.prog ops Q rest (a.put o.dst (.pointer (some ⟨w.heap.size, 0, none⟩))) (w.alloc (.cells Z64 31))) : wpList Try.prog ops Q (o :: rest) a w :=
  wpList_run hgd (v := .pointer (some ⟨w.heap.size, 0, none⟩)) (w' := w.alloc (.cells Z64 31)) (by unfold execOp; simp only [ho, Sem.run_bind, alloc64, Result.andThen_ok, Sem.run_pure]) h
theorem fill64 (l : List UInt8) (b : Bool) : 64 ≤ (fill l b).length ∧ (fill l b).length % 64 = 0 := by rw [fill_length]; omega
def gd (l : List UInt8) (o : Nat) (j : Nat) : UInt8 := l.getD (o + j) 0
theorem mOf_gd (l : List UInt8) (n : Nat) : mOf (gd l (64 * n)) = fun i => wdLE l (64 * n + 4 * i) := by
  funext i
  unfold mOf wdLE gd
  simp only [Nat.add_assoc]
theorem KAt.grown {g : Nat} {w w' : World} {row : Option Nat} (h : KAt g w) (hg : w.grownBy w' row) (hne : some g ≠ row) : KAt g w' := fun i hi => hg.cell (h i hi) hne
theorem At.grown {g : Nat} {T : TypeId} {cs : Array Value} {w w' : World} {row : Option Nat} (h : At g T cs w) (hg : w.grownBy w' row) (hne : some g ≠ row) : At g T cs w' := (hg.block g h.lt hne).trans h
def pre5 (q : Q) (k : Nat) : List UInt8 := ((List.range k).map fun i => (be4 (qat q i)).reverse).flatten
theorem pre5_next (q : Q) (k : Nat) : pre5 q (k + 1) = pre5 q k ++ (be4 (qat q k)).reverse := by simp [pre5, List.range_succ]
theorem pre5_length (q : Q) (k : Nat) : (pre5 q k).length = 4 * k := by
  induction k with
  | zero => rfl
  | succ k ih =>
    have h4 : ((be4 (qat q k)).reverse).length = 4 := rfl
    rw [pre5_next, List.length_append, ih, h4]; omega
theorem bts_of {g cp n B j : Nat} {L : List UInt8} {w : World} (h : Soft w B (.slice (some ⟨g, 0, none⟩) n cp) n (bv L)) (hl : L.length = n) (hj : 64 * j + 64 ≤ n) : Bts g (64 * j) (gd L (64 * j)) w := fun i hi => by
  have h1 := h.cellAt (64 * j + i) _ (bv_at L (64 * j + i) (by omega))
  rw [h1]
  unfold gd
  rw [List.getD_eq_getElem?_getD, List.getElem?_eq_getElem (by omega)]; rfl
theorem idx4 (q : Q) (k : Nat) (hk : k < 4) (w : World) : (Instr.index 30 (.agg (qcells q)) (.int .i64 (k : Int))).run Try.prog w = .ok (.int .u32 (u (qat q k))) w :=
  U.run_index_arr (P := Try.prog) 30 28 4 (qcells q) k _ Try.underlying30 Try.isAgg28 Try.sizeOf28 hk (qat_at q k hk)
set_option maxRecDepth 100000 in
set_option maxHeartbeats 2000000 in
theorem Md5_any (s : ByteArray) (hs : s.size ≤ 50000) (w : World) : Calls Try.prog 8 #[.string s] w fun e w' => e = .returned (.string ⟨(md5 s.data.toList).toArray⟩) ∧ Below w.heap.size w w' := by
  have HSN := Lib.hid sines_any
  have HFL := Lib.hid (filled_any true s hs)
  have HMD : Hid (md5 s.data.toList = (be4 (rounds5 (fill s.data.toList true) ((fill s.data.toList true).length / 64)).a).reverse ++ (be4 (rounds5 (fill s.data.toList true) ((fill s.data.toList true).length / 64)).b).reverse ++ (be4 (rounds5 (fill s.data.toList true) ((fill s.data.toList true).length / 64)).c).reverse ++ (be4 (rounds5 (fill s.data.toList true) ((fill s.data.toList true).length / 64)).d).reverse) := Lib.hid rfl
  obtain ⟨D, hD⟩ : ∃ D, D = md5 s.data.toList := ⟨_, rfl⟩
  rw [← hD] at HMD ⊢
  clear hD
  obtain ⟨h64, h65⟩ := fill64 s.data.toList true
  have hlen : (fill s.data.toList true).length ≤ 60000 := by rw [fill_length]; have := U.len_data s; omega
  obtain ⟨L, hL⟩ : ∃ L, L = fill s.data.toList true := ⟨_, rfl⟩
  rw [← hL] at HFL HMD h64 h65 hlen
  clear hL
  obtain ⟨n, hn⟩ : ∃ n, L.length = 64 * n := ⟨L.length / 64, by omega⟩
  rw [show L.length / 64 = n by omega] at HMD
  have HLN := Lib.hid hn
  have hn1 : 1 ≤ n := by omega
  have hn2 : n ≤ 1000 := by omega
  have HH0 : Hid (At w.heap.size 30 (qcells (rounds5 L 0)) (w.alloc (.cells #[.int .u32 1732584193, .int .u32 4023233417, .int .u32 2562383102, .int .u32 271733878] 30))) := Lib.hid (At.new w _ _)
  have HB0 := Lib.hid ((Below.refl w.heap.size w).alloc (Nat.le_refl _) (.cells #[.int .u32 1732584193, .int .u32 4023233417, .int .u32 2562383102, .int .u32 271733878] 30))
  clear h64 h65 hlen hn
  go_enter Try.func8, Try.ntmps8
  go_wp2_with fail
  refine (HSN.out _).mono ?_
  rintro e w1 ⟨rfl, hb1⟩
  have HH1 := Lib.hid (HH0.out.below hb1)
  have HB1 := Lib.hid (HB0.out.trans (hb1.mono HB0.out.size))
  clear hb1
  go_wp2_with (first
    | (with_reducible refine wpList_alloc64 rfl rfl ?_)
    | ((with_reducible refine wpList_store_mid rfl 31 (.tmp 4) (.tmp 10) rfl w1.heap.size 0 kcells ?_ ?_ (there64 w1) size64 one64 ?_)
       · rfl
       · rfl))
  have HX2 : Hid (At w.heap.size 30 (qcells (rounds5 L 0)) ((w1.alloc (.cells Z64 31)).setCells w1.heap.size 0 kcells.toList) ∧ KAt w1.heap.size ((w1.alloc (.cells Z64 31)).setCells w1.heap.size 0 kcells.toList) ∧ Below w.heap.size w ((w1.alloc (.cells Z64 31)).setCells w1.heap.size 0 kcells.toList) ∧ w.heap.size < w1.heap.size ∧ w1.heap.size < ((w1.alloc (.cells Z64 31)).setCells w1.heap.size 0 kcells.toList).heap.size) := Lib.hid
    ⟨HH1.out.below (below64 w1), kat_range (range64 w1), HB1.out.trans ((below64 w1).mono HB1.out.size), HH1.out.lt, Nat.lt_of_lt_of_le (show w1.heap.size < (w1.alloc (.cells Z64 31)).heap.size by simp) (grown_sets _ _ _ _).size⟩
  obtain ⟨w2, hw2⟩ : ∃ w2, w2 = ((w1.alloc (.cells Z64 31)).setCells w1.heap.size 0 kcells.toList) := ⟨_, rfl⟩
  rw [← hw2] at HX2 ⊢
  obtain ⟨gH, hgH⟩ : ∃ g, g = w.heap.size := ⟨_, rfl⟩
  obtain ⟨gK, hgK⟩ : ∃ g, g = w1.heap.size := ⟨_, rfl⟩
  have HGH := Lib.hid hgH
  rw [← hgK] at HX2 ⊢
  rw [← hgH] at HX2 ⊢
  clear hw2 hgK hgH
  refine (HFL.out _).mono ?_
  rintro e w3 ⟨g, cp, rfl, h3, hb3⟩
  unfold BR at h3
  rw [HLN.out] at h3 ⊢
  obtain ⟨hcp1, _, hcp2⟩ := h3.cap_ge
  have hgB : w2.heap.size ≤ g := by
    obtain ⟨g', cp', e, hh, _⟩ := h3.form (by omega)
    injection e with e _ _; injection e with e; injection e with e; rw [e]; exact hh
  have HX3 : Hid (At gH 30 (qcells (rounds5 L 0)) w3 ∧ Soft w3 w2.heap.size (.slice (some ⟨g, 0, none⟩) (64 * n) cp) (64 * n) (bv L) ∧ KAt gK w3 ∧ Below w.heap.size w w3) := Lib.hid
    ⟨HX2.out.1.below hb3, h3, HX2.out.2.1.below hb3, by rw [← HGH.out]; exact HX2.out.2.2.1.trans (hb3.mono (by have := HX2.out.2.2.2; omega))⟩
  have HNE : Hid (g ≠ gH ∧ gK ≠ gH ∧ w.heap.size ≤ gH) := Lib.hid (by
    have h5 := HX2.out.2.2.2
    have h6 := HGH.out
    exact ⟨by omega, by omega, by omega⟩)
  have hm : maxLen = 9223372036854775807 := by decide
  rw [hm] at hcp2
  clear h3 hb3 hgB hm
  go_wp2
  go_loopw [5] (fun v wq => ∃ (j o C : Nat), j ≤ n ∧ v = .slice (some ⟨g, o, none⟩) (64 * (n - j)) C ∧ (j < n → o = 64 * j ∧ 64 * (n - j) ≤ C) ∧ C ≤ 9223372036854775807 ∧ Hid (At gH 30 (qcells (rounds5 L j)) wq ∧ Soft wq w2.heap.size (.slice (some ⟨g, 0, none⟩) (64 * n) cp) (64 * n) (bv L) ∧ KAt gK wq ∧ Below w.heap.size w wq)) (fun v _ => match v with | .slice _ l _ => l | _ => 0)
  case atStart => exact ⟨0, 0, cp, by omega, rfl, fun _ => ⟨rfl, by omega⟩, hcp2, HX3⟩
  case round =>
    obtain ⟨j, o, C, hj, rfl, ho, hC, HR⟩ := hrel
    by_cases hlt : j < n
    · obtain ⟨rfl, hLC⟩ := ho hlt
      have HBK := Lib.hid (block5_any (L := 64 * (n - j)) (C := C) HR.out.1 HR.out.2.2.1 (bts_of (j := j) HR.out.2.1 HLN.out (by omega)) HNE.out.1 (by omega) hLC hC HNE.out.2.1)
      obtain ⟨M, hM⟩ : ∃ M, M = n - j := ⟨_, rfl⟩
      have hM1 : 1 ≤ M := by omega
      have hM2 : M ≤ 1000 := by omega
      rw [← hM] at HBK hLC ⊢
      have HMJ := Lib.hid hM
      clear hM ho
      have l0 : (0 : Int) < 64 * (M : Int) := by omega
      have l1 : (64 : Int) ≤ 64 * (M : Int) := by omega
      have l2 : (64 : Int) ≤ (C : Int) := by omega
      by_cases hC64 : C = 64
      · subst hC64
        go_wp2_with fail
        refine HBK.out.mono ?_
        rintro e w5 ⟨rfl, h5, hg5⟩
        have HN : Hid (At gH 30 (qcells (rounds5 L (j + 1))) w5 ∧ Soft w5 w2.heap.size (.slice (some ⟨g, 0, none⟩) (64 * n) cp) (64 * n) (bv L) ∧ KAt gK w5 ∧ Below w.heap.size w w5) := Lib.hid
          ⟨by rw [rounds5_next, ← mOf_gd]; exact h5, HR.out.2.1.kept hg5 (fun b hb e => by injection hb with hb; injection e with e; exact HNE.out.1 (hb.trans e.symm)), HR.out.2.2.1.grown hg5 (fun e => by injection e with e; exact HNE.out.2.1 e), HR.out.2.2.2.grown hg5 HR.out.2.2.2.size (fun b hb => by injection hb with hb; rw [← hb]; exact HNE.out.2.2)⟩
        clear h5 hg5 HBK
        go_wp2
        go_roundw
        case rel => exact ⟨j + 1, 64 * j, 0, by omega, by rw [show n - (j + 1) = M - 1 by have := HMJ.out; omega]; congr 1; omega, fun h => by have := HMJ.out; omega, by omega, HN⟩
        case measure => simp; omega
      · go_wp2_with fail
        refine HBK.out.mono ?_
        rintro e w5 ⟨rfl, h5, hg5⟩
        have HN : Hid (At gH 30 (qcells (rounds5 L (j + 1))) w5 ∧ Soft w5 w2.heap.size (.slice (some ⟨g, 0, none⟩) (64 * n) cp) (64 * n) (bv L) ∧ KAt gK w5 ∧ Below w.heap.size w w5) := Lib.hid
          ⟨by rw [rounds5_next, ← mOf_gd]; exact h5, HR.out.2.1.kept hg5 (fun b hb e => by injection hb with hb; injection e with e; exact HNE.out.1 (hb.trans e.symm)), HR.out.2.2.1.grown hg5 (fun e => by injection e with e; exact HNE.out.2.1 e), HR.out.2.2.2.grown hg5 HR.out.2.2.2.size (fun b hb => by injection hb with hb; rw [← hb]; exact HNE.out.2.2)⟩
        clear h5 hg5 HBK
        go_wp2
        go_roundw
        case rel => exact ⟨j + 1, 64 * j + 64, C - 64, by omega, by rw [show n - (j + 1) = M - 1 by have := HMJ.out; omega]; congr 1; omega, fun h => ⟨by omega, by have := HMJ.out; omega⟩, by omega, HN⟩
        case measure => simp; omega
    · have hjn : j = n := by omega
      have hq : Hid (At gH 30 (qcells (rounds5 L n)) wr ∧ Below w.heap.size w wr) := Lib.hid (by rw [← hjn]; exact ⟨HR.out.1, HR.out.2.2.2⟩)
      obtain ⟨R, hR⟩ : ∃ R, R = rounds5 L n := ⟨_, rfl⟩
      have HD : Hid (D = pre5 R 4) := Lib.hid (by rw [HMD.out, ← hR]; simp [pre5, List.range_succ, qat])
      rw [← hR] at hq
      have hz : n - j = 0 := by omega
      rw [hz, Nat.mul_zero]
      have c0 := qc0 hq.out.1
      have c1 := qc1 hq.out.1
      have c2 := qc2 hq.out.1
      have c3 := qc3 hq.out.1
      have HI := Lib.hid (idx4 R)
      have hix : ∀ (k : Nat) (hk : k < 4) (w : World), (Instr.index 30 (.agg #[.int .u32 (u R.a), .int .u32 (u R.b), .int .u32 (u R.c), .int .u32 (u R.d)]) (.int .i64 (k : Int))).run Try.prog w = .ok (.int .u32 (u (qat R k))) w := fun k hk w => HI.out k hk w
      have HIX := Lib.hid hix
      clear hR hjn hlt ho hj hix hz
      go_wp2
      go_loopw [6, 21] (fun v i wq => ∃ k : Nat, k ≤ 4 ∧ i = .int .i64 k ∧ Hid (Soft wq w.heap.size v (4 * k) (bv (pre5 R k)) ∧ Below w.heap.size w wq)) (fun _ i _ => 4 - (intOf i).toNat)
      case atStart => exact ⟨0, by omega, rfl, Lib.hid ⟨Soft.nil _ _, hq.out.2⟩⟩
      case round =>
        obtain ⟨k, hk, rfl, HS⟩ := hrel
        by_cases hk4 : k < 4
        · have hx := HIX.out k hk4
          have HA : Hid (Calls Try.prog 18 #[u6, .int .u32 (u (qat R k)), .bool true] wr (AppPost w.heap.size u6 (pre5 R k ++ (be4 (qat R k)).reverse) wr)) := Lib.hid (app_any true (by unfold BR; rw [pre5_length]; exact HS.out.1) HS.out.2.size (by rw [pre5_length]; omega) (qat R k))
          have HP : Hid (pre5 R k ++ (be4 (qat R k)).reverse = pre5 R (k + 1) ∧ (pre5 R (k + 1)).length = 4 * (k + 1)) := Lib.hid ⟨(pre5_next R k).symm, pre5_length R (k + 1)⟩
          rw [HP.out.1] at HA
          obtain ⟨y, hy⟩ : ∃ y, y = qat R k := ⟨_, rfl⟩
          rw [← hy] at hx HA
          clear hy
          go_wp2_with fail
          refine HA.out.mono ?_
          rintro e w5 ⟨g5, cp5, rfl, h5, hg5⟩
          have HN : Hid (Soft w5 w.heap.size (.slice (some ⟨g5, 0, none⟩) (4 * (k + 1)) cp5) (4 * (k + 1)) (bv (pre5 R (k + 1))) ∧ Below w.heap.size w w5) := Lib.hid ⟨by unfold BR at h5; rw [HP.out.2] at h5; exact h5, grown_below HS.out.2 HS.out.1 hg5⟩
          rw [HP.out.2]
          clear h5 hg5 hx
          go_wp2
          go_roundw
          case rel => exact ⟨k + 1, by omega, by go_num, HN⟩
          case measure => simp [intOf]; omega
        · have hkk : k = 4 := by omega
          subst hkk
          obtain ⟨g5, cp5, rfl, hg5⟩ := HS.out.1.form (by omega)
          have hl16 : (pre5 R 4).length = 16 := pre5_length R 4
          have hcv := run_convert_bytes_back (P := Try.prog) wr 33 9 5 ⟨g5, 0, none⟩ cp5 (pre5 R 4) Try.underlying33 Try.underlying5 Try.underlying9 (fun j hj => by
            rw [addz]
            exact HS.out.1.cellAt j _ (bv_at _ j hj))
          rw [hl16, ← HD.out] at hcv
          clear hl16
          go_wp2
          go_ret
          exact ⟨rfl, HS.out.2⟩
end Go.Proofs.Ytcgopnknnolhkaa.Dg

/- digest: MD5's block. -/
import Derived.Test.YtcgopnknnolhkaaDgE
import Derived.Test.YtcgopnknnolhkaaDgB
import Derived.Test.YtcgopnknnolhkaaOrd
set_option linter.unusedVariables false
set_option linter.unusedSimpArgs false
namespace Go.Proofs.Ytcgopnknnolhkaa.Dg
open Go.RowKit U
def qcells (q : Q) : Array Value := #[.int .u32 (u q.a), .int .u32 (u q.b), .int .u32 (u q.c), .int .u32 (u q.d)]
theorem qc0 {g : Nat} {T : TypeId} {q : Q} {w : World} (h : At g T (qcells q) w) : w.cell? ⟨g, 0, none⟩ = some (.int .u32 (u q.a)) := h.cell 0 _ rfl
theorem qc1 {g : Nat} {T : TypeId} {q : Q} {w : World} (h : At g T (qcells q) w) : w.cell? ⟨g, 1, none⟩ = some (.int .u32 (u q.b)) := h.cell 1 _ rfl
theorem qc2 {g : Nat} {T : TypeId} {q : Q} {w : World} (h : At g T (qcells q) w) : w.cell? ⟨g, 2, none⟩ = some (.int .u32 (u q.c)) := h.cell 2 _ rfl
theorem qc3 {g : Nat} {T : TypeId} {q : Q} {w : World} (h : At g T (qcells q) w) : w.cell? ⟨g, 3, none⟩ = some (.int .u32 (u q.d)) := h.cell 3 _ rfl
def kcells : Array Value := (SINES.map fun x => .int .u32 (u x)).toArray
def mcells (n : Nat) (m : Nat → UInt32) (k : Nat) : Array Value := ((List.range n).map fun i => if i < k then .int .u32 (u (m i)) else .int .u32 0).toArray
theorem mcells_at (n : Nat) (m : Nat → UInt32) (k i : Nat) (hi : i < n) (hk : i < k) : (mcells n m k)[i]? = some (.int .u32 (u (m i))) := by
  unfold mcells
  rw [List.getElem?_toArray, List.getElem?_map, List.getElem?_range hi]
  simp [hk]
theorem mcells_at0 (n : Nat) (m : Nat → UInt32) (k i : Nat) (hi : i < n) (hk : k ≤ i) : (mcells n m k)[i]? = some (.int .u32 0) := by
  unfold mcells
  rw [List.getElem?_toArray, List.getElem?_map, List.getElem?_range hi]
  simp [Nat.not_lt.2 hk]
theorem mcells_next (n : Nat) (m : Nat → UInt32) (k : Nat) (hk : k < n) : (mcells n m k).setIfInBounds k (.int .u32 (u (m k))) = mcells n m (k + 1) := by
  apply Array.ext_getElem?
  intro i
  rw [Array.getElem?_setIfInBounds]
  have hs : (mcells n m k).size = n := by unfold mcells; simp
  by_cases hki : k = i
  · subst hki
    rw [if_pos rfl, if_pos (by omega), mcells_at n m (k + 1) k hk (by omega)]
  · rw [if_neg hki]
    by_cases hin : i < n
    · by_cases h1 : i < k
      · rw [mcells_at n m k i hin h1, mcells_at n m (k + 1) i hin (by omega)]
      · rw [mcells_at0 n m k i hin (by omega), mcells_at0 n m (k + 1) i hin (by omega)]
    · rw [Array.getElem?_eq_none (by omega), Array.getElem?_eq_none (by unfold mcells; simp; omega)]
theorem kcell (gK : Nat) (w : World) (h : At gK 31 kcells w) (i : Nat) (hi : i < 64) : w.cell? ⟨gK, i, none⟩ = some (.int .u32 (u (sin i))) := by
  refine h.cell i _ ?_
  unfold kcells sin
  have hl : SINES.length = 64 := rfl
  rw [List.getElem?_toArray, List.getElem?_map, List.getElem?_eq_getElem (by omega), List.getD_eq_getElem?_getD, List.getElem?_eq_getElem (by omega)]
  rfl
/-- The sines lie there. -/
def KAt (g : Nat) (w : World) : Prop := ∀ i, i < 64 → w.cell? ⟨g, i, none⟩ = some (.int .u32 (u (sin i)))
theorem KAt.below {g : Nat} {w w' : World} (h : KAt g w) (hb : Below w.heap.size w w') : KAt g w' := fun i hi => by
  have h1 := h i hi
  exact (hb.cell (p := ⟨g, i, none⟩) (World.block_lt_of_cell? w _ h1)).trans h1
/-- The bytes at a place of memory. -/
def Bts (g o : Nat) (b : Nat → UInt8) (w : World) : Prop := ∀ j, j < 64 → w.cell? ⟨g, o + j, none⟩ = some (.int .u8 ((b j).toNat : Int))
theorem Bts.four {g o : Nat} {b : Nat → UInt8} {w : World} (h : Bts g o b w) (k : Nat) (hk : k < 16) : Four g (o + 4 * k) (b (4 * k)) (b (4 * k + 1)) (b (4 * k + 2)) (b (4 * k + 3)) w :=
  ⟨h (4 * k) (by omega), by have := h (4 * k + 1) (by omega); rwa [show o + (4 * k + 1) = o + 4 * k + 1 by omega] at this, by have := h (4 * k + 2) (by omega); rwa [show o + (4 * k + 2) = o + 4 * k + 2 by omega] at this, by have := h (4 * k + 3) (by omega); rwa [show o + (4 * k + 3) = o + 4 * k + 3 by omega] at this⟩
theorem Bts.below {g o : Nat} {b : Nat → UInt8} {w w' : World} (h : Bts g o b w) (hb : Below w.heap.size w w') : Bts g o b w' := fun j hj => by
  have h1 := h j hj
  exact (hb.cell (p := ⟨g, o + j, none⟩) (World.block_lt_of_cell? w _ h1)).trans h1
def mOf (b : Nat → UInt8) (i : Nat) : UInt32 := wLE (b (4 * i)) (b (4 * i + 1)) (b (4 * i + 2)) (b (4 * i + 3))
def qat (q : Q) : Nat → UInt32
  | 0 => q.a
  | 1 => q.b
  | 2 => q.c
  | _ => q.d
/-- The first k words added. -/
def qmx (q r : Q) (k : Nat) : Q := ⟨if 0 < k then q.a + r.a else q.a, if 1 < k then q.b + r.b else q.b, if 2 < k then q.c + r.c else q.c, if 3 < k then q.d + r.d else q.d⟩
theorem qat_at (q : Q) (j : Nat) (h : j < 4) : (qcells q)[j]? = some (.int .u32 (u (qat q j))) := by
  match j, h with
  | 0, _ => rfl
  | 1, _ => rfl
  | 2, _ => rfl
  | 3, _ => rfl
theorem qmx_at (q r : Q) (j : Nat) (h : j < 4) : (qcells (qmx q r j))[j]? = some (.int .u32 (u (qat q j))) := by
  match j, h with
  | 0, _ => rfl
  | 1, _ => rfl
  | 2, _ => rfl
  | 3, _ => rfl
theorem qmx_next (q r : Q) (j : Nat) (h : j < 4) : (qcells (qmx q r j)).setIfInBounds j (.int .u32 (u (qat q j + qat r j))) = qcells (qmx q r (j + 1)) := by
  match j, h with
  | 0, _ => rfl
  | 1, _ => rfl
  | 2, _ => rfl
  | 3, _ => rfl
theorem grown_drew {w w' : World} {row : Option Nat} (h : w.grownBy w' row) : w.grownBy w'.drew row := ⟨h.os, h.tape, h.output, h.size, h.block⟩
set_option maxRecDepth 100000 in
set_option maxHeartbeats 4000000 in
theorem block5_any {gH gK g o L C : Nat} {q : Q} {b : Nat → UInt8} {w : World} (hH : At gH 30 (qcells q) w) (hK : KAt gK w) (hB : Bts g o b w) (hne : g ≠ gH) (hL : 64 ≤ L) (hLC : L ≤ C) (hC : C ≤ 9223372036854775807) (hKH : gK ≠ gH) :
    Calls Try.prog 17 #[.pointer (some ⟨gH, 0, none⟩), .slice (some ⟨g, o, none⟩) L C, .pointer (some ⟨gK, 0, none⟩)] w fun e w' => e = .returned (.tuple #[]) ∧ At gH 30 (qcells (blk5 (mOf b) q)) w' ∧ w.grownBy w' (some gH) := by
  have HH := Lib.hid hH
  have HK := Lib.hid hK
  have HBT := Lib.hid hB
  have H0 : Hid (At w.heap.size 57 (mcells 16 (mOf b) 0) (w.alloc (.cells (mcells 16 (mOf b) 0) 57))) := Lib.hid (At.new w _ _)
  have e0 : mcells 16 (mOf b) 0 = #[.int .u32 0, .int .u32 0, .int .u32 0, .int .u32 0, .int .u32 0, .int .u32 0, .int .u32 0, .int .u32 0, .int .u32 0, .int .u32 0, .int .u32 0, .int .u32 0, .int .u32 0, .int .u32 0, .int .u32 0, .int .u32 0] := rfl
  have HB0 := Lib.hid ((Below.refl w.heap.size w).alloc (Nat.le_refl _) (.cells (mcells 16 (mOf b) 0) 57))
  rw [e0] at H0 HB0
  have HE0 := Lib.hid e0
  clear hH hK hB e0
  obtain ⟨gM, hgM⟩ : ∃ x, x = w.heap.size := ⟨_, rfl⟩
  have HM := Lib.hid hgM
  go_enter Try.func17, Try.ntmps17
  go_wp2
  rw [← hgM]
  clear hgM
  go_loopw [14] (fun i wq => ∃ k : Nat, k ≤ 16 ∧ i = .int .i64 k ∧ Hid (At gM 57 (mcells 16 (mOf b) k) wq ∧ Below w.heap.size w wq)) (fun i _ => 16 - (intOf i).toNat)
  case atStart => exact ⟨0, by omega, rfl, Lib.hid ⟨by rw [HM.out, HE0.out]; exact H0.out, HB0.out⟩⟩
  case round =>
    obtain ⟨k, hk, rfl, HR⟩ := hrel
    by_cases hlt : k < 16
    · have hc1 : ¬ (C = 4 * k) := by omega
      have hc2 : 4 * (k : Int) ≤ (L : Int) := by omega
      have hc3 : 4 * (k : Int) ≤ (C : Int) := by omega
      have HW : Hid (Calls Try.prog 28 #[.slice (some ⟨g, o + 4 * k, none⟩) (L - 4 * k) (C - 4 * k), .bool true] wr fun e w' => e = .returned (.int .u32 (u (mOf b k))) ∧ ∃ n, w' = wr.drewN n) := Lib.hid (word_any true (L := L - 4 * k) (C := C - 4 * k) ((HBT.out.below HR.out.2).four k hlt) (by omega) (by omega))
      have c0 := HR.out.1.cell k _ (mcells_at0 16 (mOf b) k k hlt (Nat.le_refl _))
      have f0 := HR.out.1.free k
      go_wp2_with fail
      refine HW.out.mono ?_
      rintro e w5 ⟨rfl, n5, rfl⟩
      have HN : Hid (At gM 57 (mcells 16 (mOf b) (k + 1)) ((wr.setCell ⟨gM, k, none⟩ (.int .u32 (u (mOf b k)))).drewN n5) ∧ Below w.heap.size w ((wr.setCell ⟨gM, k, none⟩ (.int .u32 (u (mOf b k)))).drewN n5)) := Lib.hid (by
        have h1 := HR.out.1.set k (.int .u32 (u (mOf b k)))
        rw [mcells_next 16 (mOf b) k hlt] at h1
        exact ⟨h1.drewN n5, U.below_drewN (HR.out.2.setCell (p := ⟨gM, k, none⟩) (by rw [HM.out]; exact Nat.le_refl _) _) n5⟩)
      obtain ⟨Z, hZ⟩ : ∃ Z, Z = mOf b k := ⟨_, rfl⟩
      rw [← hZ] at HN ⊢
      clear hZ
      go_wp2
      go_roundw
      case rel => exact ⟨k + 1, by omega, by go_num, HN⟩
      case measure => simp [intOf]; omega
    · have hk16 : k = 16 := by omega
      have HR' : Hid (At gM 57 (mcells 16 (mOf b) 16) wr ∧ Below w.heap.size w wr) := Lib.hid (by have := HR.out; rw [hk16] at this; exact this)
      have hge : 16 ≤ k := by omega
      clear HR hk16 hlt hk
      have HR := HR'
      clear HR'
      have HHr := Lib.hid (HH.out.below HR.out.2)
      have hh0 := qc0 HHr.out
      have hh1 := qc1 HHr.out
      have hh2 := qc2 HHr.out
      have hh3 := qc3 HHr.out
      have HW0 : Hid (At wr.heap.size 30 (qcells (run5 (mOf b) q 0)) (wr.alloc (.cells #[.int .u32 (u q.a), .int .u32 (u q.b), .int .u32 (u q.c), .int .u32 (u q.d)] 30))) := Lib.hid (At.new wr _ _)
      have HB2 := Lib.hid (HR.out.2.alloc HR.out.2.size (.cells #[.int .u32 (u q.a), .int .u32 (u q.b), .int .u32 (u q.c), .int .u32 (u q.d)] 30))
      have HM2 := Lib.hid (HR.out.1.alloc (.cells #[.int .u32 (u q.a), .int .u32 (u q.b), .int .u32 (u q.c), .int .u32 (u q.d)] 30))
      go_wp2
      obtain ⟨gW, hgW⟩ : ∃ x, x = wr.heap.size := ⟨_, rfl⟩
      have HGW : Hid (gW = wr.heap.size ∧ w.heap.size ≤ gW ∧ gM < gW) := Lib.hid ⟨hgW, by rw [hgW]; exact HR.out.2.size, by rw [hgW]; exact HR.out.1.lt⟩
      rw [← hgW] at HW0 ⊢
      clear hgW hh0 hh1 hh2 hh3
      go_loopw [28] (fun i wq => ∃ k : Nat, k ≤ 64 ∧ i = .int .i64 k ∧ Hid (At gW 30 (qcells (run5 (mOf b) q k)) wq ∧ At gM 57 (mcells 16 (mOf b) 16) wq ∧ Below w.heap.size w wq)) (fun i _ => 64 - (intOf i).toNat)
      case atStart => exact ⟨0, by omega, rfl, Lib.hid ⟨HW0.out, HM2.out, HB2.out⟩⟩
      case round =>
        obtain ⟨k, hk, rfl, HR2⟩ := hrel
        by_cases hlt : k < 64
        · obtain ⟨Y, hY⟩ : ∃ Y, Y = run5 (mOf b) q k := ⟨_, rfl⟩
          have HY := Lib.hid hY
          have hc := HR2.out.1
          rw [← hY] at hc
          have c0 := qc0 hc
          have c1 := qc1 hc
          have c2 := qc2 hc
          have c3 := qc3 hc
          have f0 := hc.free 0
          have f1 := hc.free 1
          have f2 := hc.free 2
          have f3 := hc.free 3
          have hG : mixG k < 16 := by unfold mixG; split <;> (try split) <;> (try split) <;> omega
          have cm := HR2.out.2.1.cell (mixG k) _ (mcells_at 16 (mOf b) 16 (mixG k) hG hG)
          have ck := (HK.out.below HR2.out.2.2) k hlt
          have HMX := Lib.hid (mix_any Y.b Y.c Y.d k)
          have hbp : ∀ x y : UInt32, IntKind.u32.wrap (u x + u y) = u (x + y) := fun x y => by rw [IntKind.wrap_u32]; exact bp x y
          obtain ⟨t0, t1⟩ := trn_pos k hlt
          have HT : Hid (∀ w, Calls Try.prog 31 #[.int .i64 (k : Int)] w fun e w' => e = .returned (.int .i64 (trn k : Int)) ∧ w' = w) := Lib.hid (fun w => (turns_any k w hlt).mono fun e w' ⟨h1, h2⟩ => ⟨h1, h2.symm⟩)
          have HRT : Hid (∀ (x : UInt32) w, Calls Try.prog 30 #[.int .u32 (u x), .int .i64 (trn k : Int)] w fun e w' => e = .returned (.int .u32 (u (rotl x (trn k)))) ∧ w' = w) := Lib.hid (fun x w => (rot_any x (trn k) t0 t1 w).mono fun e w' ⟨h1, h2⟩ => ⟨h1, h2.symm⟩)
          have HST : Hid (step5 (mOf b) Y k = ⟨Y.d, Y.b + rotl (Y.a + mixF k Y.b Y.c Y.d + sin k + mOf b (mixG k)) (trn k), Y.b, Y.c⟩) := Lib.hid rfl
          obtain ⟨F, hF⟩ : ∃ F, F = mixF k Y.b Y.c Y.d := ⟨_, rfl⟩
          obtain ⟨G, hG'⟩ : ∃ G, G = mixG k := ⟨_, rfl⟩
          obtain ⟨S, hS⟩ : ∃ S, S = sin k := ⟨_, rfl⟩
          obtain ⟨T, hT⟩ : ∃ T, T = trn k := ⟨_, rfl⟩
          rw [← hF, ← hG'] at HMX
          rw [← hG'] at cm hG
          obtain ⟨MM, hMM⟩ : ∃ MM, MM = mOf b G := ⟨_, rfl⟩
          rw [← hF, ← hG', ← hS, ← hT, ← hMM] at HST
          rw [← hMM] at cm
          rw [← hS] at ck
          rw [← hT] at HT HRT
          obtain ⟨ya, yb, yc, yd⟩ := Y
          simp only at c0 c1 c2 c3 HMX HST
          clear hY hc hF hG' hS hT hMM t0 t1
          go_wp2_with fail
          refine (HMX.out wr hlt).mono ?_
          rintro e w5 ⟨rfl, rfl⟩
          go_wp2
          go_quiet (first
            | (go_at_call 31; exact Calls.quiet_of_same (HT.out _))
            | (go_at_call 30; exact Calls.quiet_of_same (HRT.out _ _)))
          have HN : Hid (∀ x : UInt32, At gW 30 (qcells ⟨yd, yb + x, yb, yc⟩) (((((wr.setCell ⟨gW, 0, none⟩ (.int .u32 (u yd))).setCell ⟨gW, 1, none⟩ (.int .u32 (u (yb + x)))).setCell ⟨gW, 2, none⟩ (.int .u32 (u yb))).setCell ⟨gW, 3, none⟩ (.int .u32 (u yc))).drewN nq) ∧
              At gM 57 (mcells 16 (mOf b) 16) (((((wr.setCell ⟨gW, 0, none⟩ (.int .u32 (u yd))).setCell ⟨gW, 1, none⟩ (.int .u32 (u (yb + x)))).setCell ⟨gW, 2, none⟩ (.int .u32 (u yb))).setCell ⟨gW, 3, none⟩ (.int .u32 (u yc))).drewN nq) ∧
              Below w.heap.size w (((((wr.setCell ⟨gW, 0, none⟩ (.int .u32 (u yd))).setCell ⟨gW, 1, none⟩ (.int .u32 (u (yb + x)))).setCell ⟨gW, 2, none⟩ (.int .u32 (u yb))).setCell ⟨gW, 3, none⟩ (.int .u32 (u yc))).drewN nq)) := Lib.hid (fun x => by
            have hc := HR2.out.1
            have hgw := HGW.out
            refine ⟨?_, ?_, ?_⟩
            · exact At.drewN ((((hc.set 0 _).set 1 _).set 2 _).set 3 _) nq
            · exact At.drewN ((((HR2.out.2.1.other ⟨gW, 0, none⟩ _ (by show gM ≠ gW; omega)).other ⟨gW, 1, none⟩ _ (by show gM ≠ gW; omega)).other ⟨gW, 2, none⟩ _ (by show gM ≠ gW; omega)).other ⟨gW, 3, none⟩ _ (by show gM ≠ gW; omega)) nq
            · exact U.below_drewN ((((HR2.out.2.2.setCell (p := ⟨gW, 0, none⟩) hgw.2.1 _).setCell (p := ⟨gW, 1, none⟩) hgw.2.1 _).setCell (p := ⟨gW, 2, none⟩) hgw.2.1 _).setCell (p := ⟨gW, 3, none⟩) hgw.2.1 _) nq)
          go_wp2
          go_roundw
          case rel => exact ⟨k + 1, by omega, by go_num, Lib.hid ⟨by rw [run5_next, ← HY.out, HST.out]; exact (HN.out _).1, (HN.out _).2.1, (HN.out _).2.2⟩⟩
          case measure => simp [intOf]; omega
        · have hk64 : k = 64 := by omega
          have HR3 : Hid (At gW 30 (qcells (run5 (mOf b) q 64)) wr ∧ Below w.heap.size w wr) := Lib.hid (by have := HR2.out; rw [hk64] at this; exact ⟨this.1, this.2.2⟩)
          have hge2 : 64 ≤ k := by omega
          have HBL : Hid (blk5 (mOf b) q = ⟨q.a + (run5 (mOf b) q 64).a, q.b + (run5 (mOf b) q 64).b, q.c + (run5 (mOf b) q 64).c, q.d + (run5 (mOf b) q 64).d⟩) := Lib.hid rfl
          obtain ⟨R, hR⟩ : ∃ R, R = run5 (mOf b) q 64 := ⟨_, rfl⟩
          rw [← hR] at HR3 HBL
          have HH3 : Hid (At gH 30 (qcells (qmx q R 0)) wr ∧ At gW 30 (qcells R) wr ∧ w.grownBy wr (some gH)) := Lib.hid ⟨HH.out.below HR3.out.2, HR3.out.1, ⟨HR3.out.2.os, HR3.out.2.tape, HR3.out.2.output, HR3.out.2.size, fun j hj _ => HR3.out.2.block j hj⟩⟩
          have HNE : Hid (¬ gH = gW ∧ ¬ gW = gH) := Lib.hid (by have h1 := HH.out.lt; have h2 := HGW.out.2.1; exact ⟨by omega, by omega⟩)
          clear hk64 hR HR2 HR3 hlt hk
          go_wp2
          go_loopw [71] (fun i wq => ∃ k : Nat, k ≤ 4 ∧ i = .int .i64 k ∧ Hid (At gH 30 (qcells (qmx q R k)) wq ∧ At gW 30 (qcells R) wq ∧ w.grownBy wq (some gH))) (fun i _ => 4 - (intOf i).toNat)
          case atStart => exact ⟨0, by omega, rfl, HH3⟩
          case round =>
            obtain ⟨j, hj, rfl, HR4⟩ := hrel
            have hbp : ∀ x y : UInt32, IntKind.u32.wrap (u x + u y) = u (x + y) := fun x y => by rw [IntKind.wrap_u32]; exact bp x y
            by_cases hlt : j < 4
            · have c1 := HR4.out.1.cell j _ (qmx_at q R j hlt)
              have c2 := HR4.out.2.1.cell j _ (qat_at R j hlt)
              have f1 := HR4.out.1.free j
              have HN : Hid (At gH 30 (qcells (qmx q R (j + 1))) ((wr.setCell ⟨gH, j, none⟩ (.int .u32 (u (qat q j + qat R j)))).drew) ∧ At gW 30 (qcells R) ((wr.setCell ⟨gH, j, none⟩ (.int .u32 (u (qat q j + qat R j)))).drew) ∧ w.grownBy ((wr.setCell ⟨gH, j, none⟩ (.int .u32 (u (qat q j + qat R j)))).drew) (some gH)) := Lib.hid (by
                have h1 := HR4.out.1.set j (.int .u32 (u (qat q j + qat R j)))
                rw [qmx_next q R j hlt] at h1
                exact ⟨At.drewN h1 1, At.drewN (HR4.out.2.1.other ⟨gH, j, none⟩ _ (HNE.out.2)) 1, grown_drew (grown_trans HR4.out.2.2 (grown_set wr gH j _))⟩)
              obtain ⟨x, hx⟩ : ∃ x, x = qat q j := ⟨_, rfl⟩
              obtain ⟨y, hy⟩ : ∃ y, y = qat R j := ⟨_, rfl⟩
              rw [← hx] at c1 HN
              rw [← hy] at c2 HN
              have p1 : ∀ z : U.In (U.Ext wr.drew), z.w.cell? ⟨gH, j, none⟩ = some (.int .u32 (u x)) := fun z => z.h _ _ c1
              have p2 : ∀ z : U.In (U.Ext wr.drew), z.w.cell? ⟨gW, j, none⟩ = some (.int .u32 (u y)) := fun z => z.h _ _ c2
              haveI : Nonempty (U.In (U.Ext wr.drew)) := ⟨⟨_, U.Ext.refl _⟩⟩
              clear hx hy
              go_wp2
              refine wp_region_ord [0, 1, 2, 3, 4, 5, 6, 7, 8, 9, 10] [] [11] (by kernel_rfl) (by kernel_rfl) (by kernel_rfl) ?_
              simp only [List.cons_append, List.nil_append, List.filterMap_cons, List.filterMap_nil, List.getElem?_toArray, List.getElem?_cons_succ, List.getElem?_cons_zero]
              change wpQuiet _ _ _ _ [_, _, _, _, _, _, _, _, _, _, _] _
              repeat go_big_quiet_step (fail)
              refine wpQuiet_nil ?_
              clear p1 p2 this
              unfold U.Ends
              change wpList _ _ _ [_] _ _
              go_wp2
              go_roundw
              case rel => exact ⟨j + 1, by omega, by go_num, HN⟩
              case measure => simp [intOf]; omega
            · have hj4 : j = 4 := by omega
              go_wp2
              go_end0
              refine ⟨rfl, ?_, HR4.out.2.2⟩
              rw [HBL.out]
              have := HR4.out.1
              rw [hj4] at this
              exact this
end Go.Proofs.Ytcgopnknnolhkaa.Dg

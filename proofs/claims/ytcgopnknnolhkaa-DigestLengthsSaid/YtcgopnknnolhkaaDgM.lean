/- digest: SHA-1's block. -/
import Derived.Test.YtcgopnknnolhkaaDgH
set_option linter.unusedVariables false
set_option linter.unusedSimpArgs false
namespace Go.Proofs.Ytcgopnknnolhkaa.Dg
open Go.RowKit U
def vcells (q : V) : Array Value := #[.int .u32 (u q.a), .int .u32 (u q.b), .int .u32 (u q.c), .int .u32 (u q.d), .int .u32 (u q.e)]
theorem vc0 {g : Nat} {T : TypeId} {q : V} {w : World} (h : At g T (vcells q) w) : w.cell? ⟨g, 0, none⟩ = some (.int .u32 (u q.a)) := h.cell 0 _ rfl
theorem vc1 {g : Nat} {T : TypeId} {q : V} {w : World} (h : At g T (vcells q) w) : w.cell? ⟨g, 1, none⟩ = some (.int .u32 (u q.b)) := h.cell 1 _ rfl
theorem vc2 {g : Nat} {T : TypeId} {q : V} {w : World} (h : At g T (vcells q) w) : w.cell? ⟨g, 2, none⟩ = some (.int .u32 (u q.c)) := h.cell 2 _ rfl
theorem vc3 {g : Nat} {T : TypeId} {q : V} {w : World} (h : At g T (vcells q) w) : w.cell? ⟨g, 3, none⟩ = some (.int .u32 (u q.d)) := h.cell 3 _ rfl
theorem vc4 {g : Nat} {T : TypeId} {q : V} {w : World} (h : At g T (vcells q) w) : w.cell? ⟨g, 4, none⟩ = some (.int .u32 (u q.e)) := h.cell 4 _ rfl
def vat (q : V) : Nat → UInt32
  | 0 => q.a
  | 1 => q.b
  | 2 => q.c
  | 3 => q.d
  | _ => q.e
/-- The first k words added. -/
def vmx (q r : V) (k : Nat) : V := ⟨if 0 < k then q.a + r.a else q.a, if 1 < k then q.b + r.b else q.b, if 2 < k then q.c + r.c else q.c, if 3 < k then q.d + r.d else q.d, if 4 < k then q.e + r.e else q.e⟩
theorem vat_at (q : V) (j : Nat) (h : j < 5) : (vcells q)[j]? = some (.int .u32 (u (vat q j))) := by
  match j, h with
  | 0, _ => rfl
  | 1, _ => rfl
  | 2, _ => rfl
  | 3, _ => rfl
  | 4, _ => rfl
theorem vmx_at (q r : V) (j : Nat) (h : j < 5) : (vcells (vmx q r j))[j]? = some (.int .u32 (u (vat q j))) := by
  match j, h with
  | 0, _ => rfl
  | 1, _ => rfl
  | 2, _ => rfl
  | 3, _ => rfl
  | 4, _ => rfl
theorem vmx_next (q r : V) (j : Nat) (h : j < 5) : (vcells (vmx q r j)).setIfInBounds j (.int .u32 (u (vat q j + vat r j))) = vcells (vmx q r (j + 1)) := by
  match j, h with
  | 0, _ => rfl
  | 1, _ => rfl
  | 2, _ => rfl
  | 3, _ => rfl
  | 4, _ => rfl
def mOB (b : Nat → UInt8) (i : Nat) : UInt32 := wBE (b (4 * i)) (b (4 * i + 1)) (b (4 * i + 2)) (b (4 * i + 3))
/-- The k-th of the eighty words. -/
def wd (m : Nat → UInt32) (k : Nat) : UInt32 := (wds m 80).getD k 0
theorem wds_pre (m : Nat → UInt32) (k : Nat) : ∀ n, k < n → (wds m n).getD k 0 = (wds m (k + 1)).getD k 0 := by
  intro n
  induction n with
  | zero => intro h; omega
  | succ n ih =>
    intro h
    rcases Nat.lt_or_ge k n with h1 | h1
    · rw [← ih h1]
      show ((wds m n) ++ _).getD k 0 = _
      rw [List.getD_eq_getElem?_getD, List.getElem?_append_left (by rw [wds_length]; exact h1), ← List.getD_eq_getElem?_getD]
    · have : k = n := by omega
      rw [this]
theorem wds_last (m : Nat → UInt32) (k : Nat) (x : UInt32) : ((wds m k) ++ [x]).getD k 0 = x := by
  rw [List.getD_eq_getElem?_getD, List.getElem?_append_right (by rw [wds_length]; exact Nat.le_refl _), wds_length]; simp
theorem wd_low (m : Nat → UInt32) (k : Nat) (h : k < 16) : wd m k = m k := by
  unfold wd
  rw [wds_pre m k 80 (by omega)]
  show ((wds m k) ++ _).getD k 0 = _
  rw [wds_last, if_pos h]
theorem wd_high (m : Nat → UInt32) (k : Nat) (h : 16 ≤ k) (h2 : k < 80) : wd m k = rotl (wd m (k - 3) ^^^ wd m (k - 8) ^^^ wd m (k - 14) ^^^ wd m (k - 16)) 1 := by
  unfold wd
  rw [wds_pre m k 80 h2]
  show ((wds m k) ++ _).getD k 0 = _
  rw [wds_last, if_neg (by omega)]
  rw [wds_pre m (k - 3) 80 (by omega), wds_pre m (k - 8) 80 (by omega), wds_pre m (k - 14) 80 (by omega), wds_pre m (k - 16) 80 (by omega), wds_pre m (k - 3) k (by omega), wds_pre m (k - 8) k (by omega), wds_pre m (k - 14) k (by omega), wds_pre m (k - 16) k (by omega)]
theorem alloc80 (m : Nat → UInt32) (w : World) : (Instr.alloc 63 true (.tuple #[])).run Try.prog w = .ok (.pointer (some ⟨w.heap.size, 0, none⟩)) (w.alloc (.cells (mcells 80 m 0) 63)) := by kernel_rfl
theorem wpList_alloc80 {m : Nat → UInt32} {ops : Array Oper} {Q : Exit → Act → World → Prop} {rest : List Oper} {o : Oper} {a : Act} {w : World} (hgd : o.guard = none) (ho : o.op = Op.alloc 63)
    (h : wpList Try.prog ops Q rest (a.put o.dst (.pointer (some ⟨w.heap.size, 0, none⟩))) (w.alloc (.cells (mcells 80 m 0) 63))) : wpList Try.prog ops Q (o :: rest) a w :=
  wpList_run hgd (v := .pointer (some ⟨w.heap.size, 0, none⟩)) (w' := w.alloc (.cells (mcells 80 m 0) 63)) (by unfold execOp; simp only [ho, Sem.run_bind, alloc80 m, Result.andThen_ok, Sem.run_pure]) h
set_option maxRecDepth 100000 in
set_option maxHeartbeats 4000000 in
theorem block1_any {gH g o L C : Nat} {q : V} {b : Nat → UInt8} {w : World} (hH : At gH 45 (vcells q) w) (hB : Bts g o b w) (hne : g ≠ gH) (hL : 64 ≤ L) (hLC : L ≤ C) (hC : C ≤ 9223372036854775807) :
    Calls Try.prog 25 #[.pointer (some ⟨gH, 0, none⟩), .slice (some ⟨g, o, none⟩) L C] w fun e w' => e = .returned (.tuple #[]) ∧ At gH 45 (vcells (blk1 (mOB b) q)) w' ∧ w.grownBy w' (some gH) := by
  have HH := Lib.hid hH
  have HBT := Lib.hid hB
  obtain ⟨W, hW⟩ : ∃ W, W = wd (mOB b) := ⟨_, rfl⟩
  have HW1 : Hid (∀ k, k < 16 → W k = mOB b k) := Lib.hid (fun k hk => by rw [hW]; exact wd_low _ k hk)
  have HW2 : Hid (∀ k, 16 ≤ k → k < 80 → W k = rotl (W (k - 3) ^^^ W (k - 8) ^^^ W (k - 14) ^^^ W (k - 16)) 1) := Lib.hid (fun k hk h2 => by rw [hW]; exact wd_high _ k hk h2)
  have HST : Hid (∀ (v : V) t, step1 (wds (mOB b) 80) v t = ⟨rotl v.a 5 + stF t v.b v.c v.d + v.e + W t + stK t, v.a, rotl v.b 30, v.c, v.d⟩) := Lib.hid (fun v t => by rw [hW]; rfl)
  have H0 : Hid (At w.heap.size 63 (mcells 80 W 0) (w.alloc (.cells (mcells 80 W 0) 63))) := Lib.hid (At.new w _ _)
  have HB0 := Lib.hid ((Below.refl w.heap.size w).alloc (Nat.le_refl _) (.cells (mcells 80 W 0) 63))
  clear hH hB hW
  obtain ⟨gM, hgM⟩ : ∃ x, x = w.heap.size := ⟨_, rfl⟩
  have HM := Lib.hid hgM
  go_enter Try.func25, Try.ntmps25
  go_wp2_with (with_reducible refine wpList_alloc80 (m := W) rfl rfl ?_)
  rw [← hgM]
  clear hgM
  go_loopw [12] (fun i wq => ∃ k : Nat, k ≤ 80 ∧ i = .int .i64 k ∧ Hid (At gM 63 (mcells 80 W k) wq ∧ Below w.heap.size w wq)) (fun i _ => 80 - (intOf i).toNat)
  case atStart => exact ⟨0, by omega, rfl, Lib.hid ⟨by rw [HM.out]; exact H0.out, HB0.out⟩⟩
  case round =>
    obtain ⟨k, hk, rfl, HR⟩ := hrel
    by_cases hlt : k < 80
    · have c0 := HR.out.1.cell k _ (mcells_at0 80 W k k hlt (Nat.le_refl _))
      have f0 := HR.out.1.free k
      by_cases h16 : k < 16
      · have hc1 : ¬ (C = 4 * k) := by omega
        have hc2 : 4 * (k : Int) ≤ (L : Int) := by omega
        have hc3 : 4 * (k : Int) ≤ (C : Int) := by omega
        have HW : Hid (Calls Try.prog 28 #[.slice (some ⟨g, o + 4 * k, none⟩) (L - 4 * k) (C - 4 * k), .bool false] wr fun e w' => e = .returned (.int .u32 (u (W k))) ∧ ∃ n, w' = wr.drewN n) := Lib.hid (by rw [HW1.out k h16]; exact word_any false (L := L - 4 * k) (C := C - 4 * k) ((HBT.out.below HR.out.2).four k h16) (by omega) (by omega))
        go_wp2_with fail
        refine HW.out.mono ?_
        rintro e w5 ⟨rfl, n5, rfl⟩
        have HN : Hid (At gM 63 (mcells 80 W (k + 1)) ((wr.setCell ⟨gM, k, none⟩ (.int .u32 (u (W k)))).drewN n5) ∧ Below w.heap.size w ((wr.setCell ⟨gM, k, none⟩ (.int .u32 (u (W k)))).drewN n5)) := Lib.hid (by
          have h1 := HR.out.1.set k (.int .u32 (u (W k)))
          rw [mcells_next 80 W k hlt] at h1
          exact ⟨h1.drewN n5, U.below_drewN (HR.out.2.setCell (p := ⟨gM, k, none⟩) (by rw [HM.out]; exact Nat.le_refl _) _) n5⟩)
        obtain ⟨Z, hZ⟩ : ∃ Z, Z = W k := ⟨_, rfl⟩
        rw [← hZ] at HN ⊢
        clear hZ
        go_wp2
        go_roundw
        case rel => exact ⟨k + 1, by omega, by go_num, HN⟩
        case measure => simp [intOf]; omega
      · have c3 := HR.out.1.cell (k - 3) _ (mcells_at 80 W k (k - 3) (by omega) (by omega))
        have c8 := HR.out.1.cell (k - 8) _ (mcells_at 80 W k (k - 8) (by omega) (by omega))
        have c14 := HR.out.1.cell (k - 14) _ (mcells_at 80 W k (k - 14) (by omega) (by omega))
        have c16 := HR.out.1.cell (k - 16) _ (mcells_at 80 W k (k - 16) (by omega) (by omega))
        have HWK := HW2.out k (by omega) hlt
        have HN : Hid (At gM 63 (mcells 80 W (k + 1)) ((wr.setCell ⟨gM, k, none⟩ (.int .u32 (u (W k)))).drew) ∧ Below w.heap.size w ((wr.setCell ⟨gM, k, none⟩ (.int .u32 (u (W k)))).drew)) := Lib.hid (by
          have h1 := HR.out.1.set k (.int .u32 (u (W k)))
          rw [mcells_next 80 W k hlt] at h1
          exact ⟨h1.drewN 1, U.below_drewN (HR.out.2.setCell (p := ⟨gM, k, none⟩) (by rw [HM.out]; exact Nat.le_refl _) _) 1⟩)
        rw [HWK] at HN
        obtain ⟨x3, h3⟩ : ∃ Z, Z = W (k - 3) := ⟨_, rfl⟩
        obtain ⟨x8, h8⟩ : ∃ Z, Z = W (k - 8) := ⟨_, rfl⟩
        obtain ⟨x14, h14⟩ : ∃ Z, Z = W (k - 14) := ⟨_, rfl⟩
        obtain ⟨x16, h16'⟩ : ∃ Z, Z = W (k - 16) := ⟨_, rfl⟩
        rw [← h3, ← h8, ← h14, ← h16'] at HN
        rw [← h3] at c3
        rw [← h8] at c8
        rw [← h14] at c14
        rw [← h16'] at c16
        have p0 : ∀ x : U.In (U.Ext wr.drew), x.w.cell? ⟨gM, k - 3, none⟩ = some (.int .u32 (u x3)) := fun x => x.h _ _ c3
        have p1 : ∀ x : U.In (U.Ext wr.drew), x.w.cell? ⟨gM, k - 8, none⟩ = some (.int .u32 (u x8)) := fun x => x.h _ _ c8
        have p2 : ∀ x : U.In (U.Ext wr.drew), x.w.cell? ⟨gM, k - 14, none⟩ = some (.int .u32 (u x14)) := fun x => x.h _ _ c14
        have p3 : ∀ x : U.In (U.Ext wr.drew), x.w.cell? ⟨gM, k - 16, none⟩ = some (.int .u32 (u x16)) := fun x => x.h _ _ c16
        haveI : Nonempty (U.In (U.Ext wr.drew)) := ⟨⟨_, U.Ext.refl _⟩⟩
        have hbx := bx
        have k3 : ((k : Int) - 3) = ((k - 3 : Nat) : Int) := by omega
        have k8 : ((k : Int) - 8) = ((k - 8 : Nat) : Int) := by omega
        have k14 : ((k : Int) - 14) = ((k - 14 : Nat) : Int) := by omega
        have k16 : ((k : Int) - 16) = ((k - 16 : Nat) : Int) := by omega
        clear HWK h3 h8 h14 h16'
        go_wp2
        refine wp_region_ord [0, 1, 2, 3, 4, 5, 6, 7, 8, 9, 10, 11, 12, 13, 14, 15, 16, 17, 18, 19] [] [20, 21, 22] (by kernel_rfl) (by kernel_rfl) (by kernel_rfl) ?_
        simp only [List.cons_append, List.nil_append, List.filterMap_cons, List.filterMap_nil, List.getElem?_toArray, List.getElem?_cons_succ, List.getElem?_cons_zero]
        change wpQuiet _ _ _ _ [_, _, _, _, _, _, _, _, _, _, _, _, _, _, _, _, _, _, _, _] _
        repeat go_big_quiet_step (fail)
        refine wpQuiet_nil ?_
        clear p0 p1 p2 p3 this c3 c8 c14 c16
        unfold U.Ends
        change wpList _ _ _ [_, _, _] _ _
        go_wp2_with fail
        refine (rot_any _ 1 (by decide) (by decide) _).mono ?_
        rintro e w5 ⟨rfl, rfl⟩
        go_wp2
        go_roundw
        case rel => exact ⟨k + 1, by omega, by go_num, HN⟩
        case measure => simp [intOf]; omega
    · have hk80 : k = 80 := by omega
      have HR' : Hid (At gM 63 (mcells 80 W 80) wr ∧ Below w.heap.size w wr) := Lib.hid (by have := HR.out; rw [hk80] at this; exact this)
      have hge : 80 ≤ k := by omega
      clear HR hk80 hlt hk
      have HR := HR'
      clear HR'
      have HHr := Lib.hid (HH.out.below HR.out.2)
      have hh0 := vc0 HHr.out
      have hh1 := vc1 HHr.out
      have hh2 := vc2 HHr.out
      have hh3 := vc3 HHr.out
      have hh4 := vc4 HHr.out
      have HW0 : Hid (At wr.heap.size 45 (vcells (run1 (wds (mOB b) 80) q 0)) (wr.alloc (.cells #[.int .u32 (u q.a), .int .u32 (u q.b), .int .u32 (u q.c), .int .u32 (u q.d), .int .u32 (u q.e)] 45))) := Lib.hid (At.new wr _ _)
      have HB2 := Lib.hid (HR.out.2.alloc HR.out.2.size (.cells #[.int .u32 (u q.a), .int .u32 (u q.b), .int .u32 (u q.c), .int .u32 (u q.d), .int .u32 (u q.e)] 45))
      have HM2 := Lib.hid (HR.out.1.alloc (.cells #[.int .u32 (u q.a), .int .u32 (u q.b), .int .u32 (u q.c), .int .u32 (u q.d), .int .u32 (u q.e)] 45))
      go_wp2
      obtain ⟨gW, hgW⟩ : ∃ x, x = wr.heap.size := ⟨_, rfl⟩
      have HGW : Hid (gW = wr.heap.size ∧ w.heap.size ≤ gW ∧ gM < gW) := Lib.hid ⟨hgW, by rw [hgW]; exact HR.out.2.size, by rw [hgW]; exact HR.out.1.lt⟩
      rw [← hgW] at HW0 ⊢
      clear hgW hh0 hh1 hh2 hh3 hh4
      go_loopw [50] (fun i wq => ∃ k : Nat, k ≤ 80 ∧ i = .int .i64 k ∧ Hid (At gW 45 (vcells (run1 (wds (mOB b) 80) q k)) wq ∧ At gM 63 (mcells 80 W 80) wq ∧ Below w.heap.size w wq)) (fun i _ => 80 - (intOf i).toNat)
      case atStart => exact ⟨0, by omega, rfl, Lib.hid ⟨HW0.out, HM2.out, HB2.out⟩⟩
      case round =>
        obtain ⟨k, hk, rfl, HR2⟩ := hrel
        by_cases hlt : k < 80
        · obtain ⟨Y, hY⟩ : ∃ Y, Y = run1 (wds (mOB b) 80) q k := ⟨_, rfl⟩
          have HY := Lib.hid hY
          have hc := HR2.out.1
          rw [← hY] at hc
          have HC := Lib.hid hc
          have c0 := vc0 hc
          have c1 := vc1 hc
          have c2 := vc2 hc
          have c3 := vc3 hc
          have c4 := vc4 hc
          have f0 := hc.free 0
          have f1 := hc.free 1
          have f2 := hc.free 2
          have f3 := hc.free 3
          have f4 := hc.free 4
          have ck := HR2.out.2.1.cell k _ (mcells_at 80 W 80 k hlt hlt)
          have HSP := Lib.hid (fun w => step_any Y.b Y.c Y.d k w hlt)
          have hbp : ∀ x y : UInt32, IntKind.u32.wrap (u x + u y) = u (x + y) := fun x y => by rw [IntKind.wrap_u32]; exact bp x y
          have HRT : Hid (∀ (x : UInt32) w, Calls Try.prog 30 #[.int .u32 (u x), .int .i64 5] w fun e w' => e = .returned (.int .u32 (u (rotl x 5))) ∧ w' = w) := Lib.hid (fun x w => (rot_any x 5 (by decide) (by decide) w).mono fun e w' ⟨h1, h2⟩ => ⟨h1, h2.symm⟩)
          have HST := Lib.hid (HST.out Y k)
          obtain ⟨F, hF⟩ : ∃ F, F = stF k Y.b Y.c Y.d := ⟨_, rfl⟩
          obtain ⟨S, hS⟩ : ∃ S, S = stK k := ⟨_, rfl⟩
          obtain ⟨Z, hZ⟩ : ∃ Z, Z = W k := ⟨_, rfl⟩
          rw [← hF, ← hS] at HSP
          rw [← hF, ← hS, ← hZ] at HST
          rw [← hZ] at ck
          obtain ⟨ya, yb, yc, yd, ye⟩ := Y
          simp only at c0 c1 c2 c3 c4 HSP HST HC
          clear hY hc hF hS hZ
          go_wp2_with fail
          refine (HSP.out wr).mono ?_
          rintro e w5 ⟨rfl, rfl⟩
          go_wp2
          go_quiet ((go_at_call 30; exact Calls.quiet_of_same (HRT.out _ _)))
          go_wp2
          obtain ⟨X, hX⟩ : ∃ X, X = rotl ya 5 + F + ye + Z + S := ⟨_, rfl⟩
          rw [← hX] at HST ⊢
          obtain ⟨w6, hw6⟩ : ∃ w6, w6 = wr.drewN nq := ⟨_, rfl⟩
          have HC6 : Hid (At gW 45 (vcells ⟨ya, yb, yc, yd, ye⟩) w6 ∧ At gM 63 (mcells 80 W 80) w6 ∧ Below w.heap.size w w6) := Lib.hid (by rw [hw6]; exact ⟨At.drewN HC.out nq, At.drewN HR2.out.2.1 nq, U.below_drewN HR2.out.2.2 nq⟩)
          rw [← hw6]
          clear hX hw6 c0 c1 c2 c3 c4 ck f0 f1 f2 f3 f4
          have HN : Hid (∀ x : UInt32, At gW 45 (vcells ⟨x, ya, rotl yb 30, yc, yd⟩) ((((((w6.setCell ⟨gW, 0, none⟩ (.int .u32 (u x))).setCell ⟨gW, 1, none⟩ (.int .u32 (u ya))).setCell ⟨gW, 2, none⟩ (.int .u32 (u (rotl yb 30)))).setCell ⟨gW, 3, none⟩ (.int .u32 (u yc))).setCell ⟨gW, 4, none⟩ (.int .u32 (u yd))).drew) ∧ At gM 63 (mcells 80 W 80) ((((((w6.setCell ⟨gW, 0, none⟩ (.int .u32 (u x))).setCell ⟨gW, 1, none⟩ (.int .u32 (u ya))).setCell ⟨gW, 2, none⟩ (.int .u32 (u (rotl yb 30)))).setCell ⟨gW, 3, none⟩ (.int .u32 (u yc))).setCell ⟨gW, 4, none⟩ (.int .u32 (u yd))).drew) ∧ Below w.heap.size w ((((((w6.setCell ⟨gW, 0, none⟩ (.int .u32 (u x))).setCell ⟨gW, 1, none⟩ (.int .u32 (u ya))).setCell ⟨gW, 2, none⟩ (.int .u32 (u (rotl yb 30)))).setCell ⟨gW, 3, none⟩ (.int .u32 (u yc))).setCell ⟨gW, 4, none⟩ (.int .u32 (u yd))).drew)) := Lib.hid (fun x => by
            have hgw := HGW.out
            refine ⟨?_, ?_, ?_⟩
            · exact At.drewN (((((HC6.out.1.set 0 _).set 1 _).set 2 _).set 3 _).set 4 _) 1
            · exact At.drewN (((((HC6.out.2.1.other ⟨gW, 0, none⟩ _ (by show gM ≠ gW; omega)).other ⟨gW, 1, none⟩ _ (by show gM ≠ gW; omega)).other ⟨gW, 2, none⟩ _ (by show gM ≠ gW; omega)).other ⟨gW, 3, none⟩ _ (by show gM ≠ gW; omega)).other ⟨gW, 4, none⟩ _ (by show gM ≠ gW; omega)) 1
            · exact U.below_drewN (((((HC6.out.2.2.setCell (p := ⟨gW, 0, none⟩) hgw.2.1 _).setCell (p := ⟨gW, 1, none⟩) hgw.2.1 _).setCell (p := ⟨gW, 2, none⟩) hgw.2.1 _).setCell (p := ⟨gW, 3, none⟩) hgw.2.1 _).setCell (p := ⟨gW, 4, none⟩) hgw.2.1 _) 1)
          have c0 := vc0 HC6.out.1
          have c1 := vc1 HC6.out.1
          have c2 := vc2 HC6.out.1
          have c3 := vc3 HC6.out.1
          have f0 := HC6.out.1.free 0
          have f1 := HC6.out.1.free 1
          have f2 := HC6.out.1.free 2
          have f3 := HC6.out.1.free 3
          have f4 := HC6.out.1.free 4
          simp only at c0 c1 c2 c3
          have p0 : ∀ x : U.In (U.Ext w6.drew), x.w.cell? ⟨gW, 0, none⟩ = some (.int .u32 (u ya)) := fun x => x.h _ _ c0
          have p1 : ∀ x : U.In (U.Ext w6.drew), x.w.cell? ⟨gW, 1, none⟩ = some (.int .u32 (u yb)) := fun x => x.h _ _ c1
          have p2 : ∀ x : U.In (U.Ext w6.drew), x.w.cell? ⟨gW, 2, none⟩ = some (.int .u32 (u yc)) := fun x => x.h _ _ c2
          have p3 : ∀ x : U.In (U.Ext w6.drew), x.w.cell? ⟨gW, 3, none⟩ = some (.int .u32 (u yd)) := fun x => x.h _ _ c3
          haveI : Nonempty (U.In (U.Ext w6.drew)) := ⟨⟨_, U.Ext.refl _⟩⟩
          refine U.wp_region_mix (S := U.Ext w6.drew) [0, 1, 2, 3, 4, 6, 7, 8, 9] [5] [10, 11] (by kernel_rfl) (by kernel_rfl) (U.Ext.refl _) ?_
          simp only [List.filterMap_cons, List.filterMap_nil, List.getElem?_toArray, List.getElem?_cons_succ, List.getElem?_cons_zero]
          change wpQuiet _ _ _ _ [_, _, _, _, _, _, _, _, _] _
          repeat go_big_quiet_step (fail)
          refine wpQuiet_nil ?_
          clear p0 p1 p2 p3 this
          have c4 := vc4 HC6.out.1
          refine U.wpParts_step (o := _) rfl ?_
          go_wp2_with fail
          refine (rot_any _ 30 (by decide) (by decide) _).mono ?_
          rintro e w5 ⟨rfl, rfl⟩
          go_wp2
          refine ⟨⟨⟨_, U.Ext.refl _⟩, rfl⟩, ?_⟩
          unfold U.wpParts U.Ends
          simp only [List.filterMap_cons, List.filterMap_nil, List.getElem?_toArray, List.getElem?_cons_succ, List.getElem?_cons_zero]
          change wpList _ _ _ [_, _] _ _
          go_wp2
          go_roundw
          case rel => exact ⟨k + 1, by omega, by go_num, Lib.hid ⟨by rw [run1_next, ← HY.out, HST.out]; exact (HN.out _).1, (HN.out _).2.1, (HN.out _).2.2⟩⟩
          case measure => simp [intOf]; omega
        · have hk80 : k = 80 := by omega
          have HR3 : Hid (At gW 45 (vcells (run1 (wds (mOB b) 80) q 80)) wr ∧ Below w.heap.size w wr) := Lib.hid (by have := HR2.out; rw [hk80] at this; exact ⟨this.1, this.2.2⟩)
          have hge2 : 80 ≤ k := by omega
          have HBL : Hid (blk1 (mOB b) q = ⟨q.a + (run1 (wds (mOB b) 80) q 80).a, q.b + (run1 (wds (mOB b) 80) q 80).b, q.c + (run1 (wds (mOB b) 80) q 80).c, q.d + (run1 (wds (mOB b) 80) q 80).d, q.e + (run1 (wds (mOB b) 80) q 80).e⟩) := Lib.hid rfl
          obtain ⟨R, hR⟩ : ∃ R, R = run1 (wds (mOB b) 80) q 80 := ⟨_, rfl⟩
          rw [← hR] at HR3 HBL
          have HH3 : Hid (At gH 45 (vcells (vmx q R 0)) wr ∧ At gW 45 (vcells R) wr ∧ w.grownBy wr (some gH)) := Lib.hid ⟨HH.out.below HR3.out.2, HR3.out.1, ⟨HR3.out.2.os, HR3.out.2.tape, HR3.out.2.output, HR3.out.2.size, fun j hj _ => HR3.out.2.block j hj⟩⟩
          have HNE : Hid (¬ gH = gW ∧ ¬ gW = gH) := Lib.hid (by have h1 := HH.out.lt; have h2 := HGW.out.2.1; exact ⟨by omega, by omega⟩)
          clear hk80 hR HR2 HR3 hlt hk
          go_wp2
          go_loopw [90] (fun i wq => ∃ k : Nat, k ≤ 5 ∧ i = .int .i64 k ∧ Hid (At gH 45 (vcells (vmx q R k)) wq ∧ At gW 45 (vcells R) wq ∧ w.grownBy wq (some gH))) (fun i _ => 5 - (intOf i).toNat)
          case atStart => exact ⟨0, by omega, rfl, HH3⟩
          case round =>
            obtain ⟨j, hj, rfl, HR4⟩ := hrel
            have hbp : ∀ x y : UInt32, IntKind.u32.wrap (u x + u y) = u (x + y) := fun x y => by rw [IntKind.wrap_u32]; exact bp x y
            by_cases hlt : j < 5
            · have c1 := HR4.out.1.cell j _ (vmx_at q R j hlt)
              have c2 := HR4.out.2.1.cell j _ (vat_at R j hlt)
              have f1 := HR4.out.1.free j
              have HN : Hid (At gH 45 (vcells (vmx q R (j + 1))) ((wr.setCell ⟨gH, j, none⟩ (.int .u32 (u (vat q j + vat R j)))).drew) ∧ At gW 45 (vcells R) ((wr.setCell ⟨gH, j, none⟩ (.int .u32 (u (vat q j + vat R j)))).drew) ∧ w.grownBy ((wr.setCell ⟨gH, j, none⟩ (.int .u32 (u (vat q j + vat R j)))).drew) (some gH)) := Lib.hid (by
                have h1 := HR4.out.1.set j (.int .u32 (u (vat q j + vat R j)))
                rw [vmx_next q R j hlt] at h1
                exact ⟨At.drewN h1 1, At.drewN (HR4.out.2.1.other ⟨gH, j, none⟩ _ (HNE.out.2)) 1, grown_drew (grown_trans HR4.out.2.2 (grown_set wr gH j _))⟩)
              obtain ⟨x, hx⟩ : ∃ x, x = vat q j := ⟨_, rfl⟩
              obtain ⟨y, hy⟩ : ∃ y, y = vat R j := ⟨_, rfl⟩
              rw [← hx] at c1 HN
              rw [← hy] at c2 HN
              have p1 : ∀ z : U.In (U.Ext wr.drew), z.w.cell? ⟨gH, j, none⟩ = some (.int .u32 (u x)) := fun z => z.h _ _ c1
              have p2 : ∀ z : U.In (U.Ext wr.drew), z.w.cell? ⟨gW, j, none⟩ = some (.int .u32 (u y)) := fun z => z.h _ _ c2
              haveI : Nonempty (U.In (U.Ext wr.drew)) := ⟨⟨_, U.Ext.refl _⟩⟩
              clear hx hy
              go_wp2
              refine wp_region_ord [0, 1, 2, 3, 4, 5, 6, 7, 8, 9, 10] [] [11] (by kernel_rfl) (by kernel_rfl) (by kernel_rfl) ?_
              simp only [List.cons_append, List.nil_append, List.filterMap_cons, List.filterMap_nil, List.getElem?_toArray, List.getElem?_cons_succ, List.getElem?_cons_zero]
              change wpQuiet _ _ _ _ [_, _, _, _, _, _, _, _, _, _, _] _
              repeat go_big_quiet_step (fail)
              refine wpQuiet_nil ?_
              clear p1 p2 this
              unfold U.Ends
              change wpList _ _ _ [_] _ _
              go_wp2
              go_roundw
              case rel => exact ⟨j + 1, by omega, by go_num, HN⟩
              case measure => simp [intOf]; omega
            · have hj4 : j = 5 := by omega
              go_wp2
              go_end0
              refine ⟨rfl, ?_, HR4.out.2.2⟩
              rw [HBL.out]
              have := HR4.out.1
              rw [hj4] at this
              exact this
end Go.Proofs.Ytcgopnknnolhkaa.Dg

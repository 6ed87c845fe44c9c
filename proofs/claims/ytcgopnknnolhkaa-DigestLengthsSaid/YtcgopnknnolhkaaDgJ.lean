/- wharfref07: MD5 of a text. -/
import Derived.Test.YtcgopnknnolhkaaDgI
set_option linter.unusedVariables false
set_option linter.unusedSimpArgs false
namespace Go.Proofs.Ytcgopnknnolhkaa.Dg
open Go.RowKit U
theorem wd_four {g cp n B : Nat} {L : List UInt8} {w : World} (h : Soft w B (.slice (some ⟨g, 0, none⟩) n cp) n (bv L)) (hl : L.length = n) (o : Nat) (ho : o + 4 ≤ n) : Four g o (L.getD o 0) (L.getD (o + 1) 0) (L.getD (o + 2) 0) (L.getD (o + 3) 0) w := by
  have k : ∀ i, i < n → w.cell? ⟨g, i, none⟩ = some (.int .u8 ((L.getD i 0).toNat : Int)) := fun i hi => by
    rw [h.cellAt i _ (bv_at L i (by omega)), List.getD_eq_getElem?_getD, List.getElem?_eq_getElem (by omega)]; rfl
  exact ⟨k o (by omega), k (o + 1) (by omega), k (o + 2) (by omega), k (o + 3) (by omega)⟩
theorem md5_flat (q : Q) : flatB true [q.a, q.b, q.c, q.d] 4 = (be4 q.a).reverse ++ (be4 q.b).reverse ++ (be4 q.c).reverse ++ (be4 q.d).reverse := by simp [flatB, bytes4]
set_option maxRecDepth 100000 in
set_option maxHeartbeats 4000000 in
theorem RMd5_any (s : ByteArray) (hs : s.size ≤ 50000) (w : World) : Calls Try.prog 9 #[.string s] w fun e w' => e = .returned (.string ⟨(md5 s.data.toList).toArray⟩) ∧ Below w.heap.size w w' := by
  have HTB := Lib.hid table_any
  have HFL := Lib.hid (rfill_any true s hs)
  have HMD : Hid (md5 s.data.toList = (be4 (rounds5 (fill s.data.toList true) ((fill s.data.toList true).length / 64)).a).reverse ++ (be4 (rounds5 (fill s.data.toList true) ((fill s.data.toList true).length / 64)).b).reverse ++ (be4 (rounds5 (fill s.data.toList true) ((fill s.data.toList true).length / 64)).c).reverse ++ (be4 (rounds5 (fill s.data.toList true) ((fill s.data.toList true).length / 64)).d).reverse) := Lib.hid rfl
  obtain ⟨D, hD⟩ : ∃ D, D = md5 s.data.toList := ⟨_, rfl⟩
  rw [← hD] at HMD ⊢
  clear hD
  obtain ⟨h64, h65⟩ := fill64 s.data.toList true
  have hlen : (fill s.data.toList true).length ≤ 60000 := by rw [fill_length]; have := U.len_data s; omega
  obtain ⟨L, hL⟩ : ∃ L, L = fill s.data.toList true := ⟨_, rfl⟩
  rw [← hL] at HFL HMD h64 h65 hlen
  clear hL
  obtain ⟨n, hn⟩ : ∃ n, L.length = 64 * n := ⟨L.length / 64, by omega⟩
  rw [show L.length / 64 = n by omega] at HMD
  have HLN := Lib.hid hn
  have hn1 : 1 ≤ n := by omega
  have hn2 : n ≤ 1000 := by omega
  have HH0 : Hid (At w.heap.size 28 (qcells (rounds5 L 0)) (w.alloc (.cells #[.int .u32 1732584193, .int .u32 4023233417, .int .u32 2562383102, .int .u32 271733878] 28))) := Lib.hid (At.new w _ _)
  have HB0 := Lib.hid ((Below.refl w.heap.size w).alloc (Nat.le_refl _) (.cells #[.int .u32 1732584193, .int .u32 4023233417, .int .u32 2562383102, .int .u32 271733878] 28))
  clear h64 h65 hlen hn
  go_enter Try.func9, Try.ntmps9
  go_wp2_with fail
  refine (HTB.out _).mono ?_
  obtain ⟨W0, hW0⟩ : ∃ W0, W0 = (w.alloc (.cells #[.int .u32 1732584193, .int .u32 4023233417, .int .u32 2562383102, .int .u32 271733878] 28)) := ⟨_, rfl⟩
  rw [← hW0] at HH0 HB0 ⊢
  have hgk : W0.heap.size = w.heap.size + 1 := by rw [hW0]; simp
  clear hW0
  rintro e w1 ⟨rfl, hw1⟩
  have HX1 : Hid (At w.heap.size 28 (qcells (rounds5 L 0)) w1 ∧ KAt W0.heap.size w1 ∧ Below w.heap.size w w1) := Lib.hid (by
    rw [hw1]
    exact ⟨HH0.out.alloc _, kat_new W0, HB0.out.alloc (by omega) _⟩)
  obtain ⟨gk, hgk2⟩ : ∃ g, g = W0.heap.size := ⟨_, rfl⟩
  rw [← hgk2] at HX1 ⊢
  obtain ⟨gh0, hgh0⟩ : ∃ g, g = w.heap.size := ⟨_, rfl⟩
  have HX1' : Hid (At gh0 28 (qcells (rounds5 L 0)) w1 ∧ KAt gk w1 ∧ Below w.heap.size w w1) := Lib.hid (by rw [hgh0]; exact HX1.out)
  rw [← hgh0]
  clear hgk hgk2 hgh0 hw1 HX1 HH0 HB0
  go_wp2_with fail
  refine (HFL.out _).mono ?_
  rintro e w3 ⟨g, cp, rfl, h3, hb3⟩
  unfold BR at h3
  rw [HLN.out] at h3 ⊢
  obtain ⟨hcp1, _, hcp2⟩ := h3.cap_ge
  have HX3 : Hid (At gh0 28 (qcells (rounds5 L 0)) w3 ∧ Soft w3 w1.heap.size (.slice (some ⟨g, 0, none⟩) (64 * n) cp) (64 * n) (bv L) ∧ KAt gk w3 ∧ Below w.heap.size w w3) := Lib.hid
    ⟨HX1'.out.1.below hb3, h3, HX1'.out.2.1.below hb3, HX1'.out.2.2.trans (hb3.mono HX1'.out.2.2.size)⟩
  have hm : maxLen = 9223372036854775807 := by decide
  rw [hm] at hcp2
  clear h3 hb3 hm HX1'
  have hbp : ∀ x y : UInt32, IntKind.u32.wrap (u x + u y) = u (x + y) := fun x y => by rw [IntKind.wrap_u32]; exact bp x y
  have hbq : ∀ x y : UInt32, (u x + u y) % 4294967296 = u (x + y) := bp
  go_wp2
  go_loopw [3, 6] (fun hv av wq => ∃ (j o gh : Nat), j ≤ n ∧ o = 64 * j ∧ av = .int .i64 o ∧ hv = .slice (some ⟨gh, 0, none⟩) 4 4 ∧ Hid (At gh 28 (qcells (rounds5 L j)) wq ∧ Soft wq w1.heap.size (.slice (some ⟨g, 0, none⟩) (64 * n) cp) (64 * n) (bv L) ∧ KAt gk wq ∧ Below w.heap.size w wq)) (fun _ av _ => 64 * n - (intOf av).toNat)
  case atStart => exact ⟨0, 0, gh0, by omega, by omega, rfl, rfl, HX3⟩
  case round =>
    obtain ⟨j, o, gh, hj, ho, rfl, rfl, HR⟩ := hrel
    by_cases hlt : o < 64 * n
    · have hdl : decide ((o : Int) < 64 * (n : Int)) = true := by rw [decide_eq_true_eq]; omega
      obtain ⟨wo, hwo⟩ : ∃ wo, wo = wr := ⟨_, rfl⟩
      obtain ⟨q, hq⟩ : ∃ q, q = rounds5 L j := ⟨_, rfl⟩
      have HQ := Lib.hid hq
      have hc := HR.out.1
      rw [← hq] at hc
      have c0 := qc0 hc
      have c1 := qc1 hc
      have c2 := qc2 hc
      have c3 := qc3 hc
      have HO := Lib.hid ho
      clear hq hc ho
      go_wp2
      go_quiet (fail)
      have HI0 : Hid (Below wo.heap.size wo (wr.drewN nq)) := Lib.hid (by rw [hwo]; exact U.below_drewN (Below.refl _ _) nq)
      have HWO := Lib.hid hwo
      clear hwo
      go_wp2
      obtain ⟨m, hm⟩ : ∃ m : Nat → UInt32, m = fun i => wdLE L (64 * j + 4 * i) := ⟨_, rfl⟩
      have HM := Lib.hid hm
      have hoj : o = 64 * j := HO.out
      have hjn : j < n := by omega
      have HJN := Lib.hid hjn
      have HOL : Hid (o + 64 ≤ 64 * n) := Lib.hid (by omega)
      clear hm hoj hjn hj
      go_loopw [7, 8, 9, 10, 11] (fun av bv' cv dv i wq => ∃ k : Nat, k ≤ 64 ∧ i = .int .i64 k ∧ av = .int .u32 (u (run5 m q k).a) ∧ bv' = .int .u32 (u (run5 m q k).b) ∧ cv = .int .u32 (u (run5 m q k).c) ∧ dv = .int .u32 (u (run5 m q k).d) ∧ Hid (Below wo.heap.size wo wq)) (fun _ _ _ _ i _ => 64 - (intOf i).toNat)
      case atStart => exact ⟨0, by omega, rfl, rfl, rfl, rfl, rfl, HI0⟩
      case round =>
        obtain ⟨k, hk, rfl, rfl, rfl, rfl, rfl, HR2⟩ := hrel
        by_cases hk64 : k < 64
        · obtain ⟨Y, hY⟩ : ∃ Y, Y = run5 m q k := ⟨_, rfl⟩
          have HY := Lib.hid hY
          rw [← hY]
          have HST : Hid (run5 m q (k + 1) = ⟨Y.d, Y.b + rotl (Y.a + mixF k Y.b Y.c Y.d + sin k + m (mixG k)) (trn k), Y.b, Y.c⟩) := Lib.hid (by rw [run5_next, ← hY]; rfl)
          have hG : mixG k < 16 := by unfold mixG; split <;> (try split) <;> (try split) <;> omega
          obtain ⟨F, hF⟩ : ∃ F, F = mixF k Y.b Y.c Y.d := ⟨_, rfl⟩
          obtain ⟨G, hG'⟩ : ∃ G, G = mixG k := ⟨_, rfl⟩
          rw [← hF, ← hG'] at HST
          rw [← hG'] at hG
          have HFF := Lib.hid hF
          have HGG := Lib.hid hG'
          have HSW : Hid (Soft wr w1.heap.size (.slice (some ⟨g, 0, none⟩) (64 * n) cp) (64 * n) (bv L)) := Lib.hid (by have := HR.out.2.1; rw [← HWO.out] at this; exact this.below HR2.out)
          have HKW : Hid (KAt gk wr) := Lib.hid (by have := HR.out.2.2.1; rw [← HWO.out] at this; exact this.below HR2.out)
          have ck := HKW.out k hk64
          have HWD : Hid (∀ n9, Calls Try.prog 21 #[.slice (some ⟨g, o + 4 * G, none⟩) 4 (cp - (o + 4 * G)), .bool true] (wr.drewN n9) fun e w' => e = .returned (.int .u32 (u (m G))) ∧ ∃ p, w' = (wr.drewN n9).drewN p) := Lib.hid (fun n9 => by
            have h1 := wd_four (HSW.out.drewN n9) HLN.out (o + 4 * G) (by have := HOL.out; omega)
            have h2 := rword_any true (L := 4) (C := cp - (o + 4 * G)) h1 (by omega) (by omega)
            have e : m G = wLE (L.getD (o + 4 * G) 0) (L.getD (o + 4 * G + 1) 0) (L.getD (o + 4 * G + 2) 0) (L.getD (o + 4 * G + 3) 0) := by rw [HM.out, HO.out]; rfl
            rw [e]; exact h2)
          obtain ⟨t0, t1⟩ := trn_pos k hk64
          have HT := Lib.hid (fun w9 => rturns_any k w9 hk64)
          have HRT := Lib.hid (fun x w9 => turn_any x (trn k) t0 t1 w9)
          obtain ⟨S, hS⟩ : ∃ S, S = sin k := ⟨_, rfl⟩
          obtain ⟨T, hT⟩ : ∃ T, T = trn k := ⟨_, rfl⟩
          obtain ⟨MM, hMM⟩ : ∃ MM, MM = m G := ⟨_, rfl⟩
          rw [← hS, ← hT, ← hMM] at HST
          rw [← hS] at ck
          rw [← hT] at HT HRT
          rw [← hMM] at HWD
          have g1 : (o : Int) + 4 * (G : Int) ≤ (o : Int) + 4 * (G : Int) + 4 := by omega
          have g2 : (o : Int) + 4 * (G : Int) + 4 ≤ (cp : Int) := by have := HOL.out; omega
          obtain ⟨ya, yb, yc, yd⟩ := Y
          simp only at HST HFF ⊢
          clear hY hF hG' hS hT hMM t0 t1
          have hbx := bx
          have hba := ba
          have hbo := bo
          have hbn := bn
          rcases (show k < 16 ∨ (16 ≤ k ∧ k < 32) ∨ (32 ≤ k ∧ k < 48) ∨ 48 ≤ k by omega) with w0 | ⟨w0, w0'⟩ | ⟨w0, w0'⟩ | w0
          · have d1 : (k : Int) / 16 = 0 := by omega
            have hg : k = G := by rw [HGG.out]; unfold mixG; rw [if_pos w0]
            have hf : F = (yb &&& yc) ||| (~~~yb &&& yd) := by rw [HFF.out, ← F0]; unfold mixF; rw [if_pos w0]
            subst hf
            subst hg
            go_wp2
            go_quiet ((go_at_call 21; exact Calls.quiet_of (HWD.out _)))
            have HI1 := Lib.hid (HR2.out.trans ((U.below_drewN (Below.refl wr.heap.size wr) nq).mono HR2.out.size))
            clear ck
            go_wp2_with fail
            refine (HT.out _).mono ?_
            rintro e w5 ⟨rfl, hb5⟩
            have HI2 : Hid (Below wo.heap.size wo w5) := Lib.hid (HI1.out.trans (hb5.mono HI1.out.size))
            clear hb5
            go_wp2_with fail
            refine (HRT.out _ _).mono ?_
            rintro e w6 ⟨rfl, n6, rfl⟩
            have HI3 : Hid (Below wo.heap.size wo (w5.drewN n6)) := Lib.hid (U.below_drewN HI2.out n6)
            go_wp2
            go_roundw
            case rel => exact ⟨k + 1, by omega, by go_num, by rw [HST.out], by rw [HST.out], by rw [HST.out], by rw [HST.out], HI3⟩
            case measure => simp [intOf]; omega
          · have d1 : (k : Int) / 16 = 1 := by omega
            have hg : (5 * (k : Int) + 1) % 16 = (G : Int) := by rw [HGG.out]; unfold mixG; rw [if_neg (by omega), if_pos w0']; omega
            have hf : F = (yd &&& yb) ||| (~~~yd &&& yc) := by rw [HFF.out, ← F1]; unfold mixF; rw [if_neg (by omega), if_pos w0']
            subst hf
            go_wp2
            go_quiet ((go_at_call 21; exact Calls.quiet_of (HWD.out _)))
            have HI1 := Lib.hid (HR2.out.trans ((U.below_drewN (Below.refl wr.heap.size wr) nq).mono HR2.out.size))
            clear ck
            go_wp2_with fail
            refine (HT.out _).mono ?_
            rintro e w5 ⟨rfl, hb5⟩
            have HI2 : Hid (Below wo.heap.size wo w5) := Lib.hid (HI1.out.trans (hb5.mono HI1.out.size))
            clear hb5
            go_wp2_with fail
            refine (HRT.out _ _).mono ?_
            rintro e w6 ⟨rfl, n6, rfl⟩
            have HI3 : Hid (Below wo.heap.size wo (w5.drewN n6)) := Lib.hid (U.below_drewN HI2.out n6)
            go_wp2
            go_roundw
            case rel => exact ⟨k + 1, by omega, by go_num, by rw [HST.out], by rw [HST.out], by rw [HST.out], by rw [HST.out], HI3⟩
            case measure => simp [intOf]; omega
          · have d1 : (k : Int) / 16 = 2 := by omega
            have hg : (3 * (k : Int) + 5) % 16 = (G : Int) := by rw [HGG.out]; unfold mixG; rw [if_neg (by omega), if_neg (by omega), if_pos w0']; omega
            have hf : F = yb ^^^ yc ^^^ yd := by rw [HFF.out]; unfold mixF; rw [if_neg (by omega), if_neg (by omega), if_pos w0']
            subst hf
            go_wp2
            go_quiet ((go_at_call 21; exact Calls.quiet_of (HWD.out _)))
            have HI1 := Lib.hid (HR2.out.trans ((U.below_drewN (Below.refl wr.heap.size wr) nq).mono HR2.out.size))
            clear ck
            go_wp2_with fail
            refine (HT.out _).mono ?_
            rintro e w5 ⟨rfl, hb5⟩
            have HI2 : Hid (Below wo.heap.size wo w5) := Lib.hid (HI1.out.trans (hb5.mono HI1.out.size))
            clear hb5
            go_wp2_with fail
            refine (HRT.out _ _).mono ?_
            rintro e w6 ⟨rfl, n6, rfl⟩
            have HI3 : Hid (Below wo.heap.size wo (w5.drewN n6)) := Lib.hid (U.below_drewN HI2.out n6)
            go_wp2
            go_roundw
            case rel => exact ⟨k + 1, by omega, by go_num, by rw [HST.out], by rw [HST.out], by rw [HST.out], by rw [HST.out], HI3⟩
            case measure => simp [intOf]; omega
          · have d1 : (k : Int) / 16 = 3 := by omega
            have hg : 7 * (k : Int) % 16 = (G : Int) := by rw [HGG.out]; unfold mixG; rw [if_neg (by omega), if_neg (by omega), if_neg (by omega)]; omega
            have hf : F = yc ^^^ (yb ||| ~~~yd) := by rw [HFF.out]; unfold mixF; rw [if_neg (by omega), if_neg (by omega), if_neg (by omega)]
            subst hf
            go_wp2
            go_quiet ((go_at_call 21; exact Calls.quiet_of (HWD.out _)))
            have HI1 := Lib.hid (HR2.out.trans ((U.below_drewN (Below.refl wr.heap.size wr) nq).mono HR2.out.size))
            clear ck
            go_wp2_with fail
            refine (HT.out _).mono ?_
            rintro e w5 ⟨rfl, hb5⟩
            have HI2 : Hid (Below wo.heap.size wo w5) := Lib.hid (HI1.out.trans (hb5.mono HI1.out.size))
            clear hb5
            go_wp2_with fail
            refine (HRT.out _ _).mono ?_
            rintro e w6 ⟨rfl, n6, rfl⟩
            have HI3 : Hid (Below wo.heap.size wo (w5.drewN n6)) := Lib.hid (U.below_drewN HI2.out n6)
            go_wp2
            go_roundw
            case rel => exact ⟨k + 1, by omega, by go_num, by rw [HST.out], by rw [HST.out], by rw [HST.out], by rw [HST.out], HI3⟩
            case measure => simp [intOf]; omega
        · have hk6 : k = 64 := by omega
          have hbl : blk5 m q = ⟨q.a + (run5 m q k).a, q.b + (run5 m q k).b, q.c + (run5 m q k).c, q.d + (run5 m q k).d⟩ := by rw [hk6]; rfl
          have HBL := Lib.hid hbl
          obtain ⟨Y, hY⟩ : ∃ Y, Y = run5 m q k := ⟨_, rfl⟩
          rw [← hY] at HBL ⊢
          have hcH : At gh 28 (qcells q) wr := by
            have := HR.out.1
            rw [← HQ.out, ← HWO.out] at this
            exact this.below HR2.out
          have c0 := qc0 hcH
          have c1 := qc1 hcH
          have c2 := qc2 hcH
          have c3 := qc3 hcH
          have p0 : ∀ x : U.In (U.Ext wr.drew), x.w.cell? ⟨gh, 0, none⟩ = some (.int .u32 (u q.a)) := fun x => x.h _ _ c0
          have p1 : ∀ x : U.In (U.Ext wr.drew), x.w.cell? ⟨gh, 1, none⟩ = some (.int .u32 (u q.b)) := fun x => x.h _ _ c1
          have p2 : ∀ x : U.In (U.Ext wr.drew), x.w.cell? ⟨gh, 2, none⟩ = some (.int .u32 (u q.c)) := fun x => x.h _ _ c2
          have p3 : ∀ x : U.In (U.Ext wr.drew), x.w.cell? ⟨gh, 3, none⟩ = some (.int .u32 (u q.d)) := fun x => x.h _ _ c3
          haveI : Nonempty (U.In (U.Ext wr.drew)) := ⟨⟨_, U.Ext.refl _⟩⟩
          have HNX : Hid (At wr.heap.size 28 (qcells (rounds5 L (j + 1))) (wr.alloc (.cells (qcells (blk5 m q)) 28)).drew ∧ Soft (wr.alloc (.cells (qcells (blk5 m q)) 28)).drew w1.heap.size (.slice (some ⟨g, 0, none⟩) (64 * n) cp) (64 * n) (bv L) ∧ KAt gk (wr.alloc (.cells (qcells (blk5 m q)) 28)).drew ∧ Below w.heap.size w (wr.alloc (.cells (qcells (blk5 m q)) 28)).drew) := Lib.hid (by
            have hal : Below wr.heap.size wr (wr.alloc (.cells (qcells (blk5 m q)) 28)).drew := U.below_drewN ((Below.refl _ _).alloc (Nat.le_refl _) _) 1
            have h1 := HR.out.2
            rw [← HWO.out] at h1
            refine ⟨?_, (h1.1.below HR2.out).below hal, (h1.2.1.below HR2.out).below hal, ?_⟩
            · have e : rounds5 L (j + 1) = blk5 m q := by rw [rounds5_next, HM.out, HQ.out]
              rw [e]; exact At.drewN (At.new wr _ _) 1
            · have hA := h1.2.2.trans (HR2.out.mono h1.2.2.size)
              exact hA.trans (hal.mono hA.size))
          have hqb : qcells (blk5 m q) = #[.int .u32 (u (q.a + Y.a)), .int .u32 (u (q.b + Y.b)), .int .u32 (u (q.c + Y.c)), .int .u32 (u (q.d + Y.d))] := by rw [HBL.out]; rfl
          rw [hqb] at HNX
          have hge : 64 ≤ k := by omega
          clear hbl hk6 hk64 hcH hqb hY hk
          obtain ⟨ya, yb, yc, yd⟩ := Y
          simp only at HNX ⊢
          go_wp2
          refine wp_region_ord [0, 1, 2, 3, 4, 5, 6, 7, 8, 9, 10, 11, 12, 13, 14, 15, 16, 17, 18, 19] [] [20, 21] (by kernel_rfl) (by kernel_rfl) (by kernel_rfl) ?_
          simp only [List.cons_append, List.nil_append, List.filterMap_cons, List.filterMap_nil, List.getElem?_toArray, List.getElem?_cons_succ, List.getElem?_cons_zero]
          change wpQuiet _ _ _ _ [_, _, _, _, _, _, _, _, _, _, _, _, _, _, _, _, _, _, _, _] _
          repeat go_big_quiet_step (fail)
          refine wpQuiet_nil ?_
          clear p0 p1 p2 p3 this c0 c1 c2 c3
          unfold U.Ends
          change wpList _ _ _ [_, _] _ _
          have o5 : (o : Int) + 64 ≤ 9223372036854775807 := by have := HOL.out; omega
          go_wp2
          go_roundw
          case rel => exact ⟨j + 1, o + 64, wr.heap.size, by have := HJN.out; omega, by have := HO.out; omega, by go_num, rfl, HNX⟩
          case measure => have := HOL.out; simp [intOf]; omega
    · have hjn : j = n := by omega
      obtain ⟨R, hR⟩ : ∃ R, R = rounds5 L n := ⟨_, rfl⟩
      have hcH := HR.out.1
      rw [hjn, ← hR] at hcH
      have HCH := Lib.hid hcH
      have HD : Hid (D = flatB true [R.a, R.b, R.c, R.d] 4) := Lib.hid (by rw [HMD.out, md5_flat, hR])
      have HBY : Hid (Calls Try.prog 24 #[.slice (some ⟨gh, 0, none⟩) 4 4, .bool true] wr fun e w' => e = .returned (.string ⟨D.toArray⟩) ∧ Below wr.heap.size wr w') := Lib.hid (by
        rw [HD.out]
        exact rbytes_any true [R.a, R.b, R.c, R.d] (show 4 ≤ 5 by omega) (show 1 ≤ 4 by omega) (fun i x hx => by
          match i, hx with
          | 0, hx => injection hx with hx; subst hx; exact qc0 HCH.out
          | 1, hx => injection hx with hx; subst hx; exact qc1 HCH.out
          | 2, hx => injection hx with hx; subst hx; exact qc2 HCH.out
          | 3, hx => injection hx with hx; subst hx; exact qc3 HCH.out
          | i + 4, hx => simp at hx))
      clear hcH hR hjn
      go_wp2_with fail
      refine HBY.out.mono ?_
      rintro e w9 ⟨rfl, hb9⟩
      have HB9 := Lib.hid (HR.out.2.2.2.trans (hb9.mono HR.out.2.2.2.size))
      clear hb9
      go_wp2
      go_ret
      exact ⟨rfl, HB9.out⟩
end Go.Proofs.Ytcgopnknnolhkaa.Dg

/- wharfref07: SHA-1 of a text. -/
import Derived.Test.YtcgopnknnolhkaaDgJ
import Derived.Test.YtcgopnknnolhkaaDgN
set_option linter.unusedVariables false
set_option linter.unusedSimpArgs false
namespace Go.Proofs.Ytcgopnknnolhkaa.Dg
open Go.RowKit U
theorem sha1_flat (q : V) : flatB false [q.a, q.b, q.c, q.d, q.e] 5 = be4 q.a ++ be4 q.b ++ be4 q.c ++ be4 q.d ++ be4 q.e := by simp [flatB, bytes4]
theorem infoU32 : (Try.prog.info? 28).map (fun i => (i.zero, i.size, i.bytes)) = some (some (.int .u32 0), 1, 4) := by kernel_rfl
def uv (l : List UInt32) : List Value := l.map fun x => .int .u32 (u x)
theorem uv_append (a b : List UInt32) : uv (a ++ b) = uv a ++ uv b := by unfold uv; rw [List.map_append]
theorem uv_at (l : List UInt32) (k : Nat) (h : k < l.length) : (uv l)[k]? = some (.int .u32 (u (l.getD k 0))) := by
  unfold uv
  rw [List.getElem?_map, List.getElem?_eq_getElem h, List.getD_eq_getElem?_getD, List.getElem?_eq_getElem h]; rfl
theorem wds_lo (m : Nat → UInt32) (k : Nat) (h : k < 16) : wds m (k + 1) = wds m k ++ [m k] := by
  show wds m k ++ _ = _
  rw [if_pos h]
theorem wds_hi (m : Nat → UInt32) (k : Nat) (h : 16 ≤ k) : wds m (k + 1) = wds m k ++ [rotl ((wds m k).getD (k - 3) 0 ^^^ (wds m k).getD (k - 8) 0 ^^^ (wds m k).getD (k - 14) 0 ^^^ (wds m k).getD (k - 16) 0) 1] := by
  show wds m k ++ _ = _
  rw [if_neg (by omega)]
/-- What lies in memory through a round. -/
structure RO (w : World) (B g cp n gh : Nat) (L : List UInt8) (q : V) (x : World) : Prop where
  h : At gh 28 (vcells q) x
  l : Soft x B (.slice (some ⟨g, 0, none⟩) (64 * n) cp) (64 * n) (bv L)
  b : Below w.heap.size w x
theorem RO.below {w : World} {B g cp n gh : Nat} {L : List UInt8} {q : V} {x y : World} (h : RO w B g cp n gh L q x) (hb : Below x.heap.size x y) : RO w B g cp n gh L q y :=
  ⟨h.h.below hb, h.l.below hb, h.b.trans (hb.mono h.b.size)⟩
def MAt (g : Nat) (l : List UInt32) (w : World) : Prop := ∀ i, i < 80 → w.cell? ⟨g, i, none⟩ = some (.int .u32 (u (l.getD i 0)))
theorem MAt.below {g : Nat} {l : List UInt32} {w w' : World} (h : MAt g l w) (hb : Below w.heap.size w w') : MAt g l w' := fun i hi => by
  have h1 := h i hi
  exact (hb.cell (p := ⟨g, i, none⟩) (World.block_lt_of_cell? w _ h1)).trans h1
set_option maxRecDepth 100000 in
set_option maxHeartbeats 4000000 in
theorem RSha1_any (s : ByteArray) (hs : s.size ≤ 50000) (w : World) : Calls Try.prog 11 #[.string s] w fun e w' => e = .returned (.string ⟨(sha1 s.data.toList).toArray⟩) ∧ Below w.heap.size w w' := by
  have HFL := Lib.hid (rfill_any false s hs)
  have HMD : Hid (sha1 s.data.toList = be4 (rounds1 (fill s.data.toList false) ((fill s.data.toList false).length / 64)).a ++ be4 (rounds1 (fill s.data.toList false) ((fill s.data.toList false).length / 64)).b ++ be4 (rounds1 (fill s.data.toList false) ((fill s.data.toList false).length / 64)).c ++ be4 (rounds1 (fill s.data.toList false) ((fill s.data.toList false).length / 64)).d ++ be4 (rounds1 (fill s.data.toList false) ((fill s.data.toList false).length / 64)).e) := Lib.hid rfl
  obtain ⟨D, hD⟩ : ∃ D, D = sha1 s.data.toList := ⟨_, rfl⟩
  rw [← hD] at HMD ⊢
  clear hD
  obtain ⟨h64, h65⟩ := fill64 s.data.toList false
  have hlen : (fill s.data.toList false).length ≤ 60000 := by rw [fill_length]; have := U.len_data s; omega
  obtain ⟨L, hL⟩ : ∃ L, L = fill s.data.toList false := ⟨_, rfl⟩
  rw [← hL] at HFL HMD h64 h65 hlen
  clear hL
  obtain ⟨n, hn⟩ : ∃ n, L.length = 64 * n := ⟨L.length / 64, by omega⟩
  rw [show L.length / 64 = n by omega] at HMD
  have HLN := Lib.hid hn
  have hn1 : 1 ≤ n := by omega
  have hn2 : n ≤ 1000 := by omega
  obtain ⟨i0, hi, hz0, hz1, hz2⟩ := info_parts infoU32
  obtain ⟨gh0, hgh0⟩ : ∃ g, g = w.heap.size := ⟨_, rfl⟩
  have HX1 : Hid (At gh0 28 (vcells (rounds1 L 0)) (w.alloc (.cells #[.int .u32 1732584193, .int .u32 4023233417, .int .u32 2562383102, .int .u32 271733878, .int .u32 3285377520] 28)) ∧ Below w.heap.size w (w.alloc (.cells #[.int .u32 1732584193, .int .u32 4023233417, .int .u32 2562383102, .int .u32 271733878, .int .u32 3285377520] 28))) := Lib.hid ⟨by rw [hgh0]; exact At.new w _ _, (Below.refl w.heap.size w).alloc (Nat.le_refl _) _⟩
  clear h64 h65 hlen hn
  go_enter Try.func11, Try.ntmps11
  go_wp2_with fail
  obtain ⟨w1, hw1⟩ : ∃ w1, w1 = (w.alloc (.cells #[.int .u32 1732584193, .int .u32 4023233417, .int .u32 2562383102, .int .u32 271733878, .int .u32 3285377520] 28)) := ⟨_, rfl⟩
  rw [← hw1] at HX1 ⊢
  rw [← hgh0]
  clear hw1 hgh0
  refine (HFL.out _).mono ?_
  rintro e w3 ⟨g, cp, rfl, h3, hb3⟩
  unfold BR at h3
  rw [HLN.out] at h3 ⊢
  obtain ⟨hcp1, _, hcp2⟩ := h3.cap_ge
  have HX3 : Hid (RO w w1.heap.size g cp n gh0 L (rounds1 L 0) w3) := Lib.hid ⟨HX1.out.1.below hb3, h3, HX1.out.2.trans (hb3.mono HX1.out.2.size)⟩
  have hm : maxLen = 9223372036854775807 := by decide
  rw [hm] at hcp2
  clear h3 hb3 hm
  have hbp : ∀ x y : UInt32, IntKind.u32.wrap (u x + u y) = u (x + y) := fun x y => by rw [IntKind.wrap_u32]; exact bp x y
  have hbq : ∀ x y : UInt32, (u x + u y) % 4294967296 = u (x + y) := bp
  go_wp2
  go_loopw [3, 5] (fun hv av wq => ∃ (j o gh : Nat), j ≤ n ∧ o = 64 * j ∧ av = .int .i64 o ∧ hv = .slice (some ⟨gh, 0, none⟩) 5 5 ∧ Hid (RO w w1.heap.size g cp n gh L (rounds1 L j) wq)) (fun _ av _ => 64 * n - (intOf av).toNat)
  case atStart => exact ⟨0, 0, gh0, by omega, by omega, rfl, rfl, HX3⟩
  case round =>
    obtain ⟨j, o, gh, hj, ho, rfl, rfl, HR⟩ := hrel
    by_cases hlt : o < 64 * n
    · have hdl : decide ((o : Int) < 64 * (n : Int)) = true := by rw [decide_eq_true_eq]; omega
      obtain ⟨wo, hwo⟩ : ∃ wo, wo = wr := ⟨_, rfl⟩
      obtain ⟨q, hq⟩ : ∃ q, q = rounds1 L j := ⟨_, rfl⟩
      obtain ⟨m, hm⟩ : ∃ m : Nat → UInt32, m = fun i => wdBE L (64 * j + 4 * i) := ⟨_, rfl⟩
      have HNEXT : Hid (rounds1 L (j + 1) = blk1 m q) := Lib.hid (by rw [rounds1_next, hm, hq])
      have HMM : Hid (∀ i, m i = wBE (L.getD (o + 4 * i) 0) (L.getD (o + 4 * i + 1) 0) (L.getD (o + 4 * i + 2) 0) (L.getD (o + 4 * i + 3) 0)) := Lib.hid (fun i => by rw [hm, ho]; rfl)
      have HRO : Hid (RO w w1.heap.size g cp n gh L q wo) := Lib.hid (by rw [hq, hwo]; exact HR.out)
      have HI0 : Hid (Soft wr wo.heap.size (.slice none 0 0) 0 (uv (wds m 0)) ∧ Below wo.heap.size wo wr) := Lib.hid (by rw [hwo]; exact ⟨Soft.nil _ _, Below.refl _ _⟩)
      have hjn : j < n := by omega
      have HJN := Lib.hid hjn
      have HO := Lib.hid ho
      have HOL : Hid (o + 64 ≤ 64 * n) := Lib.hid (by omega)
      clear hq hm hwo HR hjn hj ho
      go_wp2
      go_loopw [6, 7] (fun v i wq => ∃ k : Nat, k ≤ 80 ∧ i = .int .i64 k ∧ Hid (Soft wq wo.heap.size v k (uv (wds m k)) ∧ Below wo.heap.size wo wq)) (fun _ i _ => 80 - (intOf i).toNat)
      case atStart => exact ⟨0, by omega, rfl, HI0⟩
      case round =>
        obtain ⟨k, hk, rfl, HR2⟩ := hrel
        by_cases hk80 : k < 80
        · by_cases h16 : k < 16
          · have HWD : Hid (Calls Try.prog 21 #[.slice (some ⟨g, o + 4 * k, none⟩) 4 (cp - (o + 4 * k)), .bool false] wr fun e w' => e = .returned (.int .u32 (u (m k))) ∧ ∃ p, w' = wr.drewN p) := Lib.hid (by
              have h1 := wd_four (HRO.out.below HR2.out.2).l HLN.out (o + 4 * k) (by have := HOL.out; omega)
              have h2 := rword_any false (L := 4) (C := cp - (o + 4 * k)) h1 (by omega) (by omega)
              rw [HMM.out k]; exact h2)
            have HNX : Hid (uv (wds m (k + 1)) = uv (wds m k) ++ [.int .u32 (u (m k))]) := Lib.hid (by rw [wds_lo m k h16, uv_append]; rfl)
            obtain ⟨X, hX⟩ : ∃ X, X = m k := ⟨_, rfl⟩
            rw [← hX] at HWD HNX
            have g1 : (o : Int) + 4 * (k : Int) ≤ (o : Int) + 4 * (k : Int) + 4 := by omega
            have g2 : (o : Int) + 4 * (k : Int) + 4 ≤ (cp : Int) := by have := HOL.out; omega
            clear hX
            go_wp2_with fail
            refine HWD.out.mono ?_
            rintro e w5 ⟨rfl, n5, hw5⟩
            have HS5 : Hid (Soft w5 wo.heap.size u6 k (uv (wds m k)) ∧ Below wo.heap.size wo w5) := Lib.hid (by rw [hw5]; exact ⟨HR2.out.1.drewN n5, U.below_drewN HR2.out.2 n5⟩)
            clear hw5
            have h7 := HS5.out.1.below ((Below.refl w5.heap.size w5).alloc (Nat.le_refl _) (.cells #[.int .u32 (u X)] 28))
            have H7 := Lib.hid h7
            have HC := Lib.hid (lit_cells w5 [.int .u32 (u X)] 28)
            have HB7 := Lib.hid (HS5.out.2.alloc HS5.out.2.size (.cells #[.int .u32 (u X)] 28))
            go_wp2_with (at_builtin; refine wpList_append_soft _ rfl _ _ 38 rfl wo.heap.size 28 i0 (.int .u32 0) 4 Try.underlying38 hi hz0 hz1 hz2 rfl _ _ _ rfl h7 ⟨w5.heap.size, 0, none⟩ 1 1 [.int .u32 (u X)] rfl rfl ?c1 ?c2 ?c3 ?c4 ?c5 ?_)
            case c1 => exact HC.out
            case c2 =>
              intro z hz
              rw [List.mem_singleton] at hz
              rw [hz]; rfl
            case c3 => simp only [maxLen]; omega
            case c4 => omega
            case c5 => have := HS5.out.2.size; simp; omega
            intro v' w6 hown' hgrow
            have HB6 := Lib.hid (grown_below HB7.out H7.out hgrow)
            rw [← HNX.out] at hown'
            have HO6 := Lib.hid hown'
            clear hown' hgrow h7
            go_wp2
            go_roundw
            case rel => exact ⟨k + 1, by omega, by go_num, Lib.hid ⟨HO6.out, HB6.out⟩⟩
            case measure => simp [intOf]; omega
          · obtain ⟨gm, cpm, rfl, hgm⟩ := HR2.out.1.form (by omega)
            have hkl : (wds m k).length = k := wds_length m k
            have c3 := HR2.out.1.cellAt (k - 3) _ (uv_at (wds m k) (k - 3) (by omega))
            have c8 := HR2.out.1.cellAt (k - 8) _ (uv_at (wds m k) (k - 8) (by omega))
            have c14 := HR2.out.1.cellAt (k - 14) _ (uv_at (wds m k) (k - 14) (by omega))
            have c16 := HR2.out.1.cellAt (k - 16) _ (uv_at (wds m k) (k - 16) (by omega))
            have HNX : Hid (uv (wds m (k + 1)) = uv (wds m k) ++ [.int .u32 (u (rotl ((wds m k).getD (k - 3) 0 ^^^ (wds m k).getD (k - 8) 0 ^^^ (wds m k).getD (k - 14) 0 ^^^ (wds m k).getD (k - 16) 0) 1))]) := Lib.hid (by rw [wds_hi m k (by omega), uv_append]; rfl)
            obtain ⟨x3, h3⟩ : ∃ Z, Z = (wds m k).getD (k - 3) 0 := ⟨_, rfl⟩
            obtain ⟨x8, h8⟩ : ∃ Z, Z = (wds m k).getD (k - 8) 0 := ⟨_, rfl⟩
            obtain ⟨x14, h14⟩ : ∃ Z, Z = (wds m k).getD (k - 14) 0 := ⟨_, rfl⟩
            obtain ⟨x16, h16'⟩ : ∃ Z, Z = (wds m k).getD (k - 16) 0 := ⟨_, rfl⟩
            rw [← h3, ← h8, ← h14, ← h16'] at HNX
            rw [← h3] at c3
            rw [← h8] at c8
            rw [← h14] at c14
            rw [← h16'] at c16
            have p0 : ∀ x : U.In (U.Ext wr.drew), x.w.cell? ⟨gm, k - 3, none⟩ = some (.int .u32 (u x3)) := fun x => x.h _ _ c3
            have p1 : ∀ x : U.In (U.Ext wr.drew), x.w.cell? ⟨gm, k - 8, none⟩ = some (.int .u32 (u x8)) := fun x => x.h _ _ c8
            have p2 : ∀ x : U.In (U.Ext wr.drew), x.w.cell? ⟨gm, k - 14, none⟩ = some (.int .u32 (u x14)) := fun x => x.h _ _ c14
            have p3 : ∀ x : U.In (U.Ext wr.drew), x.w.cell? ⟨gm, k - 16, none⟩ = some (.int .u32 (u x16)) := fun x => x.h _ _ c16
            haveI : Nonempty (U.In (U.Ext wr.drew)) := ⟨⟨_, U.Ext.refl _⟩⟩
            have hbx := bx
            have k3 : ((k : Int) - 3) = ((k - 3 : Nat) : Int) := by omega
            have k8 : ((k : Int) - 8) = ((k - 8 : Nat) : Int) := by omega
            have k14 : ((k : Int) - 14) = ((k - 14 : Nat) : Int) := by omega
            have k16 : ((k : Int) - 16) = ((k - 16 : Nat) : Int) := by omega
            have HRT := Lib.hid (fun x w9 => turn_any x 1 (by decide) (by decide) w9)
            clear h3 h8 h14 h16' hkl hgm
            go_wp2
            refine wp_region_ord [0, 1, 2, 3, 4, 5, 6, 7, 8, 9, 10, 11, 12, 13, 14, 15, 16, 17, 18, 19, 20, 21, 22, 23] [] [24, 25, 26, 27] (by kernel_rfl) (by kernel_rfl) (by kernel_rfl) ?_
            simp only [List.cons_append, List.nil_append, List.filterMap_cons, List.filterMap_nil, List.getElem?_toArray, List.getElem?_cons_succ, List.getElem?_cons_zero]
            change wpQuiet _ _ _ _ [_, _, _, _, _, _, _, _, _, _, _, _, _, _, _, _, _, _, _, _, _, _, _, _] _
            repeat go_big_quiet_step (fail)
            refine wpQuiet_nil ?_
            clear p0 p1 p2 p3 this c3 c8 c14 c16
            unfold U.Ends
            change wpList _ _ _ [_, _, _, _] _ _
            go_wp2_with fail
            refine (HRT.out _ _).mono ?_
            rintro e w5 ⟨rfl, n5, hw5⟩
            have HS5 : Hid (Soft w5 wo.heap.size (.slice (some ⟨gm, 0, none⟩) k cpm) k (uv (wds m k)) ∧ Below wo.heap.size wo w5) := Lib.hid (by rw [hw5]; exact ⟨(HR2.out.1.drewN 1).drewN n5, U.below_drewN (U.below_drewN HR2.out.2 1) n5⟩)
            obtain ⟨X, hX⟩ : ∃ X, X = rotl (x3 ^^^ x8 ^^^ x14 ^^^ x16) 1 := ⟨_, rfl⟩
            rw [← hX] at HNX ⊢
            clear hw5 hX
            have h7 := HS5.out.1.below ((Below.refl w5.heap.size w5).alloc (Nat.le_refl _) (.cells #[.int .u32 (u X)] 28))
            have H7 := Lib.hid h7
            have HC := Lib.hid (lit_cells w5 [.int .u32 (u X)] 28)
            have HB7 := Lib.hid (HS5.out.2.alloc HS5.out.2.size (.cells #[.int .u32 (u X)] 28))
            go_wp2_with (at_builtin; refine wpList_append_soft _ rfl _ _ 38 rfl wo.heap.size 28 i0 (.int .u32 0) 4 Try.underlying38 hi hz0 hz1 hz2 rfl _ _ _ rfl h7 ⟨w5.heap.size, 0, none⟩ 1 1 [.int .u32 (u X)] rfl rfl ?c1 ?c2 ?c3 ?c4 ?c5 ?_)
            case c1 => exact HC.out
            case c2 =>
              intro z hz
              rw [List.mem_singleton] at hz
              rw [hz]; rfl
            case c3 => simp only [maxLen]; omega
            case c4 => omega
            case c5 => have := HS5.out.2.size; simp; omega
            intro v' w6 hown' hgrow
            have HB6 := Lib.hid (grown_below HB7.out H7.out hgrow)
            rw [← HNX.out] at hown'
            have HO6 := Lib.hid hown'
            clear hown' hgrow h7
            go_wp2
            go_roundw
            case rel => exact ⟨k + 1, by omega, by go_num, Lib.hid ⟨HO6.out, HB6.out⟩⟩
            case measure => simp [intOf]; omega
        · have hk8 : k = 80 := by omega
          have hge : 80 ≤ k := by omega
          obtain ⟨gm, cpm, rfl, hgm⟩ := HR2.out.1.form (by omega)
          have HRB : Hid (RO w w1.heap.size g cp n gh L q wr ∧ MAt gm (wds m 80) wr) := Lib.hid ⟨HRO.out.below HR2.out.2, fun i hi => by
            have := HR2.out.1.cellAt i _ (uv_at (wds m k) i (by rw [wds_length]; omega))
            rw [hk8] at this; exact this⟩
          have c0 := vc0 HRB.out.1.h
          have c1 := vc1 HRB.out.1.h
          have c2 := vc2 HRB.out.1.h
          have c3 := vc3 HRB.out.1.h
          have c4 := vc4 HRB.out.1.h
          clear hk8 hgm HR2 hk
          go_wp2
          go_quiet (fail)
          have HI1 : Hid (RO w w1.heap.size g cp n gh L q (wr.drewN nq) ∧ MAt gm (wds m 80) (wr.drewN nq)) := Lib.hid ⟨HRB.out.1.below (U.below_drewN (Below.refl _ _) nq), HRB.out.2.below (U.below_drewN (Below.refl _ _) nq)⟩
          clear c0 c1 c2 c3 c4
          obtain ⟨ws, hws⟩ : ∃ ws, ws = wds m 80 := ⟨_, rfl⟩
          have HBK : Hid (blk1 m q = ⟨q.a + (run1 ws q 80).a, q.b + (run1 ws q 80).b, q.c + (run1 ws q 80).c, q.d + (run1 ws q 80).d, q.e + (run1 ws q 80).e⟩) := Lib.hid (by rw [hws]; rfl)
          rw [← hws] at HI1
          clear hws HRB
          go_wp2
          go_loopw [8, 9, 10, 11, 12, 13] (fun av bv' cv dv ev i wq => ∃ k : Nat, k ≤ 80 ∧ i = .int .i64 k ∧ av = .int .u32 (u (run1 ws q k).a) ∧ bv' = .int .u32 (u (run1 ws q k).b) ∧ cv = .int .u32 (u (run1 ws q k).c) ∧ dv = .int .u32 (u (run1 ws q k).d) ∧ ev = .int .u32 (u (run1 ws q k).e) ∧ Hid (RO w w1.heap.size g cp n gh L q wq ∧ MAt gm ws wq)) (fun _ _ _ _ _ i _ => 80 - (intOf i).toNat)
          case atStart => exact ⟨0, by omega, rfl, rfl, rfl, rfl, rfl, rfl, HI1⟩
          case round =>
            obtain ⟨k, hk, rfl, rfl, rfl, rfl, rfl, rfl, HR3⟩ := hrel
            by_cases hk80 : k < 80
            · obtain ⟨Y, hY⟩ : ∃ Y, Y = run1 ws q k := ⟨_, rfl⟩
              have HST : Hid (run1 ws q (k + 1) = ⟨rotl Y.a 5 + stF k Y.b Y.c Y.d + Y.e + ws.getD k 0 + stK k, Y.a, rotl Y.b 30, Y.c, Y.d⟩) := Lib.hid (by rw [run1_next, ← hY]; rfl)
              rw [← hY]
              have ck := HR3.out.2 k hk80
              obtain ⟨F, hF⟩ : ∃ F, F = stF k Y.b Y.c Y.d := ⟨_, rfl⟩
              obtain ⟨S, hS⟩ : ∃ S, S = stK k := ⟨_, rfl⟩
              obtain ⟨Z, hZ⟩ : ∃ Z, Z = ws.getD k 0 := ⟨_, rfl⟩
              rw [← hF, ← hS, ← hZ] at HST
              rw [← hZ] at ck
              have HFF := Lib.hid hF
              have HSS := Lib.hid hS
              have HT5 := Lib.hid (fun x w9 => turn_any x 5 (by decide) (by decide) w9)
              have HT30 := Lib.hid (fun x w9 => turn_any x 30 (by decide) (by decide) w9)
              obtain ⟨ya, yb, yc, yd, ye⟩ := Y
              simp only at HST HFF ⊢
              clear hY hF hS hZ
              have hbx := bx
              have hba := ba
              have hbo := bo
              have hbn := bn
              rcases (show k < 20 ∨ (20 ≤ k ∧ k < 40) ∨ (40 ≤ k ∧ k < 60) ∨ 60 ≤ k by omega) with w0 | ⟨w0, w0'⟩ | ⟨w0, w0'⟩ | w0
              · have d1 : (k : Int) / 20 = 0 := by omega
                have hf : F = (yb &&& yc) ||| (~~~yb &&& yd) := by rw [HFF.out]; unfold stF; rw [if_pos w0]; exact F0 yb yc yd
                have hs : (1518500249 : Int) = u S := by rw [HSS.out]; unfold stK; rw [if_pos w0]; rfl
                subst hf
                go_wp2
                go_quiet ((go_at_call 22; exact Calls.quiet_of (HT5.out _ _)))
                have HI2 : Hid (RO w w1.heap.size g cp n gh L q (wr.drewN nq) ∧ MAt gm ws (wr.drewN nq)) := Lib.hid ⟨HR3.out.1.below (U.below_drewN (Below.refl _ _) nq), HR3.out.2.below (U.below_drewN (Below.refl _ _) nq)⟩
                clear ck
                go_wp2_with fail
                refine (HT30.out _ _).mono ?_
                rintro e w6 ⟨rfl, n6, hw6⟩
                have HI3 : Hid (RO w w1.heap.size g cp n gh L q w6 ∧ MAt gm ws w6) := Lib.hid (by rw [hw6]; exact ⟨HI2.out.1.below (U.below_drewN (Below.refl _ _) n6), HI2.out.2.below (U.below_drewN (Below.refl _ _) n6)⟩)
                clear hw6
                go_wp2
                go_roundw
                case rel => exact ⟨k + 1, by omega, by go_num, by rw [HST.out], by rw [HST.out], by rw [HST.out], by rw [HST.out], by rw [HST.out], HI3⟩
                case measure => simp [intOf]; omega
              · have d1 : (k : Int) / 20 = 1 := by omega
                have hf : F = yb ^^^ yc ^^^ yd := by rw [HFF.out]; unfold stF; rw [if_neg (by omega), if_pos w0']
                have hs : (1859775393 : Int) = u S := by rw [HSS.out]; unfold stK; rw [if_neg (by omega), if_pos w0']; rfl
                subst hf
                go_wp2
                go_quiet ((go_at_call 22; exact Calls.quiet_of (HT5.out _ _)))
                have HI2 : Hid (RO w w1.heap.size g cp n gh L q (wr.drewN nq) ∧ MAt gm ws (wr.drewN nq)) := Lib.hid ⟨HR3.out.1.below (U.below_drewN (Below.refl _ _) nq), HR3.out.2.below (U.below_drewN (Below.refl _ _) nq)⟩
                clear ck
                go_wp2_with fail
                refine (HT30.out _ _).mono ?_
                rintro e w6 ⟨rfl, n6, hw6⟩
                have HI3 : Hid (RO w w1.heap.size g cp n gh L q w6 ∧ MAt gm ws w6) := Lib.hid (by rw [hw6]; exact ⟨HI2.out.1.below (U.below_drewN (Below.refl _ _) n6), HI2.out.2.below (U.below_drewN (Below.refl _ _) n6)⟩)
                clear hw6
                go_wp2
                go_roundw
                case rel => exact ⟨k + 1, by omega, by go_num, by rw [HST.out], by rw [HST.out], by rw [HST.out], by rw [HST.out], by rw [HST.out], HI3⟩
                case measure => simp [intOf]; omega
              · have d1 : (k : Int) / 20 = 2 := by omega
                have hf : F = (yb &&& yc) ||| (yb &&& yd) ||| (yc &&& yd) := by rw [HFF.out]; unfold stF; rw [if_neg (by omega), if_neg (by omega), if_pos w0']; exact F2 yb yc yd
                have hs : (2400959708 : Int) = u S := by rw [HSS.out]; unfold stK; rw [if_neg (by omega), if_neg (by omega), if_pos w0']; rfl
                subst hf
                go_wp2
                go_quiet ((go_at_call 22; exact Calls.quiet_of (HT5.out _ _)))
                have HI2 : Hid (RO w w1.heap.size g cp n gh L q (wr.drewN nq) ∧ MAt gm ws (wr.drewN nq)) := Lib.hid ⟨HR3.out.1.below (U.below_drewN (Below.refl _ _) nq), HR3.out.2.below (U.below_drewN (Below.refl _ _) nq)⟩
                clear ck
                go_wp2_with fail
                refine (HT30.out _ _).mono ?_
                rintro e w6 ⟨rfl, n6, hw6⟩
                have HI3 : Hid (RO w w1.heap.size g cp n gh L q w6 ∧ MAt gm ws w6) := Lib.hid (by rw [hw6]; exact ⟨HI2.out.1.below (U.below_drewN (Below.refl _ _) n6), HI2.out.2.below (U.below_drewN (Below.refl _ _) n6)⟩)
                clear hw6
                go_wp2
                go_roundw
                case rel => exact ⟨k + 1, by omega, by go_num, by rw [HST.out], by rw [HST.out], by rw [HST.out], by rw [HST.out], by rw [HST.out], HI3⟩
                case measure => simp [intOf]; omega
              · have d1 : (k : Int) / 20 = 3 := by omega
                have hf : F = yb ^^^ yc ^^^ yd := by rw [HFF.out]; unfold stF; rw [if_neg (by omega), if_neg (by omega), if_neg (by omega)]
                have hs : (3395469782 : Int) = u S := by rw [HSS.out]; unfold stK; rw [if_neg (by omega), if_neg (by omega), if_neg (by omega)]; rfl
                subst hf
                go_wp2
                go_quiet ((go_at_call 22; exact Calls.quiet_of (HT5.out _ _)))
                have HI2 : Hid (RO w w1.heap.size g cp n gh L q (wr.drewN nq) ∧ MAt gm ws (wr.drewN nq)) := Lib.hid ⟨HR3.out.1.below (U.below_drewN (Below.refl _ _) nq), HR3.out.2.below (U.below_drewN (Below.refl _ _) nq)⟩
                clear ck
                go_wp2_with fail
                refine (HT30.out _ _).mono ?_
                rintro e w6 ⟨rfl, n6, hw6⟩
                have HI3 : Hid (RO w w1.heap.size g cp n gh L q w6 ∧ MAt gm ws w6) := Lib.hid (by rw [hw6]; exact ⟨HI2.out.1.below (U.below_drewN (Below.refl _ _) n6), HI2.out.2.below (U.below_drewN (Below.refl _ _) n6)⟩)
                clear hw6
                go_wp2
                go_roundw
                case rel => exact ⟨k + 1, by omega, by go_num, by rw [HST.out], by rw [HST.out], by rw [HST.out], by rw [HST.out], by rw [HST.out], HI3⟩
                case measure => simp [intOf]; omega
            · have hk8 : k = 80 := by omega
              obtain ⟨Y, hY⟩ : ∃ Y, Y = run1 ws q k := ⟨_, rfl⟩
              have hY8 : Y = run1 ws q 80 := by rw [hY, hk8]
              have HBK2 : Hid (vcells (blk1 m q) = #[.int .u32 (u (q.a + Y.a)), .int .u32 (u (q.b + Y.b)), .int .u32 (u (q.c + Y.c)), .int .u32 (u (q.d + Y.d)), .int .u32 (u (q.e + Y.e))]) := Lib.hid (by rw [HBK.out, ← hY8]; rfl)
              have c0 := vc0 HR3.out.1.h
              have c1 := vc1 HR3.out.1.h
              have c2 := vc2 HR3.out.1.h
              have c3 := vc3 HR3.out.1.h
              have c4 := vc4 HR3.out.1.h
              have p0 : ∀ x : U.In (U.Ext wr.drew), x.w.cell? ⟨gh, 0, none⟩ = some (.int .u32 (u q.a)) := fun x => x.h _ _ c0
              have p1 : ∀ x : U.In (U.Ext wr.drew), x.w.cell? ⟨gh, 1, none⟩ = some (.int .u32 (u q.b)) := fun x => x.h _ _ c1
              have p2 : ∀ x : U.In (U.Ext wr.drew), x.w.cell? ⟨gh, 2, none⟩ = some (.int .u32 (u q.c)) := fun x => x.h _ _ c2
              have p3 : ∀ x : U.In (U.Ext wr.drew), x.w.cell? ⟨gh, 3, none⟩ = some (.int .u32 (u q.d)) := fun x => x.h _ _ c3
              have p4 : ∀ x : U.In (U.Ext wr.drew), x.w.cell? ⟨gh, 4, none⟩ = some (.int .u32 (u q.e)) := fun x => x.h _ _ c4
              haveI : Nonempty (U.In (U.Ext wr.drew)) := ⟨⟨_, U.Ext.refl _⟩⟩
              have HNX : Hid (RO w w1.heap.size g cp n wr.heap.size L (rounds1 L (j + 1)) (wr.alloc (.cells (vcells (blk1 m q)) 28)).drew) := Lib.hid (by
                have hal : Below wr.heap.size wr (wr.alloc (.cells (vcells (blk1 m q)) 28)).drew := U.below_drewN ((Below.refl _ _).alloc (Nat.le_refl _) _) 1
                refine ⟨?_, HR3.out.1.l.below hal, HR3.out.1.b.trans (hal.mono HR3.out.1.b.size)⟩
                rw [HNEXT.out]; exact At.drewN (At.new wr _ _) 1)
              rw [← hY]
              rw [HBK2.out] at HNX
              have hge : 80 ≤ k := by omega
              clear hY hY8 hk8 hk80 hk
              obtain ⟨ya, yb, yc, yd, ye⟩ := Y
              simp only at HNX ⊢
              go_wp2
              refine wp_region_ord [0, 1, 2, 3, 4, 5, 6, 7, 8, 9, 10, 11, 12, 13, 14, 15, 16, 17, 18, 19, 20, 21, 22, 23, 24] [] [25, 26] (by kernel_rfl) (by kernel_rfl) (by kernel_rfl) ?_
              simp only [List.cons_append, List.nil_append, List.filterMap_cons, List.filterMap_nil, List.getElem?_toArray, List.getElem?_cons_succ, List.getElem?_cons_zero]
              change wpQuiet _ _ _ _ [_, _, _, _, _, _, _, _, _, _, _, _, _, _, _, _, _, _, _, _, _, _, _, _, _] _
              repeat go_big_quiet_step (fail)
              refine wpQuiet_nil ?_
              clear p0 p1 p2 p3 p4 this c0 c1 c2 c3 c4
              unfold U.Ends
              change wpList _ _ _ [_, _] _ _
              have o5 : (o : Int) + 64 ≤ 9223372036854775807 := by have := HOL.out; omega
              go_wp2
              go_roundw
              case rel => exact ⟨j + 1, o + 64, wr.heap.size, by have := HJN.out; omega, by have := HO.out; omega, by go_num, rfl, HNX⟩
              case measure => have := HOL.out; simp [intOf]; omega
    · have hjn : j = n := by omega
      obtain ⟨R, hR⟩ : ∃ R, R = rounds1 L n := ⟨_, rfl⟩
      have hcH := HR.out.h
      rw [hjn, ← hR] at hcH
      have HCH := Lib.hid hcH
      have HD : Hid (D = flatB false [R.a, R.b, R.c, R.d, R.e] 5) := Lib.hid (by rw [HMD.out, sha1_flat, hR])
      have HBY : Hid (Calls Try.prog 24 #[.slice (some ⟨gh, 0, none⟩) 5 5, .bool false] wr fun e w' => e = .returned (.string ⟨D.toArray⟩) ∧ Below wr.heap.size wr w') := Lib.hid (by
        rw [HD.out]
        exact rbytes_any false [R.a, R.b, R.c, R.d, R.e] (show 5 ≤ 5 by omega) (show 1 ≤ 5 by omega) (fun i x hx => by
          match i, hx with
          | 0, hx => injection hx with hx; subst hx; exact vc0 HCH.out
          | 1, hx => injection hx with hx; subst hx; exact vc1 HCH.out
          | 2, hx => injection hx with hx; subst hx; exact vc2 HCH.out
          | 3, hx => injection hx with hx; subst hx; exact vc3 HCH.out
          | 4, hx => injection hx with hx; subst hx; exact vc4 HCH.out
          | i + 5, hx => simp at hx))
      clear hcH hR hjn
      go_wp2_with fail
      refine HBY.out.mono ?_
      rintro e w9 ⟨rfl, hb9⟩
      have HB9 := Lib.hid (HR.out.b.trans (hb9.mono HR.out.b.size))
      clear hb9
      go_wp2
      go_ret
      exact ⟨rfl, HB9.out⟩
end Go.Proofs.Ytcgopnknnolhkaa.Dg

/- wharflaw21.SlabTorn: its walk. -/
import Derived.Test.YthpkmcohcjpmhaaSlbQ
set_option linter.unusedVariables false
set_option linter.unusedSimpArgs false
namespace Go.Proofs.Ythpkmcohcjpmhaa.L
open Go.RowKit U Slb
set_option maxRecDepth 100000 in
set_option maxHeartbeats 2000000 in
theorem SlabTorn_else (A : Option Addr) (l : List Slb.Act) (cap : Nat) (after keep : Int) (w : World) (hA : Acts w A l) (hl : l.length ≤ 9223372036854775807) (hz : ∀ a ∈ l, a.b.size ≤ 9223372036854775807) (hno : smallB l = false) :
    Calls Try.prog 4 #[.slice A l.length cap, .int .i64 after, .int .i64 keep] w fun e w' => e = .returned (.bool true) ∧ Below w.heap.size w w' := by
  have HL : Hid (∀ w, Calls Try.prog 8 #[] w fun e w' => e = .returned (.bool true) ∧ Below w.heap.size w w') := Lib.hid live_any
  have HS := Lib.hid (small_any hA hl hz cap)
  clear hA hz
  rw [hno] at HS
  obtain ⟨m, hm⟩ : ∃ m, m = l.length := ⟨_, rfl⟩
  rw [← hm] at HS ⊢
  clear hm hl
  clear hno
  go_enter Try.func4, Try.ntmps4
  go_wp2_with fail
  refine HS.out.mono ?_
  rintro e w1 ⟨rfl, rfl⟩
  go_wp2_with fail
  refine (HL.out _).mono ?_
  rintro e w1 ⟨rfl, hb1⟩
  go_wp2
  go_ret
  exact ⟨rfl, hb1⟩
/-- What the loop of writes knows: still alive, or torn at block t with front F. -/
def TRel (w : World) (gS gB : Nat) (after : Int) (K : Nat) (B0 g cp : Nat) (i : Nat) (tr fr : Value) (wq : World) : Prop :=
  ∃ last : List (List UInt8), last.length = 20 ∧ wq.ownsRow B0 9 1 (.slice (some ⟨g, 0, none⟩) 20 cp) 20 (strs last) ∧
    ((tr = .int .i64 (-1) ∧ fr = .string ⟨#[]⟩ ∧ ∃ a c, Stand w gS gB ⟨last, a, K, false, c⟩ wq ∧ 0 ≤ c ∧ c ≤ i ∧ -1 ≤ a ∧ a ≤ 9223372036854775807 ∧ (a = -1 ∧ after < 0 ∨ 0 ≤ a ∧ a + c = after)) ∨
     (∃ (t : Nat) (F : ByteArray), t < 20 ∧ F.size = 64 ∧ tr = .int .i64 (t : Int) ∧ fr = .string F ∧ 0 ≤ after ∧ (∀ b ∈ last, b.length = 64) ∧ Stand w gS gB ⟨wr last t (F.data.toList.take K), 0, K, true, after⟩ wq))
theorem arm_own {gS gB : Nat} {s : S} {w w0 : World} (h : Stand w0 gS gB s w) (a k : Int) : Calls Try.prog 15 #[P gS, .int .i64 a, .int .i64 k] w fun e w' => e = .returned (.tuple #[]) ∧ Stand w0 gS gB { s with after := max a (-1), keep := clamp k } w' ∧ OwnKept gS gB w w' :=
  (Arm_any h.is a k).mono fun e w' ⟨he, hi, hw⟩ => ⟨he, ⟨hi, by rw [hw]; exact ((h.low.setCell (p := ⟨gS, 1, none⟩) h.q1 _).setCell (p := ⟨gS, 2, none⟩) h.q1 _), h.q1, h.q2⟩, fun B e k v n xs q1 q2 ho => by rw [hw]; exact own_set (own_set ho ⟨gS, 1, none⟩ q1 _) ⟨gS, 2, none⟩ q1 _⟩
theorem stand_other {gS gB g j : Nat} {s : S} {w w0 : World} (h : Stand w0 gS gB s w) (B : Nat) (h1 : gS < B) (h2 : gB < B) (h0 : w0.heap.size ≤ B) (hg : B ≤ g) (u : Value) : Stand w0 gS gB s (w.setCell ⟨g, j, none⟩ u) :=
  ⟨⟨h.is.hs.other ⟨g, j, none⟩ u (by show gS ≠ g; omega), h.is.hb.other ⟨g, j, none⟩ u (by show gB ≠ g; omega), h.is.ne, h.is.len, h.is.few⟩, h.low.setCell (p := ⟨g, j, none⟩) (Nat.le_trans h0 hg) u, h.q1, h.q2⟩
theorem strs_set (bs : List (List UInt8)) (k : Nat) (b : ByteArray) : (strs bs).set k (.string b) = strs (bs.set k b.data.toList) := by unfold strs; rw [List.map_set]
theorem small_len (l : List Slb.Act) (h : smallB l = true) : l.length ≤ 60 := by unfold smallB at h; rw [Bool.and_eq_true] at h; exact of_decide_eq_true h.1
theorem mend_own {gS gB : Nat} {s : S} {w w0 : World} (h : Stand w0 gS gB s w) : Calls Try.prog 17 #[P gS] w fun e w' => e = .returned (.tuple #[]) ∧ Stand w0 gS gB { s with after := -1, dead := false } w' ∧ OwnKept gS gB w w' :=
  (Mend_any h.is).mono fun e w' ⟨he, hi, hw⟩ => ⟨he, ⟨hi, by rw [hw]; exact ((h.low.setCell (p := ⟨gS, 1, none⟩) h.q1 _).setCell (p := ⟨gS, 3, none⟩) h.q1 _), h.q1, h.q2⟩, fun B e k v n xs q1 q2 ho => by rw [hw]; exact own_set (own_set ho ⟨gS, 1, none⟩ q1 _) ⟨gS, 3, none⟩ q1 _⟩
theorem blkE (w : World) : Calls Try.prog 24 #[.string ⟨#[]⟩] w fun e w' => e = .returned (.string ⟨zs.toArray⟩) ∧ Below w.heap.size w w' := block_any ⟨#[]⟩ (by decide) w
theorem zs_next (k : Nat) : strs (List.replicate (k + 1) zs) = strs (List.replicate k zs) ++ [.string ⟨zs.toArray⟩] := by unfold strs; rw [List.replicate_succ', List.map_append]; rfl
theorem wr_at_ne (last : List (List UInt8)) (j t : Nat) (l : List UInt8) (h : j ≠ t) (hj : j < last.length) (hj2 : j < (Slb.wr last t l).length) : (Slb.wr last t l)[j] = last[j] := by
  exact List.getElem_set_ne (fun e => h e.symm) _
theorem torn_str (last : List (List UInt8)) (j : Nat) (hj : j < last.length) (F : ByteArray) (K : Nat) (hF : F.size = 64) (hK : K ≤ 64) (X : ByteArray)
    (hX : X.data.toList = (Slb.wr last j (F.data.toList.take K))[j]'(by rw [wr_size]; exact hj)) : X.toList = (F.extract 0 K ++ (⟨(last[j]).toArray⟩ : ByteArray).extract K (⟨(last[j]).toArray⟩ : ByteArray).size).toList := by
  rw [Lib.toList_data, Lib.toList_data, hX, U.append_data, U.take_data, U.drop_data]
  unfold Slb.wr
  rw [List.getElem_set_self, List.getD_eq_getElem?_getD, List.getElem?_eq_getElem hj, List.length_take, U.len_data, hF, Nat.min_eq_left hK]
  rfl
set_option maxRecDepth 100000 in
set_option maxHeartbeats 4000000 in
theorem SlabTorn_main (A : Option Addr) (l : List Slb.Act) (cap : Nat) (after keep : Int) (w : World) (hA : Acts w A l) (hl : l.length ≤ 9223372036854775807) (hz : ∀ a ∈ l, a.b.size ≤ 9223372036854775807) (hs : smallB l = true)
    (hat : (Lit.int .i64 after).wf = true) :
    Calls Try.prog 4 #[.slice A l.length cap, .int .i64 after, .int .i64 keep] w fun e w' => e = .returned (.bool true) ∧ Below w.heap.size w w' := by
  have HL : Hid (∀ w, Calls Try.prog 8 #[] w fun e w' => e = .returned (.bool true) ∧ Below w.heap.size w w') := Lib.hid live_any
  have HS := Lib.hid (small_any hA hl hz cap)
  rw [hs] at HS
  have HSM := Lib.hid hs
  clear hs
  have HN : Hid (Calls Try.prog 9 #[.int .i64 20] w (Made w (st (List.replicate 20 zs) 0))) := Lib.hid (new_ok 20 (by decide) w)
  have HA := Lib.hid hA
  have HZ := Lib.hid hz
  have HE : Hid (∀ w, Calls Try.prog 24 #[.string ⟨#[]⟩] w fun e w' => e = .returned (.string ⟨zs.toArray⟩) ∧ Below w.heap.size w w') := Lib.hid blkE
  have HZN := Lib.hid zs_next
  obtain ⟨Z, hZ⟩ : ∃ Z, Z = (⟨zs.toArray⟩ : ByteArray) := ⟨_, rfl⟩
  rw [← hZ] at HE HZN
  have HZD := Lib.hid (show Z.data.toList = zs by rw [hZ])
  clear hA hz hZ
  obtain ⟨m, hm⟩ : ∃ m, m = l.length := ⟨_, rfl⟩
  rw [← hm] at HS hl ⊢
  have HM := Lib.hid hm
  clear hm
  go_enter Try.func4, Try.ntmps4
  go_wp2_with fail
  refine HS.out.mono ?_
  rintro e w1 ⟨rfl, rfl⟩
  go_wp2_with fail
  refine HN.out.mono ?_
  rintro e w1 ⟨gS, gB, rfl, h1⟩
  have H1 := Lib.hid h1
  clear h1 HN
  go_wp2_with fail
  refine (num_any _ _).mono ?_
  rintro e w2 ⟨rfl, rfl⟩
  obtain ⟨B0, hB0⟩ : ∃ B0, B0 = w1.heap.size := ⟨_, rfl⟩
  have HB0 := Lib.hid hB0
  clear hB0
  have HQ : Hid (gS < B0 ∧ gB < B0 ∧ w.heap.size ≤ B0) := Lib.hid ⟨by rw [HB0.out]; exact H1.out.is.hs.lt, by rw [HB0.out]; exact H1.out.is.hb.lt, by rw [HB0.out]; exact H1.out.low.size⟩
  obtain ⟨i0, hi, hz0, hz1, hz2⟩ := info_parts infoStr
  go_wp2
  go_loopw [9, 10] (fun v i wq => ∃ k : Nat, k ≤ 20 ∧ i = .int .i64 k ∧ Hid (Stand w gS gB (st (List.replicate 20 zs) 0) wq) ∧ Hid (wq.ownsRow B0 9 1 v k (strs (List.replicate k zs))) ∧ B0 ≤ wq.heap.size) (fun _ i _ => 20 - (intOf i).toNat)
  case atStart => exact ⟨0, by omega, rfl, H1, Lib.hid (World.ownsRow_nil _ _ _ _), by rw [HB0.out]; exact Nat.le_refl _⟩
  case round =>
    obtain ⟨k, hk, rfl, HK, HO, hbq⟩ := hrel
    by_cases hk2 : k < 20
    · go_wp2_with fail
      refine (HE.out _).mono ?_
      rintro e w4 ⟨rfl, hb4⟩
      have HK4 := Lib.hid (HK.out.below hb4)
      have hown := own_below HO.out hb4
      have hbq4 : B0 ≤ w4.heap.size := Nat.le_trans hbq hb4.size
      clear hb4 HO HK hbq
      go_wp2_with (at_builtin; refine wpList_append_own _ rfl _ _ 39 rfl B0 9 i0 (.string ⟨#[]⟩) 1 16 Try.underlying39 hi hz0 hz1 hz2 rfl (by decide) _ _ _ rfl (hown.alloc _) ⟨w4.heap.size, 0, none⟩ 1 1 [.string Z] rfl rfl ?c1 ?c2 ?c3 ?c4 ?c5 ?_)
      case c1 => exact new_cell _ _ _
      case c2 =>
        intro u hu
        rw [List.mem_singleton] at hu
        subst hu; rfl
      case c3 => simp only [maxLen]; omega
      case c4 => omega
      case c5 => exact Nat.le_trans hbq4 (by simp)
      intro v' w5 hown' hgrow _
      have hrow := fun (j : Nat) hj => (hown.lt j hj).1
      have hst5 := (HK4.out.below (Below.alloc (Below.refl _ _) (Nat.le_refl _) (.cells #[.string Z] 9))).grown hgrow HQ.out.1 HQ.out.2.1 hrow HQ.out.2.2
      have hb5 : B0 ≤ w5.heap.size := Nat.le_trans (Nat.le_trans hbq4 (by simp)) hgrow.size
      have HK5 := Lib.hid hst5
      rw [← HZN.out] at hown'
      have HO5 := Lib.hid hown'
      clear hst5 hown' hgrow hrow hown
      go_wp2
      go_roundw
      case rel => exact ⟨k + 1, by omega, by go_num, HK5, HO5, hb5⟩
      case measure => simp [intOf]; omega
    · have hkk : k = 20 := by omega
      subst hkk
      obtain ⟨g, cp, rfl, hg0, hg1⟩ := HO.out.form (by omega)
      have HG := Lib.hid hg0
      have HM60 : Hid (m ≤ 60) := Lib.hid (by rw [HM.out]; exact small_len l HSM.out)
      clear hg0 hg1 hi hz0 hz1 hz2
      go_wp2_with fail
      refine (arm_own HK.out after keep).mono ?_
      rintro e w4 ⟨rfl, h4, hok⟩
      obtain ⟨K, hK⟩ : ∃ K : Nat, clamp keep = (K : Int) := ⟨(clamp keep).toNat, by unfold clamp; omega⟩
      have hK2 : K ≤ 64 := by unfold clamp at hK; omega
      have hrl : TRel w gS gB after K B0 g cp 0 (.int .i64 (-1)) (.string ⟨#[]⟩) w4 := by
        refine ⟨List.replicate 20 zs, by rw [List.length_replicate], ?_, .inl ⟨rfl, rfl, max after (-1), 0, ?_, by omega, by omega, by omega, ?_, ?_⟩⟩
        · exact hok _ _ _ _ _ _ HQ.out.1 HQ.out.2.1 HO.out
        · rw [← hK]; exact h4
        · simp [Lit.wf] at hat; omega
        · omega
      have HRL := Lib.hid hrl
      have HW3 : Hid ((keep ≤ 0 ∧ K = 0) ∨ (0 < keep ∧ keep ≤ 64 ∧ keep = (K : Int)) ∨ (64 < keep ∧ K = 64)) := Lib.hid (by unfold clamp at hK; omega)
      clear hrl h4 hok HK HO hK
      go_wp2
      go_loopw [11, 12, 13] (fun tr fr i wq => ∃ k : Nat, k ≤ m ∧ i = .int .i64 k ∧ Hid (TRel w gS gB after K B0 g cp k tr fr wq)) (fun _ _ i _ => m - (intOf i).toNat)
      case atStart => exact ⟨0, by omega, rfl, HRL⟩
      case round =>
        obtain ⟨k, hk, rfl, HR⟩ := hrel
        by_cases hkm : k < m
        · have hk' : k < l.length := by rw [← HM.out]; exact hkm
          obtain ⟨ad, rfl, ha⟩ := HA.out k hk'
          have hz' := HZ.out l[k] (List.getElem_mem _)
          obtain ⟨a, haa⟩ : ∃ a, a = l[k] := ⟨_, rfl⟩
          rw [← haa] at ha hz'
          have HAC := Lib.hid ha
          have HBK := Lib.hid (block_any a.b hz')
          obtain ⟨Bk, hBk⟩ : ∃ Bk, Bk = (⟨(blk a.b.data.toList).toArray⟩ : ByteArray) := ⟨_, rfl⟩
          rw [← hBk] at HBK
          have HB64 : Hid (Bk.size = 64) := Lib.hid (by rw [hBk]; exact blkB_size a.b)
          clear haa hk' ha hz' hBk
          obtain ⟨last, hl20, hown, hway⟩ := HR.out
          have HL20 := Lib.hid hl20
          have HOW := Lib.hid hown
          clear HR hl20 hown
          rcases hway with ⟨rfl, rfl, a9, c9, hst, q1, q2, q3, q4, q5⟩ | ⟨t, F, ht, hF, rfl, rfl, haf, hy, hst⟩
          · have HST := Lib.hid hst
            clear hst
            have c3 := (HAC.out.below HST.out.low).c3
            go_wp2_with fail
            refine (HBK.out _).mono ?_
            rintro e w5 ⟨rfl, hb5⟩
            have HS5 := Lib.hid (HST.out.below hb5)
            have HO5 := Lib.hid (own_below HOW.out hb5)
            clear hb5 c3
            have c1 := (HAC.out.below HS5.out.low).c1
            by_cases hn : 0 ≤ a.n ∧ a.n < 20
            · obtain ⟨nn, hnn⟩ : ∃ nn : Nat, a.n = (nn : Int) := ⟨a.n.toNat, by omega⟩
              have HNN := Lib.hid hnn
              rw [hnn] at c1 hn
              clear hnn
              have hnl : nn < last.length := by rw [HL20.out]; omega
              by_cases ha0 : a9 = 0
              · subst ha0
                have HW := Lib.hid (write_tear HS5.out nn hnl Bk HB64.out hK2)
                clear hnl
                go_wp2_with fail
                refine HW.out.mono ?_
                rintro e w6 ⟨rfl, hs6, hok6⟩
                have HS6 := Lib.hid hs6
                have HO6 := Lib.hid (hok6 _ _ _ _ _ _ HQ.out.1 HQ.out.2.1 HO5.out)
                clear hs6 hok6 c1 HW
                have c1 := (HAC.out.below HS6.out.low).c1
                rw [HNN.out] at c1
                go_wp2_with fail
                refine (num_any _ _).mono ?_
                rintro e w7 ⟨rfl, rfl⟩
                go_wp2
                go_roundw
                case rel => exact ⟨k + 1, by omega, by go_num, Lib.hid ⟨last, HL20.out, HO6.out, .inr ⟨nn, Bk, by omega, HB64.out, rfl, rfl, by omega, HS5.out.is.len, by rw [show after = c9 by omega]; exact HS6.out⟩⟩⟩
                case measure => simp [intOf]; omega
              · have HW := Lib.hid (write_live HS5.out nn hnl Bk HB64.out ha0 q3 q4 q1 (by have := HM60.out; omega))
                obtain ⟨X, hX⟩ : ∃ X : ByteArray, (strs last)[nn]? = some (.string X) := ⟨_, strs_at last nn hnl⟩
                have HSV := Lib.hid hX
                clear hnl hX
                go_wp2_with fail
                refine HW.out.mono ?_
                rintro e w6 ⟨rfl, hs6, hok6⟩
                have HS6 := Lib.hid hs6
                have HO6 := Lib.hid (hok6 _ _ _ _ _ _ HQ.out.1 HQ.out.2.1 HO5.out)
                clear hs6 hok6 c1 HW
                have c1 := (HAC.out.below HS6.out.low).c1
                rw [HNN.out] at c1
                have hcell := HO6.out.cellAt nn (by omega)
                rw [HSV.out] at hcell
                have hfr := HO6.out.frozenAt nn
                have h20 : (nn : Int) < 20 := by omega
                have h00 : ¬ ((nn : Int) < 0) := by omega
                go_wp2_with fail
                refine (num_any _ _).mono ?_
                rintro e w7 ⟨rfl, rfl⟩
                go_wp2
                go_roundw
                case rel => exact ⟨k + 1, by omega, by go_num, Lib.hid ⟨last.set nn Bk.data.toList, by rw [List.length_set]; exact HL20.out, by rw [← strs_set]; exact (HO6.out.stored nn _).1, .inl ⟨rfl, rfl, max (a9 - 1) (-1), c9 + 1, stand_other HS6.out B0 HQ.out.1 HQ.out.2.1 HQ.out.2.2 HG.out _, by omega, by omega, by omega, by omega, by omega⟩⟩⟩
                case measure => simp [intOf]; omega
            · have HW := Lib.hid (write_far HS5.out a.n (by rw [HL20.out]; exact hn) Bk)
              go_wp2_with fail
              refine HW.out.mono ?_
              rintro e w6 ⟨rfl, rfl⟩
              go_wp2_with fail
              refine (num_any _ _).mono ?_
              rintro e w6 ⟨rfl, rfl⟩
              go_wp2
              go_roundw
              case rel => exact ⟨k + 1, by omega, by go_num, Lib.hid ⟨last, HL20.out, HO5.out, .inl ⟨rfl, rfl, a9, c9, HS5.out, q1, by omega, q3, q4, q5⟩⟩⟩
              case measure => simp [intOf]; omega
          · have HST := Lib.hid hst
            have HF := Lib.hid hF
            have HYY := Lib.hid hy
            clear hst hF hy
            have c3 := (HAC.out.below HST.out.low).c3
            go_wp2_with fail
            refine (HBK.out _).mono ?_
            rintro e w5 ⟨rfl, hb5⟩
            have HS5 := Lib.hid (HST.out.below hb5)
            have HO5 := Lib.hid (own_below HOW.out hb5)
            clear hb5 c3
            have c1 := (HAC.out.below HS5.out.low).c1
            go_wp2_with fail
            refine (write_dead HS5.out _ _).mono ?_
            rintro e w6 ⟨rfl, rfl⟩
            go_wp2_with fail
            refine (num_any _ _).mono ?_
            rintro e w6 ⟨rfl, rfl⟩
            have t0 : ¬ ((t : Int) < 0) := by omega
            go_wp2
            go_roundw
            case rel => exact ⟨k + 1, by omega, by go_num, Lib.hid ⟨last, HL20.out, HO5.out, .inr ⟨t, F, ht, HF.out, rfl, rfl, haf, HYY.out, HS5.out⟩⟩⟩
            case measure => simp [intOf]; omega
        · obtain ⟨last, hl20, hown, hway⟩ := HR.out
          have HL20 := Lib.hid hl20
          have HOW := Lib.hid hown
          clear HR hl20 hown
          rcases hway with ⟨rfl, rfl, a9, c9, hst, q1, q2, q3, q4, q5⟩ | ⟨t, F, ht, hF, rfl, rfl, haf, hy, hst⟩
          · have HST := Lib.hid hst
            clear hst
            go_wp2_with fail
            refine (Dead_any HST.out.is).mono ?_
            rintro e w5 ⟨rfl, rfl⟩
            have hd0 : (⟨last, a9, K, false, c9⟩ : S).dead = false := rfl
            rw [hd0]
            clear hd0
            go_wp2_with fail
            refine (mend_own HST.out).mono ?_
            rintro e w5 ⟨rfl, hs5, hok5⟩
            have HS5 : Hid (Stand w gS gB ⟨last, -1, K, false, c9⟩ w5) := Lib.hid hs5
            have HO5 := Lib.hid (hok5 _ _ _ _ _ _ HQ.out.1 HQ.out.2.1 HOW.out)
            clear hs5 hok5
            go_wp2
            go_loopw [16] (fun i wq => ∃ k : Nat, k ≤ 20 ∧ i = .int .i64 k ∧ Hid (Stand w gS gB ⟨last, -1, K, false, c9⟩ wq) ∧ Hid (wq.ownsRow B0 9 1 (.slice (some ⟨g, 0, none⟩) 20 cp) 20 (strs last))) (fun i _ => 20 - (intOf i).toNat)
            case atStart => exact ⟨0, by omega, rfl, HS5, HO5⟩
            case round =>
              obtain ⟨j, hj, rfl, HK6, HO6⟩ := hrel
              by_cases hj2 : j < 20
              · have hjl : j < last.length := by rw [HL20.out]; exact hj2
                have HRD := Lib.hid (Read_ok HK6.out.is j hjl rfl)
                have hcell := HO6.out.cellAt j (by omega)
                rw [strs_at last j hjl] at hcell
                have h64 : (⟨(last[j]).toArray⟩ : ByteArray).size = 64 := by rw [← U.len_data]; exact HK6.out.is.len _ (List.getElem_mem _)
                obtain ⟨X, hX⟩ : ∃ X, X = (⟨(last[j]).toArray⟩ : ByteArray) := ⟨_, rfl⟩
                rw [← hX] at hcell h64
                have HX := Lib.hid (show X = ⟨((⟨last, -1, K, false, c9⟩ : S).bs[j]).toArray⟩ from hX)
                rw [← HX.out] at HRD
                clear hX hjl HX
                have hj5 : ((j : Int) == -1) = false := by rw [beq_eq_false_iff_ne]; omega
                have hj6 : ((j : Int) != -1) = true := by rw [bne_iff_ne]; omega
                go_wp2_with fail
                refine HRD.out.mono ?_
                rintro e w7 ⟨rfl, rfl⟩
                go_wp2_with fail
                refine (num_any _ _).mono ?_
                rintro e w7 ⟨rfl, rfl⟩
                rcases HW3.out with ⟨k1, -⟩ | ⟨k1, k2, -⟩ | ⟨k1, -⟩
                all_goals
                  go_wp2
                  go_quiet (fail)
                  go_wp2
                  go_roundw
                  case rel => exact ⟨j + 1, by omega, by go_num, Lib.hid (HK6.out.below (U.below_drewN (Below.refl _ _) _)), Lib.hid (own_below HO6.out (U.below_drewN (Below.refl _ _) _))⟩
                  case measure => simp [intOf]; omega
              · go_wp2_with fail
                refine (HL.out _).mono ?_
                rintro e w7 ⟨rfl, hb7⟩
                have HK7 := Lib.hid (HK6.out.below hb7)
                clear hb7
                go_wp2
                go_ret
                exact ⟨rfl, HK7.out.low⟩
          · have HST := Lib.hid hst
            have HF := Lib.hid hF
            have HYY := Lib.hid hy
            clear hst hF hy
            go_wp2_with fail
            refine (Dead_any HST.out.is).mono ?_
            rintro e w5 ⟨rfl, rfl⟩
            have hd0 : (⟨Slb.wr last t (F.data.toList.take K), 0, K, true, after⟩ : S).dead = true := rfl
            rw [hd0]
            clear hd0
            go_wp2_with fail
            refine (Writes_any HST.out.is).mono ?_
            rintro e w5 ⟨rfl, rfl⟩
            go_wp2_with fail
            refine (mend_own HST.out).mono ?_
            rintro e w5 ⟨rfl, hs5, hok5⟩
            have HS5 : Hid (Stand w gS gB ⟨Slb.wr last t (F.data.toList.take K), -1, K, false, after⟩ w5) := Lib.hid hs5
            have HO5 := Lib.hid (hok5 _ _ _ _ _ _ HQ.out.1 HQ.out.2.1 HOW.out)
            clear hs5 hok5
            go_wp2
            go_loopw [16] (fun i wq => ∃ k : Nat, k ≤ 20 ∧ i = .int .i64 k ∧ Hid (Stand w gS gB ⟨Slb.wr last t (F.data.toList.take K), -1, K, false, after⟩ wq) ∧ Hid (wq.ownsRow B0 9 1 (.slice (some ⟨g, 0, none⟩) 20 cp) 20 (strs last))) (fun i _ => 20 - (intOf i).toNat)
            case atStart => exact ⟨0, by omega, rfl, HS5, HO5⟩
            case round =>
              obtain ⟨j, hj, rfl, HK6, HO6⟩ := hrel
              by_cases hj2 : j < 20
              · by_cases hjt : j = t
                · subst hjt
                  have hjb : j < (Slb.wr last j (F.data.toList.take K)).length := by rw [wr_size, HL20.out]; exact hj2
                  have hjl : j < last.length := by rw [HL20.out]; exact hj2
                  have HRD := Lib.hid (Read_ok HK6.out.is j hjb rfl)
                  have hcell := HO6.out.cellAt j (by omega)
                  rw [strs_at last j hjl] at hcell
                  have HTS := Lib.hid (torn_str last j hjl F K HF.out hK2)
                  have HX6 := Lib.hid (HK6.out.is.len _ (List.getElem_mem hjb))
                  have HY6 : Hid ((⟨(last[j]).toArray⟩ : ByteArray).size = 64) := Lib.hid (by rw [← U.len_data]; exact HYY.out _ (List.getElem_mem hjl))
                  obtain ⟨Y, hY⟩ : ∃ Y, Y = (⟨(last[j]).toArray⟩ : ByteArray) := ⟨_, rfl⟩
                  rw [← hY] at hcell HTS HY6
                  obtain ⟨X, hX⟩ : ∃ X : ByteArray, X = ⟨((⟨Slb.wr last j (F.data.toList.take K), -1, K, false, after⟩ : S).bs[j]).toArray⟩ := ⟨_, rfl⟩
                  rw [← hX] at HRD
                  have HX := Lib.hid (show X.data.toList = (Slb.wr last j (F.data.toList.take K))[j] by rw [hX])
                  have hx64 : X.size = 64 := by rw [← U.len_data, HX.out]; exact HX6.out
                  have hy64 : Y.size = 64 := HY6.out
                  have hf64 : F.size = 64 := HF.out
                  clear hX hY
                  have hj5 : ((j : Int) == (j : Int)) = true := by rw [beq_iff_eq]
                  have hj6 : ((j : Int) != (j : Int)) = false := by rw [bne_eq_false_iff_eq]
                  have HTZ : Hid (∀ X : ByteArray, X.data.toList = (Slb.wr last j (F.data.toList.take K))[j]'hjb → X.toList = (F.extract 0 K ++ Y.extract K Y.size).toList) := HTS
                  have HTX := Lib.hid (show ∀ k, k = K → X.toList = (F.extract 0 k ++ Y.extract k Y.size).toList by intro k hk; rw [hk]; exact (HTS.out X HX.out))
                  clear HTZ HTS HX HX6 hjl hjb
                  go_wp2_with fail
                  refine HRD.out.mono ?_
                  rintro e w7 ⟨rfl, rfl⟩
                  go_wp2_with fail
                  refine (num_any _ _).mono ?_
                  rintro e w7 ⟨rfl, rfl⟩
                  rcases HW3.out with ⟨k1, ke⟩ | ⟨k1, k2, ke⟩ | ⟨k1, ke⟩
                  · have hE := HTX.out 0 ke.symm
                    clear ke
                    go_wp2
                    go_quiet (fail)
                    go_wp2
                    go_roundw
                    case rel => exact ⟨j + 1, by omega, by go_num, Lib.hid (HK6.out.below (U.below_drewN (Below.refl _ _) _)), Lib.hid (own_below HO6.out (U.below_drewN (Below.refl _ _) _))⟩
                    case measure => simp [intOf]; omega
                  · have hE := HTX.out keep.toNat (by omega)
                    have hb1 : 0 ≤ keep := by omega
                    have hb2 : keep ≤ (F.size : Int) := by omega
                    have hb3 : keep ≤ (Y.size : Int) := by omega
                    clear ke
                    go_wp2
                    go_quiet (fail)
                    go_wp2
                    go_roundw
                    case rel => exact ⟨j + 1, by omega, by go_num, Lib.hid (HK6.out.below (U.below_drewN (Below.refl _ _) _)), Lib.hid (own_below HO6.out (U.below_drewN (Below.refl _ _) _))⟩
                    case measure => simp [intOf]; omega
                  · have hE := HTX.out 64 ke.symm
                    clear ke
                    go_wp2
                    go_quiet (fail)
                    go_wp2
                    go_roundw
                    case rel => exact ⟨j + 1, by omega, by go_num, Lib.hid (HK6.out.below (U.below_drewN (Below.refl _ _) _)), Lib.hid (own_below HO6.out (U.below_drewN (Below.refl _ _) _))⟩
                    case measure => simp [intOf]; omega
                · have hjb : j < (Slb.wr last t (F.data.toList.take K)).length := by rw [wr_size, HL20.out]; exact hj2
                  have hjl : j < last.length := by rw [HL20.out]; exact hj2
                  have HRD := Lib.hid (Read_ok HK6.out.is j hjb rfl)
                  have hcell := HO6.out.cellAt j (by omega)
                  rw [strs_at last j hjl] at hcell
                  have hwj : (Slb.wr last t (F.data.toList.take K))[j] = last[j] := wr_at_ne last j t _ hjt hjl hjb
                  have h64 : (⟨(last[j]).toArray⟩ : ByteArray).size = 64 := by rw [← U.len_data, ← hwj]; exact HK6.out.is.len _ (List.getElem_mem _)
                  obtain ⟨X, hX⟩ : ∃ X, X = (⟨(last[j]).toArray⟩ : ByteArray) := ⟨_, rfl⟩
                  rw [← hX] at hcell h64
                  have HX := Lib.hid (show X = ⟨((⟨Slb.wr last t (F.data.toList.take K), -1, K, false, after⟩ : S).bs[j]).toArray⟩ by rw [hX, ← hwj])
                  rw [← HX.out] at HRD
                  clear hX hjl HX hwj hjb
                  have hj5 : ((j : Int) == (t : Int)) = false := by rw [beq_eq_false_iff_ne]; omega
                  have hj6 : ((j : Int) != (t : Int)) = true := by rw [bne_iff_ne]; omega
                  clear hjt
                  go_wp2_with fail
                  refine HRD.out.mono ?_
                  rintro e w7 ⟨rfl, rfl⟩
                  go_wp2_with fail
                  refine (num_any _ _).mono ?_
                  rintro e w7 ⟨rfl, rfl⟩
                  rcases HW3.out with ⟨k1, -⟩ | ⟨k1, k2, -⟩ | ⟨k1, -⟩
                  all_goals
                    go_wp2
                    go_quiet (fail)
                    go_wp2
                    go_roundw
                    case rel => exact ⟨j + 1, by omega, by go_num, Lib.hid (HK6.out.below (U.below_drewN (Below.refl _ _) _)), Lib.hid (own_below HO6.out (U.below_drewN (Below.refl _ _) _))⟩
                    case measure => simp [intOf]; omega
              · go_wp2_with fail
                refine (HL.out _).mono ?_
                rintro e w7 ⟨rfl, hb7⟩
                have HK7 := Lib.hid (HK6.out.below hb7)
                clear hb7
                go_wp2
                go_ret
                exact ⟨rfl, HK7.out.low⟩
theorem SlabTorn_walk (A : Option Addr) (l : List Slb.Act) (cap : Nat) (after keep : Int) (w : World) (hA : Acts w A l) (hl : l.length ≤ 9223372036854775807) (hz : ∀ a ∈ l, a.b.size ≤ 9223372036854775807) (hat : (Lit.int .i64 after).wf = true) :
    Calls Try.prog 4 #[.slice A l.length cap, .int .i64 after, .int .i64 keep] w fun e w' => e = .returned (.bool true) ∧ Below w.heap.size w w' := by
  cases hs : smallB l with
  | false => exact SlabTorn_else A l cap after keep w hA hl hz hs
  | true => exact SlabTorn_main A l cap after keep w hA hl hz hs hat
end Go.Proofs.Ythpkmcohcjpmhaa.L

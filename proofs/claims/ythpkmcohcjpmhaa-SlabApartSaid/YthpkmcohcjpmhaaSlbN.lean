/- wharflaw21.SlabApart: its walk. -/
import Derived.Test.YthpkmcohcjpmhaaSlbM
set_option linter.unusedVariables false
set_option linter.unusedSimpArgs false
namespace Go.Proofs.Ythpkmcohcjpmhaa.L
open Go.RowKit U Slb
set_option maxHeartbeats 2000000 in
theorem SlabApart_else (A : Option Addr) (l : List Slb.Act) (cap : Nat) (n : Int) (b : ByteArray) (w : World) (hA : Acts w A l) (hl : l.length ≤ 9223372036854775807) (hz : ∀ a ∈ l, a.b.size ≤ 9223372036854775807) (hb : b.size ≤ 140737488351232)
    (hno : smallB l = false ∨ (64 : Int) < (b.size : Int)) :
    Calls Try.prog 6 #[.slice A l.length cap, .int .i64 n, .string b] w fun e w' => e = .returned (.bool true) ∧ Below w.heap.size w w' := by
  have HL : Hid (∀ w, Calls Try.prog 8 #[] w fun e w' => e = .returned (.bool true) ∧ Below w.heap.size w w') := Lib.hid live_any
  have HS := Lib.hid (small_any hA hl hz cap)
  clear hA hz
  obtain ⟨R, hR⟩ : ∃ R, R = smallB l := ⟨_, rfl⟩
  rw [← hR] at HS hno
  obtain ⟨m, hm⟩ : ∃ m, m = l.length := ⟨_, rfl⟩
  rw [← hm] at HS ⊢
  clear hR hm hl
  cases R with
  | false =>
    clear hno
    go_enter Try.func6, Try.ntmps6
    go_wp2_with fail
    refine HS.out.mono ?_
    rintro e w1 ⟨rfl, rfl⟩
    go_wp2_with fail
    refine (HL.out _).mono ?_
    rintro e w1 ⟨rfl, hb1⟩
    go_wp2
    go_ret
    exact ⟨rfl, hb1⟩
  | true =>
    have h64 : (64 : Int) < (b.size : Int) := by rcases hno with h | h; · cases h
                                                 · exact h
    clear hno
    go_enter Try.func6, Try.ntmps6
    go_wp2_with fail
    refine HS.out.mono ?_
    rintro e w1 ⟨rfl, rfl⟩
    go_wp2_with fail
    refine (HL.out _).mono ?_
    rintro e w1 ⟨rfl, hb1⟩
    go_wp2
    go_ret
    exact ⟨rfl, hb1⟩
set_option maxRecDepth 100000 in
set_option maxHeartbeats 4000000 in
theorem SlabApart_main (A : Option Addr) (l : List Slb.Act) (cap : Nat) (n : Int) (b : ByteArray) (w : World) (hA : Acts w A l) (hl : l.length ≤ 9223372036854775807) (hz : ∀ a ∈ l, a.b.size ≤ 9223372036854775807) (hb : b.size ≤ 140737488351232)
    (hs : smallB l = true) (h64 : (b.size : Int) ≤ 64) :
    Calls Try.prog 6 #[.slice A l.length cap, .int .i64 n, .string b] w fun e w' => e = .returned (.bool true) ∧ Below w.heap.size w w' := by
  have HL : Hid (∀ w, Calls Try.prog 8 #[] w fun e w' => e = .returned (.bool true) ∧ Below w.heap.size w w') := Lib.hid live_any
  have HS := Lib.hid (small_any hA hl hz cap)
  rw [hs] at HS
  clear hs
  have HN : Hid (Calls Try.prog 9 #[.int .i64 20] w (Made w (st (List.replicate 20 (List.replicate 64 0)) 0))) := Lib.hid (new_ok 20 (by decide) w)
  have HA := Lib.hid hA
  have HZ := Lib.hid hz
  clear hA hz
  obtain ⟨m, hm⟩ : ∃ m, m = l.length := ⟨_, rfl⟩
  rw [← hm] at HS hl ⊢
  have HM := Lib.hid hm
  clear hm
  go_enter Try.func6, Try.ntmps6
  go_wp2_with fail
  refine HS.out.mono ?_
  rintro e w1 ⟨rfl, rfl⟩
  go_wp2_with fail
  refine HN.out.mono ?_
  rintro e w1 ⟨gS, gB, rfl, h1⟩
  have H1 := Lib.hid h1
  clear h1 HN
  go_wp2_with fail
  refine (num_any _ _).mono ?_
  rintro e w2 ⟨rfl, rfl⟩
  go_wp2
  go_loopw [9] (fun i wr => ∃ k : Nat, k ≤ m ∧ i = .int .i64 k ∧ Hid (Any0 w gS gB wr)) (fun i _ => m - (intOf i).toNat)
  case atStart => exact ⟨0, by omega, rfl, Lib.hid ⟨_, _, H1.out, by decide⟩⟩
  case round =>
    obtain ⟨k, hk, rfl, HR⟩ := hrel
    by_cases hkm : k < m
    · have hk' : k < l.length := by rw [← HM.out]; exact hkm
      obtain ⟨ad, rfl, ha⟩ := HA.out k hk'
      have hz' := HZ.out l[k] (List.getElem_mem _)
      obtain ⟨a, haa⟩ : ∃ a, a = l[k] := ⟨_, rfl⟩
      rw [← haa] at ha hz'
      clear haa hk'
      have f1 := fun x : U.In (Any0 w gS gB) => (ha.below x.h.low).c1
      have f3 := fun x : U.In (Any0 w gS gB) => (ha.below x.h.low).c3
      clear ha
      haveI : Nonempty (U.In (Any0 w gS gB)) := ⟨⟨_, HR.out⟩⟩
      go_wp2
      refine U.region_in (S := Any0 w gS gB) (by kernel_rfl) (by kernel_rfl) HR.out.drew ?_
      repeat go_big_quiet_step (first
        | (go_at_call 24; exact U.call_in _ (block_any a.b hz' _) (fun _ _ => Any0.below))
        | (go_at_call 12; exact write_in _ a.n _ (blkB_size a.b)))
      refine wpQuiet_nil ?_
      intro w3 h3
      clear f1 f3 this
      have H3 := Lib.hid h3
      clear h3
      go_wp2
      go_roundw
      case rel => exact ⟨k + 1, by omega, by go_num, H3⟩
      case measure => simp [intOf]; omega
    · obtain ⟨bs, wr1, hst, hlen⟩ := HR.out
      have HST := Lib.hid hst
      have HLN := Lib.hid hlen
      clear hst hlen HR HZ HA HM HS H1
      obtain ⟨B0, hB0⟩ : ∃ B0, B0 = wr.heap.size := ⟨_, rfl⟩
      have HB0 := Lib.hid hB0
      clear hB0
      have HQ : Hid (gS < B0 ∧ gB < B0 ∧ w.heap.size ≤ B0) := Lib.hid ⟨by rw [HB0.out]; exact HST.out.is.hs.lt, by rw [HB0.out]; exact HST.out.is.hb.lt, by rw [HB0.out]; exact HST.out.low.size⟩
      obtain ⟨i0, hi, hz0, hz1, hz2⟩ := info_parts infoStr
      go_wp2
      go_loopw [10, 11] (fun v i wq => ∃ k : Nat, k ≤ 20 ∧ i = .int .i64 k ∧ Hid (Stand w gS gB (st bs wr1) wq) ∧ Hid (wq.ownsRow B0 9 1 v k ((strs bs).take k)) ∧ B0 ≤ wq.heap.size) (fun _ i _ => 20 - (intOf i).toNat)
      case atStart => exact ⟨0, by omega, rfl, HST, Lib.hid (World.ownsRow_nil _ _ _ _), by rw [HB0.out]; exact Nat.le_refl _⟩
      case round =>
        obtain ⟨k, hk, rfl, HK, HO, hbq⟩ := hrel
        by_cases hk2 : k < 20
        · have hkb : k < bs.length := by rw [HLN.out]; exact hk2
          have HRD := Lib.hid (read_st HK.out k hkb)
          have HT := Lib.hid (strs_next bs k hkb)
          obtain ⟨X, hX⟩ : ∃ X, X = (⟨(bs[k]).toArray⟩ : ByteArray) := ⟨_, rfl⟩
          rw [← hX] at HRD HT
          clear hX hkb
          go_wp2_with fail
          refine HRD.out.mono ?_
          rintro e w4 ⟨rfl, rfl⟩
          have hown := HO.out
          go_wp2_with (at_builtin; refine wpList_append_own _ rfl _ _ 39 rfl B0 9 i0 (.string ⟨#[]⟩) 1 16 Try.underlying39 hi hz0 hz1 hz2 rfl (by decide) _ _ _ rfl (hown.alloc _) ⟨wr.heap.size, 0, none⟩ 1 1 [.string X] rfl rfl ?c1 ?c2 ?c3 ?c4 ?c5 ?_)
          case c1 => exact new_cell _ _ _
          case c2 =>
            intro u hu
            rw [List.mem_singleton] at hu
            subst hu; rfl
          case c3 => simp only [maxLen]; omega
          case c4 => omega
          case c5 => exact Nat.le_trans hbq (by simp)
          intro v' w5 hown' hgrow _
          have hrow := fun (j : Nat) hj => (hown.lt j hj).1
          have hst5 := (HK.out.below (Below.alloc (Below.refl _ _) (Nat.le_refl _) (.cells #[.string X] 9))).grown hgrow HQ.out.1 HQ.out.2.1 hrow HQ.out.2.2
          have hb5 : B0 ≤ w5.heap.size := Nat.le_trans (Nat.le_trans hbq (by simp)) hgrow.size
          have HK5 := Lib.hid hst5
          rw [← HT.out] at hown'
          have HO5 := Lib.hid hown'
          clear hst5 hown' hgrow hrow hown
          go_wp2
          go_roundw
          case rel => exact ⟨k + 1, by omega, by go_num, HK5, HO5, hb5⟩
          case measure => simp [intOf]; omega
        · have hkk : k = 20 := by omega
          subst hkk
          have hown := HO.out
          rw [List.take_of_length_le (by unfold strs; rw [List.length_map, HLN.out]; exact Nat.le_refl _)] at hown
          obtain ⟨g, cp, rfl, hg0, hg1⟩ := hown.form (by omega)
          have HO2 := Lib.hid hown
          clear hown HO hg0 hg1 hi hz0 hz1 hz2
          obtain ⟨Bk, hBk⟩ : ∃ Bk, Bk = (⟨(blk b.data.toList).toArray⟩ : ByteArray) := ⟨_, rfl⟩
          have HBK : Hid (∀ w, Calls Try.prog 24 #[.string b] w fun e w' => e = .returned (.string Bk) ∧ Below w.heap.size w w') := Lib.hid (by rw [hBk]; exact fun w => block_any b (by omega) w)
          have HB64 : Hid (Bk.size = 64) := Lib.hid (by rw [hBk]; exact blkB_size b)
          clear hBk
          go_wp2_with fail
          refine (HBK.out _).mono ?_
          rintro e w4 ⟨rfl, hb4⟩
          have HK4 := Lib.hid (HK.out.below hb4)
          have HO4 := Lib.hid (own_below HO2.out hb4)
          clear hb4
          go_wp2_with fail
          refine (write_st HK4.out HLN.out n Bk HB64.out).mono ?_
          rintro e w5 ⟨rfl, hwp⟩
          obtain ⟨⟨wr2, hst5⟩, hok⟩ := hwp
          have HK5 := Lib.hid hst5
          have HO5 := Lib.hid (hok _ _ _ _ _ _ HQ.out.1 HQ.out.2.1 HO4.out)
          clear hst5 hok
          go_wp2_with fail
          refine (num_any _ _).mono ?_
          rintro e w6 ⟨rfl, rfl⟩
          have HL2 : Hid ((bsW bs n Bk.data.toList).length = 20) := Lib.hid (by rw [bsW_len]; exact HLN.out)
          rcases code_ways n with ⟨n1, hc⟩ | ⟨n1, n2, hc⟩ | ⟨n1, hc⟩
          all_goals
            rw [hc]
            clear hc
            go_wp2
            go_loopw [15] (fun i wq => ∃ k : Nat, k ≤ 20 ∧ i = .int .i64 k ∧ Hid (Stand w gS gB (st (bsW bs n Bk.data.toList) wr2) wq) ∧ Hid (wq.ownsRow B0 9 1 (.slice (some ⟨g, 0, none⟩) 20 cp) 20 (strs bs))) (fun i _ => 20 - (intOf i).toNat)
            case atStart => exact ⟨0, by omega, rfl, HK5, HO5⟩
            case round =>
              obtain ⟨k, hk, rfl, HK6, HO6⟩ := hrel
              by_cases hk2 : k < 20
              · have hkb : k < (bsW bs n Bk.data.toList).length := by rw [HL2.out]; exact hk2
                have hkc : k < bs.length := by rw [HLN.out]; exact hk2
                have HRD := Lib.hid (read_st HK6.out k hkb)
                by_cases hkn : (k : Int) = n
                · rw [bsW_eq bs HLN.out n _ k hkb hkn, mkB] at HRD
                  clear hkb hkc
                  first
                    | (exfalso; omega)
                    | (subst hkn
                       go_wp2_with fail
                       refine HRD.out.mono ?_
                       rintro e w7 ⟨rfl, rfl⟩
                       go_wp2_with fail
                       refine (num_any _ _).mono ?_
                       rintro e w7 ⟨rfl, rfl⟩
                       go_wp2_with fail
                       refine (HBK.out _).mono ?_
                       rintro e w7 ⟨rfl, hb7⟩
                       have HK7 := Lib.hid (HK6.out.below hb7)
                       have HO7 := Lib.hid (own_below HO6.out hb7)
                       clear hb7
                       go_wp2
                       go_roundw
                       case rel => exact ⟨k + 1, by omega, by go_num, HK7, HO7⟩
                       case measure => simp [intOf]; omega)
                · rw [bsW_ne bs n _ k hkb hkc hkn] at HRD
                  have hcell := HO6.out.cellAt k (by omega)
                  rw [strs_at bs k hkc] at hcell
                  obtain ⟨X, hX⟩ : ∃ X, X = (⟨(bs[k]).toArray⟩ : ByteArray) := ⟨_, rfl⟩
                  rw [← hX] at HRD hcell
                  clear hX hkb hkc
                  go_wp2_with fail
                  refine HRD.out.mono ?_
                  rintro e w7 ⟨rfl, rfl⟩
                  go_wp2_with fail
                  refine (num_any _ _).mono ?_
                  rintro e w7 ⟨rfl, rfl⟩
                  go_wp2
                  go_roundw
                  case rel => exact ⟨k + 1, by omega, by go_num, HK6, HO6⟩
                  case measure => simp [intOf]; omega
              · go_wp2_with fail
                refine (HL.out _).mono ?_
                rintro e w7 ⟨rfl, hb7⟩
                have HK7 := Lib.hid (HK6.out.below hb7)
                clear hb7
                go_wp2
                go_ret
                exact ⟨rfl, HK7.out.low⟩
theorem SlabApart_walk (A : Option Addr) (l : List Slb.Act) (cap : Nat) (n : Int) (b : ByteArray) (w : World) (hA : Acts w A l) (hl : l.length ≤ 9223372036854775807) (hz : ∀ a ∈ l, a.b.size ≤ 9223372036854775807) (hb : b.size ≤ 140737488351232) :
    Calls Try.prog 6 #[.slice A l.length cap, .int .i64 n, .string b] w fun e w' => e = .returned (.bool true) ∧ Below w.heap.size w w' := by
  cases hs : smallB l with
  | false => exact SlabApart_else A l cap n b w hA hl hz hb (.inl hs)
  | true =>
    by_cases h64 : (b.size : Int) ≤ 64
    · exact SlabApart_main A l cap n b w hA hl hz hb hs h64
    · exact SlabApart_else A l cap n b w hA hl hz hb (.inr (by omega))
end Go.Proofs.Ythpkmcohcjpmhaa.L

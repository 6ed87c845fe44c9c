/- wharflaw21.SlabRuns: its walk. -/
import Derived.Test.YthpkmcohcjpmhaaSlbV
set_option linter.unusedVariables false
set_option linter.unusedSimpArgs false
namespace Go.Proofs.Ythpkmcohcjpmhaa.L
open Go.RowKit U Slb
set_option maxRecDepth 100000 in
set_option maxHeartbeats 2000000 in
theorem SlabRuns_else (A : Option Addr) (l : List Slb.Act) (cap : Nat) (n : Int) (w : World) (hA : Acts w A l) (hl : l.length ≤ 9223372036854775807) (hz : ∀ a ∈ l, a.b.size ≤ 9223372036854775807) (hno : smallB l = false ∨ (20 < n ∧ n ≤ 4096)) :
    Calls Try.prog 3 #[.int .i64 n, .slice A l.length cap] w fun e w' => e = .returned (.bool true) ∧ Below w.heap.size w w' := by
  have HL : Hid (∀ w, Calls Try.prog 8 #[] w fun e w' => e = .returned (.bool true) ∧ Below w.heap.size w w') := Lib.hid live_any
  have HS := Lib.hid (small_any hA hl hz cap)
  clear hA hz
  obtain ⟨R, hR⟩ : ∃ R, R = smallB l := ⟨_, rfl⟩
  rw [← hR] at HS hno
  obtain ⟨m, hm⟩ : ∃ m, m = l.length := ⟨_, rfl⟩
  rw [← hm] at HS ⊢
  clear hR hm hl
  cases R with
  | false =>
    clear hno
    go_enter Try.func3, Try.ntmps3
    go_wp2_with fail
    refine HS.out.mono ?_
    rintro e w1 ⟨rfl, rfl⟩
    go_wp2_with fail
    refine (HL.out _).mono ?_
    rintro e w1 ⟨rfl, hb1⟩
    go_wp2
    go_ret
    exact ⟨rfl, hb1⟩
  | true =>
    obtain ⟨h1, h2⟩ : 20 < n ∧ n ≤ 4096 := hno.resolve_left (by simp)
    clear hno
    go_enter Try.func3, Try.ntmps3
    go_wp2_with fail
    refine HS.out.mono ?_
    rintro e w1 ⟨rfl, rfl⟩
    go_wp2_with fail
    refine (HL.out _).mono ?_
    rintro e w1 ⟨rfl, hb1⟩
    go_wp2
    go_ret
    exact ⟨rfl, hb1⟩
set_option maxRecDepth 100000 in
set_option maxHeartbeats 2000000 in
theorem SlabRuns_none (A : Option Addr) (l : List Slb.Act) (cap : Nat) (n : Int) (w : World) (hA : Acts w A l) (hl : l.length ≤ 9223372036854775807) (hz : ∀ a ∈ l, a.b.size ≤ 9223372036854775807) (hs : smallB l = true) (hn : n < 0 ∨ 4096 < n) :
    Calls Try.prog 3 #[.int .i64 n, .slice A l.length cap] w fun e w' => e = .returned (.bool true) ∧ Below w.heap.size w w' := by
  have HL : Hid (∀ w, Calls Try.prog 8 #[] w fun e w' => e = .returned (.bool true) ∧ Below w.heap.size w w') := Lib.hid live_any
  have HS := Lib.hid (small_any hA hl hz cap)
  have HN1 := Lib.hid (New_bad n hn w)
  have HN2 := Lib.hid (RNew_bad n hn w)
  clear hA hz
  rw [hs] at HS
  obtain ⟨m, hm⟩ : ∃ m, m = l.length := ⟨_, rfl⟩
  rw [← hm] at HS ⊢
  clear hm hl hs
  rcases hn with h1 | h1
  all_goals
    go_enter Try.func3, Try.ntmps3
    go_wp2_with fail
    refine HS.out.mono ?_
    rintro e w1 ⟨rfl, rfl⟩
    go_wp2_with fail
    refine HN1.out.mono ?_
    rintro e w1 ⟨rfl, rfl⟩
    go_wp2_with fail
    refine HN2.out.mono ?_
    rintro e w1 ⟨rfl, rfl⟩
    go_wp2_with fail
    refine (num_any _ _).mono ?_
    rintro e w1 ⟨rfl, rfl⟩
    go_wp2_with fail
    refine (HL.out _).mono ?_
    rintro e w1 ⟨rfl, hb1⟩
    go_wp2
    go_ret
    exact ⟨rfl, hb1⟩
theorem runs_start {w w1 w2 : World} {gS gB rS : Nat} {v : Value} {n : Nat} (h1 : Stand w gS gB ⟨List.replicate n (List.replicate 64 0), -1, 0, false, 0⟩ w1) (h2 : RIs w1.heap.size rS v (R0 n) w2) (hb : Below w1.heap.size w1 w2) :
    J w gS gB w1.heap.size rS v (R0 n) (R0 n) w2 := ⟨h1.below hb, h2, h1.is.hs.lt, h1.is.hb.lt, h1.low.size⟩
theorem fine0 (n : Nat) (h : n ≤ 20) : Fine n 0 (R0 n) := ⟨by simp [R0], h, by simp [R0], by simp [R0], by simp [R0], by simp [R0]⟩
set_option maxRecDepth 100000 in
set_option maxHeartbeats 4000000 in
theorem SlabRuns_main (A : Option Addr) (l : List Slb.Act) (cap : Nat) (n : Nat) (w : World) (hA : Acts w A l) (hl : l.length ≤ 9223372036854775807) (hz : ∀ a ∈ l, a.b.size ≤ 9223372036854775807) (hs : smallB l = true) (hN : ∀ a ∈ l, a.n ≤ 9223372036854775807) (hn : n ≤ 20) :
    Calls Try.prog 3 #[.int .i64 (n : Int), .slice A l.length cap] w fun e w' => e = .returned (.bool true) ∧ Below w.heap.size w w' := by
  have HL : Hid (∀ w, Calls Try.prog 8 #[] w fun e w' => e = .returned (.bool true) ∧ Below w.heap.size w w') := Lib.hid live_any
  have HS := Lib.hid (small_any hA hl hz cap)
  rw [hs] at HS
  have HM60 : Hid (l.length ≤ 60) := Lib.hid (by unfold smallB at hs; rw [Bool.and_eq_true] at hs; exact of_decide_eq_true hs.1)
  have HN1 := Lib.hid (new_ok n (by omega) w)
  have HN2 := Lib.hid (RNew_ok n hn)
  have HA := Lib.hid hA
  have HZ := Lib.hid hz
  have HNN := Lib.hid hN
  clear hA hz hs hN
  obtain ⟨m, hm⟩ : ∃ m, m = l.length := ⟨_, rfl⟩
  rw [← hm] at HS hl HM60 ⊢
  have HM := Lib.hid hm
  clear hm
  go_enter Try.func3, Try.ntmps3
  go_wp2_with fail
  refine HS.out.mono ?_
  rintro e w1 ⟨rfl, rfl⟩
  go_wp2_with fail
  refine HN1.out.mono ?_
  rintro e w1 ⟨gS, gB, rfl, h1⟩
  have H1 := Lib.hid h1
  clear h1 HN1
  go_wp2_with fail
  refine (HN2.out w1).mono ?_
  rintro e w2 ⟨rS, v0, rfl, h2, hb2⟩
  obtain ⟨B0, hB0⟩ : ∃ B0, B0 = w1.heap.size := ⟨_, rfl⟩
  have HJ : Hid (J w gS gB B0 rS v0 (R0 n) (R0 n) w2 ∧ Fine n ((0 : Nat) : Int) (R0 n)) := Lib.hid ⟨by rw [hB0]; exact runs_start H1.out h2 hb2, fine0 n hn⟩
  clear h2 hb2 hB0 HN2
  go_wp2_with fail
  refine (num_any _ _).mono ?_
  rintro e w3 ⟨rfl, rfl⟩
  go_wp2
  go_loopw [9] (fun i wq => ∃ (k : Nat) (v : Value) (s : S), k ≤ m ∧ i = .int .i64 k ∧ Hid (J w gS gB B0 rS v s s wq ∧ Fine n (k : Int) s)) (fun i _ => m - (intOf i).toNat)
  case atStart => exact ⟨0, v0, R0 n, by omega, rfl, HJ⟩
  case round =>
    obtain ⟨k, v, s, hk, rfl, HK⟩ := hrel
    by_cases hkm : k < m
    · have hk' : k < l.length := by rw [← HM.out]; exact hkm
      obtain ⟨ad, rfl, ha⟩ := HA.out k hk'
      have hz' := HZ.out l[k] (List.getElem_mem _)
      obtain ⟨a, haa⟩ : ∃ a, a = l[k] := ⟨_, rfl⟩
      have hn' := HNN.out l[k] (List.getElem_mem _)
      rw [← haa] at ha hz' hn'
      have HZ' := Lib.hid hz'
      have HN' := Lib.hid hn'
      have ha2 := ha.below HK.out.1.st.low
      obtain ⟨_, c0, c1, c2, c3, c4⟩ := ha2
      have HJ1 : Hid (J w gS gB B0 rS v s s (wr.alloc (.cells #[.int .i64 a.kind, .int .i64 a.n, .int .i64 a.keep, .string a.b, .bool a.raw] 34))) := Lib.hid (HK.out.1.below ((Below.refl _ _).alloc (Nat.le_refl _) _))
      have HF1 := Lib.hid HK.out.2
      have HA1 : Hid (AO B0 wr.heap.size a (wr.alloc (.cells #[.int .i64 a.kind, .int .i64 a.n, .int .i64 a.keep, .string a.b, .bool a.raw] 34))) := Lib.hid (AO.start wr (by have := HK.out.1.ri.base_le; omega))
      clear haa hk' ha hz' hn'
      by_cases kk0 : a.kind = 0
      · have ke0 : (a.kind == 0) = true := by rw [beq_iff_eq]; exact kk0
        clear kk0
        have p0 := fun x : U.In (AO B0 wr.heap.size a) => AO.c0 x.h
        have p1 := fun x : U.In (AO B0 wr.heap.size a) => AO.c1 x.h
        have p2 := fun x : U.In (AO B0 wr.heap.size a) => AO.c2 x.h
        have p3 := fun x : U.In (AO B0 wr.heap.size a) => AO.c3 x.h
        have p4 := fun x : U.In (AO B0 wr.heap.size a) => AO.c4 x.h
        haveI : Nonempty (U.In (AO B0 wr.heap.size a)) := ⟨⟨_, HA1.out⟩⟩
        go_wp2
        refine U.wp_region_mix (S := AO B0 wr.heap.size a) [0, 1, 2, 3, 7, 8, 9, 10] [4, 5, 6, 11] [12, 13] (by kernel_rfl) (by kernel_rfl) (own_below HA1.out (U.below_drewN (Below.refl _ _) 1)) ?_
        simp only [List.filterMap_cons, List.filterMap_nil, List.getElem?_toArray, List.getElem?_cons_succ, List.getElem?_cons_zero]
        change wpQuiet _ _ _ _ [_, _, _, _, _, _, _, _] _
        repeat go_big_quiet_step (fail)
        refine wpQuiet_nil ?_
        clear p0 p1 p2 p3 p4 this c0 c1 c2 c3 c4
        have HJ2 : Hid (J w gS gB B0 rS v s s (wr.alloc (.cells #[.int .i64 a.kind, .int .i64 a.n, .int .i64 a.keep, .string a.b, .bool a.raw] 34)).drew) := Lib.hid (JS.drew HJ1.out)
        have HA2 : Hid (AO B0 wr.heap.size a (wr.alloc (.cells #[.int .i64 a.kind, .int .i64 a.n, .int .i64 a.keep, .string a.b, .bool a.raw] 34)).drew) := Lib.hid (own_below HA1.out (U.below_drewN (Below.refl _ _) 1))
        have HBY : Hid (∀ w, Calls Try.prog 13 #[.agg #[.int .i64 a.kind, .int .i64 a.n, .int .i64 a.keep, .string a.b, .bool a.raw]] w fun e w' => e = .returned (.string (bytesV a)) ∧ Below w.heap.size w w') := Lib.hid (bytes_any a HZ'.out)
        have HBZ := Lib.hid (bytesV_size a HZ'.out)
        obtain ⟨Z, hZ⟩ : ∃ Z, Z = bytesV a := ⟨_, rfl⟩
        rw [← hZ] at HBY HBZ
        clear hZ
        have hkc : (k : Int) ≤ 9000000000000000000 := by have := HM60.out; omega
        obtain ⟨s', hs'⟩ : ∃ s', s' = stepW s a.n Z := ⟨_, rfl⟩
        obtain ⟨C, hC⟩ : ∃ C, C = codeW s a.n Z := ⟨_, rfl⟩
        have HPW : Hid (∀ w9, J w gS gB B0 rS v s s w9 → Calls Try.prog 12 #[P gS, .int .i64 a.n, .string Z] w9 fun e w' => e = .returned (.int .i64 C) ∧ J w gS gB B0 rS v s' s w' ∧ OwnKept gS gB w9 w') := Lib.hid (fun w9 h => by rw [hs', hC]; exact PW h HF1.out hkc a.n Z HBZ.out)
        have HRW : Hid (∀ w9, J w gS gB B0 rS v s' s w9 → Calls Try.prog 14 #[PR rS, .int .i64 a.n, .string Z] w9 (RWPost w gS gB B0 rS s' s' C)) := Lib.hid (fun w9 h => by
          have := RW h HF1.out hkc a.n Z HBZ.out
          rw [← hs', ← hC] at this
          exact this)
        have HF6 : Hid (Fine n ((k : Int) + 1) s') := Lib.hid (by rw [hs']; exact stepW_fine HF1.out _ _)
        clear hs' hC hkc
        refine U.wpParts_step (o := _) rfl ?_
        go_wp2_with fail
        refine (HBY.out _).mono ?_
        rintro e w5 ⟨rfl, hb5⟩
        have HJ3 := Lib.hid (HJ2.out.below hb5)
        have HA3 : Hid (AO B0 wr.heap.size a w5) := Lib.hid (own_below HA2.out hb5)
        clear hb5
        go_wp2
        refine ⟨⟨⟨_, HA3.out⟩, rfl⟩, ?_⟩
        refine U.wpParts_step (o := _) rfl ?_
        go_wp2_with fail
        refine (HPW.out _ HJ3.out).mono ?_
        rintro e w6 ⟨rfl, hj4, hok⟩
        have HJ4 := Lib.hid hj4
        have HA4 : Hid (AO B0 wr.heap.size a w6) := Lib.hid (hok _ _ _ _ _ _ HJ3.out.q1 HJ3.out.q2 HA3.out)
        clear hj4 hok
        go_wp2
        refine ⟨⟨⟨_, HA4.out⟩, rfl⟩, ?_⟩
        refine U.wpParts_step (o := _) rfl ?_
        go_wp2_with fail
        refine (num_any _ _).mono ?_
        rintro e w7 ⟨rfl, rfl⟩
        go_wp2
        refine ⟨⟨⟨_, HA4.out⟩, rfl⟩, ?_⟩
        refine U.wpParts_step (o := _) rfl ?_
        go_wp2_with fail
        refine (HBY.out _).mono ?_
        rintro e w7 ⟨rfl, hb7⟩
        have HJ5 := Lib.hid (HJ4.out.below hb7)
        have HA5 : Hid (AO B0 wr.heap.size a w7) := Lib.hid (own_below HA4.out hb7)
        clear hb7
        go_wp2
        refine ⟨⟨⟨_, HA5.out⟩, rfl⟩, ?_⟩
        unfold U.wpParts U.Ends
        simp only [List.filterMap_cons, List.filterMap_nil, List.getElem?_toArray, List.getElem?_cons_succ, List.getElem?_cons_zero]
        change wpList _ _ _ [_, _] _ _
        go_wp2_with fail
        refine (HRW.out _ HJ5.out).mono ?_
        rintro e w8 ⟨v6, rfl, hj6⟩
        have HJ6 := Lib.hid hj6
        clear hj6 HJ5 HA5 HJ4 HA4 HJ3 HA3 HJ2 HA2 HPW HRW HBY
        obtain ⟨A6, cp6, hv6⟩ := HJ6.out.ri.form'
        have HL6 := Lib.hid HF6.out.len
        rw [HL6.out] at hv6
        subst hv6
        have q0 := fun x : U.In (JS w gS gB B0 rS (.slice A6 n cp6) s') => x.h.ri.c0
        have q3 := fun x : U.In (JS w gS gB B0 rS (.slice A6 n cp6) s') => x.h.ri.c3
        have q4 := fun x : U.In (JS w gS gB B0 rS (.slice A6 n cp6) s') => x.h.ri.c4
        have qd : (s'.dead != s'.dead) = false := by simp
        have qw : (s'.writes != s'.writes) = false := by simp
        haveI : Nonempty (U.In (JS w gS gB B0 rS (.slice A6 n cp6) s')) := ⟨⟨_, HJ6.out⟩⟩
        go_wp2
        refine U.region_in (S := JS w gS gB B0 rS (.slice A6 n cp6) s') (by kernel_rfl) (by kernel_rfl) (JS.drew HJ6.out) ?_
        repeat go_big_quiet_step (first
          | (go_at_call 19; exact dead_in _)
          | (go_at_call 20; exact writes_in _)
          | (go_at_call 21; exact len_inL HL6.out _))
        refine wpQuiet_nil ?_
        intro w7 h7
        have H7 : Hid (J w gS gB B0 rS (.slice A6 n cp6) s' s' w7) := Lib.hid h7
        clear h7 q0 q3 q4 this
        go_wp2
        go_loopw [11] (fun i wq => ∃ z : Int, -1 ≤ z ∧ z ≤ (n : Int) + 1 ∧ i = .int .i64 z ∧ Hid (J w gS gB B0 rS (.slice A6 n cp6) s' s' wq)) (fun i _ => ((n : Int) + 1 - intOf i).toNat)
        case atStart => exact ⟨-1, by omega, by omega, rfl, H7⟩
        case round =>
          obtain ⟨z, z1, z2, rfl, H8⟩ := hrel
          by_cases hz9 : z ≤ (n : Int)
          · have HP8 := Lib.hid (PD H8.out z)
            have HR8 := Lib.hid (RD H8.out HF6.out z)
            obtain ⟨X, hX⟩ : ∃ X, X = rd s' z := ⟨_, rfl⟩
            obtain ⟨C, hC⟩ : ∃ C, C = beg s' z := ⟨_, rfl⟩
            rw [← hX, ← hC] at HP8 HR8
            clear hX hC
            go_wp2_with fail
            refine HP8.out.mono ?_
            rintro e w8 ⟨rfl, rfl⟩
            go_wp2_with fail
            refine HR8.out.mono ?_
            rintro e w8 ⟨rfl, rfl⟩
            go_wp2_with fail
            refine (num_any _ _).mono ?_
            rintro e w8 ⟨rfl, rfl⟩
            have z5 : z + 1 ≤ 9223372036854775807 := by omega
            go_wp2
            go_roundw
            case rel => exact ⟨z + 1, by omega, by omega, rfl, H8⟩
            case measure => simp [intOf]; omega
          · go_wp2
            go_roundw
            case rel => exact ⟨k + 1, _, s', by omega, by go_num, Lib.hid ⟨H8.out, HF6.out⟩⟩
            case measure => simp [intOf]; omega
      · have ke0 : (a.kind == 0) = false := by rw [beq_eq_false_iff_ne]; exact kk0
        by_cases kk1 : a.kind = 1
        · have ke1 : (a.kind == 1) = true := by rw [beq_iff_eq]; exact kk1
          clear kk0 kk1
          go_wp2_with fail
          refine (PA HJ1.out _ _).mono ?_
          rintro e w5 ⟨rfl, hj5, hok⟩
          have HJ5 := Lib.hid hj5
          have ha5 : AO B0 wr.heap.size a w5 := hok _ _ _ _ _ _ HJ1.out.q1 HJ1.out.q2 HA1.out
          have d1 := ha5.c1
          have d2 := ha5.c2
          clear hj5 hok ha5 c0 c1 c2 c3 c4
          go_wp2_with fail
          refine (RA HJ5.out _ _).mono ?_
          rintro e w6 ⟨rfl, hj6⟩
          obtain ⟨s', hs'⟩ : ∃ s', s' = armS s a.n a.keep := ⟨_, rfl⟩
          rw [← hs'] at hj6
          have HJ6 := Lib.hid hj6
          have HF6 : Hid (Fine n ((k : Int) + 1) s') := Lib.hid (by rw [hs']; exact arm_fine HF1.out _ _ HN'.out)
          clear hj6 hs' d1 d2 HJ5
          obtain ⟨A6, cp6, hv6⟩ := HJ6.out.ri.form'
          have HL6 := Lib.hid HF6.out.len
          rw [HL6.out] at hv6
          subst hv6
          have q0 := fun x : U.In (JS w gS gB B0 rS (.slice A6 n cp6) s') => x.h.ri.c0
          have q3 := fun x : U.In (JS w gS gB B0 rS (.slice A6 n cp6) s') => x.h.ri.c3
          have q4 := fun x : U.In (JS w gS gB B0 rS (.slice A6 n cp6) s') => x.h.ri.c4
          have qd : (s'.dead != s'.dead) = false := by simp
          have qw : (s'.writes != s'.writes) = false := by simp
          haveI : Nonempty (U.In (JS w gS gB B0 rS (.slice A6 n cp6) s')) := ⟨⟨_, HJ6.out⟩⟩
          go_wp2
          refine U.region_in (S := JS w gS gB B0 rS (.slice A6 n cp6) s') (by kernel_rfl) (by kernel_rfl) (JS.drew HJ6.out) ?_
          repeat go_big_quiet_step (first
            | (go_at_call 19; exact dead_in _)
            | (go_at_call 20; exact writes_in _)
            | (go_at_call 21; exact len_inL HL6.out _))
          refine wpQuiet_nil ?_
          intro w7 h7
          have H7 : Hid (J w gS gB B0 rS (.slice A6 n cp6) s' s' w7) := Lib.hid h7
          clear h7 q0 q3 q4 this
          go_wp2
          go_loopw [11] (fun i wq => ∃ z : Int, -1 ≤ z ∧ z ≤ (n : Int) + 1 ∧ i = .int .i64 z ∧ Hid (J w gS gB B0 rS (.slice A6 n cp6) s' s' wq)) (fun i _ => ((n : Int) + 1 - intOf i).toNat)
          case atStart => exact ⟨-1, by omega, by omega, rfl, H7⟩
          case round =>
            obtain ⟨z, z1, z2, rfl, H8⟩ := hrel
            by_cases hz9 : z ≤ (n : Int)
            · have HP8 := Lib.hid (PD H8.out z)
              have HR8 := Lib.hid (RD H8.out HF6.out z)
              obtain ⟨X, hX⟩ : ∃ X, X = rd s' z := ⟨_, rfl⟩
              obtain ⟨C, hC⟩ : ∃ C, C = beg s' z := ⟨_, rfl⟩
              rw [← hX, ← hC] at HP8 HR8
              clear hX hC
              go_wp2_with fail
              refine HP8.out.mono ?_
              rintro e w8 ⟨rfl, rfl⟩
              go_wp2_with fail
              refine HR8.out.mono ?_
              rintro e w8 ⟨rfl, rfl⟩
              go_wp2_with fail
              refine (num_any _ _).mono ?_
              rintro e w8 ⟨rfl, rfl⟩
              have z5 : z + 1 ≤ 9223372036854775807 := by omega
              go_wp2
              go_roundw
              case rel => exact ⟨z + 1, by omega, by omega, rfl, H8⟩
              case measure => simp [intOf]; omega
            · go_wp2
              go_roundw
              case rel => exact ⟨k + 1, _, s', by omega, by go_num, Lib.hid ⟨H8.out, HF6.out⟩⟩
              case measure => simp [intOf]; omega
        · have ke1 : (a.kind == 1) = false := by rw [beq_eq_false_iff_ne]; exact kk1
          by_cases kk2 : a.kind = 2
          · have ke2 : (a.kind == 2) = true := by rw [beq_iff_eq]; exact kk2
            clear kk0 kk1 kk2
            go_wp2_with fail
            refine (PM HJ1.out).mono ?_
            rintro e w5 ⟨rfl, hj5, hok⟩
            have HJ5 := Lib.hid hj5
            clear hj5 hok c0 c1 c2 c3 c4
            go_wp2_with fail
            refine (RM HJ5.out).mono ?_
            rintro e w6 ⟨rfl, hj6⟩
            obtain ⟨s', hs'⟩ : ∃ s', s' = mendS s := ⟨_, rfl⟩
            rw [← hs'] at hj6
            have HJ6 := Lib.hid hj6
            have HF6 : Hid (Fine n ((k : Int) + 1) s') := Lib.hid (by rw [hs']; exact mend_fine HF1.out)
            clear hj6 hs' HJ5
            obtain ⟨A6, cp6, hv6⟩ := HJ6.out.ri.form'
            have HL6 := Lib.hid HF6.out.len
            rw [HL6.out] at hv6
            subst hv6
            have q0 := fun x : U.In (JS w gS gB B0 rS (.slice A6 n cp6) s') => x.h.ri.c0
            have q3 := fun x : U.In (JS w gS gB B0 rS (.slice A6 n cp6) s') => x.h.ri.c3
            have q4 := fun x : U.In (JS w gS gB B0 rS (.slice A6 n cp6) s') => x.h.ri.c4
            have qd : (s'.dead != s'.dead) = false := by simp
            have qw : (s'.writes != s'.writes) = false := by simp
            haveI : Nonempty (U.In (JS w gS gB B0 rS (.slice A6 n cp6) s')) := ⟨⟨_, HJ6.out⟩⟩
            go_wp2
            refine U.region_in (S := JS w gS gB B0 rS (.slice A6 n cp6) s') (by kernel_rfl) (by kernel_rfl) (JS.drew HJ6.out) ?_
            repeat go_big_quiet_step (first
              | (go_at_call 19; exact dead_in _)
              | (go_at_call 20; exact writes_in _)
              | (go_at_call 21; exact len_inL HL6.out _))
            refine wpQuiet_nil ?_
            intro w7 h7
            have H7 : Hid (J w gS gB B0 rS (.slice A6 n cp6) s' s' w7) := Lib.hid h7
            clear h7 q0 q3 q4 this
            go_wp2
            go_loopw [11] (fun i wq => ∃ z : Int, -1 ≤ z ∧ z ≤ (n : Int) + 1 ∧ i = .int .i64 z ∧ Hid (J w gS gB B0 rS (.slice A6 n cp6) s' s' wq)) (fun i _ => ((n : Int) + 1 - intOf i).toNat)
            case atStart => exact ⟨-1, by omega, by omega, rfl, H7⟩
            case round =>
              obtain ⟨z, z1, z2, rfl, H8⟩ := hrel
              by_cases hz9 : z ≤ (n : Int)
              · have HP8 := Lib.hid (PD H8.out z)
                have HR8 := Lib.hid (RD H8.out HF6.out z)
                obtain ⟨X, hX⟩ : ∃ X, X = rd s' z := ⟨_, rfl⟩
                obtain ⟨C, hC⟩ : ∃ C, C = beg s' z := ⟨_, rfl⟩
                rw [← hX, ← hC] at HP8 HR8
                clear hX hC
                go_wp2_with fail
                refine HP8.out.mono ?_
                rintro e w8 ⟨rfl, rfl⟩
                go_wp2_with fail
                refine HR8.out.mono ?_
                rintro e w8 ⟨rfl, rfl⟩
                go_wp2_with fail
                refine (num_any _ _).mono ?_
                rintro e w8 ⟨rfl, rfl⟩
                have z5 : z + 1 ≤ 9223372036854775807 := by omega
                go_wp2
                go_roundw
                case rel => exact ⟨z + 1, by omega, by omega, rfl, H8⟩
                case measure => simp [intOf]; omega
              · go_wp2
                go_roundw
                case rel => exact ⟨k + 1, _, s', by omega, by go_num, Lib.hid ⟨H8.out, HF6.out⟩⟩
                case measure => simp [intOf]; omega
          · have ke2 : (a.kind == 2) = false := by rw [beq_eq_false_iff_ne]; exact kk2
            clear kk0 kk1 kk2
            obtain ⟨s', hs'⟩ : ∃ s', s' = s := ⟨_, rfl⟩
            obtain ⟨W6, hW6⟩ : ∃ W, W = wr.alloc (.cells #[.int .i64 a.kind, .int .i64 a.n, .int .i64 a.keep, .string a.b, .bool a.raw] 34) := ⟨_, rfl⟩
            have HJ6 : Hid (J w gS gB B0 rS v s' s' (wr.alloc (.cells #[.int .i64 a.kind, .int .i64 a.n, .int .i64 a.keep, .string a.b, .bool a.raw] 34))) := Lib.hid (by rw [hs']; exact HJ1.out)
            have HF6 : Hid (Fine n ((k : Int) + 1) s') := Lib.hid (by rw [hs']; exact same_fine HF1.out)
            clear hs' hW6 W6 HJ1
            obtain ⟨A6, cp6, hv6⟩ := HJ6.out.ri.form'
            have HL6 := Lib.hid HF6.out.len
            rw [HL6.out] at hv6
            subst hv6
            have q0 := fun x : U.In (JS w gS gB B0 rS (.slice A6 n cp6) s') => x.h.ri.c0
            have q3 := fun x : U.In (JS w gS gB B0 rS (.slice A6 n cp6) s') => x.h.ri.c3
            have q4 := fun x : U.In (JS w gS gB B0 rS (.slice A6 n cp6) s') => x.h.ri.c4
            have qd : (s'.dead != s'.dead) = false := by simp
            have qw : (s'.writes != s'.writes) = false := by simp
            haveI : Nonempty (U.In (JS w gS gB B0 rS (.slice A6 n cp6) s')) := ⟨⟨_, HJ6.out⟩⟩
            go_wp2
            refine U.region_in (S := JS w gS gB B0 rS (.slice A6 n cp6) s') (by kernel_rfl) (by kernel_rfl) (JS.drew HJ6.out) ?_
            repeat go_big_quiet_step (first
              | (go_at_call 19; exact dead_in _)
              | (go_at_call 20; exact writes_in _)
              | (go_at_call 21; exact len_inL HL6.out _))
            refine wpQuiet_nil ?_
            intro w7 h7
            have H7 : Hid (J w gS gB B0 rS (.slice A6 n cp6) s' s' w7) := Lib.hid h7
            clear h7 q0 q3 q4 this
            go_wp2
            go_loopw [11] (fun i wq => ∃ z : Int, -1 ≤ z ∧ z ≤ (n : Int) + 1 ∧ i = .int .i64 z ∧ Hid (J w gS gB B0 rS (.slice A6 n cp6) s' s' wq)) (fun i _ => ((n : Int) + 1 - intOf i).toNat)
            case atStart => exact ⟨-1, by omega, by omega, rfl, H7⟩
            case round =>
              obtain ⟨z, z1, z2, rfl, H8⟩ := hrel
              by_cases hz9 : z ≤ (n : Int)
              · have HP8 := Lib.hid (PD H8.out z)
                have HR8 := Lib.hid (RD H8.out HF6.out z)
                obtain ⟨X, hX⟩ : ∃ X, X = rd s' z := ⟨_, rfl⟩
                obtain ⟨C, hC⟩ : ∃ C, C = beg s' z := ⟨_, rfl⟩
                rw [← hX, ← hC] at HP8 HR8
                clear hX hC
                go_wp2_with fail
                refine HP8.out.mono ?_
                rintro e w8 ⟨rfl, rfl⟩
                go_wp2_with fail
                refine HR8.out.mono ?_
                rintro e w8 ⟨rfl, rfl⟩
                go_wp2_with fail
                refine (num_any _ _).mono ?_
                rintro e w8 ⟨rfl, rfl⟩
                have z5 : z + 1 ≤ 9223372036854775807 := by omega
                go_wp2
                go_roundw
                case rel => exact ⟨z + 1, by omega, by omega, rfl, H8⟩
                case measure => simp [intOf]; omega
              · go_wp2
                go_roundw
                case rel => exact ⟨k + 1, _, s', by omega, by go_num, Lib.hid ⟨H8.out, HF6.out⟩⟩
                case measure => simp [intOf]; omega
    · go_wp2_with fail
      refine (HL.out _).mono ?_
      rintro e w7 ⟨rfl, hb7⟩
      have HK7 := Lib.hid (HK.out.1.st.below hb7)
      clear hb7
      go_wp2
      go_ret
      exact ⟨rfl, HK7.out.low⟩
theorem SlabRuns_walk (A : Option Addr) (l : List Slb.Act) (cap : Nat) (n : Int) (w : World) (hA : Acts w A l) (hl : l.length ≤ 9223372036854775807) (hz : ∀ a ∈ l, a.b.size ≤ 9223372036854775807) (hN : ∀ a ∈ l, a.n ≤ 9223372036854775807) :
    Calls Try.prog 3 #[.int .i64 n, .slice A l.length cap] w fun e w' => e = .returned (.bool true) ∧ Below w.heap.size w w' := by
  cases hs : smallB l with
  | false => exact SlabRuns_else A l cap n w hA hl hz (.inl hs)
  | true =>
    by_cases h1 : n < 0 ∨ 4096 < n
    · exact SlabRuns_none A l cap n w hA hl hz hs h1
    · by_cases h2 : 20 < n
      · exact SlabRuns_else A l cap n w hA hl hz (.inr ⟨h2, by omega⟩)
      · obtain ⟨k, rfl⟩ : ∃ k : Nat, n = (k : Int) := ⟨n.toNat, by omega⟩
        exact SlabRuns_main A l cap k w hA hl hz hs hN (by omega)
end Go.Proofs.Ythpkmcohcjpmhaa.L

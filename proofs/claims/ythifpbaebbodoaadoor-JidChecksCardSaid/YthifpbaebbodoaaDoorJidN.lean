/- wharflaw03.JidNorm: its walk. -/
import Derived.Test.YthifpbaebbodoaaDoorJidL
import Derived.Test.YthifpbaebbodoaaDoorJidQ
set_option linter.unusedVariables false
set_option linter.unusedSimpArgs false
namespace Go.Proofs.YthifpbaebbodoaaDoor.Jid
open Go.RowKit GlyP Gly Strs JidP

abbrev SmallSays (a b c : ByteArray) (r : Bool) : Prop := Hid (∀ w, Calls Tryd.prog 13 #[.agg #[.string a, .string b, .string c]] w fun e w' => e = .returned (.bool r) ∧ Below w.heap.size w w')
abbrev PutSays (a b c s : ByteArray) : Prop := Hid (∀ w, Calls Tryd.prog 16 #[.agg #[.string a, .string b, .string c]] w fun e w' => e = .returned (.string s) ∧ Below w.heap.size w w')
abbrev ParseSays (s a b c : ByteArray) (r : Int) : Prop := Hid (∀ w, Calls Tryd.prog 10 #[.string s] w fun e w' => e = .returned (.tuple #[.agg #[.string a, .string b, .string c], .int .i64 r]) ∧ Below w.heap.size w w')
theorem num_0b (w : World) : Calls Tryd.prog 12 #[.int .i64 0] w fun e w' => e = .returned (.int .i64 0) ∧ Below w.heap.size w w' :=
  (num_0 w).mono fun e w' ⟨h1, h2⟩ => ⟨h1, h2 ▸ Below.refl _ _⟩
theorem num_30b (w : World) : Calls Tryd.prog 12 #[.int .i64 30] w fun e w' => e = .returned (.int .i64 30) ∧ Below w.heap.size w w' :=
  (num_30 w).mono fun e w' ⟨h1, h2⟩ => ⟨h1, h2 ▸ Below.refl _ _⟩
theorem smallSays (a b c : ByteArray) (ha : Low a) (hb : Low b) (hc : Low c) (r : Bool) (h : decide (a.size + b.size + c.size ≤ 4000) = r) : SmallSays a b c r := Lib.hid fun w => by subst h; exact small_any a b c ha hb hc w

theorem JidNorm_big (a b c : ByteArray) (HS : SmallSays a b c false) (w : World) :
    Calls Tryd.prog 8 #[.agg #[.string a, .string b, .string c]] w fun e w' => e = .returned (.bool true) ∧ Below w.heap.size w w' := by
  have K0 := Lib.hid ((Keep.start w).alloc a b c)
  go_enter Tryd.func8, Tryd.ntmps8
  go_wp2_with fail
  refine (HS.out _).mono ?_
  rintro e w1 ⟨rfl, hb1⟩
  have K1 := Lib.hid (K0.out.below hb1)
  clear hb1
  go_wp2_with fail
  refine (live_any _).mono ?_
  rintro e w2 ⟨rfl, hb2⟩
  have K2 := Lib.hid (K1.out.below hb2)
  clear hb2
  go_wp2
  go_ret
  exact ⟨rfl, K2.out.low⟩

set_option maxHeartbeats 2000000 in
theorem JidNorm_not (a b c X Y : ByteArray) (HS : SmallSays a b c true) (HN : NormSays a b c X Y) (hX : X.size = a.size) (hY : ¬ ((b.size : Int) < (Y.size : Int))) (HC : CheckSays X Y c 30) (w : World) :
    Calls Tryd.prog 8 #[.agg #[.string a, .string b, .string c]] w fun e w' => e = .returned (.bool true) ∧ Below w.heap.size w w' := by
  have K0 := Lib.hid ((Keep.start w).alloc a b c)
  go_enter Tryd.func8, Tryd.ntmps8
  go_wp2_with fail
  refine (HS.out _).mono ?_
  rintro e w1 ⟨rfl, hb1⟩
  have K1 := Lib.hid (K0.out.below hb1)
  obtain ⟨c0, c1, c2⟩ := K1.out.box w.heap.size _ _ _ List.mem_cons_self
  clear hb1
  go_wp2_with fail
  refine (HN.out _).mono ?_
  rintro e w2 ⟨rfl, hb2⟩
  have k2 := K1.out.below hb2
  obtain ⟨c0, c1, c2⟩ := k2.box w.heap.size _ _ _ List.mem_cons_self
  have hne := k2.lt w.heap.size _ _ _ List.mem_cons_self
  have K2 := Lib.hid (k2.alloc X Y c)
  clear hb2 k2
  go_wp2_with fail
  refine (HC.out _).mono ?_
  rintro e w3 ⟨rfl, hb3⟩
  have K3 := Lib.hid (K2.out.below hb3)
  clear hb3
  go_wp2_with fail
  refine (num_30 _).mono ?_
  rintro e w4 ⟨rfl, rfl⟩
  go_wp2_with fail
  refine (live_any _).mono ?_
  rintro e w5 ⟨rfl, hb5⟩
  have K5 := Lib.hid (K3.out.below hb5)
  clear hb5
  go_wp2
  go_ret
  exact ⟨rfl, K5.out.low⟩

set_option maxHeartbeats 2000000 in
theorem JidNorm_ok (a b c X Y P : ByteArray) (HS : SmallSays a b c true) (HN : NormSays a b c X Y) (hX : X.size = a.size) (hY : ¬ ((b.size : Int) < (Y.size : Int))) (HC : CheckSays X Y c 0)
    (HP : PutSays X Y c P) (HQ : ParseSays P X Y c 0) (HM : NormSays X Y c X Y) (w : World) :
    Calls Tryd.prog 8 #[.agg #[.string a, .string b, .string c]] w fun e w' => e = .returned (.bool true) ∧ Below w.heap.size w w' := by
  have K0 := Lib.hid ((Keep.start w).alloc a b c)
  go_enter Tryd.func8, Tryd.ntmps8
  go_wp2_with fail
  refine (HS.out _).mono ?_
  rintro e w1 ⟨rfl, hb1⟩
  have K1 := Lib.hid (K0.out.below hb1)
  obtain ⟨c0, c1, c2⟩ := K1.out.box w.heap.size _ _ _ List.mem_cons_self
  clear hb1
  go_wp2_with fail
  refine (HN.out _).mono ?_
  rintro e w2 ⟨rfl, hb2⟩
  have k2 := K1.out.below hb2
  obtain ⟨c0, c1, c2⟩ := k2.box w.heap.size _ _ _ List.mem_cons_self
  have hne := k2.lt w.heap.size _ _ _ List.mem_cons_self
  have K2 := Lib.hid (k2.alloc X Y c)
  clear hb2 k2
  go_wp2_with fail
  refine (HC.out _).mono ?_
  rintro e w3 ⟨rfl, hb3⟩
  have K3 := Lib.hid (K2.out.below hb3)
  obtain ⟨n0, n1, n2⟩ := K3.out.box w2.heap.size _ _ _ List.mem_cons_self
  clear hb3
  go_wp2_with fail
  refine (num_0 _).mono ?_
  rintro e w4 ⟨rfl, rfl⟩
  go_wp2_with fail
  refine (HP.out _).mono ?_
  rintro e w5 ⟨rfl, hb5⟩
  have K5 := Lib.hid (K3.out.below hb5)
  clear hb5
  go_wp2_with fail
  refine (HQ.out _).mono ?_
  rintro e w6 ⟨rfl, hb6⟩
  have K6 := Lib.hid ((K5.out.below hb6).alloc X Y c)
  clear hb6 c0 c1 c2 n0 n1 n2 hne
  have f := fun x : U.In (Keep w [(w6.heap.size, X, Y, c), (w2.heap.size, X, Y, c), (w.heap.size, a, b, c)]) => x.h.box w6.heap.size _ _ _ List.mem_cons_self
  have g := fun x : U.In (Keep w [(w6.heap.size, X, Y, c), (w2.heap.size, X, Y, c), (w.heap.size, a, b, c)]) => x.h.box w2.heap.size _ _ _ (List.mem_cons_of_mem _ List.mem_cons_self)
  have f0 := fun x => (f x).1
  have f1 := fun x => (f x).2.1
  have f2 := fun x => (f x).2.2
  have g0 := fun x => (g x).1
  have g1 := fun x => (g x).2.1
  have g2 := fun x => (g x).2.2
  clear f g
  haveI : Nonempty (U.In (Keep w [(w6.heap.size, X, Y, c), (w2.heap.size, X, Y, c), (w.heap.size, a, b, c)])) := ⟨⟨_, K6.out⟩⟩
  go_wp2_with fail
  refine U.region_in (S := Keep w [(w6.heap.size, X, Y, c), (w2.heap.size, X, Y, c), (w.heap.size, a, b, c)]) (by kernel_rfl) (by kernel_rfl) K6.out.drew ?_
  repeat go_big_quiet_step (first
    | (go_at_call 18; exact U.call_in _ (HM.out _) (fun _ _ => Keep.below))
    | (go_at_call 12; exact U.call_in _ (num_0b _) (fun _ _ => Keep.below))
    | (go_at_call 9; exact U.call_in _ (live_any _) (fun _ _ => Keep.below)))
  refine wpQuiet_nil ?_
  intro w7 K7
  clear f0 f1 f2 g0 g1 g2 this
  go_wp2
  go_ret
  exact ⟨rfl, K7.low⟩

theorem putSays (a b c : ByteArray) (ha : a.size ≤ 68719476736) (hb : b.size ≤ 68719476736) (hc : c.size ≤ 68719476736) : PutSays a b c (putB a b c) := Lib.hid fun w => Put_any a b c ha hb hc w
theorem putB_data (a b c : ByteArray) : (putB a b c).data.toList = put (jOf a b c) := by
  unfold putB put jOf
  rw [U.append_data]
  have ea : (a.size = 0) = (a.data.toList = []) := by rw [← U.len_data, List.length_eq_zero_iff]
  have ec : (c.size = 0) = (c.data.toList = []) := by rw [← U.len_data, List.length_eq_zero_iff]
  congr 1
  · by_cases h : a.size = 0
    · rw [if_pos h, if_pos (ea ▸ h)]
    · rw [if_neg h, if_neg (ea ▸ h), U.append_data, U.append_data]
  · by_cases h : c.size = 0
    · rw [if_pos h, if_pos (ec ▸ h)]
    · rw [if_neg h, if_neg (ec ▸ h), U.append_data]; rfl
theorem of_data (s : ByteArray) : (⟨s.data.toList.toArray⟩ : ByteArray) = s := by simp
theorem parseSays (a b c s : ByteArray) (h : parse s.data.toList = some (jOf a b c)) (hs : s.size ≤ 68719476736) : ParseSays s a b c 0 := Lib.hid fun w => by
  have hp := Parse_any s hs w
  unfold parseV at hp
  rw [h] at hp
  simp only [V, S, jOf, of_data] at hp
  exact hp
theorem checkSays (a b c : ByteArray) (ha : a.size ≤ 68719476736) (hb : b.size ≤ 68719476736) (hc : c.size ≤ 68719476736) (r : Int) (h : (if ok (jOf a b c) = true then (0 : Int) else 30) = r) : CheckSays a b c r := Lib.hid fun w => by
  rw [← h]; exact Check_any a b c ha hb hc w

theorem JidNorm_walk (a b c : ByteArray) (ha : Low a) (hb : Low b) (hc : Low c) (w : World) :
    Calls Tryd.prog 8 #[.agg #[.string a, .string b, .string c]] w fun e w' => e = .returned (.bool true) ∧ Below w.heap.size w w' := by
  by_cases hs : a.size + b.size + c.size ≤ 4000
  · have HS := smallSays a b c ha hb hc true (decide_eq_true hs)
    obtain ⟨X, hX⟩ : ∃ X : ByteArray, X = ⟨(a.data.toList.map low).toArray⟩ := ⟨_, rfl⟩
    obtain ⟨Y, hY⟩ : ∃ Y : ByteArray, Y = ⟨(trimPoint (b.data.toList.map low)).toArray⟩ := ⟨_, rfl⟩
    have HN : NormSays a b c X Y := Lib.hid fun w => by rw [hX, hY]; exact Norm_any a b c (by omega) (by omega) w
    have sX : X.size = a.size := by rw [hX, size_mk, List.length_map, U.len_data]
    have sY : Y.size ≤ b.size := by rw [hY, size_mk]; exact Nat.le_trans (trimLe _) (by rw [List.length_map, U.len_data]; exact Nat.le_refl _)
    cases hk : ok (jOf X Y c) with
    | false => exact JidNorm_not a b c X Y HS HN sX (by omega) (checkSays X Y c (by omega) (by omega) (by omega) 30 (by rw [hk]; rfl)) w
    | true =>
      have hn := ok_norm hk
      have hM : NormSays X Y c X Y := Lib.hid fun w => by
        have h := Norm_any X Y c (by omega) (by omega) w
        have e1 : X.data.toList.map low = X.data.toList := congrArg J.n hn
        have e2 : trimPoint (Y.data.toList.map low) = Y.data.toList := congrArg J.d hn
        rw [e1, e2, of_data, of_data] at h
        exact h
      have hP := putSays X Y c (by omega) (by omega) (by omega)
      have hd := putB_data X Y c
      have hl := put_len (jOf X Y c)
      have hQ := parseSays X Y c (putB X Y c) (by rw [hd]; exact parse_put _ hk) (by
        rw [← U.len_data, hd]
        have h1 : (jOf X Y c).n.length = X.size := U.len_data X
        have h2 : (jOf X Y c).d.length = Y.size := U.len_data Y
        have h3 : (jOf X Y c).r.length = c.size := U.len_data c
        omega)
      exact JidNorm_ok a b c X Y (putB X Y c) HS HN sX (by omega) (checkSays X Y c (by omega) (by omega) (by omega) 0 (by rw [hk]; rfl)) hP hQ hM w
  · exact JidNorm_big a b c (smallSays a b c ha hb hc false (decide_eq_false hs)) w
end Go.Proofs.YthifpbaebbodoaaDoor.Jid

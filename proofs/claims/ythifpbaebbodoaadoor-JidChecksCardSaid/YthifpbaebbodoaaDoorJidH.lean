/- wharflaw03.JidChecks: its walk. -/
import Derived.Test.YthifpbaebbodoaaDoorRbP
import Derived.Test.YthifpbaebbodoaaDoorJidN
set_option linter.unusedVariables false
set_option linter.unusedSimpArgs false
namespace Go.Proofs.YthifpbaebbodoaaDoor.Jid
open Go.RowKit GlyP Gly Strs JidP

abbrev BoolSays (f : Nat) (args : Array Value) (r : Bool) : Prop := Hid (∀ w, Calls Tryd.prog f args w fun e w' => e = .returned (.bool r) ∧ Below w.heap.size w w')
theorem JidChecks_big (a b c d : ByteArray) (HS : SmallSays a b c false) (w : World) :
    Calls Tryd.prog 4 #[.agg #[.string a, .string b, .string c], .string d] w fun e w' => e = .returned (.bool true) ∧ Below w.heap.size w w' := by
  have K0 := Lib.hid ((Keep.start w).alloc a b c)
  go_enter Tryd.func4, Tryd.ntmps4
  go_wp2_with fail
  refine (HS.out _).mono ?_
  rintro e w1 ⟨rfl, hb1⟩
  have K1 := Lib.hid (K0.out.below hb1)
  clear hb1
  go_wp2_with fail
  refine (live_any _).mono ?_
  rintro e w2 ⟨rfl, hb2⟩
  have K2 := Lib.hid (K1.out.below hb2)
  clear hb2
  go_wp2
  go_ret
  exact ⟨rfl, K2.out.low⟩

theorem JidChecks_long (a b c d : ByteArray) (HS : SmallSays a b c true) (hd : (4000 : Int) < d.size) (w : World) :
    Calls Tryd.prog 4 #[.agg #[.string a, .string b, .string c], .string d] w fun e w' => e = .returned (.bool true) ∧ Below w.heap.size w w' := by
  have K0 := Lib.hid ((Keep.start w).alloc a b c)
  go_enter Tryd.func4, Tryd.ntmps4
  go_wp2_with fail
  refine (HS.out _).mono ?_
  rintro e w1 ⟨rfl, hb1⟩
  have K1 := Lib.hid (K0.out.below hb1)
  clear hb1
  go_wp2_with fail
  refine (live_any _).mono ?_
  rintro e w2 ⟨rfl, hb2⟩
  have K2 := Lib.hid (K1.out.below hb2)
  clear hb2
  go_wp2
  go_ret
  exact ⟨rfl, K2.out.low⟩
abbrev StrSays (f : Nat) (args : Array Value) (r : ByteArray) : Prop := Hid (∀ w, Calls Tryd.prog f args w fun e w' => e = .returned (.string r) ∧ Below w.heap.size w w')
abbrev JSays (f : Nat) (args : Array Value) (x y z : ByteArray) : Prop := Hid (∀ w, Calls Tryd.prog f args w fun e w' => e = .returned (.agg #[.string x, .string y, .string z]) ∧ Below w.heap.size w w')

set_option maxHeartbeats 2000000 in
theorem JidChecks_yes (a b c d P X Y : ByteArray) (HS : SmallSays a b c true) (hd : ¬ (4000 : Int) < d.size) (HC : CheckSays a b c 0) (HI : BoolSays 15 #[.agg #[.string a, .string b, .string c]] true)
    (HP : PutSays a b c P) (HQ : StrSays 17 #[.agg #[.string a, .string b, .string c]] P) (HN : NormSays a b c X Y) (HM : JSays 19 #[.agg #[.string a, .string b, .string c]] X Y c)
    (HB : JSays 21 #[.agg #[.string a, .string b, .string c]] a b ⟨#[]⟩) (w : World) :
    Calls Tryd.prog 4 #[.agg #[.string a, .string b, .string c], .string d] w fun e w' => e = .returned (.bool true) ∧ Below w.heap.size w w' := by
  have K0 := Lib.hid ((Keep.start w).alloc a b c)
  go_enter Tryd.func4, Tryd.ntmps4
  go_wp2_with fail
  refine (HS.out _).mono ?_
  rintro e w1 ⟨rfl, hb1⟩
  have K1 := Lib.hid (K0.out.below hb1)
  obtain ⟨c0, c1, c2⟩ := K1.out.box w.heap.size _ _ _ List.mem_cons_self
  have hne := K1.out.lt w.heap.size _ _ _ List.mem_cons_self
  have K2 := Lib.hid (K1.out.alloc a b d)
  clear hb1
  go_wp2_with fail
  clear c0 c1 c2 hne
  have f := fun x : U.In (Keep w [(w1.heap.size, a, b, d), (w.heap.size, a, b, c)]) => x.h.box w1.heap.size _ _ _ List.mem_cons_self
  have g := fun x : U.In (Keep w [(w1.heap.size, a, b, d), (w.heap.size, a, b, c)]) => x.h.box w.heap.size _ _ _ (List.mem_cons_of_mem _ List.mem_cons_self)
  have f0 := fun x => (f x).1
  have f1 := fun x => (f x).2.1
  have f2 := fun x => (f x).2.2
  have g0 := fun x => (g x).1
  have g1 := fun x => (g x).2.1
  have g2 := fun x => (g x).2.2
  clear f g
  haveI : Nonempty (U.In (Keep w [(w1.heap.size, a, b, d), (w.heap.size, a, b, c)])) := ⟨⟨_, K2.out⟩⟩
  refine U.region_in (S := Keep w [(w1.heap.size, a, b, d), (w.heap.size, a, b, c)]) (by kernel_rfl) (by kernel_rfl) K2.out.drew ?_
  repeat go_big_quiet_step (first
    | (go_at_call 14; exact U.call_in _ (HC.out _) (fun _ _ => Keep.below))
    | (go_at_call 12; exact U.call_in _ (num_0b _) (fun _ _ => Keep.below))
    | (go_at_call 15; exact U.call_in _ (HI.out _) (fun _ _ => Keep.below))
    | (go_at_call 16; exact U.call_in _ (HP.out _) (fun _ _ => Keep.below))
    | (go_at_call 17; exact U.call_in _ (HQ.out _) (fun _ _ => Keep.below))
    | (go_at_call 18; exact U.call_in _ (HN.out _) (fun _ _ => Keep.below))
    | (go_at_call 19; exact U.call_in _ (HM.out _) (fun _ _ => Keep.below))
    | (go_at_call 20; exact U.call_in _ (Bare_any a b c _) (fun _ _ => Keep.below))
    | (go_at_call 21; exact U.call_in _ (HB.out _) (fun _ _ => Keep.below))
    | (go_at_call 22; exact U.call_in _ (With_any a b c d _) (fun _ _ => Keep.below))
    | (go_at_call 9; exact U.call_in _ (live_any _) (fun _ _ => Keep.below)))
  refine wpQuiet_nil ?_
  intro w7 K7
  clear f0 f1 f2 g0 g1 g2 this
  go_wp2
  go_ret
  exact ⟨rfl, K7.low⟩

set_option maxHeartbeats 2000000 in
theorem JidChecks_no (a b c d P X Y : ByteArray) (HS : SmallSays a b c true) (hd : ¬ (4000 : Int) < d.size) (HC : CheckSays a b c 30) (HI : BoolSays 15 #[.agg #[.string a, .string b, .string c]] false)
    (HP : PutSays a b c P) (HQ : StrSays 17 #[.agg #[.string a, .string b, .string c]] P) (HN : NormSays a b c X Y) (HM : JSays 19 #[.agg #[.string a, .string b, .string c]] X Y c)
    (HB : JSays 21 #[.agg #[.string a, .string b, .string c]] a b ⟨#[]⟩) (w : World) :
    Calls Tryd.prog 4 #[.agg #[.string a, .string b, .string c], .string d] w fun e w' => e = .returned (.bool true) ∧ Below w.heap.size w w' := by
  have K0 := Lib.hid ((Keep.start w).alloc a b c)
  go_enter Tryd.func4, Tryd.ntmps4
  go_wp2_with fail
  refine (HS.out _).mono ?_
  rintro e w1 ⟨rfl, hb1⟩
  have K1 := Lib.hid (K0.out.below hb1)
  obtain ⟨c0, c1, c2⟩ := K1.out.box w.heap.size _ _ _ List.mem_cons_self
  have hne := K1.out.lt w.heap.size _ _ _ List.mem_cons_self
  have K2 := Lib.hid (K1.out.alloc a b d)
  clear hb1
  go_wp2_with fail
  clear c0 c1 c2 hne
  have f := fun x : U.In (Keep w [(w1.heap.size, a, b, d), (w.heap.size, a, b, c)]) => x.h.box w1.heap.size _ _ _ List.mem_cons_self
  have g := fun x : U.In (Keep w [(w1.heap.size, a, b, d), (w.heap.size, a, b, c)]) => x.h.box w.heap.size _ _ _ (List.mem_cons_of_mem _ List.mem_cons_self)
  have f0 := fun x => (f x).1
  have f1 := fun x => (f x).2.1
  have f2 := fun x => (f x).2.2
  have g0 := fun x => (g x).1
  have g1 := fun x => (g x).2.1
  have g2 := fun x => (g x).2.2
  clear f g
  haveI : Nonempty (U.In (Keep w [(w1.heap.size, a, b, d), (w.heap.size, a, b, c)])) := ⟨⟨_, K2.out⟩⟩
  refine U.region_in (S := Keep w [(w1.heap.size, a, b, d), (w.heap.size, a, b, c)]) (by kernel_rfl) (by kernel_rfl) K2.out.drew ?_
  repeat go_big_quiet_step (first
    | (go_at_call 14; exact U.call_in _ (HC.out _) (fun _ _ => Keep.below))
    | (go_at_call 12; exact U.call_in _ (num_30b _) (fun _ _ => Keep.below))
    | (go_at_call 15; exact U.call_in _ (HI.out _) (fun _ _ => Keep.below))
    | (go_at_call 16; exact U.call_in _ (HP.out _) (fun _ _ => Keep.below))
    | (go_at_call 17; exact U.call_in _ (HQ.out _) (fun _ _ => Keep.below))
    | (go_at_call 18; exact U.call_in _ (HN.out _) (fun _ _ => Keep.below))
    | (go_at_call 19; exact U.call_in _ (HM.out _) (fun _ _ => Keep.below))
    | (go_at_call 20; exact U.call_in _ (Bare_any a b c _) (fun _ _ => Keep.below))
    | (go_at_call 21; exact U.call_in _ (HB.out _) (fun _ _ => Keep.below))
    | (go_at_call 22; exact U.call_in _ (With_any a b c d _) (fun _ _ => Keep.below))
    | (go_at_call 9; exact U.call_in _ (live_any _) (fun _ _ => Keep.below)))
  refine wpQuiet_nil ?_
  intro w7 K7
  clear f0 f1 f2 g0 g1 g2 this
  go_wp2
  go_ret
  exact ⟨rfl, K7.low⟩

theorem JidChecks_walk (a b c d : ByteArray) (ha : Low a) (hb : Low b) (hc : Low c) (hd : Low d) (w : World) :
    Calls Tryd.prog 4 #[.agg #[.string a, .string b, .string c], .string d] w fun e w' => e = .returned (.bool true) ∧ Below w.heap.size w w' := by
  by_cases hs : a.size + b.size + c.size ≤ 4000
  · have HS := smallSays a b c ha hb hc true (decide_eq_true hs)
    by_cases hl : (4000 : Int) < d.size
    · exact JidChecks_long a b c d HS hl w
    · have j : F.jl3 a b c := by unfold F.jl3 F.jl; omega
      have hP := putSays a b c (by omega) (by omega) (by omega)
      have hN : NormSays a b c _ _ := Lib.hid fun w => Norm_any a b c (by omega) (by omega) w
      have hI : BoolSays 15 #[.agg #[.string a, .string b, .string c]] (ok (jOf a b c)) := Lib.hid fun w => RIs_any a b c (by omega) (by omega) (by omega) w
      have hQ : StrSays 17 #[.agg #[.string a, .string b, .string c]] (putB a b c) := Lib.hid fun w => RPut_any a b c (by omega) (by omega) (by omega) w
      have hM : JSays 19 #[.agg #[.string a, .string b, .string c]] ⟨(a.data.toList.map low).toArray⟩ ⟨(trimPoint (b.data.toList.map low)).toArray⟩ c :=
        Lib.hid fun w => F.wharfref03_Norm.calls a b c _ _ _ w (by unfold F.wharfref03_Norm.f; rw [if_pos j])
      have hB : JSays 21 #[.agg #[.string a, .string b, .string c]] a b ⟨#[]⟩ := Lib.hid fun w => F.wharfref03_Bare.calls a b c _ _ _ w rfl
      cases hk : ok (jOf a b c) with
      | true =>
        rw [hk] at hI
        exact JidChecks_yes a b c d _ _ _ HS hl (checkSays a b c (by omega) (by omega) (by omega) 0 (by rw [hk]; rfl)) hI hP hQ hN hM hB w
      | false =>
        rw [hk] at hI
        exact JidChecks_no a b c d _ _ _ HS hl (checkSays a b c (by omega) (by omega) (by omega) 30 (by rw [hk]; rfl)) hI hP hQ hN hM hB w
  · exact JidChecks_big a b c d (smallSays a b c ha hb hc false (decide_eq_false hs)) w
end Go.Proofs.YthifpbaebbodoaaDoor.Jid

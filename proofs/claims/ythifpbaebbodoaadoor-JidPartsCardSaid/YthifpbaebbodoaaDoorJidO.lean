/- wharflaw03.JidParts: its walk. -/
import Derived.Test.YthifpbaebbodoaaDoorJidK
set_option linter.unusedVariables false
set_option linter.unusedSimpArgs false
namespace Go.Proofs.YthifpbaebbodoaaDoor.Jid
open Go.RowKit GlyP Gly Strs JidP


set_option maxHeartbeats 2000000 in
theorem JidParts_1 (a b c x y z : ByteArray) (HS : SmallSays a b c false) (w : World) :
    Calls Tryd.prog 7 #[.agg #[.string a, .string b, .string c], .agg #[.string x, .string y, .string z]] w fun e w' => e = .returned (.bool true) ∧ Below w.heap.size w w' := by
  have K0 := ((Keep.start w).alloc a b c).alloc x y z
  simp only [World.size_alloc] at K0
  replace K0 := Lib.hid K0
  go_enter Tryd.func7, Tryd.ntmps7
  go_wp2_with fail
  refine (HS.out _).mono ?_
  rintro e w1 ⟨rfl, hb⟩
  have k := K0.out.below hb
  clear hb
  obtain ⟨c00, c01, c02⟩ := k.box (w.heap.size + 1) _ _ _ List.mem_cons_self
  obtain ⟨c10, c11, c12⟩ := k.box w.heap.size _ _ _ (List.mem_cons_of_mem _ List.mem_cons_self)
  have K1 := Lib.hid k
  clear k
  go_wp2_with fail
  refine (live_any _).mono ?_
  rintro e w2 ⟨rfl, hb⟩
  have k := K1.out.below hb
  clear hb c00 c01 c02 c10 c11 c12
  obtain ⟨c00, c01, c02⟩ := k.box (w.heap.size + 1) _ _ _ List.mem_cons_self
  obtain ⟨c10, c11, c12⟩ := k.box w.heap.size _ _ _ (List.mem_cons_of_mem _ List.mem_cons_self)
  have K2 := Lib.hid k
  clear k
  go_wp2
  go_ret
  exact ⟨rfl, K2.out.low⟩


set_option maxHeartbeats 2000000 in
theorem JidParts_2 (a b c x y z : ByteArray) (HS : SmallSays a b c true) (HT : SmallSays x y z false) (w : World) :
    Calls Tryd.prog 7 #[.agg #[.string a, .string b, .string c], .agg #[.string x, .string y, .string z]] w fun e w' => e = .returned (.bool true) ∧ Below w.heap.size w w' := by
  have K0 := ((Keep.start w).alloc a b c).alloc x y z
  simp only [World.size_alloc] at K0
  replace K0 := Lib.hid K0
  go_enter Tryd.func7, Tryd.ntmps7
  go_wp2_with fail
  refine (HS.out _).mono ?_
  rintro e w1 ⟨rfl, hb⟩
  have k := K0.out.below hb
  clear hb
  obtain ⟨c00, c01, c02⟩ := k.box (w.heap.size + 1) _ _ _ List.mem_cons_self
  obtain ⟨c10, c11, c12⟩ := k.box w.heap.size _ _ _ (List.mem_cons_of_mem _ List.mem_cons_self)
  have K1 := Lib.hid k
  clear k
  go_wp2_with fail
  refine (HT.out _).mono ?_
  rintro e w2 ⟨rfl, hb⟩
  have k := K1.out.below hb
  clear hb c00 c01 c02 c10 c11 c12
  obtain ⟨c00, c01, c02⟩ := k.box (w.heap.size + 1) _ _ _ List.mem_cons_self
  obtain ⟨c10, c11, c12⟩ := k.box w.heap.size _ _ _ (List.mem_cons_of_mem _ List.mem_cons_self)
  have K2 := Lib.hid k
  clear k
  go_wp2_with fail
  refine (live_any _).mono ?_
  rintro e w3 ⟨rfl, hb⟩
  have k := K2.out.below hb
  clear hb c00 c01 c02 c10 c11 c12
  obtain ⟨c00, c01, c02⟩ := k.box (w.heap.size + 1) _ _ _ List.mem_cons_self
  obtain ⟨c10, c11, c12⟩ := k.box w.heap.size _ _ _ (List.mem_cons_of_mem _ List.mem_cons_self)
  have K3 := Lib.hid k
  clear k
  go_wp2
  go_ret
  exact ⟨rfl, K3.out.low⟩


set_option maxHeartbeats 2000000 in
theorem JidParts_3 (a b c x y z : ByteArray) (HS : SmallSays a b c true) (HT : SmallSays x y z true) (HC : CheckSays a b c 30) (w : World) :
    Calls Tryd.prog 7 #[.agg #[.string a, .string b, .string c], .agg #[.string x, .string y, .string z]] w fun e w' => e = .returned (.bool true) ∧ Below w.heap.size w w' := by
  have K0 := ((Keep.start w).alloc a b c).alloc x y z
  simp only [World.size_alloc] at K0
  replace K0 := Lib.hid K0
  go_enter Tryd.func7, Tryd.ntmps7
  go_wp2_with fail
  refine (HS.out _).mono ?_
  rintro e w1 ⟨rfl, hb⟩
  have k := K0.out.below hb
  clear hb
  obtain ⟨c00, c01, c02⟩ := k.box (w.heap.size + 1) _ _ _ List.mem_cons_self
  obtain ⟨c10, c11, c12⟩ := k.box w.heap.size _ _ _ (List.mem_cons_of_mem _ List.mem_cons_self)
  have K1 := Lib.hid k
  clear k
  go_wp2_with fail
  refine (HT.out _).mono ?_
  rintro e w2 ⟨rfl, hb⟩
  have k := K1.out.below hb
  clear hb c00 c01 c02 c10 c11 c12
  obtain ⟨c00, c01, c02⟩ := k.box (w.heap.size + 1) _ _ _ List.mem_cons_self
  obtain ⟨c10, c11, c12⟩ := k.box w.heap.size _ _ _ (List.mem_cons_of_mem _ List.mem_cons_self)
  have K2 := Lib.hid k
  clear k
  go_wp2_with fail
  refine (HC.out _).mono ?_
  rintro e w3 ⟨rfl, hb⟩
  have k := K2.out.below hb
  clear hb c00 c01 c02 c10 c11 c12
  obtain ⟨c00, c01, c02⟩ := k.box (w.heap.size + 1) _ _ _ List.mem_cons_self
  obtain ⟨c10, c11, c12⟩ := k.box w.heap.size _ _ _ (List.mem_cons_of_mem _ List.mem_cons_self)
  have K3 := Lib.hid k
  clear k
  go_wp2_with fail
  refine (num_30 _).mono ?_
  rintro e w4 ⟨rfl, rfl⟩
  go_wp2_with fail
  refine (live_any _).mono ?_
  rintro e w5 ⟨rfl, hb⟩
  have k := K3.out.below hb
  clear hb c00 c01 c02 c10 c11 c12
  obtain ⟨c00, c01, c02⟩ := k.box (w.heap.size + 1) _ _ _ List.mem_cons_self
  obtain ⟨c10, c11, c12⟩ := k.box w.heap.size _ _ _ (List.mem_cons_of_mem _ List.mem_cons_self)
  have K5 := Lib.hid k
  clear k
  go_wp2
  go_ret
  exact ⟨rfl, K5.out.low⟩


set_option maxHeartbeats 2000000 in
theorem JidParts_4 (a b c x y z : ByteArray) (HS : SmallSays a b c true) (HT : SmallSays x y z true) (HC : CheckSays a b c 0) (HD : CheckSays x y z 30) (w : World) :
    Calls Tryd.prog 7 #[.agg #[.string a, .string b, .string c], .agg #[.string x, .string y, .string z]] w fun e w' => e = .returned (.bool true) ∧ Below w.heap.size w w' := by
  have K0 := ((Keep.start w).alloc a b c).alloc x y z
  simp only [World.size_alloc] at K0
  replace K0 := Lib.hid K0
  go_enter Tryd.func7, Tryd.ntmps7
  go_wp2_with fail
  refine (HS.out _).mono ?_
  rintro e w1 ⟨rfl, hb⟩
  have k := K0.out.below hb
  clear hb
  obtain ⟨c00, c01, c02⟩ := k.box (w.heap.size + 1) _ _ _ List.mem_cons_self
  obtain ⟨c10, c11, c12⟩ := k.box w.heap.size _ _ _ (List.mem_cons_of_mem _ List.mem_cons_self)
  have K1 := Lib.hid k
  clear k
  go_wp2_with fail
  refine (HT.out _).mono ?_
  rintro e w2 ⟨rfl, hb⟩
  have k := K1.out.below hb
  clear hb c00 c01 c02 c10 c11 c12
  obtain ⟨c00, c01, c02⟩ := k.box (w.heap.size + 1) _ _ _ List.mem_cons_self
  obtain ⟨c10, c11, c12⟩ := k.box w.heap.size _ _ _ (List.mem_cons_of_mem _ List.mem_cons_self)
  have K2 := Lib.hid k
  clear k
  go_wp2_with fail
  refine (HC.out _).mono ?_
  rintro e w3 ⟨rfl, hb⟩
  have k := K2.out.below hb
  clear hb c00 c01 c02 c10 c11 c12
  obtain ⟨c00, c01, c02⟩ := k.box (w.heap.size + 1) _ _ _ List.mem_cons_self
  obtain ⟨c10, c11, c12⟩ := k.box w.heap.size _ _ _ (List.mem_cons_of_mem _ List.mem_cons_self)
  have K3 := Lib.hid k
  clear k
  go_wp2_with fail
  refine (num_0 _).mono ?_
  rintro e w4 ⟨rfl, rfl⟩
  go_wp2_with fail
  refine (HD.out _).mono ?_
  rintro e w5 ⟨rfl, hb⟩
  have k := K3.out.below hb
  clear hb c00 c01 c02 c10 c11 c12
  obtain ⟨c00, c01, c02⟩ := k.box (w.heap.size + 1) _ _ _ List.mem_cons_self
  obtain ⟨c10, c11, c12⟩ := k.box w.heap.size _ _ _ (List.mem_cons_of_mem _ List.mem_cons_self)
  have K5 := Lib.hid k
  clear k
  go_wp2_with fail
  refine (num_30 _).mono ?_
  rintro e w6 ⟨rfl, rfl⟩
  go_wp2_with fail
  refine (live_any _).mono ?_
  rintro e w7 ⟨rfl, hb⟩
  have k := K5.out.below hb
  clear hb c00 c01 c02 c10 c11 c12
  obtain ⟨c00, c01, c02⟩ := k.box (w.heap.size + 1) _ _ _ List.mem_cons_self
  obtain ⟨c10, c11, c12⟩ := k.box w.heap.size _ _ _ (List.mem_cons_of_mem _ List.mem_cons_self)
  have K7 := Lib.hid k
  clear k
  go_wp2
  go_ret
  exact ⟨rfl, K7.out.low⟩


set_option maxHeartbeats 4000000 in
theorem JidParts_same (a b c P : ByteArray) (HS : SmallSays a b c true) (HC : CheckSays a b c 0) (HB : CheckSays a b ⟨#[]⟩ 0) (HP : PutSays a b c P) (w : World) :
    Calls Tryd.prog 7 #[.agg #[.string a, .string b, .string c], .agg #[.string a, .string b, .string c]] w fun e w' => e = .returned (.bool true) ∧ Below w.heap.size w w' := by
  have K0 := ((Keep.start w).alloc a b c).alloc a b c
  simp only [World.size_alloc] at K0
  replace K0 := Lib.hid K0
  go_enter Tryd.func7, Tryd.ntmps7
  go_wp2_with fail
  refine (HS.out _).mono ?_
  rintro e w1 ⟨rfl, hb⟩
  have k := K0.out.below hb
  clear hb
  obtain ⟨c00, c01, c02⟩ := k.box (w.heap.size + 1) _ _ _ List.mem_cons_self
  obtain ⟨c10, c11, c12⟩ := k.box w.heap.size _ _ _ (List.mem_cons_of_mem _ List.mem_cons_self)
  have K1 := Lib.hid k
  clear k
  go_wp2_with fail
  refine (HS.out _).mono ?_
  rintro e w2 ⟨rfl, hb⟩
  have k := K1.out.below hb
  clear hb c00 c01 c02 c10 c11 c12
  obtain ⟨c00, c01, c02⟩ := k.box (w.heap.size + 1) _ _ _ List.mem_cons_self
  obtain ⟨c10, c11, c12⟩ := k.box w.heap.size _ _ _ (List.mem_cons_of_mem _ List.mem_cons_self)
  have K2 := Lib.hid k
  clear k
  go_wp2_with fail
  refine (HC.out _).mono ?_
  rintro e w3 ⟨rfl, hb⟩
  have k := K2.out.below hb
  clear hb c00 c01 c02 c10 c11 c12
  obtain ⟨c00, c01, c02⟩ := k.box (w.heap.size + 1) _ _ _ List.mem_cons_self
  obtain ⟨c10, c11, c12⟩ := k.box w.heap.size _ _ _ (List.mem_cons_of_mem _ List.mem_cons_self)
  have K3 := Lib.hid k
  clear k
  go_wp2_with fail
  refine (num_0 _).mono ?_
  rintro e w4 ⟨rfl, rfl⟩
  go_wp2_with fail
  refine (HC.out _).mono ?_
  rintro e w5 ⟨rfl, hb⟩
  have k := K3.out.below hb
  clear hb c00 c01 c02 c10 c11 c12
  obtain ⟨c00, c01, c02⟩ := k.box (w.heap.size + 1) _ _ _ List.mem_cons_self
  obtain ⟨c10, c11, c12⟩ := k.box w.heap.size _ _ _ (List.mem_cons_of_mem _ List.mem_cons_self)
  have K5 := Lib.hid k
  clear k
  go_wp2_with fail
  refine (num_0 _).mono ?_
  rintro e w6 ⟨rfl, rfl⟩
  go_wp2_with fail
  refine (Bare_any a b c _).mono ?_
  rintro e w7 ⟨rfl, hb⟩
  have k := K5.out.below hb
  clear hb c00 c01 c02 c10 c11 c12
  obtain ⟨c00, c01, c02⟩ := k.box (w.heap.size + 1) _ _ _ List.mem_cons_self
  obtain ⟨c10, c11, c12⟩ := k.box w.heap.size _ _ _ (List.mem_cons_of_mem _ List.mem_cons_self)
  have hne0 := k.lt (w.heap.size + 1) _ _ _ List.mem_cons_self
  have hne1 := k.lt w.heap.size _ _ _ (List.mem_cons_of_mem _ List.mem_cons_self)
  have K7 := Lib.hid (k.alloc a b ⟨#[]⟩)
  clear k
  clear c00 c01 c02 c10 c11 c12 hne0 hne1
  have f0 := fun x : U.In (Keep w [(w7.heap.size, a, b, ⟨#[]⟩), ((w.heap.size + 1), a, b, c), (w.heap.size, a, b, c)]) => x.h.box w7.heap.size _ _ _ List.mem_cons_self
  have f00 := fun x => (f0 x).1
  have f01 := fun x => (f0 x).2.1
  have f02 := fun x => (f0 x).2.2
  clear f0
  have f1 := fun x : U.In (Keep w [(w7.heap.size, a, b, ⟨#[]⟩), ((w.heap.size + 1), a, b, c), (w.heap.size, a, b, c)]) => x.h.box (w.heap.size + 1) _ _ _ (List.mem_cons_of_mem _ List.mem_cons_self)
  have f10 := fun x => (f1 x).1
  have f11 := fun x => (f1 x).2.1
  have f12 := fun x => (f1 x).2.2
  clear f1
  have f2 := fun x : U.In (Keep w [(w7.heap.size, a, b, ⟨#[]⟩), ((w.heap.size + 1), a, b, c), (w.heap.size, a, b, c)]) => x.h.box w.heap.size _ _ _ (List.mem_cons_of_mem _ (List.mem_cons_of_mem _ List.mem_cons_self))
  have f20 := fun x => (f2 x).1
  have f21 := fun x => (f2 x).2.1
  have f22 := fun x => (f2 x).2.2
  clear f2
  haveI : Nonempty (U.In (Keep w [(w7.heap.size, a, b, ⟨#[]⟩), ((w.heap.size + 1), a, b, c), (w.heap.size, a, b, c)])) := ⟨⟨_, K7.out⟩⟩
  go_wp2_with fail
  refine U.region_in (S := Keep w [(w7.heap.size, a, b, ⟨#[]⟩), ((w.heap.size + 1), a, b, c), (w.heap.size, a, b, c)]) (by kernel_rfl) (by kernel_rfl) K7.out.drew ?_
  repeat go_big_quiet_step (first
    | (go_at_call 16; exact U.call_in _ (HP.out _) (fun _ _ => Keep.below))
    | (go_at_call 12; exact U.call_in _ (num_0b _) (fun _ _ => Keep.below))
    | (go_at_call 14; exact U.call_in _ (HB.out _) (fun _ _ => Keep.below))
    | (go_at_call 22; exact U.call_in _ (With_any _ _ _ _ _) (fun _ _ => Keep.below))
    | (go_at_call 20; exact U.call_in _ (Bare_any _ _ _ _) (fun _ _ => Keep.below))
    | (go_at_call 9; exact U.call_in _ (live_any _) (fun _ _ => Keep.below)))
  refine wpQuiet_nil ?_
  intro w8 k
  clear f00 f01 f02 f10 f11 f12 f20 f21 f22 this
  obtain ⟨c00, c01, c02⟩ := k.box w7.heap.size _ _ _ List.mem_cons_self
  obtain ⟨c10, c11, c12⟩ := k.box (w.heap.size + 1) _ _ _ (List.mem_cons_of_mem _ List.mem_cons_self)
  obtain ⟨c20, c21, c22⟩ := k.box w.heap.size _ _ _ (List.mem_cons_of_mem _ (List.mem_cons_of_mem _ List.mem_cons_self))
  have K8 := Lib.hid k
  clear k
  go_wp2
  go_ret
  exact ⟨rfl, K8.out.low⟩


set_option maxHeartbeats 2000000 in
theorem JidParts_node (a b c x y z P Q : ByteArray) (HS : SmallSays a b c true) (HT : SmallSays x y z true) (HC : CheckSays a b c 0) (HD : CheckSays x y z 0) (HB : CheckSays a b ⟨#[]⟩ 0) (HP : PutSays a b c P) (HQ : PutSays x y z Q) (e0 : (P.toList == Q.toList) = false) (e1 : ¬ a.toList = x.toList) (w : World) :
    Calls Tryd.prog 7 #[.agg #[.string a, .string b, .string c], .agg #[.string x, .string y, .string z]] w fun e w' => e = .returned (.bool true) ∧ Below w.heap.size w w' := by
  have K0 := ((Keep.start w).alloc a b c).alloc x y z
  simp only [World.size_alloc] at K0
  replace K0 := Lib.hid K0
  go_enter Tryd.func7, Tryd.ntmps7
  go_wp2_with fail
  refine (HS.out _).mono ?_
  rintro e w1 ⟨rfl, hb⟩
  have k := K0.out.below hb
  clear hb
  obtain ⟨c00, c01, c02⟩ := k.box (w.heap.size + 1) _ _ _ List.mem_cons_self
  obtain ⟨c10, c11, c12⟩ := k.box w.heap.size _ _ _ (List.mem_cons_of_mem _ List.mem_cons_self)
  have K1 := Lib.hid k
  clear k
  go_wp2_with fail
  refine (HT.out _).mono ?_
  rintro e w2 ⟨rfl, hb⟩
  have k := K1.out.below hb
  clear hb c00 c01 c02 c10 c11 c12
  obtain ⟨c00, c01, c02⟩ := k.box (w.heap.size + 1) _ _ _ List.mem_cons_self
  obtain ⟨c10, c11, c12⟩ := k.box w.heap.size _ _ _ (List.mem_cons_of_mem _ List.mem_cons_self)
  have K2 := Lib.hid k
  clear k
  go_wp2_with fail
  refine (HC.out _).mono ?_
  rintro e w3 ⟨rfl, hb⟩
  have k := K2.out.below hb
  clear hb c00 c01 c02 c10 c11 c12
  obtain ⟨c00, c01, c02⟩ := k.box (w.heap.size + 1) _ _ _ List.mem_cons_self
  obtain ⟨c10, c11, c12⟩ := k.box w.heap.size _ _ _ (List.mem_cons_of_mem _ List.mem_cons_self)
  have K3 := Lib.hid k
  clear k
  go_wp2_with fail
  refine (num_0 _).mono ?_
  rintro e w4 ⟨rfl, rfl⟩
  go_wp2_with fail
  refine (HD.out _).mono ?_
  rintro e w5 ⟨rfl, hb⟩
  have k := K3.out.below hb
  clear hb c00 c01 c02 c10 c11 c12
  obtain ⟨c00, c01, c02⟩ := k.box (w.heap.size + 1) _ _ _ List.mem_cons_self
  obtain ⟨c10, c11, c12⟩ := k.box w.heap.size _ _ _ (List.mem_cons_of_mem _ List.mem_cons_self)
  have K5 := Lib.hid k
  clear k
  go_wp2_with fail
  refine (num_0 _).mono ?_
  rintro e w6 ⟨rfl, rfl⟩
  go_wp2_with fail
  refine (Bare_any a b c _).mono ?_
  rintro e w7 ⟨rfl, hb⟩
  have k := K5.out.below hb
  clear hb c00 c01 c02 c10 c11 c12
  obtain ⟨c00, c01, c02⟩ := k.box (w.heap.size + 1) _ _ _ List.mem_cons_self
  obtain ⟨c10, c11, c12⟩ := k.box w.heap.size _ _ _ (List.mem_cons_of_mem _ List.mem_cons_self)
  have hne0 := k.lt (w.heap.size + 1) _ _ _ List.mem_cons_self
  have hne1 := k.lt w.heap.size _ _ _ (List.mem_cons_of_mem _ List.mem_cons_self)
  have K7 := Lib.hid (k.alloc a b ⟨#[]⟩)
  clear k
  clear c00 c01 c02 c10 c11 c12 hne0 hne1
  have f0 := fun x : U.In (Keep w [(w7.heap.size, a, b, ⟨#[]⟩), ((w.heap.size + 1), x, y, z), (w.heap.size, a, b, c)]) => x.h.box w7.heap.size _ _ _ List.mem_cons_self
  have f00 := fun x => (f0 x).1
  have f01 := fun x => (f0 x).2.1
  have f02 := fun x => (f0 x).2.2
  clear f0
  have f1 := fun x : U.In (Keep w [(w7.heap.size, a, b, ⟨#[]⟩), ((w.heap.size + 1), x, y, z), (w.heap.size, a, b, c)]) => x.h.box (w.heap.size + 1) _ _ _ (List.mem_cons_of_mem _ List.mem_cons_self)
  have f10 := fun x => (f1 x).1
  have f11 := fun x => (f1 x).2.1
  have f12 := fun x => (f1 x).2.2
  clear f1
  have f2 := fun x : U.In (Keep w [(w7.heap.size, a, b, ⟨#[]⟩), ((w.heap.size + 1), x, y, z), (w.heap.size, a, b, c)]) => x.h.box w.heap.size _ _ _ (List.mem_cons_of_mem _ (List.mem_cons_of_mem _ List.mem_cons_self))
  have f20 := fun x => (f2 x).1
  have f21 := fun x => (f2 x).2.1
  have f22 := fun x => (f2 x).2.2
  clear f2
  haveI : Nonempty (U.In (Keep w [(w7.heap.size, a, b, ⟨#[]⟩), ((w.heap.size + 1), x, y, z), (w.heap.size, a, b, c)])) := ⟨⟨_, K7.out⟩⟩
  go_wp2_with fail
  refine U.region_in (S := Keep w [(w7.heap.size, a, b, ⟨#[]⟩), ((w.heap.size + 1), x, y, z), (w.heap.size, a, b, c)]) (by kernel_rfl) (by kernel_rfl) K7.out.drew ?_
  repeat go_big_quiet_step (first
    | (go_at_call_of 16 (Value.string a); exact U.call_in _ (HP.out _) (fun _ _ => Keep.below))
    | (go_at_call_of 16 (Value.string x); exact U.call_in _ (HQ.out _) (fun _ _ => Keep.below))
    | (go_at_call 12; exact U.call_in _ (num_0b _) (fun _ _ => Keep.below))
    | (go_at_call 14; exact U.call_in _ (HB.out _) (fun _ _ => Keep.below))
    | (go_at_call 22; exact U.call_in _ (With_any _ _ _ _ _) (fun _ _ => Keep.below))
    | (go_at_call 20; exact U.call_in _ (Bare_any _ _ _ _) (fun _ _ => Keep.below))
    | (go_at_call 9; exact U.call_in _ (live_any _) (fun _ _ => Keep.below)))
  refine wpQuiet_nil ?_
  intro w8 k
  clear f00 f01 f02 f10 f11 f12 f20 f21 f22 this
  obtain ⟨c00, c01, c02⟩ := k.box w7.heap.size _ _ _ List.mem_cons_self
  obtain ⟨c10, c11, c12⟩ := k.box (w.heap.size + 1) _ _ _ (List.mem_cons_of_mem _ List.mem_cons_self)
  obtain ⟨c20, c21, c22⟩ := k.box w.heap.size _ _ _ (List.mem_cons_of_mem _ (List.mem_cons_of_mem _ List.mem_cons_self))
  have K8 := Lib.hid k
  clear k
  go_wp2
  go_ret
  exact ⟨rfl, K8.out.low⟩


set_option maxHeartbeats 2000000 in
theorem JidParts_dom (a b c x y z P Q : ByteArray) (HS : SmallSays a b c true) (HT : SmallSays x y z true) (HC : CheckSays a b c 0) (HD : CheckSays x y z 0) (HB : CheckSays a b ⟨#[]⟩ 0) (HP : PutSays a b c P) (HQ : PutSays x y z Q) (e0 : (P.toList == Q.toList) = false) (e1 : a.toList = x.toList) (e2 : ¬ b.toList = y.toList) (w : World) :
    Calls Tryd.prog 7 #[.agg #[.string a, .string b, .string c], .agg #[.string x, .string y, .string z]] w fun e w' => e = .returned (.bool true) ∧ Below w.heap.size w w' := by
  have K0 := ((Keep.start w).alloc a b c).alloc x y z
  simp only [World.size_alloc] at K0
  replace K0 := Lib.hid K0
  go_enter Tryd.func7, Tryd.ntmps7
  go_wp2_with fail
  refine (HS.out _).mono ?_
  rintro e w1 ⟨rfl, hb⟩
  have k := K0.out.below hb
  clear hb
  obtain ⟨c00, c01, c02⟩ := k.box (w.heap.size + 1) _ _ _ List.mem_cons_self
  obtain ⟨c10, c11, c12⟩ := k.box w.heap.size _ _ _ (List.mem_cons_of_mem _ List.mem_cons_self)
  have K1 := Lib.hid k
  clear k
  go_wp2_with fail
  refine (HT.out _).mono ?_
  rintro e w2 ⟨rfl, hb⟩
  have k := K1.out.below hb
  clear hb c00 c01 c02 c10 c11 c12
  obtain ⟨c00, c01, c02⟩ := k.box (w.heap.size + 1) _ _ _ List.mem_cons_self
  obtain ⟨c10, c11, c12⟩ := k.box w.heap.size _ _ _ (List.mem_cons_of_mem _ List.mem_cons_self)
  have K2 := Lib.hid k
  clear k
  go_wp2_with fail
  refine (HC.out _).mono ?_
  rintro e w3 ⟨rfl, hb⟩
  have k := K2.out.below hb
  clear hb c00 c01 c02 c10 c11 c12
  obtain ⟨c00, c01, c02⟩ := k.box (w.heap.size + 1) _ _ _ List.mem_cons_self
  obtain ⟨c10, c11, c12⟩ := k.box w.heap.size _ _ _ (List.mem_cons_of_mem _ List.mem_cons_self)
  have K3 := Lib.hid k
  clear k
  go_wp2_with fail
  refine (num_0 _).mono ?_
  rintro e w4 ⟨rfl, rfl⟩
  go_wp2_with fail
  refine (HD.out _).mono ?_
  rintro e w5 ⟨rfl, hb⟩
  have k := K3.out.below hb
  clear hb c00 c01 c02 c10 c11 c12
  obtain ⟨c00, c01, c02⟩ := k.box (w.heap.size + 1) _ _ _ List.mem_cons_self
  obtain ⟨c10, c11, c12⟩ := k.box w.heap.size _ _ _ (List.mem_cons_of_mem _ List.mem_cons_self)
  have K5 := Lib.hid k
  clear k
  go_wp2_with fail
  refine (num_0 _).mono ?_
  rintro e w6 ⟨rfl, rfl⟩
  go_wp2_with fail
  refine (Bare_any a b c _).mono ?_
  rintro e w7 ⟨rfl, hb⟩
  have k := K5.out.below hb
  clear hb c00 c01 c02 c10 c11 c12
  obtain ⟨c00, c01, c02⟩ := k.box (w.heap.size + 1) _ _ _ List.mem_cons_self
  obtain ⟨c10, c11, c12⟩ := k.box w.heap.size _ _ _ (List.mem_cons_of_mem _ List.mem_cons_self)
  have hne0 := k.lt (w.heap.size + 1) _ _ _ List.mem_cons_self
  have hne1 := k.lt w.heap.size _ _ _ (List.mem_cons_of_mem _ List.mem_cons_self)
  have K7 := Lib.hid (k.alloc a b ⟨#[]⟩)
  clear k
  clear c00 c01 c02 c10 c11 c12 hne0 hne1
  have f0 := fun x : U.In (Keep w [(w7.heap.size, a, b, ⟨#[]⟩), ((w.heap.size + 1), x, y, z), (w.heap.size, a, b, c)]) => x.h.box w7.heap.size _ _ _ List.mem_cons_self
  have f00 := fun x => (f0 x).1
  have f01 := fun x => (f0 x).2.1
  have f02 := fun x => (f0 x).2.2
  clear f0
  have f1 := fun x : U.In (Keep w [(w7.heap.size, a, b, ⟨#[]⟩), ((w.heap.size + 1), x, y, z), (w.heap.size, a, b, c)]) => x.h.box (w.heap.size + 1) _ _ _ (List.mem_cons_of_mem _ List.mem_cons_self)
  have f10 := fun x => (f1 x).1
  have f11 := fun x => (f1 x).2.1
  have f12 := fun x => (f1 x).2.2
  clear f1
  have f2 := fun x : U.In (Keep w [(w7.heap.size, a, b, ⟨#[]⟩), ((w.heap.size + 1), x, y, z), (w.heap.size, a, b, c)]) => x.h.box w.heap.size _ _ _ (List.mem_cons_of_mem _ (List.mem_cons_of_mem _ List.mem_cons_self))
  have f20 := fun x => (f2 x).1
  have f21 := fun x => (f2 x).2.1
  have f22 := fun x => (f2 x).2.2
  clear f2
  haveI : Nonempty (U.In (Keep w [(w7.heap.size, a, b, ⟨#[]⟩), ((w.heap.size + 1), x, y, z), (w.heap.size, a, b, c)])) := ⟨⟨_, K7.out⟩⟩
  go_wp2_with fail
  refine U.region_in (S := Keep w [(w7.heap.size, a, b, ⟨#[]⟩), ((w.heap.size + 1), x, y, z), (w.heap.size, a, b, c)]) (by kernel_rfl) (by kernel_rfl) K7.out.drew ?_
  repeat go_big_quiet_step (first
    | (go_at_call_of 16 (Value.string a); exact U.call_in _ (HP.out _) (fun _ _ => Keep.below))
    | (go_at_call_of 16 (Value.string x); exact U.call_in _ (HQ.out _) (fun _ _ => Keep.below))
    | (go_at_call 12; exact U.call_in _ (num_0b _) (fun _ _ => Keep.below))
    | (go_at_call 14; exact U.call_in _ (HB.out _) (fun _ _ => Keep.below))
    | (go_at_call 22; exact U.call_in _ (With_any _ _ _ _ _) (fun _ _ => Keep.below))
    | (go_at_call 20; exact U.call_in _ (Bare_any _ _ _ _) (fun _ _ => Keep.below))
    | (go_at_call 9; exact U.call_in _ (live_any _) (fun _ _ => Keep.below)))
  refine wpQuiet_nil ?_
  intro w8 k
  clear f00 f01 f02 f10 f11 f12 f20 f21 f22 this
  obtain ⟨c00, c01, c02⟩ := k.box w7.heap.size _ _ _ List.mem_cons_self
  obtain ⟨c10, c11, c12⟩ := k.box (w.heap.size + 1) _ _ _ (List.mem_cons_of_mem _ List.mem_cons_self)
  obtain ⟨c20, c21, c22⟩ := k.box w.heap.size _ _ _ (List.mem_cons_of_mem _ (List.mem_cons_of_mem _ List.mem_cons_self))
  have K8 := Lib.hid k
  clear k
  go_wp2
  go_ret
  exact ⟨rfl, K8.out.low⟩


set_option maxHeartbeats 2000000 in
theorem JidParts_res (a b c x y z P Q : ByteArray) (HS : SmallSays a b c true) (HT : SmallSays x y z true) (HC : CheckSays a b c 0) (HD : CheckSays x y z 0) (HB : CheckSays a b ⟨#[]⟩ 0) (HP : PutSays a b c P) (HQ : PutSays x y z Q) (e0 : (P.toList == Q.toList) = false) (e1 : a.toList = x.toList) (e2 : b.toList = y.toList) (e3 : ¬ c.toList = z.toList) (w : World) :
    Calls Tryd.prog 7 #[.agg #[.string a, .string b, .string c], .agg #[.string x, .string y, .string z]] w fun e w' => e = .returned (.bool true) ∧ Below w.heap.size w w' := by
  have K0 := ((Keep.start w).alloc a b c).alloc x y z
  simp only [World.size_alloc] at K0
  replace K0 := Lib.hid K0
  go_enter Tryd.func7, Tryd.ntmps7
  go_wp2_with fail
  refine (HS.out _).mono ?_
  rintro e w1 ⟨rfl, hb⟩
  have k := K0.out.below hb
  clear hb
  obtain ⟨c00, c01, c02⟩ := k.box (w.heap.size + 1) _ _ _ List.mem_cons_self
  obtain ⟨c10, c11, c12⟩ := k.box w.heap.size _ _ _ (List.mem_cons_of_mem _ List.mem_cons_self)
  have K1 := Lib.hid k
  clear k
  go_wp2_with fail
  refine (HT.out _).mono ?_
  rintro e w2 ⟨rfl, hb⟩
  have k := K1.out.below hb
  clear hb c00 c01 c02 c10 c11 c12
  obtain ⟨c00, c01, c02⟩ := k.box (w.heap.size + 1) _ _ _ List.mem_cons_self
  obtain ⟨c10, c11, c12⟩ := k.box w.heap.size _ _ _ (List.mem_cons_of_mem _ List.mem_cons_self)
  have K2 := Lib.hid k
  clear k
  go_wp2_with fail
  refine (HC.out _).mono ?_
  rintro e w3 ⟨rfl, hb⟩
  have k := K2.out.below hb
  clear hb c00 c01 c02 c10 c11 c12
  obtain ⟨c00, c01, c02⟩ := k.box (w.heap.size + 1) _ _ _ List.mem_cons_self
  obtain ⟨c10, c11, c12⟩ := k.box w.heap.size _ _ _ (List.mem_cons_of_mem _ List.mem_cons_self)
  have K3 := Lib.hid k
  clear k
  go_wp2_with fail
  refine (num_0 _).mono ?_
  rintro e w4 ⟨rfl, rfl⟩
  go_wp2_with fail
  refine (HD.out _).mono ?_
  rintro e w5 ⟨rfl, hb⟩
  have k := K3.out.below hb
  clear hb c00 c01 c02 c10 c11 c12
  obtain ⟨c00, c01, c02⟩ := k.box (w.heap.size + 1) _ _ _ List.mem_cons_self
  obtain ⟨c10, c11, c12⟩ := k.box w.heap.size _ _ _ (List.mem_cons_of_mem _ List.mem_cons_self)
  have K5 := Lib.hid k
  clear k
  go_wp2_with fail
  refine (num_0 _).mono ?_
  rintro e w6 ⟨rfl, rfl⟩
  go_wp2_with fail
  refine (Bare_any a b c _).mono ?_
  rintro e w7 ⟨rfl, hb⟩
  have k := K5.out.below hb
  clear hb c00 c01 c02 c10 c11 c12
  obtain ⟨c00, c01, c02⟩ := k.box (w.heap.size + 1) _ _ _ List.mem_cons_self
  obtain ⟨c10, c11, c12⟩ := k.box w.heap.size _ _ _ (List.mem_cons_of_mem _ List.mem_cons_self)
  have hne0 := k.lt (w.heap.size + 1) _ _ _ List.mem_cons_self
  have hne1 := k.lt w.heap.size _ _ _ (List.mem_cons_of_mem _ List.mem_cons_self)
  have K7 := Lib.hid (k.alloc a b ⟨#[]⟩)
  clear k
  clear c00 c01 c02 c10 c11 c12 hne0 hne1
  have f0 := fun x : U.In (Keep w [(w7.heap.size, a, b, ⟨#[]⟩), ((w.heap.size + 1), x, y, z), (w.heap.size, a, b, c)]) => x.h.box w7.heap.size _ _ _ List.mem_cons_self
  have f00 := fun x => (f0 x).1
  have f01 := fun x => (f0 x).2.1
  have f02 := fun x => (f0 x).2.2
  clear f0
  have f1 := fun x : U.In (Keep w [(w7.heap.size, a, b, ⟨#[]⟩), ((w.heap.size + 1), x, y, z), (w.heap.size, a, b, c)]) => x.h.box (w.heap.size + 1) _ _ _ (List.mem_cons_of_mem _ List.mem_cons_self)
  have f10 := fun x => (f1 x).1
  have f11 := fun x => (f1 x).2.1
  have f12 := fun x => (f1 x).2.2
  clear f1
  have f2 := fun x : U.In (Keep w [(w7.heap.size, a, b, ⟨#[]⟩), ((w.heap.size + 1), x, y, z), (w.heap.size, a, b, c)]) => x.h.box w.heap.size _ _ _ (List.mem_cons_of_mem _ (List.mem_cons_of_mem _ List.mem_cons_self))
  have f20 := fun x => (f2 x).1
  have f21 := fun x => (f2 x).2.1
  have f22 := fun x => (f2 x).2.2
  clear f2
  haveI : Nonempty (U.In (Keep w [(w7.heap.size, a, b, ⟨#[]⟩), ((w.heap.size + 1), x, y, z), (w.heap.size, a, b, c)])) := ⟨⟨_, K7.out⟩⟩
  go_wp2_with fail
  refine U.region_in (S := Keep w [(w7.heap.size, a, b, ⟨#[]⟩), ((w.heap.size + 1), x, y, z), (w.heap.size, a, b, c)]) (by kernel_rfl) (by kernel_rfl) K7.out.drew ?_
  repeat go_big_quiet_step (first
    | (go_at_call_of 16 (Value.string a); exact U.call_in _ (HP.out _) (fun _ _ => Keep.below))
    | (go_at_call_of 16 (Value.string x); exact U.call_in _ (HQ.out _) (fun _ _ => Keep.below))
    | (go_at_call 12; exact U.call_in _ (num_0b _) (fun _ _ => Keep.below))
    | (go_at_call 14; exact U.call_in _ (HB.out _) (fun _ _ => Keep.below))
    | (go_at_call 22; exact U.call_in _ (With_any _ _ _ _ _) (fun _ _ => Keep.below))
    | (go_at_call 20; exact U.call_in _ (Bare_any _ _ _ _) (fun _ _ => Keep.below))
    | (go_at_call 9; exact U.call_in _ (live_any _) (fun _ _ => Keep.below)))
  refine wpQuiet_nil ?_
  intro w8 k
  clear f00 f01 f02 f10 f11 f12 f20 f21 f22 this
  obtain ⟨c00, c01, c02⟩ := k.box w7.heap.size _ _ _ List.mem_cons_self
  obtain ⟨c10, c11, c12⟩ := k.box (w.heap.size + 1) _ _ _ (List.mem_cons_of_mem _ List.mem_cons_self)
  obtain ⟨c20, c21, c22⟩ := k.box w.heap.size _ _ _ (List.mem_cons_of_mem _ (List.mem_cons_of_mem _ List.mem_cons_self))
  have K8 := Lib.hid k
  clear k
  go_wp2
  go_ret
  exact ⟨rfl, K8.out.low⟩


end Go.Proofs.YthifpbaebbodoaaDoor.Jid

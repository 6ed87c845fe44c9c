/- wharflaw03.JidBack: its walk. -/
import Derived.Test.YthifpbaebbodoaaDoorJidN
set_option linter.unusedVariables false
set_option linter.unusedSimpArgs false
namespace Go.Proofs.YthifpbaebbodoaaDoor.Jid
open Go.RowKit GlyP Gly Strs JidP


set_option maxHeartbeats 2000000 in
theorem JidBack_big (a b c s : ByteArray) (HS : SmallSays a b c false) (w : World) :
    Calls Tryd.prog 5 #[.agg #[.string a, .string b, .string c], .string s] w fun e w' => e = .returned (.bool true) ∧ Below w.heap.size w w' := by
  have K0 := Lib.hid ((Keep.start w).alloc a b c)
  go_enter Tryd.func5, Tryd.ntmps5
  go_wp2_with fail
  refine (HS.out _).mono ?_
  rintro e w1 ⟨rfl, hb⟩
  have k := K0.out.below hb
  clear hb
  obtain ⟨c00, c01, c02⟩ := k.box w.heap.size _ _ _ List.mem_cons_self
  have K1 := Lib.hid k
  clear k
  go_wp2_with fail
  refine (live_any _).mono ?_
  rintro e w2 ⟨rfl, hb⟩
  have k := K1.out.below hb
  clear hb c00 c01 c02
  obtain ⟨c00, c01, c02⟩ := k.box w.heap.size _ _ _ List.mem_cons_self
  have K2 := Lib.hid k
  clear k
  go_wp2
  go_ret
  exact ⟨rfl, K2.out.low⟩


set_option maxHeartbeats 2000000 in
theorem JidBack_long (a b c s : ByteArray) (HS : SmallSays a b c true) (hs : (4000 : Int) < (s.size : Int)) (w : World) :
    Calls Tryd.prog 5 #[.agg #[.string a, .string b, .string c], .string s] w fun e w' => e = .returned (.bool true) ∧ Below w.heap.size w w' := by
  have K0 := Lib.hid ((Keep.start w).alloc a b c)
  go_enter Tryd.func5, Tryd.ntmps5
  go_wp2_with fail
  refine (HS.out _).mono ?_
  rintro e w1 ⟨rfl, hb⟩
  have k := K0.out.below hb
  clear hb
  obtain ⟨c00, c01, c02⟩ := k.box w.heap.size _ _ _ List.mem_cons_self
  have K1 := Lib.hid k
  clear k
  go_wp2_with fail
  refine (live_any _).mono ?_
  rintro e w2 ⟨rfl, hb⟩
  have k := K1.out.below hb
  clear hb c00 c01 c02
  obtain ⟨c00, c01, c02⟩ := k.box w.heap.size _ _ _ List.mem_cons_self
  have K2 := Lib.hid k
  clear k
  go_wp2
  go_ret
  exact ⟨rfl, K2.out.low⟩


set_option maxHeartbeats 2000000 in
theorem JidBack_30bad (a b c s : ByteArray) (HS : SmallSays a b c true) (hs : ¬ (4000 : Int) < (s.size : Int)) (HC : CheckSays a b c 30) (HR : ParseSays s ⟨#[]⟩ ⟨#[]⟩ ⟨#[]⟩ 30) (w : World) :
    Calls Tryd.prog 5 #[.agg #[.string a, .string b, .string c], .string s] w fun e w' => e = .returned (.bool true) ∧ Below w.heap.size w w' := by
  have K0 := Lib.hid ((Keep.start w).alloc a b c)
  go_enter Tryd.func5, Tryd.ntmps5
  go_wp2_with fail
  refine (HS.out _).mono ?_
  rintro e w1 ⟨rfl, hb⟩
  have k := K0.out.below hb
  clear hb
  obtain ⟨c00, c01, c02⟩ := k.box w.heap.size _ _ _ List.mem_cons_self
  have K1 := Lib.hid k
  clear k
  go_wp2_with fail
  refine (HC.out _).mono ?_
  rintro e w2 ⟨rfl, hb⟩
  have k := K1.out.below hb
  clear hb c00 c01 c02
  obtain ⟨c00, c01, c02⟩ := k.box w.heap.size _ _ _ List.mem_cons_self
  have K2 := Lib.hid k
  clear k
  go_wp2_with fail
  refine (num_30 _).mono ?_
  rintro e w3 ⟨rfl, rfl⟩
  go_wp2_with fail
  refine (HR.out _).mono ?_
  rintro e w4 ⟨rfl, hb⟩
  have k := K2.out.below hb
  clear hb c00 c01 c02
  obtain ⟨c00, c01, c02⟩ := k.box w.heap.size _ _ _ List.mem_cons_self
  have hne0 := k.lt w.heap.size _ _ _ List.mem_cons_self
  have K4 := Lib.hid (k.alloc ⟨#[]⟩ ⟨#[]⟩ ⟨#[]⟩)
  clear k
  go_wp2_with fail
  refine (num_30 _).mono ?_
  rintro e w5 ⟨rfl, rfl⟩
  go_wp2_with fail
  refine (live_any _).mono ?_
  rintro e w6 ⟨rfl, hb⟩
  have k := K4.out.below hb
  clear hb c00 c01 c02 hne0
  obtain ⟨c00, c01, c02⟩ := k.box w4.heap.size _ _ _ List.mem_cons_self
  obtain ⟨c10, c11, c12⟩ := k.box w.heap.size _ _ _ (List.mem_cons_of_mem _ List.mem_cons_self)
  have K6 := Lib.hid k
  clear k
  go_wp2
  go_ret
  exact ⟨rfl, K6.out.low⟩


set_option maxHeartbeats 2000000 in
theorem JidBack_30good (a b c s x y z R : ByteArray) (HS : SmallSays a b c true) (hs : ¬ (4000 : Int) < (s.size : Int)) (HC : CheckSays a b c 30) (HR : ParseSays s x y z 0) (HT : PutSays x y z R) (HU : ParseSays R x y z 0) (HD : CheckSays x y z 0) (w : World) :
    Calls Tryd.prog 5 #[.agg #[.string a, .string b, .string c], .string s] w fun e w' => e = .returned (.bool true) ∧ Below w.heap.size w w' := by
  have K0 := Lib.hid ((Keep.start w).alloc a b c)
  go_enter Tryd.func5, Tryd.ntmps5
  go_wp2_with fail
  refine (HS.out _).mono ?_
  rintro e w1 ⟨rfl, hb⟩
  have k := K0.out.below hb
  clear hb
  obtain ⟨c00, c01, c02⟩ := k.box w.heap.size _ _ _ List.mem_cons_self
  have K1 := Lib.hid k
  clear k
  go_wp2_with fail
  refine (HC.out _).mono ?_
  rintro e w2 ⟨rfl, hb⟩
  have k := K1.out.below hb
  clear hb c00 c01 c02
  obtain ⟨c00, c01, c02⟩ := k.box w.heap.size _ _ _ List.mem_cons_self
  have K2 := Lib.hid k
  clear k
  go_wp2_with fail
  refine (num_30 _).mono ?_
  rintro e w3 ⟨rfl, rfl⟩
  go_wp2_with fail
  refine (HR.out _).mono ?_
  rintro e w4 ⟨rfl, hb⟩
  have k := K2.out.below hb
  clear hb c00 c01 c02
  obtain ⟨c00, c01, c02⟩ := k.box w.heap.size _ _ _ List.mem_cons_self
  have hne0 := k.lt w.heap.size _ _ _ List.mem_cons_self
  have K4 := Lib.hid (k.alloc x y z)
  clear k
  go_wp2_with fail
  refine (num_0 _).mono ?_
  rintro e w5 ⟨rfl, rfl⟩
  go_wp2_with fail
  refine (HT.out _).mono ?_
  rintro e w6 ⟨rfl, hb⟩
  have k := K4.out.below hb
  clear hb c00 c01 c02 hne0
  obtain ⟨c00, c01, c02⟩ := k.box w4.heap.size _ _ _ List.mem_cons_self
  obtain ⟨c10, c11, c12⟩ := k.box w.heap.size _ _ _ (List.mem_cons_of_mem _ List.mem_cons_self)
  have K6 := Lib.hid k
  clear k
  go_wp2_with fail
  refine (HU.out _).mono ?_
  rintro e w7 ⟨rfl, hb⟩
  have k := K6.out.below hb
  clear hb c00 c01 c02 c10 c11 c12
  obtain ⟨c00, c01, c02⟩ := k.box w4.heap.size _ _ _ List.mem_cons_self
  obtain ⟨c10, c11, c12⟩ := k.box w.heap.size _ _ _ (List.mem_cons_of_mem _ List.mem_cons_self)
  have hne0 := k.lt w4.heap.size _ _ _ List.mem_cons_self
  have hne1 := k.lt w.heap.size _ _ _ (List.mem_cons_of_mem _ List.mem_cons_self)
  have K7 := Lib.hid (k.alloc x y z)
  clear k
  go_wp2_with fail
  refine (HD.out _).mono ?_
  rintro e w8 ⟨rfl, hb⟩
  have k := K7.out.below hb
  clear hb c00 c01 c02 c10 c11 c12 hne0 hne1
  obtain ⟨c00, c01, c02⟩ := k.box w7.heap.size _ _ _ List.mem_cons_self
  obtain ⟨c10, c11, c12⟩ := k.box w4.heap.size _ _ _ (List.mem_cons_of_mem _ List.mem_cons_self)
  obtain ⟨c20, c21, c22⟩ := k.box w.heap.size _ _ _ (List.mem_cons_of_mem _ (List.mem_cons_of_mem _ List.mem_cons_self))
  have K8 := Lib.hid k
  clear k
  go_wp2_with fail
  refine (num_0 _).mono ?_
  rintro e w9 ⟨rfl, rfl⟩
  go_wp2_with fail
  refine (num_0 _).mono ?_
  rintro e w10 ⟨rfl, rfl⟩
  go_wp2_with fail
  refine (live_any _).mono ?_
  rintro e w11 ⟨rfl, hb⟩
  have k := K8.out.below hb
  clear hb c00 c01 c02 c10 c11 c12 c20 c21 c22
  obtain ⟨c00, c01, c02⟩ := k.box w7.heap.size _ _ _ List.mem_cons_self
  obtain ⟨c10, c11, c12⟩ := k.box w4.heap.size _ _ _ (List.mem_cons_of_mem _ List.mem_cons_self)
  obtain ⟨c20, c21, c22⟩ := k.box w.heap.size _ _ _ (List.mem_cons_of_mem _ (List.mem_cons_of_mem _ List.mem_cons_self))
  have K11 := Lib.hid k
  clear k
  go_wp2
  go_ret
  exact ⟨rfl, K11.out.low⟩


set_option maxHeartbeats 2000000 in
theorem JidBack_0bad (a b c s P : ByteArray) (HS : SmallSays a b c true) (hs : ¬ (4000 : Int) < (s.size : Int)) (HC : CheckSays a b c 0) (HP : PutSays a b c P) (HQ : ParseSays P a b c 0) (HM : NormSays a b c a b) (HR : ParseSays s ⟨#[]⟩ ⟨#[]⟩ ⟨#[]⟩ 30) (w : World) :
    Calls Tryd.prog 5 #[.agg #[.string a, .string b, .string c], .string s] w fun e w' => e = .returned (.bool true) ∧ Below w.heap.size w w' := by
  have K0 := Lib.hid ((Keep.start w).alloc a b c)
  go_enter Tryd.func5, Tryd.ntmps5
  go_wp2_with fail
  refine (HS.out _).mono ?_
  rintro e w1 ⟨rfl, hb⟩
  have k := K0.out.below hb
  clear hb
  obtain ⟨c00, c01, c02⟩ := k.box w.heap.size _ _ _ List.mem_cons_self
  have K1 := Lib.hid k
  clear k
  go_wp2_with fail
  refine (HC.out _).mono ?_
  rintro e w2 ⟨rfl, hb⟩
  have k := K1.out.below hb
  clear hb c00 c01 c02
  obtain ⟨c00, c01, c02⟩ := k.box w.heap.size _ _ _ List.mem_cons_self
  have K2 := Lib.hid k
  clear k
  go_wp2_with fail
  refine (num_0 _).mono ?_
  rintro e w3 ⟨rfl, rfl⟩
  go_wp2_with fail
  refine (HP.out _).mono ?_
  rintro e w4 ⟨rfl, hb⟩
  have k := K2.out.below hb
  clear hb c00 c01 c02
  obtain ⟨c00, c01, c02⟩ := k.box w.heap.size _ _ _ List.mem_cons_self
  have K4 := Lib.hid k
  clear k
  go_wp2_with fail
  refine (HQ.out _).mono ?_
  rintro e w5 ⟨rfl, hb⟩
  have k := K4.out.below hb
  clear hb c00 c01 c02
  obtain ⟨c00, c01, c02⟩ := k.box w.heap.size _ _ _ List.mem_cons_self
  have hne0 := k.lt w.heap.size _ _ _ List.mem_cons_self
  have K5 := Lib.hid (k.alloc a b c)
  clear k
  clear c00 c01 c02 hne0
  have f0 := fun x : U.In (Keep w [(w5.heap.size, a, b, c), (w.heap.size, a, b, c)]) => x.h.box w5.heap.size _ _ _ List.mem_cons_self
  have f00 := fun x => (f0 x).1
  have f01 := fun x => (f0 x).2.1
  have f02 := fun x => (f0 x).2.2
  clear f0
  have f1 := fun x : U.In (Keep w [(w5.heap.size, a, b, c), (w.heap.size, a, b, c)]) => x.h.box w.heap.size _ _ _ (List.mem_cons_of_mem _ List.mem_cons_self)
  have f10 := fun x => (f1 x).1
  have f11 := fun x => (f1 x).2.1
  have f12 := fun x => (f1 x).2.2
  clear f1
  haveI : Nonempty (U.In (Keep w [(w5.heap.size, a, b, c), (w.heap.size, a, b, c)])) := ⟨⟨_, K5.out⟩⟩
  go_wp2_with fail
  refine U.region_in (S := Keep w [(w5.heap.size, a, b, c), (w.heap.size, a, b, c)]) (by kernel_rfl) (by kernel_rfl) K5.out.drew ?_
  repeat go_big_quiet_step (first
    | (go_at_call 12; exact U.call_in _ (num_0b _) (fun _ _ => Keep.below))
    | (go_at_call 18; exact U.call_in _ (HM.out _) (fun _ _ => Keep.below)))
  refine wpQuiet_nil ?_
  intro w6 k
  clear f00 f01 f02 f10 f11 f12 this
  obtain ⟨c00, c01, c02⟩ := k.box w5.heap.size _ _ _ List.mem_cons_self
  obtain ⟨c10, c11, c12⟩ := k.box w.heap.size _ _ _ (List.mem_cons_of_mem _ List.mem_cons_self)
  have K6 := Lib.hid k
  clear k
  go_wp2_with fail
  refine (HR.out _).mono ?_
  rintro e w7 ⟨rfl, hb⟩
  have k := K6.out.below hb
  clear hb c00 c01 c02 c10 c11 c12
  obtain ⟨c00, c01, c02⟩ := k.box w5.heap.size _ _ _ List.mem_cons_self
  obtain ⟨c10, c11, c12⟩ := k.box w.heap.size _ _ _ (List.mem_cons_of_mem _ List.mem_cons_self)
  have hne0 := k.lt w5.heap.size _ _ _ List.mem_cons_self
  have hne1 := k.lt w.heap.size _ _ _ (List.mem_cons_of_mem _ List.mem_cons_self)
  have K7 := Lib.hid (k.alloc ⟨#[]⟩ ⟨#[]⟩ ⟨#[]⟩)
  clear k
  go_wp2_with fail
  refine (num_30 _).mono ?_
  rintro e w8 ⟨rfl, rfl⟩
  go_wp2_with fail
  refine (live_any _).mono ?_
  rintro e w9 ⟨rfl, hb⟩
  have k := K7.out.below hb
  clear hb c00 c01 c02 c10 c11 c12 hne0 hne1
  obtain ⟨c00, c01, c02⟩ := k.box w7.heap.size _ _ _ List.mem_cons_self
  obtain ⟨c10, c11, c12⟩ := k.box w5.heap.size _ _ _ (List.mem_cons_of_mem _ List.mem_cons_self)
  obtain ⟨c20, c21, c22⟩ := k.box w.heap.size _ _ _ (List.mem_cons_of_mem _ (List.mem_cons_of_mem _ List.mem_cons_self))
  have K9 := Lib.hid k
  clear k
  go_wp2
  go_ret
  exact ⟨rfl, K9.out.low⟩


set_option maxHeartbeats 2000000 in
theorem JidBack_0good (a b c s P x y z R : ByteArray) (HS : SmallSays a b c true) (hs : ¬ (4000 : Int) < (s.size : Int)) (HC : CheckSays a b c 0) (HP : PutSays a b c P) (HQ : ParseSays P a b c 0) (HM : NormSays a b c a b) (HR : ParseSays s x y z 0) (HT : PutSays x y z R) (HU : ParseSays R x y z 0) (HD : CheckSays x y z 0) (w : World) :
    Calls Tryd.prog 5 #[.agg #[.string a, .string b, .string c], .string s] w fun e w' => e = .returned (.bool true) ∧ Below w.heap.size w w' := by
  have K0 := Lib.hid ((Keep.start w).alloc a b c)
  go_enter Tryd.func5, Tryd.ntmps5
  go_wp2_with fail
  refine (HS.out _).mono ?_
  rintro e w1 ⟨rfl, hb⟩
  have k := K0.out.below hb
  clear hb
  obtain ⟨c00, c01, c02⟩ := k.box w.heap.size _ _ _ List.mem_cons_self
  have K1 := Lib.hid k
  clear k
  go_wp2_with fail
  refine (HC.out _).mono ?_
  rintro e w2 ⟨rfl, hb⟩
  have k := K1.out.below hb
  clear hb c00 c01 c02
  obtain ⟨c00, c01, c02⟩ := k.box w.heap.size _ _ _ List.mem_cons_self
  have K2 := Lib.hid k
  clear k
  go_wp2_with fail
  refine (num_0 _).mono ?_
  rintro e w3 ⟨rfl, rfl⟩
  go_wp2_with fail
  refine (HP.out _).mono ?_
  rintro e w4 ⟨rfl, hb⟩
  have k := K2.out.below hb
  clear hb c00 c01 c02
  obtain ⟨c00, c01, c02⟩ := k.box w.heap.size _ _ _ List.mem_cons_self
  have K4 := Lib.hid k
  clear k
  go_wp2_with fail
  refine (HQ.out _).mono ?_
  rintro e w5 ⟨rfl, hb⟩
  have k := K4.out.below hb
  clear hb c00 c01 c02
  obtain ⟨c00, c01, c02⟩ := k.box w.heap.size _ _ _ List.mem_cons_self
  have hne0 := k.lt w.heap.size _ _ _ List.mem_cons_self
  have K5 := Lib.hid (k.alloc a b c)
  clear k
  clear c00 c01 c02 hne0
  have f0 := fun x : U.In (Keep w [(w5.heap.size, a, b, c), (w.heap.size, a, b, c)]) => x.h.box w5.heap.size _ _ _ List.mem_cons_self
  have f00 := fun x => (f0 x).1
  have f01 := fun x => (f0 x).2.1
  have f02 := fun x => (f0 x).2.2
  clear f0
  have f1 := fun x : U.In (Keep w [(w5.heap.size, a, b, c), (w.heap.size, a, b, c)]) => x.h.box w.heap.size _ _ _ (List.mem_cons_of_mem _ List.mem_cons_self)
  have f10 := fun x => (f1 x).1
  have f11 := fun x => (f1 x).2.1
  have f12 := fun x => (f1 x).2.2
  clear f1
  haveI : Nonempty (U.In (Keep w [(w5.heap.size, a, b, c), (w.heap.size, a, b, c)])) := ⟨⟨_, K5.out⟩⟩
  go_wp2_with fail
  refine U.region_in (S := Keep w [(w5.heap.size, a, b, c), (w.heap.size, a, b, c)]) (by kernel_rfl) (by kernel_rfl) K5.out.drew ?_
  repeat go_big_quiet_step (first
    | (go_at_call 12; exact U.call_in _ (num_0b _) (fun _ _ => Keep.below))
    | (go_at_call 18; exact U.call_in _ (HM.out _) (fun _ _ => Keep.below)))
  refine wpQuiet_nil ?_
  intro w6 k
  clear f00 f01 f02 f10 f11 f12 this
  obtain ⟨c00, c01, c02⟩ := k.box w5.heap.size _ _ _ List.mem_cons_self
  obtain ⟨c10, c11, c12⟩ := k.box w.heap.size _ _ _ (List.mem_cons_of_mem _ List.mem_cons_self)
  have K6 := Lib.hid k
  clear k
  go_wp2_with fail
  refine (HR.out _).mono ?_
  rintro e w7 ⟨rfl, hb⟩
  have k := K6.out.below hb
  clear hb c00 c01 c02 c10 c11 c12
  obtain ⟨c00, c01, c02⟩ := k.box w5.heap.size _ _ _ List.mem_cons_self
  obtain ⟨c10, c11, c12⟩ := k.box w.heap.size _ _ _ (List.mem_cons_of_mem _ List.mem_cons_self)
  have hne0 := k.lt w5.heap.size _ _ _ List.mem_cons_self
  have hne1 := k.lt w.heap.size _ _ _ (List.mem_cons_of_mem _ List.mem_cons_self)
  have K7 := Lib.hid (k.alloc x y z)
  clear k
  go_wp2_with fail
  refine (num_0 _).mono ?_
  rintro e w8 ⟨rfl, rfl⟩
  go_wp2_with fail
  refine (HT.out _).mono ?_
  rintro e w9 ⟨rfl, hb⟩
  have k := K7.out.below hb
  clear hb c00 c01 c02 c10 c11 c12 hne0 hne1
  obtain ⟨c00, c01, c02⟩ := k.box w7.heap.size _ _ _ List.mem_cons_self
  obtain ⟨c10, c11, c12⟩ := k.box w5.heap.size _ _ _ (List.mem_cons_of_mem _ List.mem_cons_self)
  obtain ⟨c20, c21, c22⟩ := k.box w.heap.size _ _ _ (List.mem_cons_of_mem _ (List.mem_cons_of_mem _ List.mem_cons_self))
  have K9 := Lib.hid k
  clear k
  go_wp2_with fail
  refine (HU.out _).mono ?_
  rintro e w10 ⟨rfl, hb⟩
  have k := K9.out.below hb
  clear hb c00 c01 c02 c10 c11 c12 c20 c21 c22
  obtain ⟨c00, c01, c02⟩ := k.box w7.heap.size _ _ _ List.mem_cons_self
  obtain ⟨c10, c11, c12⟩ := k.box w5.heap.size _ _ _ (List.mem_cons_of_mem _ List.mem_cons_self)
  obtain ⟨c20, c21, c22⟩ := k.box w.heap.size _ _ _ (List.mem_cons_of_mem _ (List.mem_cons_of_mem _ List.mem_cons_self))
  have hne0 := k.lt w7.heap.size _ _ _ List.mem_cons_self
  have hne1 := k.lt w5.heap.size _ _ _ (List.mem_cons_of_mem _ List.mem_cons_self)
  have hne2 := k.lt w.heap.size _ _ _ (List.mem_cons_of_mem _ (List.mem_cons_of_mem _ List.mem_cons_self))
  have K10 := Lib.hid (k.alloc x y z)
  clear k
  go_wp2_with fail
  refine (HD.out _).mono ?_
  rintro e w11 ⟨rfl, hb⟩
  have k := K10.out.below hb
  clear hb c00 c01 c02 c10 c11 c12 c20 c21 c22 hne0 hne1 hne2
  obtain ⟨c00, c01, c02⟩ := k.box w10.heap.size _ _ _ List.mem_cons_self
  obtain ⟨c10, c11, c12⟩ := k.box w7.heap.size _ _ _ (List.mem_cons_of_mem _ List.mem_cons_self)
  obtain ⟨c20, c21, c22⟩ := k.box w5.heap.size _ _ _ (List.mem_cons_of_mem _ (List.mem_cons_of_mem _ List.mem_cons_self))
  obtain ⟨c30, c31, c32⟩ := k.box w.heap.size _ _ _ (List.mem_cons_of_mem _ (List.mem_cons_of_mem _ (List.mem_cons_of_mem _ List.mem_cons_self)))
  have K11 := Lib.hid k
  clear k
  go_wp2_with fail
  refine (num_0 _).mono ?_
  rintro e w12 ⟨rfl, rfl⟩
  go_wp2_with fail
  refine (num_0 _).mono ?_
  rintro e w13 ⟨rfl, rfl⟩
  go_wp2_with fail
  refine (live_any _).mono ?_
  rintro e w14 ⟨rfl, hb⟩
  have k := K11.out.below hb
  clear hb c00 c01 c02 c10 c11 c12 c20 c21 c22 c30 c31 c32
  obtain ⟨c00, c01, c02⟩ := k.box w10.heap.size _ _ _ List.mem_cons_self
  obtain ⟨c10, c11, c12⟩ := k.box w7.heap.size _ _ _ (List.mem_cons_of_mem _ List.mem_cons_self)
  obtain ⟨c20, c21, c22⟩ := k.box w5.heap.size _ _ _ (List.mem_cons_of_mem _ (List.mem_cons_of_mem _ List.mem_cons_self))
  obtain ⟨c30, c31, c32⟩ := k.box w.heap.size _ _ _ (List.mem_cons_of_mem _ (List.mem_cons_of_mem _ (List.mem_cons_of_mem _ List.mem_cons_self)))
  have K14 := Lib.hid k
  clear k
  go_wp2
  go_ret
  exact ⟨rfl, K14.out.low⟩


theorem sizes (a b c : ByteArray) : (jOf a b c).n.length = a.size ∧ (jOf a b c).d.length = b.size ∧ (jOf a b c).r.length = c.size := ⟨U.len_data a, U.len_data b, U.len_data c⟩
/-- What an address that may be brings. -/
theorem good (a b c : ByteArray) (ha : a.size ≤ 68719476000) (hb : b.size ≤ 68719476000) (hc : c.size ≤ 68719476000) (hp : a.size + b.size + c.size ≤ 68719476000) (h : ok (jOf a b c) = true) :
    CheckSays a b c 0 ∧ PutSays a b c (putB a b c) ∧ ParseSays (putB a b c) a b c 0 ∧ NormSays a b c a b := by
  obtain ⟨s1, s2, s3⟩ := sizes a b c
  have hd := putB_data a b c
  have hl := put_len (jOf a b c)
  have hn := ok_norm h
  refine ⟨checkSays a b c (by omega) (by omega) (by omega) 0 (by rw [h]; rfl), putSays a b c (by omega) (by omega) (by omega), parseSays a b c _ (by rw [hd]; exact parse_put _ h) (by rw [← U.len_data, hd]; omega), Lib.hid fun w => ?_⟩
  have hx := Norm_any a b c (by omega) (by omega) w
  have e1 : a.data.toList.map low = a.data.toList := congrArg J.n hn
  have e2 : trimPoint (b.data.toList.map low) = b.data.toList := congrArg J.d hn
  rw [e1, e2, of_data, of_data] at hx
  exact hx
/-- A parsed address is no longer than its text. -/
theorem fore_le (c : UInt8) (l : List UInt8) : (foreB c l).length + (aftB c l).length ≤ l.length := by
  rcases parts c l with ⟨_, _, h⟩ | ⟨_, _, h, h2⟩
  · have := congrArg List.length h
    rw [List.length_append, List.length_cons] at this; omega
  · rw [h, h2]; simp
theorem ite_some (c : Bool) (x j : J) (h : (if c = true then none else some x : Option J) = some j) : j = x := by cases c <;> simp_all
theorem parse_len {l : List UInt8} {j : J} (h : parse l = some j) : j.n.length + j.d.length + j.r.length ≤ l.length := by
  have h1 := fore_le 47 l
  have h2 := fore_le 64 (foreB 47 l)
  have h3 : j = norm ⟨if (foreB 47 l).contains 64 = true then foreB 64 (foreB 47 l) else [], if (foreB 47 l).contains 64 = true then aftB 64 (foreB 47 l) else foreB 47 l, aftB 47 l⟩ := by
    unfold parse at h
    exact ite_some _ _ _ h
  rw [h3]
  unfold norm
  dsimp only
  have h4 := trimLe ((if (foreB 47 l).contains 64 = true then aftB 64 (foreB 47 l) else foreB 47 l).map low)
  rw [List.length_map] at h4
  rw [List.length_map]
  rcases Bool.eq_false_or_eq_true ((foreB 47 l).contains 64) with e | e
  · rw [e] at h4 ⊢; simp only [if_true] at h4 ⊢; omega
  · rw [e] at h4 ⊢; simp only [Bool.false_eq_true, if_false, List.length_nil] at h4 ⊢; omega

theorem JidBack_walk (a b c s : ByteArray) (ha : Low a) (hb : Low b) (hc : Low c) (hs : Low s) (w : World) :
    Calls Tryd.prog 5 #[.agg #[.string a, .string b, .string c], .string s] w fun e w' => e = .returned (.bool true) ∧ Below w.heap.size w w' := by
  by_cases h1 : a.size + b.size + c.size ≤ 4000
  · have HS := smallSays a b c ha hb hc true (decide_eq_true h1)
    by_cases h2 : (4000 : Int) < (s.size : Int)
    · exact JidBack_long a b c s HS h2 w
    · have hR : (parse s.data.toList = none ∧ ParseSays s ⟨#[]⟩ ⟨#[]⟩ ⟨#[]⟩ 30) ∨ ∃ x y z, ParseSays s x y z 0 ∧ CheckSays x y z 0 ∧ PutSays x y z (putB x y z) ∧ ParseSays (putB x y z) x y z 0 := by
        cases hp : parse s.data.toList with
        | none =>
          refine .inl ⟨rfl, Lib.hid fun w => ?_⟩
          have hx := Parse_any s (by omega) w
          unfold parseV at hx
          rw [hp] at hx
          exact hx
        | some j =>
          right
          have hl := parse_len hp
          rw [U.len_data] at hl
          have hj : jOf ⟨j.n.toArray⟩ ⟨j.d.toArray⟩ ⟨j.r.toArray⟩ = j := rfl
          have hk : ok (jOf ⟨j.n.toArray⟩ ⟨j.d.toArray⟩ ⟨j.r.toArray⟩) = true := parse_some hp
          obtain ⟨g1, g2, g3, _⟩ := good ⟨j.n.toArray⟩ ⟨j.d.toArray⟩ ⟨j.r.toArray⟩ (by rw [size_mk]; omega) (by rw [size_mk]; omega) (by rw [size_mk]; omega) (by rw [size_mk, size_mk, size_mk]; omega) hk
          exact ⟨_, _, _, parseSays _ _ _ s (by rw [hj]; exact hp) (by omega), g1, g2, g3⟩
      cases hk : ok (jOf a b c) with
      | false =>
        have HC := checkSays a b c (by omega) (by omega) (by omega) 30 (by rw [hk]; rfl)
        rcases hR with ⟨_, HR⟩ | ⟨x, y, z, HR, HD, HT, HU⟩
        · exact JidBack_30bad a b c s HS h2 HC HR w
        · exact JidBack_30good a b c s x y z _ HS h2 HC HR HT HU HD w
      | true =>
        obtain ⟨HC, HP, HQ, HM⟩ := good a b c (by omega) (by omega) (by omega) (by omega) hk
        rcases hR with ⟨_, HR⟩ | ⟨x, y, z, HR, HD, HT, HU⟩
        · exact JidBack_0bad a b c s _ HS h2 HC HP HQ HM HR w
        · exact JidBack_0good a b c s _ x y z _ HS h2 HC HP HQ HM HR HT HU HD w
  · exact JidBack_big a b c s (smallSays a b c ha hb hc false (decide_eq_false h1)) w
end Go.Proofs.YthifpbaebbodoaaDoor.Jid

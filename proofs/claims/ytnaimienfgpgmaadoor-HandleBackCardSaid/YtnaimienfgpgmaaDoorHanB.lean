/- wharflaw04.HandleBack: its walk. -/
import Derived.Test.YtnaimienfgpgmaaDoorHanC
import Derived.Deep.QuietTactic
import Derived.BigQuiet
set_option linter.unusedVariables false
set_option linter.unusedSimpArgs false
namespace Go.Proofs.YtnaimienfgpgmaaDoor.HanL
open Go.RowKit F Han HanP HanQ EscP Jid

abbrev SayJ (s d x y z : ByteArray) (n : Int) : Prop := Hid (∀ w, Calls Tryd.prog 15 #[.string s, .string d] w fun e w' => e = .returned (.tuple #[.agg #[.string x, .string y, .string z], .int .i64 n]) ∧ Below w.heap.size w w')
abbrev SayF (x y z d s : ByteArray) (n : Int) : Prop := Hid (∀ w, Calls Tryd.prog 17 #[.agg #[.string x, .string y, .string z], .string d] w fun e w' => e = .returned (.tuple #[.string s, .int .i64 n]) ∧ Below w.heap.size w w')
theorem HandleBack_big (s d : ByteArray) (at_ : Int) (hb : (3000 : Int) < (s.size : Int) + (d.size : Int)) (hs : s.size ≤ 140737488351232) (hd : d.size ≤ 140737488351232) (w : World) :
    Calls Tryd.prog 5 #[.string s, .string d, .int .i64 at_] w fun e w' => e = .returned (.bool true) ∧ Below w.heap.size w w' := by
  have K0 := Lib.hid (Keep.start w)
  go_enter Tryd.func5, Tryd.ntmps5
  go_wp2_with fail
  refine (hlive _).mono ?_
  rintro e w9 ⟨rfl, hb9⟩
  have K9 := Lib.hid (K0.out.below hb9)
  clear hb9
  go_wp2
  go_ret
  exact ⟨rfl, K9.out.low⟩
set_option maxHeartbeats 1000000 in
theorem HandleBack_none (s d : ByteArray) (at_ : Int) (hb : ¬ (3000 : Int) < (s.size : Int) + (d.size : Int)) (HJ : SayJ s d ⟨#[]⟩ ⟨#[]⟩ ⟨#[]⟩ 40) (w : World) :
    Calls Tryd.prog 5 #[.string s, .string d, .int .i64 at_] w fun e w' => e = .returned (.bool true) ∧ Below w.heap.size w w' := by
  have K0 := Lib.hid (Keep.start w)
  go_enter Tryd.func5, Tryd.ntmps5
  go_wp2_with fail
  refine (HJ.out _).mono ?_
  rintro e w1 ⟨rfl, hb1⟩
  have K1 := Lib.hid ((K0.out.below hb1).alloc ⟨#[]⟩ ⟨#[]⟩ ⟨#[]⟩)
  clear hb1
  go_wp2_with fail
  refine (num_at _ _).mono ?_
  rintro e w8 ⟨rfl, rfl⟩
  go_wp2_with fail
  refine (hlive _).mono ?_
  rintro e w9 ⟨rfl, hb9⟩
  have K9 := Lib.hid (K1.out.below hb9)
  clear hb9
  go_wp2
  go_ret
  exact ⟨rfl, K9.out.low⟩
set_option maxRecDepth 100000 in
set_option maxHeartbeats 1000000 in
theorem HandleBack_c1 (s d E N : ByteArray) (at_ : Int) (hb : ¬ (3000 : Int) < (s.size : Int) + (d.size : Int)) (h1 : at_ < 1) (HJ : SayJ s d E d ⟨#[]⟩ 0) (HF : SayF E d ⟨#[]⟩ d N 0) (HN : SayS 12 #[.string s] N) (w : World) :
    Calls Tryd.prog 5 #[.string s, .string d, .int .i64 at_] w fun e w' => e = .returned (.bool true) ∧ Below w.heap.size w w' := by
  have K0 := Lib.hid (Keep.start w)
  go_enter Tryd.func5, Tryd.ntmps5
  go_wp2_with fail
  refine (HJ.out _).mono ?_
  rintro e w1 ⟨rfl, hb1⟩
  have K1 := Lib.hid ((K0.out.below hb1).alloc E d ⟨#[]⟩)
  clear hb1
  go_wp2_with fail
  refine (num_at _ _).mono ?_
  rintro e w8 ⟨rfl, rfl⟩
  go_wp2_with fail
  refine (HF.out _).mono ?_
  rintro e w2 ⟨rfl, hb2⟩
  have K2 := Lib.hid (K1.out.below hb2)
  clear hb2
  go_wp2_with fail
  refine (num_at _ _).mono ?_
  rintro e w8 ⟨rfl, rfl⟩
  go_wp2_with fail
  refine (HN.out _).mono ?_
  rintro e w3 ⟨rfl, hb3⟩
  have K3 := Lib.hid (K2.out.below hb3)
  obtain ⟨d0, d1, d2⟩ := K3.out.box w1.heap.size _ _ _ List.mem_cons_self
  have dne := K3.out.lt w1.heap.size _ _ _ List.mem_cons_self
  clear hb3
  go_wp2_with fail
  refine (hlive _).mono ?_
  rintro e w9 ⟨rfl, hb9⟩
  have K9 := Lib.hid (K3.out.below hb9)
  clear hb9
  go_wp2
  go_ret
  exact ⟨rfl, K9.out.low⟩
set_option maxRecDepth 100000 in
set_option maxHeartbeats 1000000 in
theorem HandleBack_c2 (s d E N : ByteArray) (at_ : Int) (hb : ¬ (3000 : Int) < (s.size : Int) + (d.size : Int)) (h1 : ¬ at_ < 1) (h2 : (s.size : Int) ≤ at_) (HJ : SayJ s d E d ⟨#[]⟩ 0) (HF : SayF E d ⟨#[]⟩ d N 0) (HN : SayS 12 #[.string s] N) (w : World) :
    Calls Tryd.prog 5 #[.string s, .string d, .int .i64 at_] w fun e w' => e = .returned (.bool true) ∧ Below w.heap.size w w' := by
  have K0 := Lib.hid (Keep.start w)
  go_enter Tryd.func5, Tryd.ntmps5
  go_wp2_with fail
  refine (HJ.out _).mono ?_
  rintro e w1 ⟨rfl, hb1⟩
  have K1 := Lib.hid ((K0.out.below hb1).alloc E d ⟨#[]⟩)
  clear hb1
  go_wp2_with fail
  refine (num_at _ _).mono ?_
  rintro e w8 ⟨rfl, rfl⟩
  go_wp2_with fail
  refine (HF.out _).mono ?_
  rintro e w2 ⟨rfl, hb2⟩
  have K2 := Lib.hid (K1.out.below hb2)
  clear hb2
  go_wp2_with fail
  refine (num_at _ _).mono ?_
  rintro e w8 ⟨rfl, rfl⟩
  go_wp2_with fail
  refine (HN.out _).mono ?_
  rintro e w3 ⟨rfl, hb3⟩
  have K3 := Lib.hid (K2.out.below hb3)
  obtain ⟨d0, d1, d2⟩ := K3.out.box w1.heap.size _ _ _ List.mem_cons_self
  have dne := K3.out.lt w1.heap.size _ _ _ List.mem_cons_self
  clear hb3
  go_wp2_with fail
  refine (hlive _).mono ?_
  rintro e w9 ⟨rfl, hb9⟩
  have K9 := Lib.hid (K3.out.below hb9)
  clear hb9
  go_wp2
  go_ret
  exact ⟨rfl, K9.out.low⟩
set_option maxRecDepth 100000 in
set_option maxHeartbeats 1000000 in
theorem HandleBack_c3 (s d E N : ByteArray) (at_ : Int) (hb : ¬ (3000 : Int) < (s.size : Int) + (d.size : Int)) (h1 : ¬ at_ < 1) (h2 : at_ < (s.size : Int)) (h3 : (16 : Int) ≤ (s.size : Int)) (HJ : SayJ s d E d ⟨#[]⟩ 0) (HF : SayF E d ⟨#[]⟩ d N 0) (HN : SayS 12 #[.string s] N) (w : World) :
    Calls Tryd.prog 5 #[.string s, .string d, .int .i64 at_] w fun e w' => e = .returned (.bool true) ∧ Below w.heap.size w w' := by
  have K0 := Lib.hid (Keep.start w)
  go_enter Tryd.func5, Tryd.ntmps5
  go_wp2_with fail
  refine (HJ.out _).mono ?_
  rintro e w1 ⟨rfl, hb1⟩
  have K1 := Lib.hid ((K0.out.below hb1).alloc E d ⟨#[]⟩)
  clear hb1
  go_wp2_with fail
  refine (num_at _ _).mono ?_
  rintro e w8 ⟨rfl, rfl⟩
  go_wp2_with fail
  refine (HF.out _).mono ?_
  rintro e w2 ⟨rfl, hb2⟩
  have K2 := Lib.hid (K1.out.below hb2)
  clear hb2
  go_wp2_with fail
  refine (num_at _ _).mono ?_
  rintro e w8 ⟨rfl, rfl⟩
  go_wp2_with fail
  refine (HN.out _).mono ?_
  rintro e w3 ⟨rfl, hb3⟩
  have K3 := Lib.hid (K2.out.below hb3)
  obtain ⟨d0, d1, d2⟩ := K3.out.box w1.heap.size _ _ _ List.mem_cons_self
  have dne := K3.out.lt w1.heap.size _ _ _ List.mem_cons_self
  clear hb3
  go_wp2_with fail
  refine (hlive _).mono ?_
  rintro e w9 ⟨rfl, hb9⟩
  have K9 := Lib.hid (K3.out.below hb9)
  clear hb9
  go_wp2
  go_ret
  exact ⟨rfl, K9.out.low⟩
set_option maxRecDepth 100000 in
set_option maxHeartbeats 2000000 in
theorem HandleBack_c4 (s d E N : ByteArray) (at_ : Int) (hb : ¬ (3000 : Int) < (s.size : Int) + (d.size : Int)) (i : Nat) (hi : at_ = (i : Int)) (h1 : ¬ (i : Int) < 1) (h2 : (i : Int) < (s.size : Int)) (h3 : (s.size : Int) < 16) (T : ByteArray) (HT : Hid (T = (s.extract 0 i ++ (⟨#[32]⟩ : ByteArray)) ++ s.extract i s.size)) (HJ : SayJ s d E d ⟨#[]⟩ 0) (HF : SayF E d ⟨#[]⟩ d N 0) (HN : SayS 12 #[.string s] N) (HC : SayI 10 #[.string T] 40) (w : World) :
    Calls Tryd.prog 5 #[.string s, .string d, .int .i64 at_] w fun e w' => e = .returned (.bool true) ∧ Below w.heap.size w w' := by
  subst hi
  have hone : (⟨#[32]⟩ : ByteArray).size = 1 := rfl
  have c0 : (0 : Int) ≤ (i : Int) := by omega
  have c9 : (i : Int) ≤ (s.size : Int) := by omega
  have K0 := Lib.hid (Keep.start w)
  go_enter Tryd.func5, Tryd.ntmps5
  go_wp2_with fail
  refine (HJ.out _).mono ?_
  rintro e w1 ⟨rfl, hb1⟩
  have K1 := Lib.hid ((K0.out.below hb1).alloc E d ⟨#[]⟩)
  clear hb1
  go_wp2_with fail
  refine (num_at _ _).mono ?_
  rintro e w8 ⟨rfl, rfl⟩
  go_wp2_with fail
  refine (HF.out _).mono ?_
  rintro e w2 ⟨rfl, hb2⟩
  have K2 := Lib.hid (K1.out.below hb2)
  clear hb2
  go_wp2_with fail
  refine (num_at _ _).mono ?_
  rintro e w8 ⟨rfl, rfl⟩
  go_wp2_with fail
  refine (HN.out _).mono ?_
  rintro e w3 ⟨rfl, hb3⟩
  have K3 := Lib.hid (K2.out.below hb3)
  obtain ⟨d0, d1, d2⟩ := K3.out.box w1.heap.size _ _ _ List.mem_cons_self
  have dne := K3.out.lt w1.heap.size _ _ _ List.mem_cons_self
  clear hb3
  go_wp2_with fail
  refine wp_region_quiet_lit (by kernel_rfl) (by kernel_rfl) ?_
  repeat go_big_quiet_step (fail)
  refine wpQuiet_nil ?_
  intro _ hw'
  obtain ⟨nq, hw''⟩ := hw'
  subst hw''
  have K4 := Lib.hid (show Keep w [(w1.heap.size, E, d, ⟨#[]⟩)] (w3.drewN nq) from ⟨fun p hp => U.At.drewN (K3.out.cells p hp) nq, U.below_drewN K3.out.low nq⟩)
  rw [← HT.out]
  go_wp2_with fail
  refine (HC.out _).mono ?_
  rintro e w4 ⟨rfl, hb4⟩
  have K5 := Lib.hid (K4.out.below hb4)
  clear hb4
  go_wp2_with fail
  refine (num_at _ _).mono ?_
  rintro e w8 ⟨rfl, rfl⟩
  go_wp2_with fail
  refine (hlive _).mono ?_
  rintro e w9 ⟨rfl, hb9⟩
  have K9 := Lib.hid (K5.out.below hb9)
  clear hb9
  go_wp2
  go_ret
  exact ⟨rfl, K9.out.low⟩
set_option maxRecDepth 100000 in
set_option maxHeartbeats 2000000 in
theorem HandleBack_c5 (s d E N : ByteArray) (at_ : Int) (hb : ¬ (3000 : Int) < (s.size : Int) + (d.size : Int)) (i : Nat) (hi : at_ = (i : Int)) (h1 : ¬ (i : Int) < 1) (h2 : (i : Int) < (s.size : Int)) (h3 : (s.size : Int) < 16) (T : ByteArray) (HT : Hid (T = (s.extract 0 i ++ (⟨#[32]⟩ : ByteArray)) ++ s.extract i s.size)) (HJ : SayJ s d E d ⟨#[]⟩ 0) (HF : SayF E d ⟨#[]⟩ d N 0) (HN : SayS 12 #[.string s] N) (HC : SayI 10 #[.string T] 0) (HJT : SayJ T d E d ⟨#[]⟩ 0) (HS : SayB 14 #[.string s, .string T] true) (w : World) :
    Calls Tryd.prog 5 #[.string s, .string d, .int .i64 at_] w fun e w' => e = .returned (.bool true) ∧ Below w.heap.size w w' := by
  subst hi
  have hone : (⟨#[32]⟩ : ByteArray).size = 1 := rfl
  have c0 : (0 : Int) ≤ (i : Int) := by omega
  have c9 : (i : Int) ≤ (s.size : Int) := by omega
  have K0 := Lib.hid (Keep.start w)
  go_enter Tryd.func5, Tryd.ntmps5
  go_wp2_with fail
  refine (HJ.out _).mono ?_
  rintro e w1 ⟨rfl, hb1⟩
  have K1 := Lib.hid ((K0.out.below hb1).alloc E d ⟨#[]⟩)
  clear hb1
  go_wp2_with fail
  refine (num_at _ _).mono ?_
  rintro e w8 ⟨rfl, rfl⟩
  go_wp2_with fail
  refine (HF.out _).mono ?_
  rintro e w2 ⟨rfl, hb2⟩
  have K2 := Lib.hid (K1.out.below hb2)
  clear hb2
  go_wp2_with fail
  refine (num_at _ _).mono ?_
  rintro e w8 ⟨rfl, rfl⟩
  go_wp2_with fail
  refine (HN.out _).mono ?_
  rintro e w3 ⟨rfl, hb3⟩
  have K3 := Lib.hid (K2.out.below hb3)
  obtain ⟨d0, d1, d2⟩ := K3.out.box w1.heap.size _ _ _ List.mem_cons_self
  have dne := K3.out.lt w1.heap.size _ _ _ List.mem_cons_self
  clear hb3
  go_wp2_with fail
  refine wp_region_quiet_lit (by kernel_rfl) (by kernel_rfl) ?_
  repeat go_big_quiet_step (fail)
  refine wpQuiet_nil ?_
  intro _ hw'
  obtain ⟨nq, hw''⟩ := hw'
  subst hw''
  have K4 := Lib.hid (show Keep w [(w1.heap.size, E, d, ⟨#[]⟩)] (w3.drewN nq) from ⟨fun p hp => U.At.drewN (K3.out.cells p hp) nq, U.below_drewN K3.out.low nq⟩)
  rw [← HT.out]
  go_wp2_with fail
  refine (HC.out _).mono ?_
  rintro e w4 ⟨rfl, hb4⟩
  have K5 := Lib.hid (K4.out.below hb4)
  clear hb4 d0 d1 d2 dne
  go_wp2_with fail
  refine (num_at _ _).mono ?_
  rintro e w8 ⟨rfl, rfl⟩
  go_wp2_with fail
  refine (HJT.out _).mono ?_
  rintro e w5 ⟨rfl, hb5⟩
  have k6 := K5.out.below hb5
  obtain ⟨d0, d1, d2⟩ := k6.box w1.heap.size _ _ _ List.mem_cons_self
  have dne := k6.lt w1.heap.size _ _ _ List.mem_cons_self
  have K6 := Lib.hid (k6.alloc E d ⟨#[]⟩)
  clear hb5 k6
  go_wp2_with fail
  refine (num_at _ _).mono ?_
  rintro e w8 ⟨rfl, rfl⟩
  go_wp2_with fail
  refine (HS.out _).mono ?_
  rintro e w6 ⟨rfl, hb6⟩
  have K7 := Lib.hid (K6.out.below hb6)
  clear hb6 d0 d1 d2 dne
  go_wp2_with fail
  refine (hlive _).mono ?_
  rintro e w9 ⟨rfl, hb9⟩
  have K9 := Lib.hid (K7.out.below hb9)
  clear hb9
  go_wp2
  go_ret
  exact ⟨rfl, K9.out.low⟩
end Go.Proofs.YtnaimienfgpgmaaDoor.HanL

/- Contracts of functions of this translation, and what they come to; what is not used is left out. -/
import Derived.Test.YtpjkbamkaicoiaaDoorQg5
import Derived.Test.YtpjkbamkaicoiaaDoorQg7
import Derived.Test.YtpjkbamkaicoiaaDoorQBox
import Derived.Test.YtpjkbamkaicoiaaDoorQCls
import Derived.Test.YtpjkbamkaicoiaaDoorQUtil
import Derived.Test.YtpjkbamkaicoiaaDoorQg6

section
/- session's functions, some of their ways. (Printed by a program, by wc.py.) -/
set_option linter.unusedVariables false
set_option linter.unusedSimpArgs false
set_option maxRecDepth 100000
namespace Go.Proofs.YtpjkbamkaicoiaaDoor.Ses
open Go.RowKit U
set_option maxHeartbeats 1000000 in
theorem two_yes (x : Int) (h1 : 0 ≤ x) (h2 : x ≤ 65535) (w : World) : Calls Tryd.prog 41 #[.int .i64 x] w fun e w' => e = .returned (.bool true) ∧ Own w [] w' := by
  have H0 := Lib.hid (Own.start w)
  go_enter Tryd.func41, Tryd.ntmps41
  go_wp2
  have H1 := H0
  go_ret
  exact ⟨rfl, H1.out.pick [] (by decide)⟩
set_option maxHeartbeats 4000000 in
theorem Start_ok (n pw : ByteArray) (st tm ct : Int) (hp : (pw.toList == []) = false) (hl : pw.size ≤ 16) (s1 : 0 ≤ st) (s2 : st ≤ 65535) (c1 : 0 ≤ ct) (c2 : ct ≤ 65535) (t1 : 0 ≤ tm) (t2 : tm ≤ 4294967295) (hG : ∀ w, Calls Tryd.prog 39 #[.string pw] w fun e w' => e = .returned (.int .i64 0) ∧ Below w.heap.size w w') (hC : ∀ w, Calls Tryd.prog 40 #[.string n] w fun e w' => e = .returned (.int .i64 0) ∧ Below w.heap.size w w') (w : World) : Calls Tryd.prog 21 #[.string n, .string pw, .int .i64 st, .int .i64 tm, .int .i64 ct] w fun e w' => ∃ r1, e = .returned (.tuple #[.agg #[.int .i64 1, .string n, .string pw, .int .i64 st, .int .i64 tm, .int .i64 ct, .int .i64 0, .int .i64 0, .int .i64 0], .agg #[.slice (some ⟨r1, 0, none⟩) 2 2, .bool true, .slice none 0 0], .int .i64 0]) ∧ Own w [(r1, 37, #[.int .i64 1, .string ⟨#[]⟩, .string ⟨#[]⟩, .string ⟨#[]⟩, .int .i64 0, .int .i64 0, .int .i64 0, .int .i64 0, .bool false, .slice none 0 0, .slice none 0 0, .int .i64 5, .string n, .string ⟨#[]⟩, .string ⟨#[]⟩, .int .i64 0, .int .i64 0, .int .i64 0, .int .i64 0, .bool false, .slice none 0 0, .slice none 0 0])] w' := by
  have HG := Lib.hid (Own.ret hG)
  have HC := Lib.hid (Own.ret hC)
  have H0 := Lib.hid (Own.start w)
  go_enter Tryd.func21, Tryd.ntmps21
  obtain ⟨xg1, hxg1⟩ : ∃ g, g = w.heap.size := ⟨_, rfl⟩
  obtain ⟨xg2, hxg2⟩ : ∃ g, g = w.heap.size + 1 := ⟨_, rfl⟩
  go_wp2_with fail
  have H1' : Hid (Own w [(xg2, 29, #[.slice none 0 0, .bool false, .slice none 0 0]), (xg1, 26, #[.int .i64 0, .string ⟨#[]⟩, .string ⟨#[]⟩, .int .i64 0, .int .i64 0, .int .i64 0, .int .i64 0, .int .i64 0, .int .i64 0])] ((w.alloc (.cells #[.int .i64 0, .string ⟨#[]⟩, .string ⟨#[]⟩, .int .i64 0, .int .i64 0, .int .i64 0, .int .i64 0, .int .i64 0, .int .i64 0] 26)).alloc (.cells #[.slice none 0 0, .bool false, .slice none 0 0] 29))) := Lib.hid (by
    have k0 := H0.out
    have k1 := Own.alloc (g := xg1) k0 26 #[.int .i64 0, .string ⟨#[]⟩, .string ⟨#[]⟩, .int .i64 0, .int .i64 0, .int .i64 0, .int .i64 0, .int .i64 0, .int .i64 0] (by first | exact hxg1 | (rw [hxg1]; simp [U.fillW_size]))
    have k2 := Own.alloc (g := xg2) k1 29 #[.slice none 0 0, .bool false, .slice none 0 0] (by first | exact hxg2 | (rw [hxg2]; simp [U.fillW_size]))
    exact k2.cast (by kernel_rfl) (by kernel_rfl))
  rw [← hxg2]
  rw [← hxg1]
  refine calls_own H1'.out (fun W1 hW => ?_)
  have H1 := Lib.hid hW
  clear hW H1' H0 hxg1 hxg2
  refine (HG.out _).mono ?_
  rintro e W2 ⟨rfl, hn⟩
  have H2 := Lib.hid (H1.out.call hn)
  clear hn H1
  go_wp2_with fail
  have H3' := H2
  refine calls_own H3'.out (fun W3 hW => ?_)
  have H3 := Lib.hid hW
  clear hW H3' H2 
  refine (HC.out _).mono ?_
  rintro e W4 ⟨rfl, hn⟩
  have H4 := Lib.hid (H3.out.call hn)
  clear hn H3
  go_wp2_with fail
  have H5' := H4
  refine calls_own H5'.out (fun W5 hW => ?_)
  have H5 := Lib.hid hW
  clear hW H5' H4 
  refine ((two_yes st s1 s2) _).mono ?_
  rintro e W6 ⟨rfl, hn⟩
  have H6 := Lib.hid (H5.out.call hn)
  clear hn H5
  go_wp2_with fail
  have H7' := H6
  refine calls_own H7'.out (fun W7 hW => ?_)
  have H7 := Lib.hid hW
  clear hW H7' H6 
  refine ((two_yes ct c1 c2) _).mono ?_
  rintro e W8 ⟨rfl, hn⟩
  have H8 := Lib.hid (H7.out.call hn)
  clear hn H7
  obtain ⟨xg3, hxg3⟩ : ∃ g, g = W8.heap.size := ⟨_, rfl⟩
  obtain ⟨xg4, hxg4⟩ : ∃ g, g = W8.heap.size + 1 := ⟨_, rfl⟩
  have nn_xg1_xg3 : ¬ xg1 = W8.heap.size := by have := H8.out.lt 1 rfl; omega
  have nm_xg1_xg3 : ¬ W8.heap.size = xg1 := by have := H8.out.lt 1 rfl; omega
  have nn_xg1_xg4 : ¬ xg1 = W8.heap.size + 1 := by have := H8.out.lt 1 rfl; omega
  have nm_xg1_xg4 : ¬ W8.heap.size + 1 = xg1 := by have := H8.out.lt 1 rfl; omega
  have nn_xg2_xg3 : ¬ xg2 = W8.heap.size := by have := H8.out.lt 0 rfl; omega
  have nm_xg2_xg3 : ¬ W8.heap.size = xg2 := by have := H8.out.lt 0 rfl; omega
  have nn_xg2_xg4 : ¬ xg2 = W8.heap.size + 1 := by have := H8.out.lt 0 rfl; omega
  have nm_xg2_xg4 : ¬ W8.heap.size + 1 = xg2 := by have := H8.out.lt 0 rfl; omega
  have G9 : Hid (Own w [(xg4, 37, #[.int .i64 1, .string ⟨#[]⟩, .string ⟨#[]⟩, .string ⟨#[]⟩, .int .i64 0, .int .i64 0, .int .i64 0, .int .i64 0, .bool false, .slice none 0 0, .slice none 0 0, .int .i64 5, .string n, .string ⟨#[]⟩, .string ⟨#[]⟩, .int .i64 0, .int .i64 0, .int .i64 0, .int .i64 0, .bool false, .slice none 0 0, .slice none 0 0]), (xg3, 26, #[.int .i64 1, .string n, .string pw, .int .i64 st, .int .i64 tm, .int .i64 ct, .int .i64 0, .int .i64 0, .int .i64 0]), (xg2, 29, #[.slice none 0 0, .bool false, .slice none 0 0]), (xg1, 26, #[.int .i64 0, .string ⟨#[]⟩, .string ⟨#[]⟩, .int .i64 0, .int .i64 0, .int .i64 0, .int .i64 0, .int .i64 0, .int .i64 0])] ((W8.alloc (.cells #[.int .i64 1, .string n, .string pw, .int .i64 st, .int .i64 tm, .int .i64 ct, .int .i64 0, .int .i64 0, .int .i64 0] 26)).alloc (.cells #[.int .i64 1, .string ⟨#[]⟩, .string ⟨#[]⟩, .string ⟨#[]⟩, .int .i64 0, .int .i64 0, .int .i64 0, .int .i64 0, .bool false, .slice none 0 0, .slice none 0 0, .int .i64 5, .string n, .string ⟨#[]⟩, .string ⟨#[]⟩, .int .i64 0, .int .i64 0, .int .i64 0, .int .i64 0, .bool false, .slice none 0 0, .slice none 0 0] 37))) := Lib.hid (by
    have k0 := H8.out
    have k1 := Own.alloc (g := xg3) k0 26 #[.int .i64 1, .string n, .string pw, .int .i64 st, .int .i64 tm, .int .i64 ct, .int .i64 0, .int .i64 0, .int .i64 0] (by first | exact hxg3 | (rw [hxg3]; simp [U.fillW_size]))
    have k2 := Own.alloc (g := xg4) k1 37 #[.int .i64 1, .string ⟨#[]⟩, .string ⟨#[]⟩, .string ⟨#[]⟩, .int .i64 0, .int .i64 0, .int .i64 0, .int .i64 0, .bool false, .slice none 0 0, .slice none 0 0, .int .i64 5, .string n, .string ⟨#[]⟩, .string ⟨#[]⟩, .int .i64 0, .int .i64 0, .int .i64 0, .int .i64 0, .bool false, .slice none 0 0, .slice none 0 0] (by first | exact hxg4 | (rw [hxg4]; simp [U.fillW_size]))
    exact k2.cast (by kernel_rfl) (by kernel_rfl))
  have c0__xg1_0 : (_ : Option Value) = some (.int .i64 0) := G9.out.cell 3 0 rfl rfl
  have c0__xg1_1 : (_ : Option Value) = some (.string ⟨#[]⟩) := G9.out.cell 3 1 rfl rfl
  have c0__xg1_2 : (_ : Option Value) = some (.string ⟨#[]⟩) := G9.out.cell 3 2 rfl rfl
  have c0__xg1_3 : (_ : Option Value) = some (.int .i64 0) := G9.out.cell 3 3 rfl rfl
  have c0__xg1_4 : (_ : Option Value) = some (.int .i64 0) := G9.out.cell 3 4 rfl rfl
  have c0__xg1_5 : (_ : Option Value) = some (.int .i64 0) := G9.out.cell 3 5 rfl rfl
  have c0__xg1_6 : (_ : Option Value) = some (.int .i64 0) := G9.out.cell 3 6 rfl rfl
  have c0__xg1_7 : (_ : Option Value) = some (.int .i64 0) := G9.out.cell 3 7 rfl rfl
  have c0__xg1_8 : (_ : Option Value) = some (.int .i64 0) := G9.out.cell 3 8 rfl rfl
  have c0__xg2_0 : (_ : Option Value) = some (.slice none 0 0) := G9.out.cell 2 0 rfl rfl
  have c0__xg2_1 : (_ : Option Value) = some (.bool false) := G9.out.cell 2 1 rfl rfl
  have c0__xg2_2 : (_ : Option Value) = some (.slice none 0 0) := G9.out.cell 2 2 rfl rfl
  have d0__xg1_0 : (_ : Bool) = false := G9.out.free 3 0 rfl
  have d0__xg1_1 : (_ : Bool) = false := G9.out.free 3 1 rfl
  have d0__xg1_2 : (_ : Bool) = false := G9.out.free 3 2 rfl
  have d0__xg1_3 : (_ : Bool) = false := G9.out.free 3 3 rfl
  have d0__xg1_4 : (_ : Bool) = false := G9.out.free 3 4 rfl
  have d0__xg1_5 : (_ : Bool) = false := G9.out.free 3 5 rfl
  have d0__xg1_6 : (_ : Bool) = false := G9.out.free 3 6 rfl
  have d0__xg1_7 : (_ : Bool) = false := G9.out.free 3 7 rfl
  have d0__xg1_8 : (_ : Bool) = false := G9.out.free 3 8 rfl
  have d0__xg2_0 : (_ : Bool) = false := G9.out.free 2 0 rfl
  have d0__xg2_1 : (_ : Bool) = false := G9.out.free 2 1 rfl
  have d0__xg2_2 : (_ : Bool) = false := G9.out.free 2 2 rfl
  have ne_xg1_xg2 : ¬ xg1 = xg2 := G9.out.ne 3 2 rfl rfl (by decide)
  have ne_xg2_xg1 : ¬ xg2 = xg1 := G9.out.ne 2 3 rfl rfl (by decide)
  go_wp2
  clear nn_xg1_xg3 nm_xg1_xg3 nn_xg1_xg4 nm_xg1_xg4 nn_xg2_xg3 nm_xg2_xg3 nn_xg2_xg4 nm_xg2_xg4 G9 c0__xg1_0 c0__xg1_1 c0__xg1_2 c0__xg1_3 c0__xg1_4 c0__xg1_5 c0__xg1_6 c0__xg1_7 c0__xg1_8 c0__xg2_0 c0__xg2_1 c0__xg2_2 d0__xg1_0 d0__xg1_1 d0__xg1_2 d0__xg1_3 d0__xg1_4 d0__xg1_5 d0__xg1_6 d0__xg1_7 d0__xg1_8 d0__xg2_0 d0__xg2_1 d0__xg2_2 ne_xg1_xg2 ne_xg2_xg1
  have H10 : Hid (Own w [(xg4, 37, #[.int .i64 1, .string ⟨#[]⟩, .string ⟨#[]⟩, .string ⟨#[]⟩, .int .i64 0, .int .i64 0, .int .i64 0, .int .i64 0, .bool false, .slice none 0 0, .slice none 0 0, .int .i64 5, .string n, .string ⟨#[]⟩, .string ⟨#[]⟩, .int .i64 0, .int .i64 0, .int .i64 0, .int .i64 0, .bool false, .slice none 0 0, .slice none 0 0]), (xg3, 26, #[.int .i64 1, .string n, .string pw, .int .i64 st, .int .i64 tm, .int .i64 ct, .int .i64 0, .int .i64 0, .int .i64 0]), (xg2, 29, #[.slice (some ⟨xg4, 0, none⟩) 2 2, .bool true, .slice none 0 0]), (xg1, 26, #[.int .i64 1, .string n, .string pw, .int .i64 st, .int .i64 tm, .int .i64 ct, .int .i64 0, .int .i64 0, .int .i64 0])] ((((((((((((((W8.alloc (.cells #[.int .i64 1, .string n, .string pw, .int .i64 st, .int .i64 tm, .int .i64 ct, .int .i64 0, .int .i64 0, .int .i64 0] 26)).alloc (.cells #[.int .i64 1, .string ⟨#[]⟩, .string ⟨#[]⟩, .string ⟨#[]⟩, .int .i64 0, .int .i64 0, .int .i64 0, .int .i64 0, .bool false, .slice none 0 0, .slice none 0 0, .int .i64 5, .string n, .string ⟨#[]⟩, .string ⟨#[]⟩, .int .i64 0, .int .i64 0, .int .i64 0, .int .i64 0, .bool false, .slice none 0 0, .slice none 0 0] 37)).setCell ⟨xg1, 0, none⟩ (.int .i64 1)).setCell ⟨xg1, 1, none⟩ (.string n)).setCell ⟨xg1, 2, none⟩ (.string pw)).setCell ⟨xg1, 3, none⟩ (.int .i64 st)).setCell ⟨xg1, 4, none⟩ (.int .i64 tm)).setCell ⟨xg1, 5, none⟩ (.int .i64 ct)).setCell ⟨xg1, 6, none⟩ (.int .i64 0)).setCell ⟨xg1, 7, none⟩ (.int .i64 0)).setCell ⟨xg1, 8, none⟩ (.int .i64 0)).setCell ⟨xg2, 0, none⟩ (.slice (some ⟨xg4, 0, none⟩) 2 2)).setCell ⟨xg2, 1, none⟩ (.bool true)).setCell ⟨xg2, 2, none⟩ (.slice none 0 0))) := Lib.hid (by
    have k0 := H8.out
    have k1 := Own.alloc (g := xg3) k0 26 #[.int .i64 1, .string n, .string pw, .int .i64 st, .int .i64 tm, .int .i64 ct, .int .i64 0, .int .i64 0, .int .i64 0] (by first | exact hxg3 | (rw [hxg3]; simp [U.fillW_size]))
    have k2 := Own.alloc (g := xg4) k1 37 #[.int .i64 1, .string ⟨#[]⟩, .string ⟨#[]⟩, .string ⟨#[]⟩, .int .i64 0, .int .i64 0, .int .i64 0, .int .i64 0, .bool false, .slice none 0 0, .slice none 0 0, .int .i64 5, .string n, .string ⟨#[]⟩, .string ⟨#[]⟩, .int .i64 0, .int .i64 0, .int .i64 0, .int .i64 0, .bool false, .slice none 0 0, .slice none 0 0] (by first | exact hxg4 | (rw [hxg4]; simp [U.fillW_size]))
    have k3 := Own.lay k2 [.int .i64 1, .string n, .string pw, .int .i64 st, .int .i64 tm, .int .i64 ct, .int .i64 0, .int .i64 0, .int .i64 0] 0 3 #[.int .i64 1, .string n, .string pw, .int .i64 st, .int .i64 tm, .int .i64 ct, .int .i64 0, .int .i64 0, .int .i64 0] rfl (by kernel_rfl)
    have k4 := Own.lay k3 [.slice (some ⟨xg4, 0, none⟩) 2 2, .bool true, .slice none 0 0] 0 2 #[.slice (some ⟨xg4, 0, none⟩) 2 2, .bool true, .slice none 0 0] rfl (by kernel_rfl)
    exact k4.cast (by kernel_rfl) (by kernel_rfl))
  rw [← hxg4]
  rw [← hxg3]
  exact bodyPost_ret (res_cct rfl (H10.out.at 3 rfl) Tryd.underlying26 (by kernel_rfl) rfl (H10.out.at 2 rfl) Tryd.underlying29 (by kernel_rfl) rfl rfl rfl rfl) rfl ⟨xg4, rfl, H10.out.pick [0] (by decide)⟩
end Go.Proofs.YtpjkbamkaicoiaaDoor.Ses
end

section
/- session.Take, some of its ways. (Printed by gen_sesb.py.) -/
set_option linter.unusedVariables false
set_option linter.unusedSimpArgs false
set_option maxRecDepth 100000
namespace Go.Proofs.YtpjkbamkaicoiaaDoor.Ses
open Go.RowKit U
set_option maxHeartbeats 4000000 in
theorem Take_let (n pw : ByteArray) (st tm ct he sa cd : Int) (nn nt nd : ByteArray) (ns ni nm : Int) (nok : Bool) (ia : Option Addr) (il ic : Nat) (ja : Option Addr) (jl jc : Nat) (hS : ∀ w, Calls Tryd.prog 28 #[.string nn, .string n] w fun e w' => e = .returned (.bool true) ∧ Below w.heap.size w w') (w : World) : Calls Tryd.prog 10 #[.agg #[.int .i64 2, .string n, .string pw, .int .i64 st, .int .i64 tm, .int .i64 ct, .int .i64 he, .int .i64 sa, .int .i64 cd], .agg #[.int .i64 8, .string nn, .string nt, .string nd, .int .i64 0, .int .i64 ns, .int .i64 ni, .int .i64 nm, .bool nok, .slice ia il ic, .slice ja jl jc]] w fun e w' => ∃ r1, e = .returned (.tuple #[.agg #[.int .i64 3, .string n, .string pw, .int .i64 st, .int .i64 tm, .int .i64 ct, .int .i64 0, .int .i64 0, .int .i64 cd], .agg #[.slice (some ⟨r1, 0, none⟩) 1 1, .bool true, .slice none 0 0]]) ∧ Own w [(r1, 37, #[.int .i64 2, .string ⟨#[]⟩, .string ⟨#[]⟩, .string nd, .int .i64 0, .int .i64 0, .int .i64 0, .int .i64 0, .bool false, .slice none 0 0, .slice none 0 0])] w' := by
  have HS := Lib.hid (Own.ret hS)
  have H0 := Lib.hid (Own.start w)
  go_enter Tryd.func10, Tryd.ntmps10
  obtain ⟨xg1, hxg1⟩ : ∃ g, g = w.heap.size := ⟨_, rfl⟩
  obtain ⟨xg2, hxg2⟩ : ∃ g, g = w.heap.size + 1 := ⟨_, rfl⟩
  obtain ⟨xg3, hxg3⟩ : ∃ g, g = w.heap.size + 1 + 1 := ⟨_, rfl⟩
  obtain ⟨xg4, hxg4⟩ : ∃ g, g = w.heap.size + 1 + 1 + 1 := ⟨_, rfl⟩
  go_wp2_with fail
  have H1' : Hid (Own w [(xg4, 29, #[.slice none 0 0, .bool false, .slice none 0 0]), (xg3, 26, #[.int .i64 0, .string ⟨#[]⟩, .string ⟨#[]⟩, .int .i64 0, .int .i64 0, .int .i64 0, .int .i64 0, .int .i64 0, .int .i64 0]), (xg2, 37, #[.int .i64 8, .string nn, .string nt, .string nd, .int .i64 0, .int .i64 ns, .int .i64 ni, .int .i64 nm, .bool nok, .slice ia il ic, .slice ja jl jc]), (xg1, 26, #[.int .i64 2, .string n, .string pw, .int .i64 st, .int .i64 tm, .int .i64 ct, .int .i64 he, .int .i64 sa, .int .i64 cd])] ((((w.alloc (.cells #[.int .i64 2, .string n, .string pw, .int .i64 st, .int .i64 tm, .int .i64 ct, .int .i64 he, .int .i64 sa, .int .i64 cd] 26)).alloc (.cells #[.int .i64 8, .string nn, .string nt, .string nd, .int .i64 0, .int .i64 ns, .int .i64 ni, .int .i64 nm, .bool nok, .slice ia il ic, .slice ja jl jc] 37)).alloc (.cells #[.int .i64 0, .string ⟨#[]⟩, .string ⟨#[]⟩, .int .i64 0, .int .i64 0, .int .i64 0, .int .i64 0, .int .i64 0, .int .i64 0] 26)).alloc (.cells #[.slice none 0 0, .bool false, .slice none 0 0] 29))) := Lib.hid (by
    have k0 := H0.out
    have k1 := Own.alloc (g := xg1) k0 26 #[.int .i64 2, .string n, .string pw, .int .i64 st, .int .i64 tm, .int .i64 ct, .int .i64 he, .int .i64 sa, .int .i64 cd] (by first | exact hxg1 | (rw [hxg1]; simp [U.fillW_size]))
    have k2 := Own.alloc (g := xg2) k1 37 #[.int .i64 8, .string nn, .string nt, .string nd, .int .i64 0, .int .i64 ns, .int .i64 ni, .int .i64 nm, .bool nok, .slice ia il ic, .slice ja jl jc] (by first | exact hxg2 | (rw [hxg2]; simp [U.fillW_size]))
    have k3 := Own.alloc (g := xg3) k2 26 #[.int .i64 0, .string ⟨#[]⟩, .string ⟨#[]⟩, .int .i64 0, .int .i64 0, .int .i64 0, .int .i64 0, .int .i64 0, .int .i64 0] (by first | exact hxg3 | (rw [hxg3]; simp [U.fillW_size]))
    have k4 := Own.alloc (g := xg4) k3 29 #[.slice none 0 0, .bool false, .slice none 0 0] (by first | exact hxg4 | (rw [hxg4]; simp [U.fillW_size]))
    exact k4.cast (by kernel_rfl) (by kernel_rfl))
  rw [← hxg4]
  rw [← hxg3]
  rw [← hxg2]
  rw [← hxg1]
  refine calls_own H1'.out (fun W1 hW => ?_)
  have H1 := Lib.hid hW
  clear hW H1' H0 hxg1 hxg2 hxg3 hxg4
  refine ((under_yes 2 n pw st tm ct he sa cd (by decide) (by decide)) _).mono ?_
  rintro e W2 ⟨rfl, hn⟩
  have H2 := Lib.hid (H1.out.call hn)
  clear hn H1
  obtain ⟨xg5, hxg5⟩ : ∃ g, g = W2.heap.size := ⟨_, rfl⟩
  have c_xg2_0 : W2.cell? ⟨xg2, 0, none⟩ = some (.int .i64 8) := H2.out.cell 2 0 rfl rfl
  have c_xg1_0 : W2.cell? ⟨xg1, 0, none⟩ = some (.int .i64 2) := H2.out.cell 3 0 rfl rfl
  have c_xg1_6 : W2.cell? ⟨xg1, 6, none⟩ = some (.int .i64 he) := H2.out.cell 3 6 rfl rfl
  have d_xg1_6 : W2.frozen? ⟨xg1, 6, none⟩ = false := H2.out.free 3 6 rfl
  have ne_xg2_xg1 : ¬ xg2 = xg1 := H2.out.ne 2 3 rfl rfl (by decide)
  have ne_xg1_xg2 : ¬ xg1 = xg2 := H2.out.ne 3 2 rfl rfl (by decide)
  have nn_xg1_xg5 : ¬ xg1 = W2.heap.size := by have := H2.out.lt 3 rfl; omega
  have nm_xg1_xg5 : ¬ W2.heap.size = xg1 := by have := H2.out.lt 3 rfl; omega
  have G3 : Hid (Own w [(xg5, 62, #[.int .i64 2, .int .i64 8]), (xg4, 29, #[.slice none 0 0, .bool false, .slice none 0 0]), (xg3, 26, #[.int .i64 0, .string ⟨#[]⟩, .string ⟨#[]⟩, .int .i64 0, .int .i64 0, .int .i64 0, .int .i64 0, .int .i64 0, .int .i64 0]), (xg2, 37, #[.int .i64 8, .string nn, .string nt, .string nd, .int .i64 0, .int .i64 ns, .int .i64 ni, .int .i64 nm, .bool nok, .slice ia il ic, .slice ja jl jc]), (xg1, 26, #[.int .i64 2, .string n, .string pw, .int .i64 st, .int .i64 tm, .int .i64 ct, .int .i64 0, .int .i64 sa, .int .i64 cd])] ((W2.setCell ⟨xg1, 6, none⟩ (.int .i64 0)).alloc (.cells #[.int .i64 2, .int .i64 8] 62))) := Lib.hid (by
    have k0 := H2.out
    have k1 := Own.lay k0 [.int .i64 0] 6 3 #[.int .i64 2, .string n, .string pw, .int .i64 st, .int .i64 tm, .int .i64 ct, .int .i64 0, .int .i64 sa, .int .i64 cd] rfl (by kernel_rfl)
    have k2 := Own.alloc (g := xg5) k1 62 #[.int .i64 2, .int .i64 8] (by first | exact hxg5 | (rw [hxg5]; simp [U.fillW_size]))
    exact k2.cast (by kernel_rfl) (by kernel_rfl))
  have c0__xg2_1 : (_ : Option Value) = some (.string nn) := G3.out.cell 3 1 rfl rfl
  have c0__xg1_1 : (_ : Option Value) = some (.string n) := G3.out.cell 4 1 rfl rfl
  go_wp2_with fail
  clear c_xg2_0 c_xg1_0 c_xg1_6 d_xg1_6 ne_xg2_xg1 ne_xg1_xg2 nn_xg1_xg5 nm_xg1_xg5 G3 c0__xg2_1 c0__xg1_1
  have H4' : Hid (Own w [(xg5, 62, #[.int .i64 2, .int .i64 8]), (xg4, 29, #[.slice none 0 0, .bool false, .slice none 0 0]), (xg3, 26, #[.int .i64 0, .string ⟨#[]⟩, .string ⟨#[]⟩, .int .i64 0, .int .i64 0, .int .i64 0, .int .i64 0, .int .i64 0, .int .i64 0]), (xg2, 37, #[.int .i64 8, .string nn, .string nt, .string nd, .int .i64 0, .int .i64 ns, .int .i64 ni, .int .i64 nm, .bool nok, .slice ia il ic, .slice ja jl jc]), (xg1, 26, #[.int .i64 2, .string n, .string pw, .int .i64 st, .int .i64 tm, .int .i64 ct, .int .i64 0, .int .i64 sa, .int .i64 cd])] ((W2.setCell ⟨xg1, 6, none⟩ (.int .i64 0)).alloc (.cells #[.int .i64 2, .int .i64 8] 62))) := Lib.hid (by
    have k0 := H2.out
    have k1 := Own.lay k0 [.int .i64 0] 6 3 #[.int .i64 2, .string n, .string pw, .int .i64 st, .int .i64 tm, .int .i64 ct, .int .i64 0, .int .i64 sa, .int .i64 cd] rfl (by kernel_rfl)
    have k2 := Own.alloc (g := xg5) k1 62 #[.int .i64 2, .int .i64 8] (by first | exact hxg5 | (rw [hxg5]; simp [U.fillW_size]))
    exact k2.cast (by kernel_rfl) (by kernel_rfl))
  rw [← hxg5]
  refine calls_own H4'.out (fun W4 hW => ?_)
  have H4 := Lib.hid hW
  clear hW H4' H2 hxg5
  refine (HS.out _).mono ?_
  rintro e W5 ⟨rfl, hn⟩
  have H5 := Lib.hid (H4.out.call hn)
  clear hn H4
  obtain ⟨xg6, hxg6⟩ : ∃ g, g = W5.heap.size := ⟨_, rfl⟩
  have c_xg2_4 : W5.cell? ⟨xg2, 4, none⟩ = some (.int .i64 0) := H5.out.cell 3 4 rfl rfl
  have c_xg1_0 : W5.cell? ⟨xg1, 0, none⟩ = some (.int .i64 2) := H5.out.cell 4 0 rfl rfl
  have c_xg1_1 : W5.cell? ⟨xg1, 1, none⟩ = some (.string n) := H5.out.cell 4 1 rfl rfl
  have c_xg1_2 : W5.cell? ⟨xg1, 2, none⟩ = some (.string pw) := H5.out.cell 4 2 rfl rfl
  have c_xg1_3 : W5.cell? ⟨xg1, 3, none⟩ = some (.int .i64 st) := H5.out.cell 4 3 rfl rfl
  have c_xg1_4 : W5.cell? ⟨xg1, 4, none⟩ = some (.int .i64 tm) := H5.out.cell 4 4 rfl rfl
  have c_xg1_5 : W5.cell? ⟨xg1, 5, none⟩ = some (.int .i64 ct) := H5.out.cell 4 5 rfl rfl
  have c_xg1_6 : W5.cell? ⟨xg1, 6, none⟩ = some (.int .i64 0) := H5.out.cell 4 6 rfl rfl
  have c_xg1_7 : W5.cell? ⟨xg1, 7, none⟩ = some (.int .i64 sa) := H5.out.cell 4 7 rfl rfl
  have c_xg1_8 : W5.cell? ⟨xg1, 8, none⟩ = some (.int .i64 cd) := H5.out.cell 4 8 rfl rfl
  have c_xg2_3 : W5.cell? ⟨xg2, 3, none⟩ = some (.string nd) := H5.out.cell 3 3 rfl rfl
  go_wp2_with fail
  clear c_xg2_4 c_xg1_0 c_xg1_1 c_xg1_2 c_xg1_3 c_xg1_4 c_xg1_5 c_xg1_6 c_xg1_7 c_xg1_8 c_xg2_3
  have H6' : Hid (Own w [(xg6, 37, #[.int .i64 2, .string ⟨#[]⟩, .string ⟨#[]⟩, .string nd, .int .i64 0, .int .i64 0, .int .i64 0, .int .i64 0, .bool false, .slice none 0 0, .slice none 0 0]), (xg5, 62, #[.int .i64 2, .int .i64 8]), (xg4, 29, #[.slice none 0 0, .bool false, .slice none 0 0]), (xg3, 26, #[.int .i64 0, .string ⟨#[]⟩, .string ⟨#[]⟩, .int .i64 0, .int .i64 0, .int .i64 0, .int .i64 0, .int .i64 0, .int .i64 0]), (xg2, 37, #[.int .i64 8, .string nn, .string nt, .string nd, .int .i64 0, .int .i64 ns, .int .i64 ni, .int .i64 nm, .bool nok, .slice ia il ic, .slice ja jl jc]), (xg1, 26, #[.int .i64 2, .string n, .string pw, .int .i64 st, .int .i64 tm, .int .i64 ct, .int .i64 0, .int .i64 sa, .int .i64 cd])] (W5.alloc (.cells #[.int .i64 2, .string ⟨#[]⟩, .string ⟨#[]⟩, .string nd, .int .i64 0, .int .i64 0, .int .i64 0, .int .i64 0, .bool false, .slice none 0 0, .slice none 0 0] 37))) := Lib.hid (by
    have k0 := H5.out
    have k1 := Own.alloc (g := xg6) k0 37 #[.int .i64 2, .string ⟨#[]⟩, .string ⟨#[]⟩, .string nd, .int .i64 0, .int .i64 0, .int .i64 0, .int .i64 0, .bool false, .slice none 0 0, .slice none 0 0] (by first | exact hxg6 | (rw [hxg6]; simp [U.fillW_size]))
    exact k1.cast (by kernel_rfl) (by kernel_rfl))
  rw [← hxg6]
  refine calls_own H6'.out (fun W6 hW => ?_)
  have H6 := Lib.hid hW
  clear hW H6' H5 hxg6
  refine ((says_any 2 n pw st tm ct 0 sa cd 3 xg6 1 1) _).mono ?_
  rintro e W7 ⟨rfl, hn⟩
  have H7 := Lib.hid (H6.out.call hn)
  clear hn H6
  obtain ⟨xg7, hxg7⟩ : ∃ g, g = W7.heap.size := ⟨_, rfl⟩
  obtain ⟨xg8, hxg8⟩ : ∃ g, g = W7.heap.size + 1 := ⟨_, rfl⟩
  go_wp2
  have H8' : Hid (Own w [(xg8, 29, #[.slice (some ⟨xg6, 0, none⟩) 1 1, .bool true, .slice none 0 0]), (xg7, 26, #[.int .i64 3, .string n, .string pw, .int .i64 st, .int .i64 tm, .int .i64 ct, .int .i64 0, .int .i64 0, .int .i64 cd]), (xg6, 37, #[.int .i64 2, .string ⟨#[]⟩, .string ⟨#[]⟩, .string nd, .int .i64 0, .int .i64 0, .int .i64 0, .int .i64 0, .bool false, .slice none 0 0, .slice none 0 0]), (xg5, 62, #[.int .i64 2, .int .i64 8]), (xg4, 29, #[.slice none 0 0, .bool false, .slice none 0 0]), (xg3, 26, #[.int .i64 0, .string ⟨#[]⟩, .string ⟨#[]⟩, .int .i64 0, .int .i64 0, .int .i64 0, .int .i64 0, .int .i64 0, .int .i64 0]), (xg2, 37, #[.int .i64 8, .string nn, .string nt, .string nd, .int .i64 0, .int .i64 ns, .int .i64 ni, .int .i64 nm, .bool nok, .slice ia il ic, .slice ja jl jc]), (xg1, 26, #[.int .i64 2, .string n, .string pw, .int .i64 st, .int .i64 tm, .int .i64 ct, .int .i64 0, .int .i64 sa, .int .i64 cd])] ((W7.alloc (.cells #[.int .i64 3, .string n, .string pw, .int .i64 st, .int .i64 tm, .int .i64 ct, .int .i64 0, .int .i64 0, .int .i64 cd] 26)).alloc (.cells #[.slice (some ⟨xg6, 0, none⟩) 1 1, .bool true, .slice none 0 0] 29))) := Lib.hid (by
    have k0 := H7.out
    have k1 := Own.alloc (g := xg7) k0 26 #[.int .i64 3, .string n, .string pw, .int .i64 st, .int .i64 tm, .int .i64 ct, .int .i64 0, .int .i64 0, .int .i64 cd] (by first | exact hxg7 | (rw [hxg7]; simp [U.fillW_size]))
    have k2 := Own.alloc (g := xg8) k1 29 #[.slice (some ⟨xg6, 0, none⟩) 1 1, .bool true, .slice none 0 0] (by first | exact hxg8 | (rw [hxg8]; simp [U.fillW_size]))
    exact k2.cast (by kernel_rfl) (by kernel_rfl))
  rw [← hxg8]
  rw [← hxg7]
  refine world_own H8'.out (fun W8 hW => ?_)
  have H8 := Lib.hid hW
  clear hW H8' H7 hxg7 hxg8
  apply U.wp_cut0 (F := fun x => Own w [(xg8, 29, #[.slice (some ⟨xg6, 0, none⟩) 1 1, .bool true, .slice none 0 0]), (xg7, 26, #[.int .i64 3, .string n, .string pw, .int .i64 st, .int .i64 tm, .int .i64 ct, .int .i64 0, .int .i64 0, .int .i64 cd]), (xg6, 37, #[.int .i64 2, .string ⟨#[]⟩, .string ⟨#[]⟩, .string nd, .int .i64 0, .int .i64 0, .int .i64 0, .int .i64 0, .bool false, .slice none 0 0, .slice none 0 0]), (xg5, 62, #[.int .i64 2, .int .i64 8]), (xg4, 29, #[.slice (some ⟨xg6, 0, none⟩) 1 1, .bool true, .slice none 0 0]), (xg3, 26, #[.int .i64 3, .string n, .string pw, .int .i64 st, .int .i64 tm, .int .i64 ct, .int .i64 0, .int .i64 0, .int .i64 cd]), (xg2, 37, #[.int .i64 8, .string nn, .string nt, .string nd, .int .i64 0, .int .i64 ns, .int .i64 ni, .int .i64 nm, .bool nok, .slice ia il ic, .slice ja jl jc]), (xg1, 26, #[.int .i64 2, .string n, .string pw, .int .i64 st, .int .i64 tm, .int .i64 ct, .int .i64 0, .int .i64 sa, .int .i64 cd])] x)
  · obtain ⟨S, MK, UN⟩ : ∃ S : World → Prop, Hid (∀ x, Own w [(xg8, 29, #[.slice (some ⟨xg6, 0, none⟩) 1 1, .bool true, .slice none 0 0]), (xg7, 26, #[.int .i64 3, .string n, .string pw, .int .i64 st, .int .i64 tm, .int .i64 ct, .int .i64 0, .int .i64 0, .int .i64 cd])] x → S x) ∧ Hid (∀ x, S x → Own w [(xg8, 29, #[.slice (some ⟨xg6, 0, none⟩) 1 1, .bool true, .slice none 0 0]), (xg7, 26, #[.int .i64 3, .string n, .string pw, .int .i64 st, .int .i64 tm, .int .i64 ct, .int .i64 0, .int .i64 0, .int .i64 cd])] x) := ⟨_, Lib.hid (fun _ h => h), Lib.hid (fun _ h => h)⟩
    refine U.wp_region_free (S := S) [0, 1, 2] (by kernel_rfl) ?_
    obtain ⟨X9, hX⟩ : ∃ X, X = W8.drew := ⟨_, rfl⟩
    have H9 : Hid (Own w [(xg8, 29, #[.slice (some ⟨xg6, 0, none⟩) 1 1, .bool true, .slice none 0 0]), (xg7, 26, #[.int .i64 3, .string n, .string pw, .int .i64 st, .int .i64 tm, .int .i64 ct, .int .i64 0, .int .i64 0, .int .i64 cd]), (xg6, 37, #[.int .i64 2, .string ⟨#[]⟩, .string ⟨#[]⟩, .string nd, .int .i64 0, .int .i64 0, .int .i64 0, .int .i64 0, .bool false, .slice none 0 0, .slice none 0 0]), (xg5, 62, #[.int .i64 2, .int .i64 8]), (xg4, 29, #[.slice none 0 0, .bool false, .slice none 0 0]), (xg3, 26, #[.int .i64 0, .string ⟨#[]⟩, .string ⟨#[]⟩, .int .i64 0, .int .i64 0, .int .i64 0, .int .i64 0, .int .i64 0, .int .i64 0]), (xg2, 37, #[.int .i64 8, .string nn, .string nt, .string nd, .int .i64 0, .int .i64 ns, .int .i64 ni, .int .i64 nm, .bool nok, .slice ia il ic, .slice ja jl jc]), (xg1, 26, #[.int .i64 2, .string n, .string pw, .int .i64 st, .int .i64 tm, .int .i64 ct, .int .i64 0, .int .i64 sa, .int .i64 cd])] X9) := Lib.hid (by rw [hX]; exact H8.out.drew)
    rw [← hX]
    clear hX
    change U.wpAnyM _ _ _ _ _ _ 4 #[false, false, false, false] _ _
    have p_xg7_0 : ∀ x : U.In S, x.w.cell? ⟨xg7, 0, none⟩ = some (.int .i64 3) := fun x => (UN.out _ x.h).cell 1 0 rfl rfl
    have p_xg7_1 : ∀ x : U.In S, x.w.cell? ⟨xg7, 1, none⟩ = some (.string n) := fun x => (UN.out _ x.h).cell 1 1 rfl rfl
    have p_xg7_2 : ∀ x : U.In S, x.w.cell? ⟨xg7, 2, none⟩ = some (.string pw) := fun x => (UN.out _ x.h).cell 1 2 rfl rfl
    have p_xg7_3 : ∀ x : U.In S, x.w.cell? ⟨xg7, 3, none⟩ = some (.int .i64 st) := fun x => (UN.out _ x.h).cell 1 3 rfl rfl
    have p_xg7_4 : ∀ x : U.In S, x.w.cell? ⟨xg7, 4, none⟩ = some (.int .i64 tm) := fun x => (UN.out _ x.h).cell 1 4 rfl rfl
    have p_xg7_5 : ∀ x : U.In S, x.w.cell? ⟨xg7, 5, none⟩ = some (.int .i64 ct) := fun x => (UN.out _ x.h).cell 1 5 rfl rfl
    have p_xg7_6 : ∀ x : U.In S, x.w.cell? ⟨xg7, 6, none⟩ = some (.int .i64 0) := fun x => (UN.out _ x.h).cell 1 6 rfl rfl
    have p_xg7_7 : ∀ x : U.In S, x.w.cell? ⟨xg7, 7, none⟩ = some (.int .i64 0) := fun x => (UN.out _ x.h).cell 1 7 rfl rfl
    have p_xg7_8 : ∀ x : U.In S, x.w.cell? ⟨xg7, 8, none⟩ = some (.int .i64 cd) := fun x => (UN.out _ x.h).cell 1 8 rfl rfl
    have p_xg8_0 : ∀ x : U.In S, x.w.cell? ⟨xg8, 0, none⟩ = some (.slice (some ⟨xg6, 0, none⟩) 1 1) := fun x => (UN.out _ x.h).cell 0 0 rfl rfl
    have p_xg8_1 : ∀ x : U.In S, x.w.cell? ⟨xg8, 1, none⟩ = some (.bool true) := fun x => (UN.out _ x.h).cell 0 1 rfl rfl
    have p_xg8_2 : ∀ x : U.In S, x.w.cell? ⟨xg8, 2, none⟩ = some (.slice none 0 0) := fun x => (UN.out _ x.h).cell 0 2 rfl rfl
    haveI : Nonempty (U.In (S)) := ⟨⟨_, (MK.out _ (H9.out.pick [0, 1] (by decide)))⟩⟩
    refine U.wpAnyM_reads (n := 2) (L := #[true, true, false, false]) [0, 1] _ _ (by kernel_rfl) (fun _ _ _ _ _ h => h) ⟨⟨_, (MK.out _ (H9.out.pick [0, 1] (by decide)))⟩, rfl⟩ (by kernel_rfl) (by kernel_rfl) (by kernel_rfl) ?_
    simp only [List.filterMap_cons, List.filterMap_nil, List.getElem?_toArray, List.getElem?_cons_succ, List.getElem?_cons_zero]
    change wpQuiet _ _ _ _ [_, _] _
    repeat go_big_quiet_step (fail)
    refine wpQuiet_nil ?_
    clear p_xg7_0 p_xg7_1 p_xg7_2 p_xg7_3 p_xg7_4 p_xg7_5 p_xg7_6 p_xg7_7 p_xg7_8 p_xg8_0 p_xg8_1 p_xg8_2 this
    refine U.wpAnyM_one (i := 2) (L' := #[true, true, true, false]) (by kernel_rfl) (by kernel_rfl) ?_
    refine U.wpOp_step (o := _) rfl ?_
    have c_xg3_0 : X9.cell? ⟨xg3, 0, none⟩ = some (.int .i64 0) := H9.out.cell 5 0 rfl rfl
    have c_xg3_1 : X9.cell? ⟨xg3, 1, none⟩ = some (.string ⟨#[]⟩) := H9.out.cell 5 1 rfl rfl
    have c_xg3_2 : X9.cell? ⟨xg3, 2, none⟩ = some (.string ⟨#[]⟩) := H9.out.cell 5 2 rfl rfl
    have c_xg3_3 : X9.cell? ⟨xg3, 3, none⟩ = some (.int .i64 0) := H9.out.cell 5 3 rfl rfl
    have c_xg3_4 : X9.cell? ⟨xg3, 4, none⟩ = some (.int .i64 0) := H9.out.cell 5 4 rfl rfl
    have c_xg3_5 : X9.cell? ⟨xg3, 5, none⟩ = some (.int .i64 0) := H9.out.cell 5 5 rfl rfl
    have c_xg3_6 : X9.cell? ⟨xg3, 6, none⟩ = some (.int .i64 0) := H9.out.cell 5 6 rfl rfl
    have c_xg3_7 : X9.cell? ⟨xg3, 7, none⟩ = some (.int .i64 0) := H9.out.cell 5 7 rfl rfl
    have c_xg3_8 : X9.cell? ⟨xg3, 8, none⟩ = some (.int .i64 0) := H9.out.cell 5 8 rfl rfl
    have d_xg3_0 : X9.frozen? ⟨xg3, 0, none⟩ = false := H9.out.free 5 0 rfl
    have d_xg3_1 : X9.frozen? ⟨xg3, 1, none⟩ = false := H9.out.free 5 1 rfl
    have d_xg3_2 : X9.frozen? ⟨xg3, 2, none⟩ = false := H9.out.free 5 2 rfl
    have d_xg3_3 : X9.frozen? ⟨xg3, 3, none⟩ = false := H9.out.free 5 3 rfl
    have d_xg3_4 : X9.frozen? ⟨xg3, 4, none⟩ = false := H9.out.free 5 4 rfl
    have d_xg3_5 : X9.frozen? ⟨xg3, 5, none⟩ = false := H9.out.free 5 5 rfl
    have d_xg3_6 : X9.frozen? ⟨xg3, 6, none⟩ = false := H9.out.free 5 6 rfl
    have d_xg3_7 : X9.frozen? ⟨xg3, 7, none⟩ = false := H9.out.free 5 7 rfl
    have d_xg3_8 : X9.frozen? ⟨xg3, 8, none⟩ = false := H9.out.free 5 8 rfl
    go_wp2
    clear c_xg3_0 c_xg3_1 c_xg3_2 c_xg3_3 c_xg3_4 c_xg3_5 c_xg3_6 c_xg3_7 c_xg3_8 d_xg3_0 d_xg3_1 d_xg3_2 d_xg3_3 d_xg3_4 d_xg3_5 d_xg3_6 d_xg3_7 d_xg3_8
    obtain ⟨X10, hX⟩ : ∃ X, X = (((((((((X9.setCell ⟨xg3, 0, none⟩ (.int .i64 3)).setCell ⟨xg3, 1, none⟩ (.string n)).setCell ⟨xg3, 2, none⟩ (.string pw)).setCell ⟨xg3, 3, none⟩ (.int .i64 st)).setCell ⟨xg3, 4, none⟩ (.int .i64 tm)).setCell ⟨xg3, 5, none⟩ (.int .i64 ct)).setCell ⟨xg3, 6, none⟩ (.int .i64 0)).setCell ⟨xg3, 7, none⟩ (.int .i64 0)).setCell ⟨xg3, 8, none⟩ (.int .i64 cd)) := ⟨_, rfl⟩
    have H10 : Hid (Own w [(xg8, 29, #[.slice (some ⟨xg6, 0, none⟩) 1 1, .bool true, .slice none 0 0]), (xg7, 26, #[.int .i64 3, .string n, .string pw, .int .i64 st, .int .i64 tm, .int .i64 ct, .int .i64 0, .int .i64 0, .int .i64 cd]), (xg6, 37, #[.int .i64 2, .string ⟨#[]⟩, .string ⟨#[]⟩, .string nd, .int .i64 0, .int .i64 0, .int .i64 0, .int .i64 0, .bool false, .slice none 0 0, .slice none 0 0]), (xg5, 62, #[.int .i64 2, .int .i64 8]), (xg4, 29, #[.slice none 0 0, .bool false, .slice none 0 0]), (xg3, 26, #[.int .i64 3, .string n, .string pw, .int .i64 st, .int .i64 tm, .int .i64 ct, .int .i64 0, .int .i64 0, .int .i64 cd]), (xg2, 37, #[.int .i64 8, .string nn, .string nt, .string nd, .int .i64 0, .int .i64 ns, .int .i64 ni, .int .i64 nm, .bool nok, .slice ia il ic, .slice ja jl jc]), (xg1, 26, #[.int .i64 2, .string n, .string pw, .int .i64 st, .int .i64 tm, .int .i64 ct, .int .i64 0, .int .i64 sa, .int .i64 cd])] X10) := Lib.hid (by
      rw [hX]
      have k0 := H9.out
      have k1 := Own.lay k0 [.int .i64 3, .string n, .string pw, .int .i64 st, .int .i64 tm, .int .i64 ct, .int .i64 0, .int .i64 0, .int .i64 cd] 0 5 #[.int .i64 3, .string n, .string pw, .int .i64 st, .int .i64 tm, .int .i64 ct, .int .i64 0, .int .i64 0, .int .i64 cd] rfl (by kernel_rfl)
      exact k1.cast (by kernel_rfl) (by kernel_rfl))
    rw [← hX]
    clear hX 
    refine ⟨fun _ _ => ⟨⟨_, (MK.out _ (H10.out.pick [0, 1] (by decide)))⟩, rfl⟩, ?_⟩
    refine U.wpAnyM_one (i := 3) (L' := #[true, true, true, true]) (by kernel_rfl) (by kernel_rfl) ?_
    refine U.wpOp_step (o := _) rfl ?_
    have c_xg4_0 : X10.cell? ⟨xg4, 0, none⟩ = some (.slice none 0 0) := H10.out.cell 4 0 rfl rfl
    have c_xg4_1 : X10.cell? ⟨xg4, 1, none⟩ = some (.bool false) := H10.out.cell 4 1 rfl rfl
    have c_xg4_2 : X10.cell? ⟨xg4, 2, none⟩ = some (.slice none 0 0) := H10.out.cell 4 2 rfl rfl
    have d_xg4_0 : X10.frozen? ⟨xg4, 0, none⟩ = false := H10.out.free 4 0 rfl
    have d_xg4_1 : X10.frozen? ⟨xg4, 1, none⟩ = false := H10.out.free 4 1 rfl
    have d_xg4_2 : X10.frozen? ⟨xg4, 2, none⟩ = false := H10.out.free 4 2 rfl
    go_wp2
    clear c_xg4_0 c_xg4_1 c_xg4_2 d_xg4_0 d_xg4_1 d_xg4_2
    obtain ⟨X11, hX⟩ : ∃ X, X = (((X10.setCell ⟨xg4, 0, none⟩ (.slice (some ⟨xg6, 0, none⟩) 1 1)).setCell ⟨xg4, 1, none⟩ (.bool true)).setCell ⟨xg4, 2, none⟩ (.slice none 0 0)) := ⟨_, rfl⟩
    have H11 : Hid (Own w [(xg8, 29, #[.slice (some ⟨xg6, 0, none⟩) 1 1, .bool true, .slice none 0 0]), (xg7, 26, #[.int .i64 3, .string n, .string pw, .int .i64 st, .int .i64 tm, .int .i64 ct, .int .i64 0, .int .i64 0, .int .i64 cd]), (xg6, 37, #[.int .i64 2, .string ⟨#[]⟩, .string ⟨#[]⟩, .string nd, .int .i64 0, .int .i64 0, .int .i64 0, .int .i64 0, .bool false, .slice none 0 0, .slice none 0 0]), (xg5, 62, #[.int .i64 2, .int .i64 8]), (xg4, 29, #[.slice (some ⟨xg6, 0, none⟩) 1 1, .bool true, .slice none 0 0]), (xg3, 26, #[.int .i64 3, .string n, .string pw, .int .i64 st, .int .i64 tm, .int .i64 ct, .int .i64 0, .int .i64 0, .int .i64 cd]), (xg2, 37, #[.int .i64 8, .string nn, .string nt, .string nd, .int .i64 0, .int .i64 ns, .int .i64 ni, .int .i64 nm, .bool nok, .slice ia il ic, .slice ja jl jc]), (xg1, 26, #[.int .i64 2, .string n, .string pw, .int .i64 st, .int .i64 tm, .int .i64 ct, .int .i64 0, .int .i64 sa, .int .i64 cd])] X11) := Lib.hid (by
      rw [hX]
      have k0 := H10.out
      have k1 := Own.lay k0 [.slice (some ⟨xg6, 0, none⟩) 1 1, .bool true, .slice none 0 0] 0 4 #[.slice (some ⟨xg6, 0, none⟩) 1 1, .bool true, .slice none 0 0] rfl (by kernel_rfl)
      exact k1.cast (by kernel_rfl) (by kernel_rfl))
    rw [← hX]
    clear hX 
    refine ⟨fun h => (by cases h), ?_⟩
    refine U.wpAnyM_end (by kernel_rfl) ?_
    exact ⟨rfl, rfl, H11.out.pick [0, 1, 2, 3, 4, 5, 6, 7] (by decide)⟩
  intro W12 hW
  have H12 := Lib.hid hW
  clear hW H8
  go_wp2
  have H13 := H12
  exact bodyPost_ret (res_cc rfl (H13.out.at 5 rfl) Tryd.underlying26 (by kernel_rfl) rfl (H13.out.at 4 rfl) Tryd.underlying29 (by kernel_rfl) rfl rfl rfl) rfl ⟨xg6, rfl, H13.out.pick [2] (by decide)⟩
end Go.Proofs.YtpjkbamkaicoiaaDoor.Ses
end

section
/- session.Take, some of its ways. (Printed by gen_sesb.py.) -/
set_option linter.unusedVariables false
set_option linter.unusedSimpArgs false
set_option maxRecDepth 100000
namespace Go.Proofs.YtpjkbamkaicoiaaDoor.Ses
open Go.RowKit U
set_option maxHeartbeats 4000000 in
theorem Take_host (n pw : ByteArray) (st tm ct he sa cd : Int) (nn nt nd : ByteArray) (nc ns ni nm : Int) (nok : Bool) (ia : Option Addr) (il ic : Nat) (ja : Option Addr) (jl jc : Nat) (w : World) : Calls Tryd.prog 10 #[.agg #[.int .i64 3, .string n, .string pw, .int .i64 st, .int .i64 tm, .int .i64 ct, .int .i64 he, .int .i64 sa, .int .i64 cd], .agg #[.int .i64 9, .string nn, .string nt, .string nd, .int .i64 nc, .int .i64 ns, .int .i64 ni, .int .i64 nm, .bool nok, .slice ia il ic, .slice ja jl jc]] w fun e w' => ∃ r1, e = .returned (.tuple #[.agg #[.int .i64 4, .string n, .string pw, .int .i64 st, .int .i64 tm, .int .i64 ct, .int .i64 0, .int .i64 0, .int .i64 cd], .agg #[.slice (some ⟨r1, 0, none⟩) 1 1, .bool false, .slice none 0 0]]) ∧ Own w [(r1, 37, #[.int .i64 17, .string ⟨#[]⟩, .string ⟨#[]⟩, .string ⟨#[]⟩, .int .i64 ct, .int .i64 0, .int .i64 0, .int .i64 tm, .bool false, .slice none 0 0, .slice none 0 0])] w' := by
  have H0 := Lib.hid (Own.start w)
  go_enter Tryd.func10, Tryd.ntmps10
  obtain ⟨xg1, hxg1⟩ : ∃ g, g = w.heap.size := ⟨_, rfl⟩
  obtain ⟨xg2, hxg2⟩ : ∃ g, g = w.heap.size + 1 := ⟨_, rfl⟩
  obtain ⟨xg3, hxg3⟩ : ∃ g, g = w.heap.size + 1 + 1 := ⟨_, rfl⟩
  obtain ⟨xg4, hxg4⟩ : ∃ g, g = w.heap.size + 1 + 1 + 1 := ⟨_, rfl⟩
  go_wp2_with fail
  have H1' : Hid (Own w [(xg4, 29, #[.slice none 0 0, .bool false, .slice none 0 0]), (xg3, 26, #[.int .i64 0, .string ⟨#[]⟩, .string ⟨#[]⟩, .int .i64 0, .int .i64 0, .int .i64 0, .int .i64 0, .int .i64 0, .int .i64 0]), (xg2, 37, #[.int .i64 9, .string nn, .string nt, .string nd, .int .i64 nc, .int .i64 ns, .int .i64 ni, .int .i64 nm, .bool nok, .slice ia il ic, .slice ja jl jc]), (xg1, 26, #[.int .i64 3, .string n, .string pw, .int .i64 st, .int .i64 tm, .int .i64 ct, .int .i64 he, .int .i64 sa, .int .i64 cd])] ((((w.alloc (.cells #[.int .i64 3, .string n, .string pw, .int .i64 st, .int .i64 tm, .int .i64 ct, .int .i64 he, .int .i64 sa, .int .i64 cd] 26)).alloc (.cells #[.int .i64 9, .string nn, .string nt, .string nd, .int .i64 nc, .int .i64 ns, .int .i64 ni, .int .i64 nm, .bool nok, .slice ia il ic, .slice ja jl jc] 37)).alloc (.cells #[.int .i64 0, .string ⟨#[]⟩, .string ⟨#[]⟩, .int .i64 0, .int .i64 0, .int .i64 0, .int .i64 0, .int .i64 0, .int .i64 0] 26)).alloc (.cells #[.slice none 0 0, .bool false, .slice none 0 0] 29))) := Lib.hid (by
    have k0 := H0.out
    have k1 := Own.alloc (g := xg1) k0 26 #[.int .i64 3, .string n, .string pw, .int .i64 st, .int .i64 tm, .int .i64 ct, .int .i64 he, .int .i64 sa, .int .i64 cd] (by first | exact hxg1 | (rw [hxg1]; simp [U.fillW_size]))
    have k2 := Own.alloc (g := xg2) k1 37 #[.int .i64 9, .string nn, .string nt, .string nd, .int .i64 nc, .int .i64 ns, .int .i64 ni, .int .i64 nm, .bool nok, .slice ia il ic, .slice ja jl jc] (by first | exact hxg2 | (rw [hxg2]; simp [U.fillW_size]))
    have k3 := Own.alloc (g := xg3) k2 26 #[.int .i64 0, .string ⟨#[]⟩, .string ⟨#[]⟩, .int .i64 0, .int .i64 0, .int .i64 0, .int .i64 0, .int .i64 0, .int .i64 0] (by first | exact hxg3 | (rw [hxg3]; simp [U.fillW_size]))
    have k4 := Own.alloc (g := xg4) k3 29 #[.slice none 0 0, .bool false, .slice none 0 0] (by first | exact hxg4 | (rw [hxg4]; simp [U.fillW_size]))
    exact k4.cast (by kernel_rfl) (by kernel_rfl))
  rw [← hxg4]
  rw [← hxg3]
  rw [← hxg2]
  rw [← hxg1]
  refine calls_own H1'.out (fun W1 hW => ?_)
  have H1 := Lib.hid hW
  clear hW H1' H0 hxg1 hxg2 hxg3 hxg4
  refine ((under_yes 3 n pw st tm ct he sa cd (by decide) (by decide)) _).mono ?_
  rintro e W2 ⟨rfl, hn⟩
  have H2 := Lib.hid (H1.out.call hn)
  clear hn H1
  obtain ⟨xg5, hxg5⟩ : ∃ g, g = W2.heap.size := ⟨_, rfl⟩
  obtain ⟨xg6, hxg6⟩ : ∃ g, g = W2.heap.size + 1 := ⟨_, rfl⟩
  have c_xg2_0 : W2.cell? ⟨xg2, 0, none⟩ = some (.int .i64 9) := H2.out.cell 2 0 rfl rfl
  have c_xg1_0 : W2.cell? ⟨xg1, 0, none⟩ = some (.int .i64 3) := H2.out.cell 3 0 rfl rfl
  have c_xg1_6 : W2.cell? ⟨xg1, 6, none⟩ = some (.int .i64 he) := H2.out.cell 3 6 rfl rfl
  have d_xg1_6 : W2.frozen? ⟨xg1, 6, none⟩ = false := H2.out.free 3 6 rfl
  have ne_xg2_xg1 : ¬ xg2 = xg1 := H2.out.ne 2 3 rfl rfl (by decide)
  have ne_xg1_xg2 : ¬ xg1 = xg2 := H2.out.ne 3 2 rfl rfl (by decide)
  have nn_xg1_xg5 : ¬ xg1 = W2.heap.size := by have := H2.out.lt 3 rfl; omega
  have nm_xg1_xg5 : ¬ W2.heap.size = xg1 := by have := H2.out.lt 3 rfl; omega
  have nn_xg1_xg6 : ¬ xg1 = W2.heap.size + 1 := by have := H2.out.lt 3 rfl; omega
  have nm_xg1_xg6 : ¬ W2.heap.size + 1 = xg1 := by have := H2.out.lt 3 rfl; omega
  have G3 : Hid (Own w [(xg5, 62, #[.int .i64 3, .int .i64 9]), (xg4, 29, #[.slice none 0 0, .bool false, .slice none 0 0]), (xg3, 26, #[.int .i64 0, .string ⟨#[]⟩, .string ⟨#[]⟩, .int .i64 0, .int .i64 0, .int .i64 0, .int .i64 0, .int .i64 0, .int .i64 0]), (xg2, 37, #[.int .i64 9, .string nn, .string nt, .string nd, .int .i64 nc, .int .i64 ns, .int .i64 ni, .int .i64 nm, .bool nok, .slice ia il ic, .slice ja jl jc]), (xg1, 26, #[.int .i64 3, .string n, .string pw, .int .i64 st, .int .i64 tm, .int .i64 ct, .int .i64 0, .int .i64 sa, .int .i64 cd])] ((W2.setCell ⟨xg1, 6, none⟩ (.int .i64 0)).alloc (.cells #[.int .i64 3, .int .i64 9] 62))) := Lib.hid (by
    have k0 := H2.out
    have k1 := Own.lay k0 [.int .i64 0] 6 3 #[.int .i64 3, .string n, .string pw, .int .i64 st, .int .i64 tm, .int .i64 ct, .int .i64 0, .int .i64 sa, .int .i64 cd] rfl (by kernel_rfl)
    have k2 := Own.alloc (g := xg5) k1 62 #[.int .i64 3, .int .i64 9] (by first | exact hxg5 | (rw [hxg5]; simp [U.fillW_size]))
    exact k2.cast (by kernel_rfl) (by kernel_rfl))
  have c0__xg1_0 : (_ : Option Value) = some (.int .i64 3) := G3.out.cell 4 0 rfl rfl
  have c0__xg1_1 : (_ : Option Value) = some (.string n) := G3.out.cell 4 1 rfl rfl
  have c0__xg1_2 : (_ : Option Value) = some (.string pw) := G3.out.cell 4 2 rfl rfl
  have c0__xg1_3 : (_ : Option Value) = some (.int .i64 st) := G3.out.cell 4 3 rfl rfl
  have c0__xg1_4 : (_ : Option Value) = some (.int .i64 tm) := G3.out.cell 4 4 rfl rfl
  have c0__xg1_5 : (_ : Option Value) = some (.int .i64 ct) := G3.out.cell 4 5 rfl rfl
  have c0__xg1_6 : (_ : Option Value) = some (.int .i64 0) := G3.out.cell 4 6 rfl rfl
  have c0__xg1_7 : (_ : Option Value) = some (.int .i64 sa) := G3.out.cell 4 7 rfl rfl
  have c0__xg1_8 : (_ : Option Value) = some (.int .i64 cd) := G3.out.cell 4 8 rfl rfl
  go_wp2_with fail
  clear c_xg2_0 c_xg1_0 c_xg1_6 d_xg1_6 ne_xg2_xg1 ne_xg1_xg2 nn_xg1_xg5 nm_xg1_xg5 nn_xg1_xg6 nm_xg1_xg6 G3 c0__xg1_0 c0__xg1_1 c0__xg1_2 c0__xg1_3 c0__xg1_4 c0__xg1_5 c0__xg1_6 c0__xg1_7 c0__xg1_8
  have H4' : Hid (Own w [(xg6, 37, #[.int .i64 17, .string ⟨#[]⟩, .string ⟨#[]⟩, .string ⟨#[]⟩, .int .i64 ct, .int .i64 0, .int .i64 0, .int .i64 tm, .bool false, .slice none 0 0, .slice none 0 0]), (xg5, 62, #[.int .i64 3, .int .i64 9]), (xg4, 29, #[.slice none 0 0, .bool false, .slice none 0 0]), (xg3, 26, #[.int .i64 0, .string ⟨#[]⟩, .string ⟨#[]⟩, .int .i64 0, .int .i64 0, .int .i64 0, .int .i64 0, .int .i64 0, .int .i64 0]), (xg2, 37, #[.int .i64 9, .string nn, .string nt, .string nd, .int .i64 nc, .int .i64 ns, .int .i64 ni, .int .i64 nm, .bool nok, .slice ia il ic, .slice ja jl jc]), (xg1, 26, #[.int .i64 3, .string n, .string pw, .int .i64 st, .int .i64 tm, .int .i64 ct, .int .i64 0, .int .i64 sa, .int .i64 cd])] (((W2.setCell ⟨xg1, 6, none⟩ (.int .i64 0)).alloc (.cells #[.int .i64 3, .int .i64 9] 62)).alloc (.cells #[.int .i64 17, .string ⟨#[]⟩, .string ⟨#[]⟩, .string ⟨#[]⟩, .int .i64 ct, .int .i64 0, .int .i64 0, .int .i64 tm, .bool false, .slice none 0 0, .slice none 0 0] 37))) := Lib.hid (by
    have k0 := H2.out
    have k1 := Own.lay k0 [.int .i64 0] 6 3 #[.int .i64 3, .string n, .string pw, .int .i64 st, .int .i64 tm, .int .i64 ct, .int .i64 0, .int .i64 sa, .int .i64 cd] rfl (by kernel_rfl)
    have k2 := Own.alloc (g := xg5) k1 62 #[.int .i64 3, .int .i64 9] (by first | exact hxg5 | (rw [hxg5]; simp [U.fillW_size]))
    have k3 := Own.alloc (g := xg6) k2 37 #[.int .i64 17, .string ⟨#[]⟩, .string ⟨#[]⟩, .string ⟨#[]⟩, .int .i64 ct, .int .i64 0, .int .i64 0, .int .i64 tm, .bool false, .slice none 0 0, .slice none 0 0] (by first | exact hxg6 | (rw [hxg6]; simp [U.fillW_size]))
    exact k3.cast (by kernel_rfl) (by kernel_rfl))
  rw [← hxg6]
  rw [← hxg5]
  refine calls_own H4'.out (fun W4 hW => ?_)
  have H4 := Lib.hid hW
  clear hW H4' H2 hxg5 hxg6
  refine ((says_any 3 n pw st tm ct 0 sa cd 4 xg6 1 1) _).mono ?_
  rintro e W5 ⟨rfl, hn⟩
  have H5 := Lib.hid (H4.out.call hn)
  clear hn H4
  have c_xg3_0 : W5.cell? ⟨xg3, 0, none⟩ = some (.int .i64 0) := H5.out.cell 3 0 rfl rfl
  have c_xg3_1 : W5.cell? ⟨xg3, 1, none⟩ = some (.string ⟨#[]⟩) := H5.out.cell 3 1 rfl rfl
  have c_xg3_2 : W5.cell? ⟨xg3, 2, none⟩ = some (.string ⟨#[]⟩) := H5.out.cell 3 2 rfl rfl
  have c_xg3_3 : W5.cell? ⟨xg3, 3, none⟩ = some (.int .i64 0) := H5.out.cell 3 3 rfl rfl
  have c_xg3_4 : W5.cell? ⟨xg3, 4, none⟩ = some (.int .i64 0) := H5.out.cell 3 4 rfl rfl
  have c_xg3_5 : W5.cell? ⟨xg3, 5, none⟩ = some (.int .i64 0) := H5.out.cell 3 5 rfl rfl
  have c_xg3_6 : W5.cell? ⟨xg3, 6, none⟩ = some (.int .i64 0) := H5.out.cell 3 6 rfl rfl
  have c_xg3_7 : W5.cell? ⟨xg3, 7, none⟩ = some (.int .i64 0) := H5.out.cell 3 7 rfl rfl
  have c_xg3_8 : W5.cell? ⟨xg3, 8, none⟩ = some (.int .i64 0) := H5.out.cell 3 8 rfl rfl
  have c_xg4_0 : W5.cell? ⟨xg4, 0, none⟩ = some (.slice none 0 0) := H5.out.cell 2 0 rfl rfl
  have c_xg4_1 : W5.cell? ⟨xg4, 1, none⟩ = some (.bool false) := H5.out.cell 2 1 rfl rfl
  have c_xg4_2 : W5.cell? ⟨xg4, 2, none⟩ = some (.slice none 0 0) := H5.out.cell 2 2 rfl rfl
  have d_xg3_0 : W5.frozen? ⟨xg3, 0, none⟩ = false := H5.out.free 3 0 rfl
  have d_xg3_1 : W5.frozen? ⟨xg3, 1, none⟩ = false := H5.out.free 3 1 rfl
  have d_xg3_2 : W5.frozen? ⟨xg3, 2, none⟩ = false := H5.out.free 3 2 rfl
  have d_xg3_3 : W5.frozen? ⟨xg3, 3, none⟩ = false := H5.out.free 3 3 rfl
  have d_xg3_4 : W5.frozen? ⟨xg3, 4, none⟩ = false := H5.out.free 3 4 rfl
  have d_xg3_5 : W5.frozen? ⟨xg3, 5, none⟩ = false := H5.out.free 3 5 rfl
  have d_xg3_6 : W5.frozen? ⟨xg3, 6, none⟩ = false := H5.out.free 3 6 rfl
  have d_xg3_7 : W5.frozen? ⟨xg3, 7, none⟩ = false := H5.out.free 3 7 rfl
  have d_xg3_8 : W5.frozen? ⟨xg3, 8, none⟩ = false := H5.out.free 3 8 rfl
  have d_xg4_0 : W5.frozen? ⟨xg4, 0, none⟩ = false := H5.out.free 2 0 rfl
  have d_xg4_1 : W5.frozen? ⟨xg4, 1, none⟩ = false := H5.out.free 2 1 rfl
  have d_xg4_2 : W5.frozen? ⟨xg4, 2, none⟩ = false := H5.out.free 2 2 rfl
  have ne_xg3_xg4 : ¬ xg3 = xg4 := H5.out.ne 3 2 rfl rfl (by decide)
  have ne_xg4_xg3 : ¬ xg4 = xg3 := H5.out.ne 2 3 rfl rfl (by decide)
  go_wp2
  clear c_xg3_0 c_xg3_1 c_xg3_2 c_xg3_3 c_xg3_4 c_xg3_5 c_xg3_6 c_xg3_7 c_xg3_8 c_xg4_0 c_xg4_1 c_xg4_2 d_xg3_0 d_xg3_1 d_xg3_2 d_xg3_3 d_xg3_4 d_xg3_5 d_xg3_6 d_xg3_7 d_xg3_8 d_xg4_0 d_xg4_1 d_xg4_2 ne_xg3_xg4 ne_xg4_xg3
  have H6 : Hid (Own w [(xg6, 37, #[.int .i64 17, .string ⟨#[]⟩, .string ⟨#[]⟩, .string ⟨#[]⟩, .int .i64 ct, .int .i64 0, .int .i64 0, .int .i64 tm, .bool false, .slice none 0 0, .slice none 0 0]), (xg5, 62, #[.int .i64 3, .int .i64 9]), (xg4, 29, #[.slice (some ⟨xg6, 0, none⟩) 1 1, .bool false, .slice none 0 0]), (xg3, 26, #[.int .i64 4, .string n, .string pw, .int .i64 st, .int .i64 tm, .int .i64 ct, .int .i64 0, .int .i64 0, .int .i64 cd]), (xg2, 37, #[.int .i64 9, .string nn, .string nt, .string nd, .int .i64 nc, .int .i64 ns, .int .i64 ni, .int .i64 nm, .bool nok, .slice ia il ic, .slice ja jl jc]), (xg1, 26, #[.int .i64 3, .string n, .string pw, .int .i64 st, .int .i64 tm, .int .i64 ct, .int .i64 0, .int .i64 sa, .int .i64 cd])] ((((((((((((W5.setCell ⟨xg3, 0, none⟩ (.int .i64 4)).setCell ⟨xg3, 1, none⟩ (.string n)).setCell ⟨xg3, 2, none⟩ (.string pw)).setCell ⟨xg3, 3, none⟩ (.int .i64 st)).setCell ⟨xg3, 4, none⟩ (.int .i64 tm)).setCell ⟨xg3, 5, none⟩ (.int .i64 ct)).setCell ⟨xg3, 6, none⟩ (.int .i64 0)).setCell ⟨xg3, 7, none⟩ (.int .i64 0)).setCell ⟨xg3, 8, none⟩ (.int .i64 cd)).setCell ⟨xg4, 0, none⟩ (.slice (some ⟨xg6, 0, none⟩) 1 1)).setCell ⟨xg4, 1, none⟩ (.bool false)).setCell ⟨xg4, 2, none⟩ (.slice none 0 0))) := Lib.hid (by
    have k0 := H5.out
    have k1 := Own.lay k0 [.int .i64 4, .string n, .string pw, .int .i64 st, .int .i64 tm, .int .i64 ct, .int .i64 0, .int .i64 0, .int .i64 cd] 0 3 #[.int .i64 4, .string n, .string pw, .int .i64 st, .int .i64 tm, .int .i64 ct, .int .i64 0, .int .i64 0, .int .i64 cd] rfl (by kernel_rfl)
    have k2 := Own.lay k1 [.slice (some ⟨xg6, 0, none⟩) 1 1, .bool false, .slice none 0 0] 0 2 #[.slice (some ⟨xg6, 0, none⟩) 1 1, .bool false, .slice none 0 0] rfl (by kernel_rfl)
    exact k2.cast (by kernel_rfl) (by kernel_rfl))
  exact bodyPost_ret (res_cc rfl (H6.out.at 3 rfl) Tryd.underlying26 (by kernel_rfl) rfl (H6.out.at 2 rfl) Tryd.underlying29 (by kernel_rfl) rfl rfl rfl) rfl ⟨xg6, rfl, H6.out.pick [0] (by decide)⟩
end Go.Proofs.YtpjkbamkaicoiaaDoor.Ses
end

section
/- session.Take, some of its ways. (Printed by gen_sesb.py.) -/
set_option linter.unusedVariables false
set_option linter.unusedSimpArgs false
set_option maxRecDepth 100000
namespace Go.Proofs.YtpjkbamkaicoiaaDoor.Ses
open Go.RowKit U
set_option maxHeartbeats 4000000 in
theorem Take_same (n pw : ByteArray) (st tm ct he sa cd : Int) (nn nt nd : ByteArray) (nc ns ni nm : Int) (nok : Bool) (ia : Option Addr) (il ic : Nat) (ja : Option Addr) (jl jc : Nat) (w : World) : Calls Tryd.prog 10 #[.agg #[.int .i64 4, .string n, .string pw, .int .i64 st, .int .i64 tm, .int .i64 ct, .int .i64 he, .int .i64 sa, .int .i64 cd], .agg #[.int .i64 19, .string nn, .string nt, .string nd, .int .i64 nc, .int .i64 ns, .int .i64 ni, .int .i64 nm, .bool nok, .slice ia il ic, .slice ja jl jc]] w fun e w' => ∃ r1 r2, e = .returned (.tuple #[.agg #[.int .i64 5, .string n, .string pw, .int .i64 st, .int .i64 tm, .int .i64 ct, .int .i64 0, .int .i64 0, .int .i64 cd], .agg #[.slice (some ⟨r1, 0, none⟩) 2 2, .bool false, .slice (some ⟨r2, 0, none⟩) 1 1]]) ∧ Own w [(r1, 37, #[.int .i64 10, .string ⟨#[]⟩, .string ⟨#[]⟩, .string ⟨#[]⟩, .int .i64 0, .int .i64 0, .int .i64 0, .int .i64 0, .bool false, .slice none 0 0, .slice none 0 0, .int .i64 11, .string ⟨#[]⟩, .string ⟨#[]⟩, .string ⟨#[]⟩, .int .i64 0, .int .i64 st, .int .i64 0, .int .i64 0, .bool false, .slice none 0 0, .slice none 0 0]), (r2, 37, #[.int .i64 19, .string nn, .string nt, .string nd, .int .i64 nc, .int .i64 ns, .int .i64 ni, .int .i64 nm, .bool nok, .slice ia il ic, .slice ja jl jc])] w' := by
  have H0 := Lib.hid (Own.start w)
  go_enter Tryd.func10, Tryd.ntmps10
  obtain ⟨xg1, hxg1⟩ : ∃ g, g = w.heap.size := ⟨_, rfl⟩
  obtain ⟨xg2, hxg2⟩ : ∃ g, g = w.heap.size + 1 := ⟨_, rfl⟩
  obtain ⟨xg3, hxg3⟩ : ∃ g, g = w.heap.size + 1 + 1 := ⟨_, rfl⟩
  obtain ⟨xg4, hxg4⟩ : ∃ g, g = w.heap.size + 1 + 1 + 1 := ⟨_, rfl⟩
  go_wp2_with fail
  have H1' : Hid (Own w [(xg4, 29, #[.slice none 0 0, .bool false, .slice none 0 0]), (xg3, 26, #[.int .i64 0, .string ⟨#[]⟩, .string ⟨#[]⟩, .int .i64 0, .int .i64 0, .int .i64 0, .int .i64 0, .int .i64 0, .int .i64 0]), (xg2, 37, #[.int .i64 19, .string nn, .string nt, .string nd, .int .i64 nc, .int .i64 ns, .int .i64 ni, .int .i64 nm, .bool nok, .slice ia il ic, .slice ja jl jc]), (xg1, 26, #[.int .i64 4, .string n, .string pw, .int .i64 st, .int .i64 tm, .int .i64 ct, .int .i64 he, .int .i64 sa, .int .i64 cd])] ((((w.alloc (.cells #[.int .i64 4, .string n, .string pw, .int .i64 st, .int .i64 tm, .int .i64 ct, .int .i64 he, .int .i64 sa, .int .i64 cd] 26)).alloc (.cells #[.int .i64 19, .string nn, .string nt, .string nd, .int .i64 nc, .int .i64 ns, .int .i64 ni, .int .i64 nm, .bool nok, .slice ia il ic, .slice ja jl jc] 37)).alloc (.cells #[.int .i64 0, .string ⟨#[]⟩, .string ⟨#[]⟩, .int .i64 0, .int .i64 0, .int .i64 0, .int .i64 0, .int .i64 0, .int .i64 0] 26)).alloc (.cells #[.slice none 0 0, .bool false, .slice none 0 0] 29))) := Lib.hid (by
    have k0 := H0.out
    have k1 := Own.alloc (g := xg1) k0 26 #[.int .i64 4, .string n, .string pw, .int .i64 st, .int .i64 tm, .int .i64 ct, .int .i64 he, .int .i64 sa, .int .i64 cd] (by first | exact hxg1 | (rw [hxg1]; simp [U.fillW_size]))
    have k2 := Own.alloc (g := xg2) k1 37 #[.int .i64 19, .string nn, .string nt, .string nd, .int .i64 nc, .int .i64 ns, .int .i64 ni, .int .i64 nm, .bool nok, .slice ia il ic, .slice ja jl jc] (by first | exact hxg2 | (rw [hxg2]; simp [U.fillW_size]))
    have k3 := Own.alloc (g := xg3) k2 26 #[.int .i64 0, .string ⟨#[]⟩, .string ⟨#[]⟩, .int .i64 0, .int .i64 0, .int .i64 0, .int .i64 0, .int .i64 0, .int .i64 0] (by first | exact hxg3 | (rw [hxg3]; simp [U.fillW_size]))
    have k4 := Own.alloc (g := xg4) k3 29 #[.slice none 0 0, .bool false, .slice none 0 0] (by first | exact hxg4 | (rw [hxg4]; simp [U.fillW_size]))
    exact k4.cast (by kernel_rfl) (by kernel_rfl))
  rw [← hxg4]
  rw [← hxg3]
  rw [← hxg2]
  rw [← hxg1]
  refine calls_own H1'.out (fun W1 hW => ?_)
  have H1 := Lib.hid hW
  clear hW H1' H0 hxg1 hxg2 hxg3 hxg4
  refine ((under_yes 4 n pw st tm ct he sa cd (by decide) (by decide)) _).mono ?_
  rintro e W2 ⟨rfl, hn⟩
  have H2 := Lib.hid (H1.out.call hn)
  clear hn H1
  obtain ⟨xg5, hxg5⟩ : ∃ g, g = W2.heap.size := ⟨_, rfl⟩
  obtain ⟨xg6, hxg6⟩ : ∃ g, g = W2.heap.size + 1 := ⟨_, rfl⟩
  have c_xg2_0 : W2.cell? ⟨xg2, 0, none⟩ = some (.int .i64 19) := H2.out.cell 2 0 rfl rfl
  have c_xg1_0 : W2.cell? ⟨xg1, 0, none⟩ = some (.int .i64 4) := H2.out.cell 3 0 rfl rfl
  have c_xg1_6 : W2.cell? ⟨xg1, 6, none⟩ = some (.int .i64 he) := H2.out.cell 3 6 rfl rfl
  have d_xg1_6 : W2.frozen? ⟨xg1, 6, none⟩ = false := H2.out.free 3 6 rfl
  have ne_xg2_xg1 : ¬ xg2 = xg1 := H2.out.ne 2 3 rfl rfl (by decide)
  have ne_xg1_xg2 : ¬ xg1 = xg2 := H2.out.ne 3 2 rfl rfl (by decide)
  have nn_xg1_xg5 : ¬ xg1 = W2.heap.size := by have := H2.out.lt 3 rfl; omega
  have nm_xg1_xg5 : ¬ W2.heap.size = xg1 := by have := H2.out.lt 3 rfl; omega
  have nn_xg1_xg6 : ¬ xg1 = W2.heap.size + 1 := by have := H2.out.lt 3 rfl; omega
  have nm_xg1_xg6 : ¬ W2.heap.size + 1 = xg1 := by have := H2.out.lt 3 rfl; omega
  have G3 : Hid (Own w [(xg5, 62, #[.int .i64 4, .int .i64 19]), (xg4, 29, #[.slice none 0 0, .bool false, .slice none 0 0]), (xg3, 26, #[.int .i64 0, .string ⟨#[]⟩, .string ⟨#[]⟩, .int .i64 0, .int .i64 0, .int .i64 0, .int .i64 0, .int .i64 0, .int .i64 0]), (xg2, 37, #[.int .i64 19, .string nn, .string nt, .string nd, .int .i64 nc, .int .i64 ns, .int .i64 ni, .int .i64 nm, .bool nok, .slice ia il ic, .slice ja jl jc]), (xg1, 26, #[.int .i64 4, .string n, .string pw, .int .i64 st, .int .i64 tm, .int .i64 ct, .int .i64 0, .int .i64 sa, .int .i64 cd])] ((W2.setCell ⟨xg1, 6, none⟩ (.int .i64 0)).alloc (.cells #[.int .i64 4, .int .i64 19] 62))) := Lib.hid (by
    have k0 := H2.out
    have k1 := Own.lay k0 [.int .i64 0] 6 3 #[.int .i64 4, .string n, .string pw, .int .i64 st, .int .i64 tm, .int .i64 ct, .int .i64 0, .int .i64 sa, .int .i64 cd] rfl (by kernel_rfl)
    have k2 := Own.alloc (g := xg5) k1 62 #[.int .i64 4, .int .i64 19] (by first | exact hxg5 | (rw [hxg5]; simp [U.fillW_size]))
    exact k2.cast (by kernel_rfl) (by kernel_rfl))
  have c0__xg1_0 : (_ : Option Value) = some (.int .i64 4) := G3.out.cell 4 0 rfl rfl
  have c0__xg1_1 : (_ : Option Value) = some (.string n) := G3.out.cell 4 1 rfl rfl
  have c0__xg1_2 : (_ : Option Value) = some (.string pw) := G3.out.cell 4 2 rfl rfl
  have c0__xg1_3 : (_ : Option Value) = some (.int .i64 st) := G3.out.cell 4 3 rfl rfl
  have c0__xg1_4 : (_ : Option Value) = some (.int .i64 tm) := G3.out.cell 4 4 rfl rfl
  have c0__xg1_5 : (_ : Option Value) = some (.int .i64 ct) := G3.out.cell 4 5 rfl rfl
  have c0__xg1_6 : (_ : Option Value) = some (.int .i64 0) := G3.out.cell 4 6 rfl rfl
  have c0__xg1_7 : (_ : Option Value) = some (.int .i64 sa) := G3.out.cell 4 7 rfl rfl
  have c0__xg1_8 : (_ : Option Value) = some (.int .i64 cd) := G3.out.cell 4 8 rfl rfl
  go_wp2_with fail
  clear c_xg2_0 c_xg1_0 c_xg1_6 d_xg1_6 ne_xg2_xg1 ne_xg1_xg2 nn_xg1_xg5 nm_xg1_xg5 nn_xg1_xg6 nm_xg1_xg6 G3 c0__xg1_0 c0__xg1_1 c0__xg1_2 c0__xg1_3 c0__xg1_4 c0__xg1_5 c0__xg1_6 c0__xg1_7 c0__xg1_8
  have H4' : Hid (Own w [(xg6, 37, #[.int .i64 10, .string ⟨#[]⟩, .string ⟨#[]⟩, .string ⟨#[]⟩, .int .i64 0, .int .i64 0, .int .i64 0, .int .i64 0, .bool false, .slice none 0 0, .slice none 0 0, .int .i64 11, .string ⟨#[]⟩, .string ⟨#[]⟩, .string ⟨#[]⟩, .int .i64 0, .int .i64 st, .int .i64 0, .int .i64 0, .bool false, .slice none 0 0, .slice none 0 0]), (xg5, 62, #[.int .i64 4, .int .i64 19]), (xg4, 29, #[.slice none 0 0, .bool false, .slice none 0 0]), (xg3, 26, #[.int .i64 0, .string ⟨#[]⟩, .string ⟨#[]⟩, .int .i64 0, .int .i64 0, .int .i64 0, .int .i64 0, .int .i64 0, .int .i64 0]), (xg2, 37, #[.int .i64 19, .string nn, .string nt, .string nd, .int .i64 nc, .int .i64 ns, .int .i64 ni, .int .i64 nm, .bool nok, .slice ia il ic, .slice ja jl jc]), (xg1, 26, #[.int .i64 4, .string n, .string pw, .int .i64 st, .int .i64 tm, .int .i64 ct, .int .i64 0, .int .i64 sa, .int .i64 cd])] (((W2.setCell ⟨xg1, 6, none⟩ (.int .i64 0)).alloc (.cells #[.int .i64 4, .int .i64 19] 62)).alloc (.cells #[.int .i64 10, .string ⟨#[]⟩, .string ⟨#[]⟩, .string ⟨#[]⟩, .int .i64 0, .int .i64 0, .int .i64 0, .int .i64 0, .bool false, .slice none 0 0, .slice none 0 0, .int .i64 11, .string ⟨#[]⟩, .string ⟨#[]⟩, .string ⟨#[]⟩, .int .i64 0, .int .i64 st, .int .i64 0, .int .i64 0, .bool false, .slice none 0 0, .slice none 0 0] 37))) := Lib.hid (by
    have k0 := H2.out
    have k1 := Own.lay k0 [.int .i64 0] 6 3 #[.int .i64 4, .string n, .string pw, .int .i64 st, .int .i64 tm, .int .i64 ct, .int .i64 0, .int .i64 sa, .int .i64 cd] rfl (by kernel_rfl)
    have k2 := Own.alloc (g := xg5) k1 62 #[.int .i64 4, .int .i64 19] (by first | exact hxg5 | (rw [hxg5]; simp [U.fillW_size]))
    have k3 := Own.alloc (g := xg6) k2 37 #[.int .i64 10, .string ⟨#[]⟩, .string ⟨#[]⟩, .string ⟨#[]⟩, .int .i64 0, .int .i64 0, .int .i64 0, .int .i64 0, .bool false, .slice none 0 0, .slice none 0 0, .int .i64 11, .string ⟨#[]⟩, .string ⟨#[]⟩, .string ⟨#[]⟩, .int .i64 0, .int .i64 st, .int .i64 0, .int .i64 0, .bool false, .slice none 0 0, .slice none 0 0] (by first | exact hxg6 | (rw [hxg6]; simp [U.fillW_size]))
    exact k3.cast (by kernel_rfl) (by kernel_rfl))
  rw [← hxg6]
  rw [← hxg5]
  refine calls_own H4'.out (fun W4 hW => ?_)
  have H4 := Lib.hid hW
  clear hW H4' H2 hxg5 hxg6
  refine ((says_any 4 n pw st tm ct 0 sa cd 5 xg6 2 2) _).mono ?_
  rintro e W5 ⟨rfl, hn⟩
  have H5 := Lib.hid (H4.out.call hn)
  clear hn H4
  obtain ⟨xg7, hxg7⟩ : ∃ g, g = W5.heap.size := ⟨_, rfl⟩
  obtain ⟨xg8, hxg8⟩ : ∃ g, g = W5.heap.size + 1 := ⟨_, rfl⟩
  obtain ⟨xg9, hxg9⟩ : ∃ g, g = W5.heap.size + 1 + 1 := ⟨_, rfl⟩
  have G6 : Hid (Own w [(xg8, 29, #[.slice (some ⟨xg6, 0, none⟩) 2 2, .bool false, .slice none 0 0]), (xg7, 26, #[.int .i64 5, .string n, .string pw, .int .i64 st, .int .i64 tm, .int .i64 ct, .int .i64 0, .int .i64 0, .int .i64 cd]), (xg6, 37, #[.int .i64 10, .string ⟨#[]⟩, .string ⟨#[]⟩, .string ⟨#[]⟩, .int .i64 0, .int .i64 0, .int .i64 0, .int .i64 0, .bool false, .slice none 0 0, .slice none 0 0, .int .i64 11, .string ⟨#[]⟩, .string ⟨#[]⟩, .string ⟨#[]⟩, .int .i64 0, .int .i64 st, .int .i64 0, .int .i64 0, .bool false, .slice none 0 0, .slice none 0 0]), (xg5, 62, #[.int .i64 4, .int .i64 19]), (xg4, 29, #[.slice none 0 0, .bool false, .slice none 0 0]), (xg3, 26, #[.int .i64 0, .string ⟨#[]⟩, .string ⟨#[]⟩, .int .i64 0, .int .i64 0, .int .i64 0, .int .i64 0, .int .i64 0, .int .i64 0]), (xg2, 37, #[.int .i64 19, .string nn, .string nt, .string nd, .int .i64 nc, .int .i64 ns, .int .i64 ni, .int .i64 nm, .bool nok, .slice ia il ic, .slice ja jl jc]), (xg1, 26, #[.int .i64 4, .string n, .string pw, .int .i64 st, .int .i64 tm, .int .i64 ct, .int .i64 0, .int .i64 sa, .int .i64 cd])] ((W5.alloc (.cells #[.int .i64 5, .string n, .string pw, .int .i64 st, .int .i64 tm, .int .i64 ct, .int .i64 0, .int .i64 0, .int .i64 cd] 26)).alloc (.cells #[.slice (some ⟨xg6, 0, none⟩) 2 2, .bool false, .slice none 0 0] 29))) := Lib.hid (by
    have k0 := H5.out
    have k1 := Own.alloc (g := xg7) k0 26 #[.int .i64 5, .string n, .string pw, .int .i64 st, .int .i64 tm, .int .i64 ct, .int .i64 0, .int .i64 0, .int .i64 cd] (by first | exact hxg7 | (rw [hxg7]; simp [U.fillW_size]))
    have k2 := Own.alloc (g := xg8) k1 29 #[.slice (some ⟨xg6, 0, none⟩) 2 2, .bool false, .slice none 0 0] (by first | exact hxg8 | (rw [hxg8]; simp [U.fillW_size]))
    exact k2.cast (by kernel_rfl) (by kernel_rfl))
  have c0__xg2_0 : (_ : Option Value) = some (.int .i64 19) := G6.out.cell 6 0 rfl rfl
  have c0__xg2_1 : (_ : Option Value) = some (.string nn) := G6.out.cell 6 1 rfl rfl
  have c0__xg2_2 : (_ : Option Value) = some (.string nt) := G6.out.cell 6 2 rfl rfl
  have c0__xg2_3 : (_ : Option Value) = some (.string nd) := G6.out.cell 6 3 rfl rfl
  have c0__xg2_4 : (_ : Option Value) = some (.int .i64 nc) := G6.out.cell 6 4 rfl rfl
  have c0__xg2_5 : (_ : Option Value) = some (.int .i64 ns) := G6.out.cell 6 5 rfl rfl
  have c0__xg2_6 : (_ : Option Value) = some (.int .i64 ni) := G6.out.cell 6 6 rfl rfl
  have c0__xg2_7 : (_ : Option Value) = some (.int .i64 nm) := G6.out.cell 6 7 rfl rfl
  have c0__xg2_8 : (_ : Option Value) = some (.bool nok) := G6.out.cell 6 8 rfl rfl
  have c0__xg2_9 : (_ : Option Value) = some (.slice ia il ic) := G6.out.cell 6 9 rfl rfl
  have c0__xg2_10 : (_ : Option Value) = some (.slice ja jl jc) := G6.out.cell 6 10 rfl rfl
  go_wp2
  clear G6 c0__xg2_0 c0__xg2_1 c0__xg2_2 c0__xg2_3 c0__xg2_4 c0__xg2_5 c0__xg2_6 c0__xg2_7 c0__xg2_8 c0__xg2_9 c0__xg2_10
  have H7' : Hid (Own w [(xg9, 37, #[.int .i64 19, .string nn, .string nt, .string nd, .int .i64 nc, .int .i64 ns, .int .i64 ni, .int .i64 nm, .bool nok, .slice ia il ic, .slice ja jl jc]), (xg8, 29, #[.slice (some ⟨xg6, 0, none⟩) 2 2, .bool false, .slice (some ⟨xg9, 0, none⟩) 1 1]), (xg7, 26, #[.int .i64 5, .string n, .string pw, .int .i64 st, .int .i64 tm, .int .i64 ct, .int .i64 0, .int .i64 0, .int .i64 cd]), (xg6, 37, #[.int .i64 10, .string ⟨#[]⟩, .string ⟨#[]⟩, .string ⟨#[]⟩, .int .i64 0, .int .i64 0, .int .i64 0, .int .i64 0, .bool false, .slice none 0 0, .slice none 0 0, .int .i64 11, .string ⟨#[]⟩, .string ⟨#[]⟩, .string ⟨#[]⟩, .int .i64 0, .int .i64 st, .int .i64 0, .int .i64 0, .bool false, .slice none 0 0, .slice none 0 0]), (xg5, 62, #[.int .i64 4, .int .i64 19]), (xg4, 29, #[.slice none 0 0, .bool false, .slice none 0 0]), (xg3, 26, #[.int .i64 0, .string ⟨#[]⟩, .string ⟨#[]⟩, .int .i64 0, .int .i64 0, .int .i64 0, .int .i64 0, .int .i64 0, .int .i64 0]), (xg2, 37, #[.int .i64 19, .string nn, .string nt, .string nd, .int .i64 nc, .int .i64 ns, .int .i64 ni, .int .i64 nm, .bool nok, .slice ia il ic, .slice ja jl jc]), (xg1, 26, #[.int .i64 4, .string n, .string pw, .int .i64 st, .int .i64 tm, .int .i64 ct, .int .i64 0, .int .i64 sa, .int .i64 cd])] (((W5.alloc (.cells #[.int .i64 5, .string n, .string pw, .int .i64 st, .int .i64 tm, .int .i64 ct, .int .i64 0, .int .i64 0, .int .i64 cd] 26)).alloc (.cells #[.slice (some ⟨xg6, 0, none⟩) 2 2, .bool false, .slice (some ⟨xg9, 0, none⟩) 1 1] 29)).alloc (.cells #[.int .i64 19, .string nn, .string nt, .string nd, .int .i64 nc, .int .i64 ns, .int .i64 ni, .int .i64 nm, .bool nok, .slice ia il ic, .slice ja jl jc] 37))) := Lib.hid (by
    have k0 := H5.out
    have k1 := Own.alloc (g := xg7) k0 26 #[.int .i64 5, .string n, .string pw, .int .i64 st, .int .i64 tm, .int .i64 ct, .int .i64 0, .int .i64 0, .int .i64 cd] (by first | exact hxg7 | (rw [hxg7]; simp [U.fillW_size]))
    have k2 := Own.alloc (g := xg8) k1 29 #[.slice (some ⟨xg6, 0, none⟩) 2 2, .bool false, .slice (some ⟨xg9, 0, none⟩) 1 1] (by first | exact hxg8 | (rw [hxg8]; simp [U.fillW_size]))
    have k3 := Own.alloc (g := xg9) k2 37 #[.int .i64 19, .string nn, .string nt, .string nd, .int .i64 nc, .int .i64 ns, .int .i64 ni, .int .i64 nm, .bool nok, .slice ia il ic, .slice ja jl jc] (by first | exact hxg9 | (rw [hxg9]; simp [U.fillW_size]))
    exact k3.cast (by kernel_rfl) (by kernel_rfl))
  rw [← hxg9]
  rw [← hxg8]
  rw [← hxg7]
  refine world_own H7'.out (fun W7 hW => ?_)
  have H7 := Lib.hid hW
  clear hW H7' H5 hxg7 hxg8 hxg9
  apply U.wp_cut0 (F := fun x => Own w [(xg9, 37, #[.int .i64 19, .string nn, .string nt, .string nd, .int .i64 nc, .int .i64 ns, .int .i64 ni, .int .i64 nm, .bool nok, .slice ia il ic, .slice ja jl jc]), (xg8, 29, #[.slice (some ⟨xg6, 0, none⟩) 2 2, .bool false, .slice (some ⟨xg9, 0, none⟩) 1 1]), (xg7, 26, #[.int .i64 5, .string n, .string pw, .int .i64 st, .int .i64 tm, .int .i64 ct, .int .i64 0, .int .i64 0, .int .i64 cd]), (xg6, 37, #[.int .i64 10, .string ⟨#[]⟩, .string ⟨#[]⟩, .string ⟨#[]⟩, .int .i64 0, .int .i64 0, .int .i64 0, .int .i64 0, .bool false, .slice none 0 0, .slice none 0 0, .int .i64 11, .string ⟨#[]⟩, .string ⟨#[]⟩, .string ⟨#[]⟩, .int .i64 0, .int .i64 st, .int .i64 0, .int .i64 0, .bool false, .slice none 0 0, .slice none 0 0]), (xg5, 62, #[.int .i64 4, .int .i64 19]), (xg4, 29, #[.slice (some ⟨xg6, 0, none⟩) 2 2, .bool false, .slice (some ⟨xg9, 0, none⟩) 1 1]), (xg3, 26, #[.int .i64 5, .string n, .string pw, .int .i64 st, .int .i64 tm, .int .i64 ct, .int .i64 0, .int .i64 0, .int .i64 cd]), (xg2, 37, #[.int .i64 19, .string nn, .string nt, .string nd, .int .i64 nc, .int .i64 ns, .int .i64 ni, .int .i64 nm, .bool nok, .slice ia il ic, .slice ja jl jc]), (xg1, 26, #[.int .i64 4, .string n, .string pw, .int .i64 st, .int .i64 tm, .int .i64 ct, .int .i64 0, .int .i64 sa, .int .i64 cd])] x)
  · obtain ⟨S, MK, UN⟩ : ∃ S : World → Prop, Hid (∀ x, Own w [(xg8, 29, #[.slice (some ⟨xg6, 0, none⟩) 2 2, .bool false, .slice (some ⟨xg9, 0, none⟩) 1 1]), (xg7, 26, #[.int .i64 5, .string n, .string pw, .int .i64 st, .int .i64 tm, .int .i64 ct, .int .i64 0, .int .i64 0, .int .i64 cd])] x → S x) ∧ Hid (∀ x, S x → Own w [(xg8, 29, #[.slice (some ⟨xg6, 0, none⟩) 2 2, .bool false, .slice (some ⟨xg9, 0, none⟩) 1 1]), (xg7, 26, #[.int .i64 5, .string n, .string pw, .int .i64 st, .int .i64 tm, .int .i64 ct, .int .i64 0, .int .i64 0, .int .i64 cd])] x) := ⟨_, Lib.hid (fun _ h => h), Lib.hid (fun _ h => h)⟩
    refine U.wp_region_free (S := S) [0, 1, 2] (by kernel_rfl) ?_
    obtain ⟨X8, hX⟩ : ∃ X, X = W7.drew := ⟨_, rfl⟩
    have H8 : Hid (Own w [(xg9, 37, #[.int .i64 19, .string nn, .string nt, .string nd, .int .i64 nc, .int .i64 ns, .int .i64 ni, .int .i64 nm, .bool nok, .slice ia il ic, .slice ja jl jc]), (xg8, 29, #[.slice (some ⟨xg6, 0, none⟩) 2 2, .bool false, .slice (some ⟨xg9, 0, none⟩) 1 1]), (xg7, 26, #[.int .i64 5, .string n, .string pw, .int .i64 st, .int .i64 tm, .int .i64 ct, .int .i64 0, .int .i64 0, .int .i64 cd]), (xg6, 37, #[.int .i64 10, .string ⟨#[]⟩, .string ⟨#[]⟩, .string ⟨#[]⟩, .int .i64 0, .int .i64 0, .int .i64 0, .int .i64 0, .bool false, .slice none 0 0, .slice none 0 0, .int .i64 11, .string ⟨#[]⟩, .string ⟨#[]⟩, .string ⟨#[]⟩, .int .i64 0, .int .i64 st, .int .i64 0, .int .i64 0, .bool false, .slice none 0 0, .slice none 0 0]), (xg5, 62, #[.int .i64 4, .int .i64 19]), (xg4, 29, #[.slice none 0 0, .bool false, .slice none 0 0]), (xg3, 26, #[.int .i64 0, .string ⟨#[]⟩, .string ⟨#[]⟩, .int .i64 0, .int .i64 0, .int .i64 0, .int .i64 0, .int .i64 0, .int .i64 0]), (xg2, 37, #[.int .i64 19, .string nn, .string nt, .string nd, .int .i64 nc, .int .i64 ns, .int .i64 ni, .int .i64 nm, .bool nok, .slice ia il ic, .slice ja jl jc]), (xg1, 26, #[.int .i64 4, .string n, .string pw, .int .i64 st, .int .i64 tm, .int .i64 ct, .int .i64 0, .int .i64 sa, .int .i64 cd])] X8) := Lib.hid (by rw [hX]; exact H7.out.drew)
    rw [← hX]
    clear hX
    change U.wpAnyM _ _ _ _ _ _ 4 #[false, false, false, false] _ _
    have p_xg7_0 : ∀ x : U.In S, x.w.cell? ⟨xg7, 0, none⟩ = some (.int .i64 5) := fun x => (UN.out _ x.h).cell 1 0 rfl rfl
    have p_xg7_1 : ∀ x : U.In S, x.w.cell? ⟨xg7, 1, none⟩ = some (.string n) := fun x => (UN.out _ x.h).cell 1 1 rfl rfl
    have p_xg7_2 : ∀ x : U.In S, x.w.cell? ⟨xg7, 2, none⟩ = some (.string pw) := fun x => (UN.out _ x.h).cell 1 2 rfl rfl
    have p_xg7_3 : ∀ x : U.In S, x.w.cell? ⟨xg7, 3, none⟩ = some (.int .i64 st) := fun x => (UN.out _ x.h).cell 1 3 rfl rfl
    have p_xg7_4 : ∀ x : U.In S, x.w.cell? ⟨xg7, 4, none⟩ = some (.int .i64 tm) := fun x => (UN.out _ x.h).cell 1 4 rfl rfl
    have p_xg7_5 : ∀ x : U.In S, x.w.cell? ⟨xg7, 5, none⟩ = some (.int .i64 ct) := fun x => (UN.out _ x.h).cell 1 5 rfl rfl
    have p_xg7_6 : ∀ x : U.In S, x.w.cell? ⟨xg7, 6, none⟩ = some (.int .i64 0) := fun x => (UN.out _ x.h).cell 1 6 rfl rfl
    have p_xg7_7 : ∀ x : U.In S, x.w.cell? ⟨xg7, 7, none⟩ = some (.int .i64 0) := fun x => (UN.out _ x.h).cell 1 7 rfl rfl
    have p_xg7_8 : ∀ x : U.In S, x.w.cell? ⟨xg7, 8, none⟩ = some (.int .i64 cd) := fun x => (UN.out _ x.h).cell 1 8 rfl rfl
    have p_xg8_0 : ∀ x : U.In S, x.w.cell? ⟨xg8, 0, none⟩ = some (.slice (some ⟨xg6, 0, none⟩) 2 2) := fun x => (UN.out _ x.h).cell 0 0 rfl rfl
    have p_xg8_1 : ∀ x : U.In S, x.w.cell? ⟨xg8, 1, none⟩ = some (.bool false) := fun x => (UN.out _ x.h).cell 0 1 rfl rfl
    have p_xg8_2 : ∀ x : U.In S, x.w.cell? ⟨xg8, 2, none⟩ = some (.slice (some ⟨xg9, 0, none⟩) 1 1) := fun x => (UN.out _ x.h).cell 0 2 rfl rfl
    haveI : Nonempty (U.In (S)) := ⟨⟨_, (MK.out _ (H8.out.pick [1, 2] (by decide)))⟩⟩
    refine U.wpAnyM_reads (n := 2) (L := #[true, true, false, false]) [0, 1] _ _ (by kernel_rfl) (fun _ _ _ _ _ h => h) ⟨⟨_, (MK.out _ (H8.out.pick [1, 2] (by decide)))⟩, rfl⟩ (by kernel_rfl) (by kernel_rfl) (by kernel_rfl) ?_
    simp only [List.filterMap_cons, List.filterMap_nil, List.getElem?_toArray, List.getElem?_cons_succ, List.getElem?_cons_zero]
    change wpQuiet _ _ _ _ [_, _] _
    repeat go_big_quiet_step (fail)
    refine wpQuiet_nil ?_
    clear p_xg7_0 p_xg7_1 p_xg7_2 p_xg7_3 p_xg7_4 p_xg7_5 p_xg7_6 p_xg7_7 p_xg7_8 p_xg8_0 p_xg8_1 p_xg8_2 this
    refine U.wpAnyM_one (i := 2) (L' := #[true, true, true, false]) (by kernel_rfl) (by kernel_rfl) ?_
    refine U.wpOp_step (o := _) rfl ?_
    have c_xg3_0 : X8.cell? ⟨xg3, 0, none⟩ = some (.int .i64 0) := H8.out.cell 6 0 rfl rfl
    have c_xg3_1 : X8.cell? ⟨xg3, 1, none⟩ = some (.string ⟨#[]⟩) := H8.out.cell 6 1 rfl rfl
    have c_xg3_2 : X8.cell? ⟨xg3, 2, none⟩ = some (.string ⟨#[]⟩) := H8.out.cell 6 2 rfl rfl
    have c_xg3_3 : X8.cell? ⟨xg3, 3, none⟩ = some (.int .i64 0) := H8.out.cell 6 3 rfl rfl
    have c_xg3_4 : X8.cell? ⟨xg3, 4, none⟩ = some (.int .i64 0) := H8.out.cell 6 4 rfl rfl
    have c_xg3_5 : X8.cell? ⟨xg3, 5, none⟩ = some (.int .i64 0) := H8.out.cell 6 5 rfl rfl
    have c_xg3_6 : X8.cell? ⟨xg3, 6, none⟩ = some (.int .i64 0) := H8.out.cell 6 6 rfl rfl
    have c_xg3_7 : X8.cell? ⟨xg3, 7, none⟩ = some (.int .i64 0) := H8.out.cell 6 7 rfl rfl
    have c_xg3_8 : X8.cell? ⟨xg3, 8, none⟩ = some (.int .i64 0) := H8.out.cell 6 8 rfl rfl
    have d_xg3_0 : X8.frozen? ⟨xg3, 0, none⟩ = false := H8.out.free 6 0 rfl
    have d_xg3_1 : X8.frozen? ⟨xg3, 1, none⟩ = false := H8.out.free 6 1 rfl
    have d_xg3_2 : X8.frozen? ⟨xg3, 2, none⟩ = false := H8.out.free 6 2 rfl
    have d_xg3_3 : X8.frozen? ⟨xg3, 3, none⟩ = false := H8.out.free 6 3 rfl
    have d_xg3_4 : X8.frozen? ⟨xg3, 4, none⟩ = false := H8.out.free 6 4 rfl
    have d_xg3_5 : X8.frozen? ⟨xg3, 5, none⟩ = false := H8.out.free 6 5 rfl
    have d_xg3_6 : X8.frozen? ⟨xg3, 6, none⟩ = false := H8.out.free 6 6 rfl
    have d_xg3_7 : X8.frozen? ⟨xg3, 7, none⟩ = false := H8.out.free 6 7 rfl
    have d_xg3_8 : X8.frozen? ⟨xg3, 8, none⟩ = false := H8.out.free 6 8 rfl
    go_wp2
    clear c_xg3_0 c_xg3_1 c_xg3_2 c_xg3_3 c_xg3_4 c_xg3_5 c_xg3_6 c_xg3_7 c_xg3_8 d_xg3_0 d_xg3_1 d_xg3_2 d_xg3_3 d_xg3_4 d_xg3_5 d_xg3_6 d_xg3_7 d_xg3_8
    obtain ⟨X9, hX⟩ : ∃ X, X = (((((((((X8.setCell ⟨xg3, 0, none⟩ (.int .i64 5)).setCell ⟨xg3, 1, none⟩ (.string n)).setCell ⟨xg3, 2, none⟩ (.string pw)).setCell ⟨xg3, 3, none⟩ (.int .i64 st)).setCell ⟨xg3, 4, none⟩ (.int .i64 tm)).setCell ⟨xg3, 5, none⟩ (.int .i64 ct)).setCell ⟨xg3, 6, none⟩ (.int .i64 0)).setCell ⟨xg3, 7, none⟩ (.int .i64 0)).setCell ⟨xg3, 8, none⟩ (.int .i64 cd)) := ⟨_, rfl⟩
    have H9 : Hid (Own w [(xg9, 37, #[.int .i64 19, .string nn, .string nt, .string nd, .int .i64 nc, .int .i64 ns, .int .i64 ni, .int .i64 nm, .bool nok, .slice ia il ic, .slice ja jl jc]), (xg8, 29, #[.slice (some ⟨xg6, 0, none⟩) 2 2, .bool false, .slice (some ⟨xg9, 0, none⟩) 1 1]), (xg7, 26, #[.int .i64 5, .string n, .string pw, .int .i64 st, .int .i64 tm, .int .i64 ct, .int .i64 0, .int .i64 0, .int .i64 cd]), (xg6, 37, #[.int .i64 10, .string ⟨#[]⟩, .string ⟨#[]⟩, .string ⟨#[]⟩, .int .i64 0, .int .i64 0, .int .i64 0, .int .i64 0, .bool false, .slice none 0 0, .slice none 0 0, .int .i64 11, .string ⟨#[]⟩, .string ⟨#[]⟩, .string ⟨#[]⟩, .int .i64 0, .int .i64 st, .int .i64 0, .int .i64 0, .bool false, .slice none 0 0, .slice none 0 0]), (xg5, 62, #[.int .i64 4, .int .i64 19]), (xg4, 29, #[.slice none 0 0, .bool false, .slice none 0 0]), (xg3, 26, #[.int .i64 5, .string n, .string pw, .int .i64 st, .int .i64 tm, .int .i64 ct, .int .i64 0, .int .i64 0, .int .i64 cd]), (xg2, 37, #[.int .i64 19, .string nn, .string nt, .string nd, .int .i64 nc, .int .i64 ns, .int .i64 ni, .int .i64 nm, .bool nok, .slice ia il ic, .slice ja jl jc]), (xg1, 26, #[.int .i64 4, .string n, .string pw, .int .i64 st, .int .i64 tm, .int .i64 ct, .int .i64 0, .int .i64 sa, .int .i64 cd])] X9) := Lib.hid (by
      rw [hX]
      have k0 := H8.out
      have k1 := Own.lay k0 [.int .i64 5, .string n, .string pw, .int .i64 st, .int .i64 tm, .int .i64 ct, .int .i64 0, .int .i64 0, .int .i64 cd] 0 6 #[.int .i64 5, .string n, .string pw, .int .i64 st, .int .i64 tm, .int .i64 ct, .int .i64 0, .int .i64 0, .int .i64 cd] rfl (by kernel_rfl)
      exact k1.cast (by kernel_rfl) (by kernel_rfl))
    rw [← hX]
    clear hX 
    refine ⟨fun _ _ => ⟨⟨_, (MK.out _ (H9.out.pick [1, 2] (by decide)))⟩, rfl⟩, ?_⟩
    refine U.wpAnyM_one (i := 3) (L' := #[true, true, true, true]) (by kernel_rfl) (by kernel_rfl) ?_
    refine U.wpOp_step (o := _) rfl ?_
    have c_xg4_0 : X9.cell? ⟨xg4, 0, none⟩ = some (.slice none 0 0) := H9.out.cell 5 0 rfl rfl
    have c_xg4_1 : X9.cell? ⟨xg4, 1, none⟩ = some (.bool false) := H9.out.cell 5 1 rfl rfl
    have c_xg4_2 : X9.cell? ⟨xg4, 2, none⟩ = some (.slice none 0 0) := H9.out.cell 5 2 rfl rfl
    have d_xg4_0 : X9.frozen? ⟨xg4, 0, none⟩ = false := H9.out.free 5 0 rfl
    have d_xg4_1 : X9.frozen? ⟨xg4, 1, none⟩ = false := H9.out.free 5 1 rfl
    have d_xg4_2 : X9.frozen? ⟨xg4, 2, none⟩ = false := H9.out.free 5 2 rfl
    go_wp2
    clear c_xg4_0 c_xg4_1 c_xg4_2 d_xg4_0 d_xg4_1 d_xg4_2
    obtain ⟨X10, hX⟩ : ∃ X, X = (((X9.setCell ⟨xg4, 0, none⟩ (.slice (some ⟨xg6, 0, none⟩) 2 2)).setCell ⟨xg4, 1, none⟩ (.bool false)).setCell ⟨xg4, 2, none⟩ (.slice (some ⟨xg9, 0, none⟩) 1 1)) := ⟨_, rfl⟩
    have H10 : Hid (Own w [(xg9, 37, #[.int .i64 19, .string nn, .string nt, .string nd, .int .i64 nc, .int .i64 ns, .int .i64 ni, .int .i64 nm, .bool nok, .slice ia il ic, .slice ja jl jc]), (xg8, 29, #[.slice (some ⟨xg6, 0, none⟩) 2 2, .bool false, .slice (some ⟨xg9, 0, none⟩) 1 1]), (xg7, 26, #[.int .i64 5, .string n, .string pw, .int .i64 st, .int .i64 tm, .int .i64 ct, .int .i64 0, .int .i64 0, .int .i64 cd]), (xg6, 37, #[.int .i64 10, .string ⟨#[]⟩, .string ⟨#[]⟩, .string ⟨#[]⟩, .int .i64 0, .int .i64 0, .int .i64 0, .int .i64 0, .bool false, .slice none 0 0, .slice none 0 0, .int .i64 11, .string ⟨#[]⟩, .string ⟨#[]⟩, .string ⟨#[]⟩, .int .i64 0, .int .i64 st, .int .i64 0, .int .i64 0, .bool false, .slice none 0 0, .slice none 0 0]), (xg5, 62, #[.int .i64 4, .int .i64 19]), (xg4, 29, #[.slice (some ⟨xg6, 0, none⟩) 2 2, .bool false, .slice (some ⟨xg9, 0, none⟩) 1 1]), (xg3, 26, #[.int .i64 5, .string n, .string pw, .int .i64 st, .int .i64 tm, .int .i64 ct, .int .i64 0, .int .i64 0, .int .i64 cd]), (xg2, 37, #[.int .i64 19, .string nn, .string nt, .string nd, .int .i64 nc, .int .i64 ns, .int .i64 ni, .int .i64 nm, .bool nok, .slice ia il ic, .slice ja jl jc]), (xg1, 26, #[.int .i64 4, .string n, .string pw, .int .i64 st, .int .i64 tm, .int .i64 ct, .int .i64 0, .int .i64 sa, .int .i64 cd])] X10) := Lib.hid (by
      rw [hX]
      have k0 := H9.out
      have k1 := Own.lay k0 [.slice (some ⟨xg6, 0, none⟩) 2 2, .bool false, .slice (some ⟨xg9, 0, none⟩) 1 1] 0 5 #[.slice (some ⟨xg6, 0, none⟩) 2 2, .bool false, .slice (some ⟨xg9, 0, none⟩) 1 1] rfl (by kernel_rfl)
      exact k1.cast (by kernel_rfl) (by kernel_rfl))
    rw [← hX]
    clear hX 
    refine ⟨fun h => (by cases h), ?_⟩
    refine U.wpAnyM_end (by kernel_rfl) ?_
    exact ⟨rfl, rfl, H10.out.pick [0, 1, 2, 3, 4, 5, 6, 7, 8] (by decide)⟩
  intro W11 hW
  have H11 := Lib.hid hW
  clear hW H7
  go_wp2
  have H12 := H11
  exact bodyPost_ret (res_cc rfl (H12.out.at 6 rfl) Tryd.underlying26 (by kernel_rfl) rfl (H12.out.at 5 rfl) Tryd.underlying29 (by kernel_rfl) rfl rfl rfl) rfl ⟨xg6, xg9, rfl, H12.out.pick [3, 0] (by decide)⟩
end Go.Proofs.YtpjkbamkaicoiaaDoor.Ses
end

section
/- session's functions, some of their ways. (Printed by a program, by wc.py.) -/
set_option linter.unusedVariables false
set_option linter.unusedSimpArgs false
set_option maxRecDepth 100000
namespace Go.Proofs.YtpjkbamkaicoiaaDoor.Ses
open Go.RowKit U
set_option maxHeartbeats 1000000 in
theorem Lasting_5  (w : World) : Calls Tryd.prog 17 #[.int .i64 5] w fun e w' => e = .returned (.bool true) ∧ Own w [] w' := by
  have H0 := Lib.hid (Own.start w)
  go_enter Tryd.func17, Tryd.ntmps17
  go_wp2
  have H1 := H0
  go_ret
  exact ⟨rfl, H1.out.pick [] (by decide)⟩
set_option maxHeartbeats 1000000 in
theorem Lasting_24  (w : World) : Calls Tryd.prog 17 #[.int .i64 24] w fun e w' => e = .returned (.bool false) ∧ Own w [] w' := by
  have H0 := Lib.hid (Own.start w)
  go_enter Tryd.func17, Tryd.ntmps17
  go_wp2
  have H1 := H0
  go_ret
  exact ⟨rfl, H1.out.pick [] (by decide)⟩
set_option maxHeartbeats 1000000 in
theorem num_any (x : Int) (w : World) : Calls Tryd.prog 23 #[.int .i64 x] w fun e w' => e = .returned (.int .i64 x) ∧ Own w [] w' := by
  have H0 := Lib.hid (Own.start w)
  go_enter Tryd.func23, Tryd.ntmps23
  go_wp2
  have H1 := H0
  go_ret
  exact ⟨rfl, H1.out.pick [] (by decide)⟩
end Go.Proofs.YtpjkbamkaicoiaaDoor.Ses
end

section
/- session's functions, some of their ways. (Printed by a program, by wc.py.) -/
set_option linter.unusedVariables false
set_option linter.unusedSimpArgs false
set_option maxRecDepth 100000
namespace Go.Proofs.YtpjkbamkaicoiaaDoor.Ses
open Go.RowKit U
set_option maxHeartbeats 4000000 in
theorem Start_nd (n pw : ByteArray) (st tm ct : Int) (hp : (pw.toList == []) = false) (hl : pw.size ≤ 16) (hG : ∀ w, Calls Tryd.prog 39 #[.string pw] w fun e w' => e = .returned (.int .i64 0) ∧ Below w.heap.size w w')  (hC : ∀ w, Calls Tryd.prog 40 #[.string n] w fun e w' => e = .returned (.int .i64 40) ∧ Below w.heap.size w w') (w : World) : Calls Tryd.prog 21 #[.string n, .string pw, .int .i64 st, .int .i64 tm, .int .i64 ct] w fun e w' => e = .returned (.tuple #[.agg #[.int .i64 0, .string ⟨#[]⟩, .string ⟨#[]⟩, .int .i64 0, .int .i64 0, .int .i64 0, .int .i64 0, .int .i64 0, .int .i64 0], .agg #[.slice none 0 0, .bool false, .slice none 0 0], .int .i64 2]) ∧ Own w [] w' := by
  have HC := Lib.hid (Own.ret hC)
  have HG := Lib.hid (Own.ret hG)
  have H0 := Lib.hid (Own.start w)
  go_enter Tryd.func21, Tryd.ntmps21
  obtain ⟨xg1, hxg1⟩ : ∃ g, g = w.heap.size := ⟨_, rfl⟩
  obtain ⟨xg2, hxg2⟩ : ∃ g, g = w.heap.size + 1 := ⟨_, rfl⟩
  go_wp2_with fail
  have H1' : Hid (Own w [(xg2, 29, #[.slice none 0 0, .bool false, .slice none 0 0]), (xg1, 26, #[.int .i64 0, .string ⟨#[]⟩, .string ⟨#[]⟩, .int .i64 0, .int .i64 0, .int .i64 0, .int .i64 0, .int .i64 0, .int .i64 0])] ((w.alloc (.cells #[.int .i64 0, .string ⟨#[]⟩, .string ⟨#[]⟩, .int .i64 0, .int .i64 0, .int .i64 0, .int .i64 0, .int .i64 0, .int .i64 0] 26)).alloc (.cells #[.slice none 0 0, .bool false, .slice none 0 0] 29))) := Lib.hid (by
    have k0 := H0.out
    have k1 := Own.alloc (g := xg1) k0 26 #[.int .i64 0, .string ⟨#[]⟩, .string ⟨#[]⟩, .int .i64 0, .int .i64 0, .int .i64 0, .int .i64 0, .int .i64 0, .int .i64 0] (by first | exact hxg1 | (rw [hxg1]; simp [U.fillW_size]))
    have k2 := Own.alloc (g := xg2) k1 29 #[.slice none 0 0, .bool false, .slice none 0 0] (by first | exact hxg2 | (rw [hxg2]; simp [U.fillW_size]))
    exact k2.cast (by kernel_rfl) (by kernel_rfl))
  rw [← hxg2]
  rw [← hxg1]
  refine calls_own H1'.out (fun W1 hW => ?_)
  have H1 := Lib.hid hW
  clear hW H1' H0 hxg1 hxg2
  refine (HG.out _).mono ?_
  rintro e W2 ⟨rfl, hn⟩
  have H2 := Lib.hid (H1.out.call hn)
  clear hn H1
  go_wp2_with fail
  have H3' := H2
  refine calls_own H3'.out (fun W3 hW => ?_)
  have H3 := Lib.hid hW
  clear hW H3' H2 
  refine (HC.out _).mono ?_
  rintro e W4 ⟨rfl, hn⟩
  have H4 := Lib.hid (H3.out.call hn)
  clear hn H3
  have c_xg1_0 : W4.cell? ⟨xg1, 0, none⟩ = some (.int .i64 0) := H4.out.cell 1 0 rfl rfl
  have c_xg1_1 : W4.cell? ⟨xg1, 1, none⟩ = some (.string ⟨#[]⟩) := H4.out.cell 1 1 rfl rfl
  have c_xg1_2 : W4.cell? ⟨xg1, 2, none⟩ = some (.string ⟨#[]⟩) := H4.out.cell 1 2 rfl rfl
  have c_xg1_3 : W4.cell? ⟨xg1, 3, none⟩ = some (.int .i64 0) := H4.out.cell 1 3 rfl rfl
  have c_xg1_4 : W4.cell? ⟨xg1, 4, none⟩ = some (.int .i64 0) := H4.out.cell 1 4 rfl rfl
  have c_xg1_5 : W4.cell? ⟨xg1, 5, none⟩ = some (.int .i64 0) := H4.out.cell 1 5 rfl rfl
  have c_xg1_6 : W4.cell? ⟨xg1, 6, none⟩ = some (.int .i64 0) := H4.out.cell 1 6 rfl rfl
  have c_xg1_7 : W4.cell? ⟨xg1, 7, none⟩ = some (.int .i64 0) := H4.out.cell 1 7 rfl rfl
  have c_xg1_8 : W4.cell? ⟨xg1, 8, none⟩ = some (.int .i64 0) := H4.out.cell 1 8 rfl rfl
  have c_xg2_0 : W4.cell? ⟨xg2, 0, none⟩ = some (.slice none 0 0) := H4.out.cell 0 0 rfl rfl
  have c_xg2_1 : W4.cell? ⟨xg2, 1, none⟩ = some (.bool false) := H4.out.cell 0 1 rfl rfl
  have c_xg2_2 : W4.cell? ⟨xg2, 2, none⟩ = some (.slice none 0 0) := H4.out.cell 0 2 rfl rfl
  have d_xg1_0 : W4.frozen? ⟨xg1, 0, none⟩ = false := H4.out.free 1 0 rfl
  have d_xg1_1 : W4.frozen? ⟨xg1, 1, none⟩ = false := H4.out.free 1 1 rfl
  have d_xg1_2 : W4.frozen? ⟨xg1, 2, none⟩ = false := H4.out.free 1 2 rfl
  have d_xg1_3 : W4.frozen? ⟨xg1, 3, none⟩ = false := H4.out.free 1 3 rfl
  have d_xg1_4 : W4.frozen? ⟨xg1, 4, none⟩ = false := H4.out.free 1 4 rfl
  have d_xg1_5 : W4.frozen? ⟨xg1, 5, none⟩ = false := H4.out.free 1 5 rfl
  have d_xg1_6 : W4.frozen? ⟨xg1, 6, none⟩ = false := H4.out.free 1 6 rfl
  have d_xg1_7 : W4.frozen? ⟨xg1, 7, none⟩ = false := H4.out.free 1 7 rfl
  have d_xg1_8 : W4.frozen? ⟨xg1, 8, none⟩ = false := H4.out.free 1 8 rfl
  have d_xg2_0 : W4.frozen? ⟨xg2, 0, none⟩ = false := H4.out.free 0 0 rfl
  have d_xg2_1 : W4.frozen? ⟨xg2, 1, none⟩ = false := H4.out.free 0 1 rfl
  have d_xg2_2 : W4.frozen? ⟨xg2, 2, none⟩ = false := H4.out.free 0 2 rfl
  have ne_xg1_xg2 : ¬ xg1 = xg2 := H4.out.ne 1 0 rfl rfl (by decide)
  have ne_xg2_xg1 : ¬ xg2 = xg1 := H4.out.ne 0 1 rfl rfl (by decide)
  go_wp2
  clear c_xg1_0 c_xg1_1 c_xg1_2 c_xg1_3 c_xg1_4 c_xg1_5 c_xg1_6 c_xg1_7 c_xg1_8 c_xg2_0 c_xg2_1 c_xg2_2 d_xg1_0 d_xg1_1 d_xg1_2 d_xg1_3 d_xg1_4 d_xg1_5 d_xg1_6 d_xg1_7 d_xg1_8 d_xg2_0 d_xg2_1 d_xg2_2 ne_xg1_xg2 ne_xg2_xg1
  have H5 : Hid (Own w [(xg2, 29, #[.slice none 0 0, .bool false, .slice none 0 0]), (xg1, 26, #[.int .i64 0, .string ⟨#[]⟩, .string ⟨#[]⟩, .int .i64 0, .int .i64 0, .int .i64 0, .int .i64 0, .int .i64 0, .int .i64 0])] ((((((((((((W4.setCell ⟨xg1, 0, none⟩ (.int .i64 0)).setCell ⟨xg1, 1, none⟩ (.string ⟨#[]⟩)).setCell ⟨xg1, 2, none⟩ (.string ⟨#[]⟩)).setCell ⟨xg1, 3, none⟩ (.int .i64 0)).setCell ⟨xg1, 4, none⟩ (.int .i64 0)).setCell ⟨xg1, 5, none⟩ (.int .i64 0)).setCell ⟨xg1, 6, none⟩ (.int .i64 0)).setCell ⟨xg1, 7, none⟩ (.int .i64 0)).setCell ⟨xg1, 8, none⟩ (.int .i64 0)).setCell ⟨xg2, 0, none⟩ (.slice none 0 0)).setCell ⟨xg2, 1, none⟩ (.bool false)).setCell ⟨xg2, 2, none⟩ (.slice none 0 0))) := Lib.hid (by
    have k0 := H4.out
    have k1 := Own.lay k0 [.int .i64 0, .string ⟨#[]⟩, .string ⟨#[]⟩, .int .i64 0, .int .i64 0, .int .i64 0, .int .i64 0, .int .i64 0, .int .i64 0] 0 1 #[.int .i64 0, .string ⟨#[]⟩, .string ⟨#[]⟩, .int .i64 0, .int .i64 0, .int .i64 0, .int .i64 0, .int .i64 0, .int .i64 0] rfl (by kernel_rfl)
    have k2 := Own.lay k1 [.slice none 0 0, .bool false, .slice none 0 0] 0 0 #[.slice none 0 0, .bool false, .slice none 0 0] rfl (by kernel_rfl)
    exact k2.cast (by kernel_rfl) (by kernel_rfl))
  exact bodyPost_ret (res_cct rfl (H5.out.at 1 rfl) Tryd.underlying26 (by kernel_rfl) rfl (H5.out.at 0 rfl) Tryd.underlying29 (by kernel_rfl) rfl rfl rfl rfl) rfl ⟨rfl, H5.out.pick [] (by decide)⟩
end Go.Proofs.YtpjkbamkaicoiaaDoor.Ses
end

section
/- session's functions, some of their ways. (Printed by a program, by wc.py.) -/
set_option linter.unusedVariables false
set_option linter.unusedSimpArgs false
set_option maxRecDepth 100000
namespace Go.Proofs.YtpjkbamkaicoiaaDoor.Ses
open Go.RowKit U
set_option maxHeartbeats 4000000 in
theorem take_key (n pw : ByteArray) (st tm ct he sa cd : Int) (data D : ByteArray) (hD : ∀ w, Calls Tryd.prog 27 #[.string data, .string pw, .string tailS] w fun e w' => e = .returned (.string D) ∧ Below w.heap.size w w') (w : World) : Calls Tryd.prog 22 #[.agg #[.int .i64 1, .string n, .string pw, .int .i64 st, .int .i64 tm, .int .i64 ct, .int .i64 he, .int .i64 sa, .int .i64 cd], .agg #[.int .i64 6, .string ⟨#[]⟩, .string ⟨#[]⟩, .string data, .int .i64 0, .int .i64 0, .int .i64 0, .int .i64 0, .bool false, .slice none 0 0, .slice none 0 0]] w fun e w' => e = .returned (.agg #[.int .i64 2, .string n, .string pw, .int .i64 st, .int .i64 tm, .int .i64 ct, .int .i64 0, .int .i64 0, .int .i64 cd]) ∧ Own w [] w' := by
  have HD := Lib.hid hD
  have H0 := Lib.hid (Own.start w)
  go_enter Tryd.func22, Tryd.ntmps22
  obtain ⟨xg1, hxg1⟩ : ∃ g, g = w.heap.size := ⟨_, rfl⟩
  obtain ⟨xg2, hxg2⟩ : ∃ g, g = w.heap.size + 1 := ⟨_, rfl⟩
  obtain ⟨xg3, hxg3⟩ : ∃ g, g = w.heap.size + 1 + 1 := ⟨_, rfl⟩
  go_wp2_with fail
  have H1' : Hid (Own w [(xg3, 26, #[.int .i64 0, .string ⟨#[]⟩, .string ⟨#[]⟩, .int .i64 0, .int .i64 0, .int .i64 0, .int .i64 0, .int .i64 0, .int .i64 0]), (xg2, 37, #[.int .i64 6, .string ⟨#[]⟩, .string ⟨#[]⟩, .string data, .int .i64 0, .int .i64 0, .int .i64 0, .int .i64 0, .bool false, .slice none 0 0, .slice none 0 0]), (xg1, 26, #[.int .i64 1, .string n, .string pw, .int .i64 st, .int .i64 tm, .int .i64 ct, .int .i64 he, .int .i64 sa, .int .i64 cd])] (((w.alloc (.cells #[.int .i64 1, .string n, .string pw, .int .i64 st, .int .i64 tm, .int .i64 ct, .int .i64 he, .int .i64 sa, .int .i64 cd] 26)).alloc (.cells #[.int .i64 6, .string ⟨#[]⟩, .string ⟨#[]⟩, .string data, .int .i64 0, .int .i64 0, .int .i64 0, .int .i64 0, .bool false, .slice none 0 0, .slice none 0 0] 37)).alloc (.cells #[.int .i64 0, .string ⟨#[]⟩, .string ⟨#[]⟩, .int .i64 0, .int .i64 0, .int .i64 0, .int .i64 0, .int .i64 0, .int .i64 0] 26))) := Lib.hid (by
    have k0 := H0.out
    have k1 := Own.alloc (g := xg1) k0 26 #[.int .i64 1, .string n, .string pw, .int .i64 st, .int .i64 tm, .int .i64 ct, .int .i64 he, .int .i64 sa, .int .i64 cd] (by first | exact hxg1 | (rw [hxg1]; simp [U.fillW_size]))
    have k2 := Own.alloc (g := xg2) k1 37 #[.int .i64 6, .string ⟨#[]⟩, .string ⟨#[]⟩, .string data, .int .i64 0, .int .i64 0, .int .i64 0, .int .i64 0, .bool false, .slice none 0 0, .slice none 0 0] (by first | exact hxg2 | (rw [hxg2]; simp [U.fillW_size]))
    have k3 := Own.alloc (g := xg3) k2 26 #[.int .i64 0, .string ⟨#[]⟩, .string ⟨#[]⟩, .int .i64 0, .int .i64 0, .int .i64 0, .int .i64 0, .int .i64 0, .int .i64 0] (by first | exact hxg3 | (rw [hxg3]; simp [U.fillW_size]))
    exact k3.cast (by kernel_rfl) (by kernel_rfl))
  rw [← hxg3]
  rw [← hxg2]
  rw [← hxg1]
  refine calls_own H1'.out (fun W1 hW => ?_)
  have H1 := Lib.hid hW
  clear hW H1' H0 hxg1 hxg2 hxg3
  refine ((Take_key n pw st tm ct he sa cd data D HD.out) _).mono ?_
  rintro e W2 ⟨xr4, rfl, hn⟩
  have H2 := Lib.hid (H1.out.call hn)
  clear hn H1
  obtain ⟨xg5, hxg5⟩ : ∃ g, g = W2.heap.size := ⟨_, rfl⟩
  obtain ⟨xg6, hxg6⟩ : ∃ g, g = W2.heap.size + 1 := ⟨_, rfl⟩
  have nn_xg3_xg5 : ¬ xg3 = W2.heap.size := by have := H2.out.lt 1 rfl; omega
  have nm_xg3_xg5 : ¬ W2.heap.size = xg3 := by have := H2.out.lt 1 rfl; omega
  have nn_xg3_xg6 : ¬ xg3 = W2.heap.size + 1 := by have := H2.out.lt 1 rfl; omega
  have nm_xg3_xg6 : ¬ W2.heap.size + 1 = xg3 := by have := H2.out.lt 1 rfl; omega
  have G3 : Hid (Own w [(xg6, 29, #[.slice (some ⟨xr4, 0, none⟩) 1 1, .bool false, .slice none 0 0]), (xg5, 26, #[.int .i64 2, .string n, .string pw, .int .i64 st, .int .i64 tm, .int .i64 ct, .int .i64 0, .int .i64 0, .int .i64 cd]), (xr4, 37, #[.int .i64 7, .string n, .string ⟨#[]⟩, .string D, .int .i64 0, .int .i64 0, .int .i64 0, .int .i64 0, .bool false, .slice none 0 0, .slice none 0 0]), (xg3, 26, #[.int .i64 0, .string ⟨#[]⟩, .string ⟨#[]⟩, .int .i64 0, .int .i64 0, .int .i64 0, .int .i64 0, .int .i64 0, .int .i64 0]), (xg2, 37, #[.int .i64 6, .string ⟨#[]⟩, .string ⟨#[]⟩, .string data, .int .i64 0, .int .i64 0, .int .i64 0, .int .i64 0, .bool false, .slice none 0 0, .slice none 0 0]), (xg1, 26, #[.int .i64 1, .string n, .string pw, .int .i64 st, .int .i64 tm, .int .i64 ct, .int .i64 he, .int .i64 sa, .int .i64 cd])] ((W2.alloc (.cells #[.int .i64 2, .string n, .string pw, .int .i64 st, .int .i64 tm, .int .i64 ct, .int .i64 0, .int .i64 0, .int .i64 cd] 26)).alloc (.cells #[.slice (some ⟨xr4, 0, none⟩) 1 1, .bool false, .slice none 0 0] 29))) := Lib.hid (by
    have k0 := H2.out
    have k1 := Own.alloc (g := xg5) k0 26 #[.int .i64 2, .string n, .string pw, .int .i64 st, .int .i64 tm, .int .i64 ct, .int .i64 0, .int .i64 0, .int .i64 cd] (by first | exact hxg5 | (rw [hxg5]; simp [U.fillW_size]))
    have k2 := Own.alloc (g := xg6) k1 29 #[.slice (some ⟨xr4, 0, none⟩) 1 1, .bool false, .slice none 0 0] (by first | exact hxg6 | (rw [hxg6]; simp [U.fillW_size]))
    exact k2.cast (by kernel_rfl) (by kernel_rfl))
  have c0__xg3_0 : (_ : Option Value) = some (.int .i64 0) := G3.out.cell 3 0 rfl rfl
  have c0__xg3_1 : (_ : Option Value) = some (.string ⟨#[]⟩) := G3.out.cell 3 1 rfl rfl
  have c0__xg3_2 : (_ : Option Value) = some (.string ⟨#[]⟩) := G3.out.cell 3 2 rfl rfl
  have c0__xg3_3 : (_ : Option Value) = some (.int .i64 0) := G3.out.cell 3 3 rfl rfl
  have c0__xg3_4 : (_ : Option Value) = some (.int .i64 0) := G3.out.cell 3 4 rfl rfl
  have c0__xg3_5 : (_ : Option Value) = some (.int .i64 0) := G3.out.cell 3 5 rfl rfl
  have c0__xg3_6 : (_ : Option Value) = some (.int .i64 0) := G3.out.cell 3 6 rfl rfl
  have c0__xg3_7 : (_ : Option Value) = some (.int .i64 0) := G3.out.cell 3 7 rfl rfl
  have c0__xg3_8 : (_ : Option Value) = some (.int .i64 0) := G3.out.cell 3 8 rfl rfl
  have d0__xg3_0 : (_ : Bool) = false := G3.out.free 3 0 rfl
  have d0__xg3_1 : (_ : Bool) = false := G3.out.free 3 1 rfl
  have d0__xg3_2 : (_ : Bool) = false := G3.out.free 3 2 rfl
  have d0__xg3_3 : (_ : Bool) = false := G3.out.free 3 3 rfl
  have d0__xg3_4 : (_ : Bool) = false := G3.out.free 3 4 rfl
  have d0__xg3_5 : (_ : Bool) = false := G3.out.free 3 5 rfl
  have d0__xg3_6 : (_ : Bool) = false := G3.out.free 3 6 rfl
  have d0__xg3_7 : (_ : Bool) = false := G3.out.free 3 7 rfl
  have d0__xg3_8 : (_ : Bool) = false := G3.out.free 3 8 rfl
  go_wp2
  clear nn_xg3_xg5 nm_xg3_xg5 nn_xg3_xg6 nm_xg3_xg6 G3 c0__xg3_0 c0__xg3_1 c0__xg3_2 c0__xg3_3 c0__xg3_4 c0__xg3_5 c0__xg3_6 c0__xg3_7 c0__xg3_8 d0__xg3_0 d0__xg3_1 d0__xg3_2 d0__xg3_3 d0__xg3_4 d0__xg3_5 d0__xg3_6 d0__xg3_7 d0__xg3_8
  have H4 : Hid (Own w [(xg6, 29, #[.slice (some ⟨xr4, 0, none⟩) 1 1, .bool false, .slice none 0 0]), (xg5, 26, #[.int .i64 2, .string n, .string pw, .int .i64 st, .int .i64 tm, .int .i64 ct, .int .i64 0, .int .i64 0, .int .i64 cd]), (xr4, 37, #[.int .i64 7, .string n, .string ⟨#[]⟩, .string D, .int .i64 0, .int .i64 0, .int .i64 0, .int .i64 0, .bool false, .slice none 0 0, .slice none 0 0]), (xg3, 26, #[.int .i64 2, .string n, .string pw, .int .i64 st, .int .i64 tm, .int .i64 ct, .int .i64 0, .int .i64 0, .int .i64 cd]), (xg2, 37, #[.int .i64 6, .string ⟨#[]⟩, .string ⟨#[]⟩, .string data, .int .i64 0, .int .i64 0, .int .i64 0, .int .i64 0, .bool false, .slice none 0 0, .slice none 0 0]), (xg1, 26, #[.int .i64 1, .string n, .string pw, .int .i64 st, .int .i64 tm, .int .i64 ct, .int .i64 he, .int .i64 sa, .int .i64 cd])] (((((((((((W2.alloc (.cells #[.int .i64 2, .string n, .string pw, .int .i64 st, .int .i64 tm, .int .i64 ct, .int .i64 0, .int .i64 0, .int .i64 cd] 26)).alloc (.cells #[.slice (some ⟨xr4, 0, none⟩) 1 1, .bool false, .slice none 0 0] 29)).setCell ⟨xg3, 0, none⟩ (.int .i64 2)).setCell ⟨xg3, 1, none⟩ (.string n)).setCell ⟨xg3, 2, none⟩ (.string pw)).setCell ⟨xg3, 3, none⟩ (.int .i64 st)).setCell ⟨xg3, 4, none⟩ (.int .i64 tm)).setCell ⟨xg3, 5, none⟩ (.int .i64 ct)).setCell ⟨xg3, 6, none⟩ (.int .i64 0)).setCell ⟨xg3, 7, none⟩ (.int .i64 0)).setCell ⟨xg3, 8, none⟩ (.int .i64 cd))) := Lib.hid (by
    have k0 := H2.out
    have k1 := Own.alloc (g := xg5) k0 26 #[.int .i64 2, .string n, .string pw, .int .i64 st, .int .i64 tm, .int .i64 ct, .int .i64 0, .int .i64 0, .int .i64 cd] (by first | exact hxg5 | (rw [hxg5]; simp [U.fillW_size]))
    have k2 := Own.alloc (g := xg6) k1 29 #[.slice (some ⟨xr4, 0, none⟩) 1 1, .bool false, .slice none 0 0] (by first | exact hxg6 | (rw [hxg6]; simp [U.fillW_size]))
    have k3 := Own.lay k2 [.int .i64 2, .string n, .string pw, .int .i64 st, .int .i64 tm, .int .i64 ct, .int .i64 0, .int .i64 0, .int .i64 cd] 0 3 #[.int .i64 2, .string n, .string pw, .int .i64 st, .int .i64 tm, .int .i64 ct, .int .i64 0, .int .i64 0, .int .i64 cd] rfl (by kernel_rfl)
    exact k3.cast (by kernel_rfl) (by kernel_rfl))
  rw [← hxg6]
  rw [← hxg5]
  exact bodyPost_ret (res_c rfl (H4.out.at 3 rfl) Tryd.underlying26 (by kernel_rfl) rfl rfl) rfl ⟨rfl, H4.out.pick [] (by decide)⟩
set_option maxHeartbeats 8000000 in
theorem live_of (D : ByteArray) (hD : ∀ w, Calls Tryd.prog 27 #[.string ⟨#[107]⟩, .string ⟨#[112]⟩, .string tailS] w fun e w' => e = .returned (.string D) ∧ Below w.heap.size w w') (hG : ∀ w, Calls Tryd.prog 39 #[.string ⟨#[112]⟩] w fun e w' => e = .returned (.int .i64 0) ∧ Below w.heap.size w w') (hC : ∀ w, Calls Tryd.prog 40 #[.string ⟨#[106, 111, 101]⟩] w fun e w' => e = .returned (.int .i64 0) ∧ Below w.heap.size w w') (hE : ∀ w, Calls Tryd.prog 40 #[.string ⟨#[]⟩] w fun e w' => e = .returned (.int .i64 40) ∧ Below w.heap.size w w') (hS : ∀ w, Calls Tryd.prog 28 #[.string ⟨#[74, 111, 101]⟩, .string ⟨#[106, 111, 101]⟩] w fun e w' => e = .returned (.bool true) ∧ Below w.heap.size w w') (w : World) : Calls Tryd.prog 8 #[] w fun e w' => e = .returned (.bool true) ∧ Own w [] w' := by
  have HD := Lib.hid hD
  have HG := Lib.hid hG
  have HC := Lib.hid hC
  have HE := Lib.hid hE
  have HS := Lib.hid hS
  have H0 := Lib.hid (Own.start w)
  go_enter Tryd.func8, Tryd.ntmps8
  go_wp2_with fail
  have H1' := H0
  refine calls_own H1'.out (fun W1 hW => ?_)
  have H1 := Lib.hid hW
  clear hW H1' H0 
  refine ((Start_ok (⟨#[106, 111, 101]⟩) (⟨#[112]⟩) 0 0 0 (by kernel_rfl) (by decide) (by omega) (by omega) (by omega) (by omega) (by omega) (by omega) HG.out HC.out) _).mono ?_
  rintro e W2 ⟨xr1, rfl, hn⟩
  have H2 := Lib.hid (H1.out.call hn)
  clear hn H1
  obtain ⟨xg2, hxg2⟩ : ∃ g, g = W2.heap.size := ⟨_, rfl⟩
  obtain ⟨xg3, hxg3⟩ : ∃ g, g = W2.heap.size + 1 := ⟨_, rfl⟩
  go_wp2_with fail
  have H3' : Hid (Own w [(xg3, 29, #[.slice (some ⟨xr1, 0, none⟩) 2 2, .bool true, .slice none 0 0]), (xg2, 26, #[.int .i64 1, .string ⟨#[106, 111, 101]⟩, .string ⟨#[112]⟩, .int .i64 0, .int .i64 0, .int .i64 0, .int .i64 0, .int .i64 0, .int .i64 0]), (xr1, 37, #[.int .i64 1, .string ⟨#[]⟩, .string ⟨#[]⟩, .string ⟨#[]⟩, .int .i64 0, .int .i64 0, .int .i64 0, .int .i64 0, .bool false, .slice none 0 0, .slice none 0 0, .int .i64 5, .string ⟨#[106, 111, 101]⟩, .string ⟨#[]⟩, .string ⟨#[]⟩, .int .i64 0, .int .i64 0, .int .i64 0, .int .i64 0, .bool false, .slice none 0 0, .slice none 0 0])] ((W2.alloc (.cells #[.int .i64 1, .string ⟨#[106, 111, 101]⟩, .string ⟨#[112]⟩, .int .i64 0, .int .i64 0, .int .i64 0, .int .i64 0, .int .i64 0, .int .i64 0] 26)).alloc (.cells #[.slice (some ⟨xr1, 0, none⟩) 2 2, .bool true, .slice none 0 0] 29))) := Lib.hid (by
    have k0 := H2.out
    have k1 := Own.alloc (g := xg2) k0 26 #[.int .i64 1, .string ⟨#[106, 111, 101]⟩, .string ⟨#[112]⟩, .int .i64 0, .int .i64 0, .int .i64 0, .int .i64 0, .int .i64 0, .int .i64 0] (by first | exact hxg2 | (rw [hxg2]; simp [U.fillW_size]))
    have k2 := Own.alloc (g := xg3) k1 29 #[.slice (some ⟨xr1, 0, none⟩) 2 2, .bool true, .slice none 0 0] (by first | exact hxg3 | (rw [hxg3]; simp [U.fillW_size]))
    exact k2.cast (by kernel_rfl) (by kernel_rfl))
  rw [← hxg3]
  rw [← hxg2]
  refine calls_own H3'.out (fun W3 hW => ?_)
  have H3 := Lib.hid hW
  clear hW H3' H2 hxg2 hxg3
  refine ((take_key (⟨#[106, 111, 101]⟩) (⟨#[112]⟩) 0 0 0 0 0 0 (⟨#[107]⟩) D HD.out) _).mono ?_
  rintro e W4 ⟨rfl, hn⟩
  have H4 := Lib.hid (H3.out.call hn)
  clear hn H3
  have c_xg2_0 : W4.cell? ⟨xg2, 0, none⟩ = some (.int .i64 1) := H4.out.cell 1 0 rfl rfl
  have c_xg2_1 : W4.cell? ⟨xg2, 1, none⟩ = some (.string ⟨#[106, 111, 101]⟩) := H4.out.cell 1 1 rfl rfl
  have c_xg2_2 : W4.cell? ⟨xg2, 2, none⟩ = some (.string ⟨#[112]⟩) := H4.out.cell 1 2 rfl rfl
  have c_xg2_3 : W4.cell? ⟨xg2, 3, none⟩ = some (.int .i64 0) := H4.out.cell 1 3 rfl rfl
  have c_xg2_4 : W4.cell? ⟨xg2, 4, none⟩ = some (.int .i64 0) := H4.out.cell 1 4 rfl rfl
  have c_xg2_5 : W4.cell? ⟨xg2, 5, none⟩ = some (.int .i64 0) := H4.out.cell 1 5 rfl rfl
  have c_xg2_6 : W4.cell? ⟨xg2, 6, none⟩ = some (.int .i64 0) := H4.out.cell 1 6 rfl rfl
  have c_xg2_7 : W4.cell? ⟨xg2, 7, none⟩ = some (.int .i64 0) := H4.out.cell 1 7 rfl rfl
  have c_xg2_8 : W4.cell? ⟨xg2, 8, none⟩ = some (.int .i64 0) := H4.out.cell 1 8 rfl rfl
  have d_xg2_0 : W4.frozen? ⟨xg2, 0, none⟩ = false := H4.out.free 1 0 rfl
  have d_xg2_1 : W4.frozen? ⟨xg2, 1, none⟩ = false := H4.out.free 1 1 rfl
  have d_xg2_2 : W4.frozen? ⟨xg2, 2, none⟩ = false := H4.out.free 1 2 rfl
  have d_xg2_3 : W4.frozen? ⟨xg2, 3, none⟩ = false := H4.out.free 1 3 rfl
  have d_xg2_4 : W4.frozen? ⟨xg2, 4, none⟩ = false := H4.out.free 1 4 rfl
  have d_xg2_5 : W4.frozen? ⟨xg2, 5, none⟩ = false := H4.out.free 1 5 rfl
  have d_xg2_6 : W4.frozen? ⟨xg2, 6, none⟩ = false := H4.out.free 1 6 rfl
  have d_xg2_7 : W4.frozen? ⟨xg2, 7, none⟩ = false := H4.out.free 1 7 rfl
  have d_xg2_8 : W4.frozen? ⟨xg2, 8, none⟩ = false := H4.out.free 1 8 rfl
  go_wp2_with fail
  clear c_xg2_0 c_xg2_1 c_xg2_2 c_xg2_3 c_xg2_4 c_xg2_5 c_xg2_6 c_xg2_7 c_xg2_8 d_xg2_0 d_xg2_1 d_xg2_2 d_xg2_3 d_xg2_4 d_xg2_5 d_xg2_6 d_xg2_7 d_xg2_8
  have H5' : Hid (Own w [(xg3, 29, #[.slice (some ⟨xr1, 0, none⟩) 2 2, .bool true, .slice none 0 0]), (xg2, 26, #[.int .i64 2, .string ⟨#[106, 111, 101]⟩, .string ⟨#[112]⟩, .int .i64 0, .int .i64 0, .int .i64 0, .int .i64 0, .int .i64 0, .int .i64 0]), (xr1, 37, #[.int .i64 1, .string ⟨#[]⟩, .string ⟨#[]⟩, .string ⟨#[]⟩, .int .i64 0, .int .i64 0, .int .i64 0, .int .i64 0, .bool false, .slice none 0 0, .slice none 0 0, .int .i64 5, .string ⟨#[106, 111, 101]⟩, .string ⟨#[]⟩, .string ⟨#[]⟩, .int .i64 0, .int .i64 0, .int .i64 0, .int .i64 0, .bool false, .slice none 0 0, .slice none 0 0])] (((((((((W4.setCell ⟨xg2, 0, none⟩ (.int .i64 2)).setCell ⟨xg2, 1, none⟩ (.string ⟨#[106, 111, 101]⟩)).setCell ⟨xg2, 2, none⟩ (.string ⟨#[112]⟩)).setCell ⟨xg2, 3, none⟩ (.int .i64 0)).setCell ⟨xg2, 4, none⟩ (.int .i64 0)).setCell ⟨xg2, 5, none⟩ (.int .i64 0)).setCell ⟨xg2, 6, none⟩ (.int .i64 0)).setCell ⟨xg2, 7, none⟩ (.int .i64 0)).setCell ⟨xg2, 8, none⟩ (.int .i64 0))) := Lib.hid (by
    have k0 := H4.out
    have k1 := Own.lay k0 [.int .i64 2, .string ⟨#[106, 111, 101]⟩, .string ⟨#[112]⟩, .int .i64 0, .int .i64 0, .int .i64 0, .int .i64 0, .int .i64 0, .int .i64 0] 0 1 #[.int .i64 2, .string ⟨#[106, 111, 101]⟩, .string ⟨#[112]⟩, .int .i64 0, .int .i64 0, .int .i64 0, .int .i64 0, .int .i64 0, .int .i64 0] rfl (by kernel_rfl)
    exact k1.cast (by kernel_rfl) (by kernel_rfl))
  refine calls_own H5'.out (fun W5 hW => ?_)
  have H5 := Lib.hid hW
  clear hW H5' H4 
  refine ((Take_let (⟨#[106, 111, 101]⟩) (⟨#[112]⟩) 0 0 0 0 0 0 (⟨#[74, 111, 101]⟩) (⟨#[]⟩) (⟨#[99]⟩) 0 0 0 false none 0 0 none 0 0 HS.out) _).mono ?_
  rintro e W6 ⟨xr4, rfl, hn⟩
  have H6 := Lib.hid (H5.out.call hn)
  clear hn H5
  obtain ⟨xg5, hxg5⟩ : ∃ g, g = W6.heap.size := ⟨_, rfl⟩
  have nn_xg2_xg5 : ¬ xg2 = W6.heap.size := by have := H6.out.lt 2 rfl; omega
  have nm_xg2_xg5 : ¬ W6.heap.size = xg2 := by have := H6.out.lt 2 rfl; omega
  have G7 : Hid (Own w [(xg5, 29, #[.slice none 0 0, .bool false, .slice none 0 0]), (xr4, 37, #[.int .i64 2, .string ⟨#[]⟩, .string ⟨#[]⟩, .string ⟨#[99]⟩, .int .i64 0, .int .i64 0, .int .i64 0, .int .i64 0, .bool false, .slice none 0 0, .slice none 0 0]), (xg3, 29, #[.slice (some ⟨xr1, 0, none⟩) 2 2, .bool true, .slice none 0 0]), (xg2, 26, #[.int .i64 2, .string ⟨#[106, 111, 101]⟩, .string ⟨#[112]⟩, .int .i64 0, .int .i64 0, .int .i64 0, .int .i64 0, .int .i64 0, .int .i64 0]), (xr1, 37, #[.int .i64 1, .string ⟨#[]⟩, .string ⟨#[]⟩, .string ⟨#[]⟩, .int .i64 0, .int .i64 0, .int .i64 0, .int .i64 0, .bool false, .slice none 0 0, .slice none 0 0, .int .i64 5, .string ⟨#[106, 111, 101]⟩, .string ⟨#[]⟩, .string ⟨#[]⟩, .int .i64 0, .int .i64 0, .int .i64 0, .int .i64 0, .bool false, .slice none 0 0, .slice none 0 0])] (W6.alloc (.cells #[.slice none 0 0, .bool false, .slice none 0 0] 29))) := Lib.hid (by
    have k0 := H6.out
    have k1 := Own.alloc (g := xg5) k0 29 #[.slice none 0 0, .bool false, .slice none 0 0] (by first | exact hxg5 | (rw [hxg5]; simp [U.fillW_size]))
    exact k1.cast (by kernel_rfl) (by kernel_rfl))
  have c0__xg2_0 : (_ : Option Value) = some (.int .i64 2) := G7.out.cell 3 0 rfl rfl
  have c0__xg2_1 : (_ : Option Value) = some (.string ⟨#[106, 111, 101]⟩) := G7.out.cell 3 1 rfl rfl
  have c0__xg2_2 : (_ : Option Value) = some (.string ⟨#[112]⟩) := G7.out.cell 3 2 rfl rfl
  have c0__xg2_3 : (_ : Option Value) = some (.int .i64 0) := G7.out.cell 3 3 rfl rfl
  have c0__xg2_4 : (_ : Option Value) = some (.int .i64 0) := G7.out.cell 3 4 rfl rfl
  have c0__xg2_5 : (_ : Option Value) = some (.int .i64 0) := G7.out.cell 3 5 rfl rfl
  have c0__xg2_6 : (_ : Option Value) = some (.int .i64 0) := G7.out.cell 3 6 rfl rfl
  have c0__xg2_7 : (_ : Option Value) = some (.int .i64 0) := G7.out.cell 3 7 rfl rfl
  have c0__xg2_8 : (_ : Option Value) = some (.int .i64 0) := G7.out.cell 3 8 rfl rfl
  have d0__xg2_0 : (_ : Bool) = false := G7.out.free 3 0 rfl
  have d0__xg2_1 : (_ : Bool) = false := G7.out.free 3 1 rfl
  have d0__xg2_2 : (_ : Bool) = false := G7.out.free 3 2 rfl
  have d0__xg2_3 : (_ : Bool) = false := G7.out.free 3 3 rfl
  have d0__xg2_4 : (_ : Bool) = false := G7.out.free 3 4 rfl
  have d0__xg2_5 : (_ : Bool) = false := G7.out.free 3 5 rfl
  have d0__xg2_6 : (_ : Bool) = false := G7.out.free 3 6 rfl
  have d0__xg2_7 : (_ : Bool) = false := G7.out.free 3 7 rfl
  have d0__xg2_8 : (_ : Bool) = false := G7.out.free 3 8 rfl
  go_wp2_with fail
  clear nn_xg2_xg5 nm_xg2_xg5 G7 c0__xg2_0 c0__xg2_1 c0__xg2_2 c0__xg2_3 c0__xg2_4 c0__xg2_5 c0__xg2_6 c0__xg2_7 c0__xg2_8 d0__xg2_0 d0__xg2_1 d0__xg2_2 d0__xg2_3 d0__xg2_4 d0__xg2_5 d0__xg2_6 d0__xg2_7 d0__xg2_8
  have H8' : Hid (Own w [(xg5, 29, #[.slice (some ⟨xr4, 0, none⟩) 1 1, .bool true, .slice none 0 0]), (xr4, 37, #[.int .i64 2, .string ⟨#[]⟩, .string ⟨#[]⟩, .string ⟨#[99]⟩, .int .i64 0, .int .i64 0, .int .i64 0, .int .i64 0, .bool false, .slice none 0 0, .slice none 0 0]), (xg3, 29, #[.slice (some ⟨xr1, 0, none⟩) 2 2, .bool true, .slice none 0 0]), (xg2, 26, #[.int .i64 3, .string ⟨#[106, 111, 101]⟩, .string ⟨#[112]⟩, .int .i64 0, .int .i64 0, .int .i64 0, .int .i64 0, .int .i64 0, .int .i64 0]), (xr1, 37, #[.int .i64 1, .string ⟨#[]⟩, .string ⟨#[]⟩, .string ⟨#[]⟩, .int .i64 0, .int .i64 0, .int .i64 0, .int .i64 0, .bool false, .slice none 0 0, .slice none 0 0, .int .i64 5, .string ⟨#[106, 111, 101]⟩, .string ⟨#[]⟩, .string ⟨#[]⟩, .int .i64 0, .int .i64 0, .int .i64 0, .int .i64 0, .bool false, .slice none 0 0, .slice none 0 0])] (((((((((((((W6.alloc (.cells #[.slice none 0 0, .bool false, .slice none 0 0] 29)).setCell ⟨xg2, 0, none⟩ (.int .i64 3)).setCell ⟨xg2, 1, none⟩ (.string ⟨#[106, 111, 101]⟩)).setCell ⟨xg2, 2, none⟩ (.string ⟨#[112]⟩)).setCell ⟨xg2, 3, none⟩ (.int .i64 0)).setCell ⟨xg2, 4, none⟩ (.int .i64 0)).setCell ⟨xg2, 5, none⟩ (.int .i64 0)).setCell ⟨xg2, 6, none⟩ (.int .i64 0)).setCell ⟨xg2, 7, none⟩ (.int .i64 0)).setCell ⟨xg2, 8, none⟩ (.int .i64 0)).setCell ⟨xg5, 0, none⟩ (.slice (some ⟨xr4, 0, none⟩) 1 1)).setCell ⟨xg5, 1, none⟩ (.bool true)).setCell ⟨xg5, 2, none⟩ (.slice none 0 0))) := Lib.hid (by
    have k0 := H6.out
    have k1 := Own.alloc (g := xg5) k0 29 #[.slice none 0 0, .bool false, .slice none 0 0] (by first | exact hxg5 | (rw [hxg5]; simp [U.fillW_size]))
    have k2 := Own.lay k1 [.int .i64 3, .string ⟨#[106, 111, 101]⟩, .string ⟨#[112]⟩, .int .i64 0, .int .i64 0, .int .i64 0, .int .i64 0, .int .i64 0, .int .i64 0] 0 3 #[.int .i64 3, .string ⟨#[106, 111, 101]⟩, .string ⟨#[112]⟩, .int .i64 0, .int .i64 0, .int .i64 0, .int .i64 0, .int .i64 0, .int .i64 0] rfl (by kernel_rfl)
    have k3 := Own.lay k2 [.slice (some ⟨xr4, 0, none⟩) 1 1, .bool true, .slice none 0 0] 0 0 #[.slice (some ⟨xr4, 0, none⟩) 1 1, .bool true, .slice none 0 0] rfl (by kernel_rfl)
    exact k3.cast (by kernel_rfl) (by kernel_rfl))
  rw [← hxg5]
  refine calls_own H8'.out (fun W8 hW => ?_)
  have H8 := Lib.hid hW
  clear hW H8' H6 hxg5
  refine ((Take_host (⟨#[106, 111, 101]⟩) (⟨#[112]⟩) 0 0 0 0 0 0 (⟨#[]⟩) (⟨#[]⟩) (⟨#[]⟩) 0 0 0 0 false none 0 0 none 0 0) _).mono ?_
  rintro e W9 ⟨xr6, rfl, hn⟩
  have H9 := Lib.hid (H8.out.call hn)
  clear hn H8
  have c_xg2_0 : W9.cell? ⟨xg2, 0, none⟩ = some (.int .i64 3) := H9.out.cell 4 0 rfl rfl
  have c_xg2_1 : W9.cell? ⟨xg2, 1, none⟩ = some (.string ⟨#[106, 111, 101]⟩) := H9.out.cell 4 1 rfl rfl
  have c_xg2_2 : W9.cell? ⟨xg2, 2, none⟩ = some (.string ⟨#[112]⟩) := H9.out.cell 4 2 rfl rfl
  have c_xg2_3 : W9.cell? ⟨xg2, 3, none⟩ = some (.int .i64 0) := H9.out.cell 4 3 rfl rfl
  have c_xg2_4 : W9.cell? ⟨xg2, 4, none⟩ = some (.int .i64 0) := H9.out.cell 4 4 rfl rfl
  have c_xg2_5 : W9.cell? ⟨xg2, 5, none⟩ = some (.int .i64 0) := H9.out.cell 4 5 rfl rfl
  have c_xg2_6 : W9.cell? ⟨xg2, 6, none⟩ = some (.int .i64 0) := H9.out.cell 4 6 rfl rfl
  have c_xg2_7 : W9.cell? ⟨xg2, 7, none⟩ = some (.int .i64 0) := H9.out.cell 4 7 rfl rfl
  have c_xg2_8 : W9.cell? ⟨xg2, 8, none⟩ = some (.int .i64 0) := H9.out.cell 4 8 rfl rfl
  have d_xg2_0 : W9.frozen? ⟨xg2, 0, none⟩ = false := H9.out.free 4 0 rfl
  have d_xg2_1 : W9.frozen? ⟨xg2, 1, none⟩ = false := H9.out.free 4 1 rfl
  have d_xg2_2 : W9.frozen? ⟨xg2, 2, none⟩ = false := H9.out.free 4 2 rfl
  have d_xg2_3 : W9.frozen? ⟨xg2, 3, none⟩ = false := H9.out.free 4 3 rfl
  have d_xg2_4 : W9.frozen? ⟨xg2, 4, none⟩ = false := H9.out.free 4 4 rfl
  have d_xg2_5 : W9.frozen? ⟨xg2, 5, none⟩ = false := H9.out.free 4 5 rfl
  have d_xg2_6 : W9.frozen? ⟨xg2, 6, none⟩ = false := H9.out.free 4 6 rfl
  have d_xg2_7 : W9.frozen? ⟨xg2, 7, none⟩ = false := H9.out.free 4 7 rfl
  have d_xg2_8 : W9.frozen? ⟨xg2, 8, none⟩ = false := H9.out.free 4 8 rfl
  go_wp2_with fail
  clear c_xg2_0 c_xg2_1 c_xg2_2 c_xg2_3 c_xg2_4 c_xg2_5 c_xg2_6 c_xg2_7 c_xg2_8 d_xg2_0 d_xg2_1 d_xg2_2 d_xg2_3 d_xg2_4 d_xg2_5 d_xg2_6 d_xg2_7 d_xg2_8
  have H10' : Hid (Own w [(xr6, 37, #[.int .i64 17, .string ⟨#[]⟩, .string ⟨#[]⟩, .string ⟨#[]⟩, .int .i64 0, .int .i64 0, .int .i64 0, .int .i64 0, .bool false, .slice none 0 0, .slice none 0 0]), (xg5, 29, #[.slice (some ⟨xr4, 0, none⟩) 1 1, .bool true, .slice none 0 0]), (xr4, 37, #[.int .i64 2, .string ⟨#[]⟩, .string ⟨#[]⟩, .string ⟨#[99]⟩, .int .i64 0, .int .i64 0, .int .i64 0, .int .i64 0, .bool false, .slice none 0 0, .slice none 0 0]), (xg3, 29, #[.slice (some ⟨xr1, 0, none⟩) 2 2, .bool true, .slice none 0 0]), (xg2, 26, #[.int .i64 4, .string ⟨#[106, 111, 101]⟩, .string ⟨#[112]⟩, .int .i64 0, .int .i64 0, .int .i64 0, .int .i64 0, .int .i64 0, .int .i64 0]), (xr1, 37, #[.int .i64 1, .string ⟨#[]⟩, .string ⟨#[]⟩, .string ⟨#[]⟩, .int .i64 0, .int .i64 0, .int .i64 0, .int .i64 0, .bool false, .slice none 0 0, .slice none 0 0, .int .i64 5, .string ⟨#[106, 111, 101]⟩, .string ⟨#[]⟩, .string ⟨#[]⟩, .int .i64 0, .int .i64 0, .int .i64 0, .int .i64 0, .bool false, .slice none 0 0, .slice none 0 0])] (((((((((W9.setCell ⟨xg2, 0, none⟩ (.int .i64 4)).setCell ⟨xg2, 1, none⟩ (.string ⟨#[106, 111, 101]⟩)).setCell ⟨xg2, 2, none⟩ (.string ⟨#[112]⟩)).setCell ⟨xg2, 3, none⟩ (.int .i64 0)).setCell ⟨xg2, 4, none⟩ (.int .i64 0)).setCell ⟨xg2, 5, none⟩ (.int .i64 0)).setCell ⟨xg2, 6, none⟩ (.int .i64 0)).setCell ⟨xg2, 7, none⟩ (.int .i64 0)).setCell ⟨xg2, 8, none⟩ (.int .i64 0))) := Lib.hid (by
    have k0 := H9.out
    have k1 := Own.lay k0 [.int .i64 4, .string ⟨#[106, 111, 101]⟩, .string ⟨#[112]⟩, .int .i64 0, .int .i64 0, .int .i64 0, .int .i64 0, .int .i64 0, .int .i64 0] 0 4 #[.int .i64 4, .string ⟨#[106, 111, 101]⟩, .string ⟨#[112]⟩, .int .i64 0, .int .i64 0, .int .i64 0, .int .i64 0, .int .i64 0, .int .i64 0] rfl (by kernel_rfl)
    exact k1.cast (by kernel_rfl) (by kernel_rfl))
  refine calls_own H10'.out (fun W10 hW => ?_)
  have H10 := Lib.hid hW
  clear hW H10' H9 
  refine ((Take_same (⟨#[106, 111, 101]⟩) (⟨#[112]⟩) 0 0 0 0 0 0 (⟨#[]⟩) (⟨#[]⟩) (⟨#[]⟩) 0 0 0 0 false none 0 0 none 0 0) _).mono ?_
  rintro e W11 ⟨xr7, xr8, rfl, hn⟩
  have H11 := Lib.hid (H10.out.call hn)
  clear hn H10
  obtain ⟨xg9, hxg9⟩ : ∃ g, g = W11.heap.size := ⟨_, rfl⟩
  have nn_xg2_xg9 : ¬ xg2 = W11.heap.size := by have := H11.out.lt 6 rfl; omega
  have nm_xg2_xg9 : ¬ W11.heap.size = xg2 := by have := H11.out.lt 6 rfl; omega
  have G12 : Hid (Own w [(xg9, 29, #[.slice none 0 0, .bool false, .slice none 0 0]), (xr7, 37, #[.int .i64 10, .string ⟨#[]⟩, .string ⟨#[]⟩, .string ⟨#[]⟩, .int .i64 0, .int .i64 0, .int .i64 0, .int .i64 0, .bool false, .slice none 0 0, .slice none 0 0, .int .i64 11, .string ⟨#[]⟩, .string ⟨#[]⟩, .string ⟨#[]⟩, .int .i64 0, .int .i64 0, .int .i64 0, .int .i64 0, .bool false, .slice none 0 0, .slice none 0 0]), (xr8, 37, #[.int .i64 19, .string ⟨#[]⟩, .string ⟨#[]⟩, .string ⟨#[]⟩, .int .i64 0, .int .i64 0, .int .i64 0, .int .i64 0, .bool false, .slice none 0 0, .slice none 0 0]), (xr6, 37, #[.int .i64 17, .string ⟨#[]⟩, .string ⟨#[]⟩, .string ⟨#[]⟩, .int .i64 0, .int .i64 0, .int .i64 0, .int .i64 0, .bool false, .slice none 0 0, .slice none 0 0]), (xg5, 29, #[.slice (some ⟨xr4, 0, none⟩) 1 1, .bool true, .slice none 0 0]), (xr4, 37, #[.int .i64 2, .string ⟨#[]⟩, .string ⟨#[]⟩, .string ⟨#[99]⟩, .int .i64 0, .int .i64 0, .int .i64 0, .int .i64 0, .bool false, .slice none 0 0, .slice none 0 0]), (xg3, 29, #[.slice (some ⟨xr1, 0, none⟩) 2 2, .bool true, .slice none 0 0]), (xg2, 26, #[.int .i64 4, .string ⟨#[106, 111, 101]⟩, .string ⟨#[112]⟩, .int .i64 0, .int .i64 0, .int .i64 0, .int .i64 0, .int .i64 0, .int .i64 0]), (xr1, 37, #[.int .i64 1, .string ⟨#[]⟩, .string ⟨#[]⟩, .string ⟨#[]⟩, .int .i64 0, .int .i64 0, .int .i64 0, .int .i64 0, .bool false, .slice none 0 0, .slice none 0 0, .int .i64 5, .string ⟨#[106, 111, 101]⟩, .string ⟨#[]⟩, .string ⟨#[]⟩, .int .i64 0, .int .i64 0, .int .i64 0, .int .i64 0, .bool false, .slice none 0 0, .slice none 0 0])] (W11.alloc (.cells #[.slice none 0 0, .bool false, .slice none 0 0] 29))) := Lib.hid (by
    have k0 := H11.out
    have k1 := Own.alloc (g := xg9) k0 29 #[.slice none 0 0, .bool false, .slice none 0 0] (by first | exact hxg9 | (rw [hxg9]; simp [U.fillW_size]))
    exact k1.cast (by kernel_rfl) (by kernel_rfl))
  have c0__xg2_0 : (_ : Option Value) = some (.int .i64 4) := G12.out.cell 7 0 rfl rfl
  have c0__xg2_1 : (_ : Option Value) = some (.string ⟨#[106, 111, 101]⟩) := G12.out.cell 7 1 rfl rfl
  have c0__xg2_2 : (_ : Option Value) = some (.string ⟨#[112]⟩) := G12.out.cell 7 2 rfl rfl
  have c0__xg2_3 : (_ : Option Value) = some (.int .i64 0) := G12.out.cell 7 3 rfl rfl
  have c0__xg2_4 : (_ : Option Value) = some (.int .i64 0) := G12.out.cell 7 4 rfl rfl
  have c0__xg2_5 : (_ : Option Value) = some (.int .i64 0) := G12.out.cell 7 5 rfl rfl
  have c0__xg2_6 : (_ : Option Value) = some (.int .i64 0) := G12.out.cell 7 6 rfl rfl
  have c0__xg2_7 : (_ : Option Value) = some (.int .i64 0) := G12.out.cell 7 7 rfl rfl
  have c0__xg2_8 : (_ : Option Value) = some (.int .i64 0) := G12.out.cell 7 8 rfl rfl
  have d0__xg2_0 : (_ : Bool) = false := G12.out.free 7 0 rfl
  have d0__xg2_1 : (_ : Bool) = false := G12.out.free 7 1 rfl
  have d0__xg2_2 : (_ : Bool) = false := G12.out.free 7 2 rfl
  have d0__xg2_3 : (_ : Bool) = false := G12.out.free 7 3 rfl
  have d0__xg2_4 : (_ : Bool) = false := G12.out.free 7 4 rfl
  have d0__xg2_5 : (_ : Bool) = false := G12.out.free 7 5 rfl
  have d0__xg2_6 : (_ : Bool) = false := G12.out.free 7 6 rfl
  have d0__xg2_7 : (_ : Bool) = false := G12.out.free 7 7 rfl
  have d0__xg2_8 : (_ : Bool) = false := G12.out.free 7 8 rfl
  go_wp2_with fail
  clear nn_xg2_xg9 nm_xg2_xg9 G12 c0__xg2_0 c0__xg2_1 c0__xg2_2 c0__xg2_3 c0__xg2_4 c0__xg2_5 c0__xg2_6 c0__xg2_7 c0__xg2_8 d0__xg2_0 d0__xg2_1 d0__xg2_2 d0__xg2_3 d0__xg2_4 d0__xg2_5 d0__xg2_6 d0__xg2_7 d0__xg2_8
  have H13' : Hid (Own w [(xg9, 29, #[.slice (some ⟨xr7, 0, none⟩) 2 2, .bool false, .slice (some ⟨xr8, 0, none⟩) 1 1]), (xr7, 37, #[.int .i64 10, .string ⟨#[]⟩, .string ⟨#[]⟩, .string ⟨#[]⟩, .int .i64 0, .int .i64 0, .int .i64 0, .int .i64 0, .bool false, .slice none 0 0, .slice none 0 0, .int .i64 11, .string ⟨#[]⟩, .string ⟨#[]⟩, .string ⟨#[]⟩, .int .i64 0, .int .i64 0, .int .i64 0, .int .i64 0, .bool false, .slice none 0 0, .slice none 0 0]), (xr8, 37, #[.int .i64 19, .string ⟨#[]⟩, .string ⟨#[]⟩, .string ⟨#[]⟩, .int .i64 0, .int .i64 0, .int .i64 0, .int .i64 0, .bool false, .slice none 0 0, .slice none 0 0]), (xr6, 37, #[.int .i64 17, .string ⟨#[]⟩, .string ⟨#[]⟩, .string ⟨#[]⟩, .int .i64 0, .int .i64 0, .int .i64 0, .int .i64 0, .bool false, .slice none 0 0, .slice none 0 0]), (xg5, 29, #[.slice (some ⟨xr4, 0, none⟩) 1 1, .bool true, .slice none 0 0]), (xr4, 37, #[.int .i64 2, .string ⟨#[]⟩, .string ⟨#[]⟩, .string ⟨#[99]⟩, .int .i64 0, .int .i64 0, .int .i64 0, .int .i64 0, .bool false, .slice none 0 0, .slice none 0 0]), (xg3, 29, #[.slice (some ⟨xr1, 0, none⟩) 2 2, .bool true, .slice none 0 0]), (xg2, 26, #[.int .i64 5, .string ⟨#[106, 111, 101]⟩, .string ⟨#[112]⟩, .int .i64 0, .int .i64 0, .int .i64 0, .int .i64 0, .int .i64 0, .int .i64 0]), (xr1, 37, #[.int .i64 1, .string ⟨#[]⟩, .string ⟨#[]⟩, .string ⟨#[]⟩, .int .i64 0, .int .i64 0, .int .i64 0, .int .i64 0, .bool false, .slice none 0 0, .slice none 0 0, .int .i64 5, .string ⟨#[106, 111, 101]⟩, .string ⟨#[]⟩, .string ⟨#[]⟩, .int .i64 0, .int .i64 0, .int .i64 0, .int .i64 0, .bool false, .slice none 0 0, .slice none 0 0])] (((((((((((((W11.alloc (.cells #[.slice none 0 0, .bool false, .slice none 0 0] 29)).setCell ⟨xg2, 0, none⟩ (.int .i64 5)).setCell ⟨xg2, 1, none⟩ (.string ⟨#[106, 111, 101]⟩)).setCell ⟨xg2, 2, none⟩ (.string ⟨#[112]⟩)).setCell ⟨xg2, 3, none⟩ (.int .i64 0)).setCell ⟨xg2, 4, none⟩ (.int .i64 0)).setCell ⟨xg2, 5, none⟩ (.int .i64 0)).setCell ⟨xg2, 6, none⟩ (.int .i64 0)).setCell ⟨xg2, 7, none⟩ (.int .i64 0)).setCell ⟨xg2, 8, none⟩ (.int .i64 0)).setCell ⟨xg9, 0, none⟩ (.slice (some ⟨xr7, 0, none⟩) 2 2)).setCell ⟨xg9, 1, none⟩ (.bool false)).setCell ⟨xg9, 2, none⟩ (.slice (some ⟨xr8, 0, none⟩) 1 1))) := Lib.hid (by
    have k0 := H11.out
    have k1 := Own.alloc (g := xg9) k0 29 #[.slice none 0 0, .bool false, .slice none 0 0] (by first | exact hxg9 | (rw [hxg9]; simp [U.fillW_size]))
    have k2 := Own.lay k1 [.int .i64 5, .string ⟨#[106, 111, 101]⟩, .string ⟨#[112]⟩, .int .i64 0, .int .i64 0, .int .i64 0, .int .i64 0, .int .i64 0, .int .i64 0] 0 7 #[.int .i64 5, .string ⟨#[106, 111, 101]⟩, .string ⟨#[112]⟩, .int .i64 0, .int .i64 0, .int .i64 0, .int .i64 0, .int .i64 0, .int .i64 0] rfl (by kernel_rfl)
    have k3 := Own.lay k2 [.slice (some ⟨xr7, 0, none⟩) 2 2, .bool false, .slice (some ⟨xr8, 0, none⟩) 1 1] 0 0 #[.slice (some ⟨xr7, 0, none⟩) 2 2, .bool false, .slice (some ⟨xr8, 0, none⟩) 1 1] rfl (by kernel_rfl)
    exact k3.cast (by kernel_rfl) (by kernel_rfl))
  rw [← hxg9]
  refine calls_own H13'.out (fun W13 hW => ?_)
  have H13 := Lib.hid hW
  clear hW H13' H11 hxg9
  refine ((Start_nd (⟨#[]⟩) (⟨#[112]⟩) 0 0 0 (by kernel_rfl) (by decide) HG.out HE.out) _).mono ?_
  rintro e W14 ⟨rfl, hn⟩
  have H14 := Lib.hid (H13.out.call hn)
  clear hn H13
  obtain ⟨xg10, hxg10⟩ : ∃ g, g = W14.heap.size := ⟨_, rfl⟩
  obtain ⟨xg11, hxg11⟩ : ∃ g, g = W14.heap.size + 1 := ⟨_, rfl⟩
  go_wp2_with fail
  have H15' : Hid (Own w [(xg11, 29, #[.slice none 0 0, .bool false, .slice none 0 0]), (xg10, 26, #[.int .i64 0, .string ⟨#[]⟩, .string ⟨#[]⟩, .int .i64 0, .int .i64 0, .int .i64 0, .int .i64 0, .int .i64 0, .int .i64 0]), (xg9, 29, #[.slice (some ⟨xr7, 0, none⟩) 2 2, .bool false, .slice (some ⟨xr8, 0, none⟩) 1 1]), (xr7, 37, #[.int .i64 10, .string ⟨#[]⟩, .string ⟨#[]⟩, .string ⟨#[]⟩, .int .i64 0, .int .i64 0, .int .i64 0, .int .i64 0, .bool false, .slice none 0 0, .slice none 0 0, .int .i64 11, .string ⟨#[]⟩, .string ⟨#[]⟩, .string ⟨#[]⟩, .int .i64 0, .int .i64 0, .int .i64 0, .int .i64 0, .bool false, .slice none 0 0, .slice none 0 0]), (xr8, 37, #[.int .i64 19, .string ⟨#[]⟩, .string ⟨#[]⟩, .string ⟨#[]⟩, .int .i64 0, .int .i64 0, .int .i64 0, .int .i64 0, .bool false, .slice none 0 0, .slice none 0 0]), (xr6, 37, #[.int .i64 17, .string ⟨#[]⟩, .string ⟨#[]⟩, .string ⟨#[]⟩, .int .i64 0, .int .i64 0, .int .i64 0, .int .i64 0, .bool false, .slice none 0 0, .slice none 0 0]), (xg5, 29, #[.slice (some ⟨xr4, 0, none⟩) 1 1, .bool true, .slice none 0 0]), (xr4, 37, #[.int .i64 2, .string ⟨#[]⟩, .string ⟨#[]⟩, .string ⟨#[99]⟩, .int .i64 0, .int .i64 0, .int .i64 0, .int .i64 0, .bool false, .slice none 0 0, .slice none 0 0]), (xg3, 29, #[.slice (some ⟨xr1, 0, none⟩) 2 2, .bool true, .slice none 0 0]), (xg2, 26, #[.int .i64 5, .string ⟨#[106, 111, 101]⟩, .string ⟨#[112]⟩, .int .i64 0, .int .i64 0, .int .i64 0, .int .i64 0, .int .i64 0, .int .i64 0]), (xr1, 37, #[.int .i64 1, .string ⟨#[]⟩, .string ⟨#[]⟩, .string ⟨#[]⟩, .int .i64 0, .int .i64 0, .int .i64 0, .int .i64 0, .bool false, .slice none 0 0, .slice none 0 0, .int .i64 5, .string ⟨#[106, 111, 101]⟩, .string ⟨#[]⟩, .string ⟨#[]⟩, .int .i64 0, .int .i64 0, .int .i64 0, .int .i64 0, .bool false, .slice none 0 0, .slice none 0 0])] ((W14.alloc (.cells #[.int .i64 0, .string ⟨#[]⟩, .string ⟨#[]⟩, .int .i64 0, .int .i64 0, .int .i64 0, .int .i64 0, .int .i64 0, .int .i64 0] 26)).alloc (.cells #[.slice none 0 0, .bool false, .slice none 0 0] 29))) := Lib.hid (by
    have k0 := H14.out
    have k1 := Own.alloc (g := xg10) k0 26 #[.int .i64 0, .string ⟨#[]⟩, .string ⟨#[]⟩, .int .i64 0, .int .i64 0, .int .i64 0, .int .i64 0, .int .i64 0, .int .i64 0] (by first | exact hxg10 | (rw [hxg10]; simp [U.fillW_size]))
    have k2 := Own.alloc (g := xg11) k1 29 #[.slice none 0 0, .bool false, .slice none 0 0] (by first | exact hxg11 | (rw [hxg11]; simp [U.fillW_size]))
    exact k2.cast (by kernel_rfl) (by kernel_rfl))
  rw [← hxg11]
  rw [← hxg10]
  refine calls_own H15'.out (fun W15 hW => ?_)
  have H15 := Lib.hid hW
  clear hW H15' H14 hxg10 hxg11
  refine ((num_any 0) _).mono ?_
  rintro e W16 ⟨rfl, hn⟩
  have H16 := Lib.hid (H15.out.call hn)
  clear hn H15
  have c_xg3_0 : W16.cell? ⟨xg3, 0, none⟩ = some (.slice (some ⟨xr1, 0, none⟩) 2 2) := H16.out.cell 8 0 rfl rfl
  have c_xg3_1 : W16.cell? ⟨xg3, 1, none⟩ = some (.bool true) := H16.out.cell 8 1 rfl rfl
  have c_xg5_1 : W16.cell? ⟨xg5, 1, none⟩ = some (.bool true) := H16.out.cell 6 1 rfl rfl
  have c_xg5_0 : W16.cell? ⟨xg5, 0, none⟩ = some (.slice (some ⟨xr4, 0, none⟩) 1 1) := H16.out.cell 6 0 rfl rfl
  have c_xg2_0 : W16.cell? ⟨xg2, 0, none⟩ = some (.int .i64 5) := H16.out.cell 9 0 rfl rfl
  have c_xg9_2 : W16.cell? ⟨xg9, 2, none⟩ = some (.slice (some ⟨xr8, 0, none⟩) 1 1) := H16.out.cell 2 2 rfl rfl
  have c_xg9_0 : W16.cell? ⟨xg9, 0, none⟩ = some (.slice (some ⟨xr7, 0, none⟩) 2 2) := H16.out.cell 2 0 rfl rfl
  go_wp2_with fail
  clear c_xg3_0 c_xg3_1 c_xg5_1 c_xg5_0 c_xg2_0 c_xg9_2 c_xg9_0
  have H17' := H16
  refine calls_own H17'.out (fun W17 hW => ?_)
  have H17 := Lib.hid hW
  clear hW H17' H16 
  refine ((num_any 2) _).mono ?_
  rintro e W18 ⟨rfl, hn⟩
  have H18 := Lib.hid (H17.out.call hn)
  clear hn H17
  go_wp2_with fail
  have H19' := H18
  refine calls_own H19'.out (fun W19 hW => ?_)
  have H19 := Lib.hid hW
  clear hW H19' H18 
  refine (Lasting_5 _).mono ?_
  rintro e W20 ⟨rfl, hn⟩
  have H20 := Lib.hid (H19.out.call hn)
  clear hn H19
  go_wp2_with fail
  have H21' := H20
  refine calls_own H21'.out (fun W21 hW => ?_)
  have H21 := Lib.hid hW
  clear hW H21' H20 
  refine (Lasting_24 _).mono ?_
  rintro e W22 ⟨rfl, hn⟩
  have H22 := Lib.hid (H21.out.call hn)
  clear hn H21
  go_wp2
  have H23 := H22
  go_ret
  exact ⟨rfl, H23.out.pick [] (by decide)⟩
end Go.Proofs.YtpjkbamkaicoiaaDoor.Ses
end

/- Contracts of functions of this translation, and what they come to; what is not used is left out. -/
import Derived.Test.YtpjkbamkaicoiaaDoorZg3
import Derived.Test.YtpjkbamkaicoiaaDoorZg5
import Derived.Test.YtpjkbamkaicoiaaDoorZBox
import Derived.Test.YtpjkbamkaicoiaaDoorZCls
import Derived.Test.YtpjkbamkaicoiaaDoorZUtil
import Derived.Test.YtpjkbamkaicoiaaDoorZg4
import Derived.Test.YtpjkbamkaicoiaaDoorZg2p0

section
/- session.Take, some of its ways. (Printed by gen_sesb.py.) -/
set_option linter.unusedVariables false
set_option linter.unusedSimpArgs false
set_option maxRecDepth 100000
namespace Go.Proofs.YtpjkbamkaicoiaaDoor.Ses
open Go.RowKit U
set_option maxHeartbeats 4000000 in
theorem Take_letbad (n pw : ByteArray) (st tm ct he sa cd : Int) (nn nt nd : ByteArray) (nc ns ni nm : Int) (nok : Bool) (ia : Option Addr) (il ic : Nat) (ja : Option Addr) (jl jc : Nat) (hc : ¬ nc = 0) (hS : ∀ w, Calls Tryd.prog 28 #[.string nn, .string n] w fun e w' => e = .returned (.bool true) ∧ Below w.heap.size w w') (w : World) : Calls Tryd.prog 10 #[.agg #[.int .i64 2, .string n, .string pw, .int .i64 st, .int .i64 tm, .int .i64 ct, .int .i64 he, .int .i64 sa, .int .i64 cd], .agg #[.int .i64 8, .string nn, .string nt, .string nd, .int .i64 nc, .int .i64 ns, .int .i64 ni, .int .i64 nm, .bool nok, .slice ia il ic, .slice ja jl jc]] w fun e w' => ∃ r1, e = .returned (.tuple #[.agg #[.int .i64 6, .string n, .string pw, .int .i64 st, .int .i64 tm, .int .i64 ct, .int .i64 0, .int .i64 sa, .int .i64 nc], .agg #[.slice none 0 0, .bool false, .slice (some ⟨r1, 0, none⟩) 1 1]]) ∧ Own w [(r1, 37, #[.int .i64 3, .string ⟨#[]⟩, .string ⟨#[]⟩, .string ⟨#[]⟩, .int .i64 nc, .int .i64 0, .int .i64 0, .int .i64 0, .bool false, .slice none 0 0, .slice none 0 0])] w' := by
  have HS := Lib.hid (Own.ret hS)
  have H0 := Lib.hid (Own.start w)
  go_enter Tryd.func10, Tryd.ntmps10
  obtain ⟨xg1, hxg1⟩ : ∃ g, g = w.heap.size := ⟨_, rfl⟩
  obtain ⟨xg2, hxg2⟩ : ∃ g, g = w.heap.size + 1 := ⟨_, rfl⟩
  obtain ⟨xg3, hxg3⟩ : ∃ g, g = w.heap.size + 1 + 1 := ⟨_, rfl⟩
  obtain ⟨xg4, hxg4⟩ : ∃ g, g = w.heap.size + 1 + 1 + 1 := ⟨_, rfl⟩
  go_wp2_with fail
  have H1' : Hid (Own w [(xg4, 29, #[.slice none 0 0, .bool false, .slice none 0 0]), (xg3, 26, #[.int .i64 0, .string ⟨#[]⟩, .string ⟨#[]⟩, .int .i64 0, .int .i64 0, .int .i64 0, .int .i64 0, .int .i64 0, .int .i64 0]), (xg2, 37, #[.int .i64 8, .string nn, .string nt, .string nd, .int .i64 nc, .int .i64 ns, .int .i64 ni, .int .i64 nm, .bool nok, .slice ia il ic, .slice ja jl jc]), (xg1, 26, #[.int .i64 2, .string n, .string pw, .int .i64 st, .int .i64 tm, .int .i64 ct, .int .i64 he, .int .i64 sa, .int .i64 cd])] ((((w.alloc (.cells #[.int .i64 2, .string n, .string pw, .int .i64 st, .int .i64 tm, .int .i64 ct, .int .i64 he, .int .i64 sa, .int .i64 cd] 26)).alloc (.cells #[.int .i64 8, .string nn, .string nt, .string nd, .int .i64 nc, .int .i64 ns, .int .i64 ni, .int .i64 nm, .bool nok, .slice ia il ic, .slice ja jl jc] 37)).alloc (.cells #[.int .i64 0, .string ⟨#[]⟩, .string ⟨#[]⟩, .int .i64 0, .int .i64 0, .int .i64 0, .int .i64 0, .int .i64 0, .int .i64 0] 26)).alloc (.cells #[.slice none 0 0, .bool false, .slice none 0 0] 29))) := Lib.hid (by
    have k0 := H0.out
    have k1 := Own.alloc (g := xg1) k0 26 #[.int .i64 2, .string n, .string pw, .int .i64 st, .int .i64 tm, .int .i64 ct, .int .i64 he, .int .i64 sa, .int .i64 cd] (by first | exact hxg1 | (rw [hxg1]; simp [U.fillW_size]))
    have k2 := Own.alloc (g := xg2) k1 37 #[.int .i64 8, .string nn, .string nt, .string nd, .int .i64 nc, .int .i64 ns, .int .i64 ni, .int .i64 nm, .bool nok, .slice ia il ic, .slice ja jl jc] (by first | exact hxg2 | (rw [hxg2]; simp [U.fillW_size]))
    have k3 := Own.alloc (g := xg3) k2 26 #[.int .i64 0, .string ⟨#[]⟩, .string ⟨#[]⟩, .int .i64 0, .int .i64 0, .int .i64 0, .int .i64 0, .int .i64 0, .int .i64 0] (by first | exact hxg3 | (rw [hxg3]; simp [U.fillW_size]))
    have k4 := Own.alloc (g := xg4) k3 29 #[.slice none 0 0, .bool false, .slice none 0 0] (by first | exact hxg4 | (rw [hxg4]; simp [U.fillW_size]))
    exact k4.cast (by kernel_rfl) (by kernel_rfl))
  rw [← hxg4]
  rw [← hxg3]
  rw [← hxg2]
  rw [← hxg1]
  refine calls_own H1'.out (fun W1 hW => ?_)
  have H1 := Lib.hid hW
  clear hW H1' H0 hxg1 hxg2 hxg3 hxg4
  refine ((under_yes 2 n pw st tm ct he sa cd (by decide) (by decide)) _).mono ?_
  rintro e W2 ⟨rfl, hn⟩
  have H2 := Lib.hid (H1.out.call hn)
  clear hn H1
  obtain ⟨xg5, hxg5⟩ : ∃ g, g = W2.heap.size := ⟨_, rfl⟩
  have c_xg2_0 : W2.cell? ⟨xg2, 0, none⟩ = some (.int .i64 8) := H2.out.cell 2 0 rfl rfl
  have c_xg1_0 : W2.cell? ⟨xg1, 0, none⟩ = some (.int .i64 2) := H2.out.cell 3 0 rfl rfl
  have c_xg1_6 : W2.cell? ⟨xg1, 6, none⟩ = some (.int .i64 he) := H2.out.cell 3 6 rfl rfl
  have d_xg1_6 : W2.frozen? ⟨xg1, 6, none⟩ = false := H2.out.free 3 6 rfl
  have ne_xg2_xg1 : ¬ xg2 = xg1 := H2.out.ne 2 3 rfl rfl (by decide)
  have ne_xg1_xg2 : ¬ xg1 = xg2 := H2.out.ne 3 2 rfl rfl (by decide)
  have nn_xg1_xg5 : ¬ xg1 = W2.heap.size := by have := H2.out.lt 3 rfl; omega
  have nm_xg1_xg5 : ¬ W2.heap.size = xg1 := by have := H2.out.lt 3 rfl; omega
  have G3 : Hid (Own w [(xg5, 62, #[.int .i64 2, .int .i64 8]), (xg4, 29, #[.slice none 0 0, .bool false, .slice none 0 0]), (xg3, 26, #[.int .i64 0, .string ⟨#[]⟩, .string ⟨#[]⟩, .int .i64 0, .int .i64 0, .int .i64 0, .int .i64 0, .int .i64 0, .int .i64 0]), (xg2, 37, #[.int .i64 8, .string nn, .string nt, .string nd, .int .i64 nc, .int .i64 ns, .int .i64 ni, .int .i64 nm, .bool nok, .slice ia il ic, .slice ja jl jc]), (xg1, 26, #[.int .i64 2, .string n, .string pw, .int .i64 st, .int .i64 tm, .int .i64 ct, .int .i64 0, .int .i64 sa, .int .i64 cd])] ((W2.setCell ⟨xg1, 6, none⟩ (.int .i64 0)).alloc (.cells #[.int .i64 2, .int .i64 8] 62))) := Lib.hid (by
    have k0 := H2.out
    have k1 := Own.lay k0 [.int .i64 0] 6 3 #[.int .i64 2, .string n, .string pw, .int .i64 st, .int .i64 tm, .int .i64 ct, .int .i64 0, .int .i64 sa, .int .i64 cd] rfl (by kernel_rfl)
    have k2 := Own.alloc (g := xg5) k1 62 #[.int .i64 2, .int .i64 8] (by first | exact hxg5 | (rw [hxg5]; simp [U.fillW_size]))
    exact k2.cast (by kernel_rfl) (by kernel_rfl))
  have c0__xg2_1 : (_ : Option Value) = some (.string nn) := G3.out.cell 3 1 rfl rfl
  have c0__xg1_1 : (_ : Option Value) = some (.string n) := G3.out.cell 4 1 rfl rfl
  go_wp2_with fail
  clear c_xg2_0 c_xg1_0 c_xg1_6 d_xg1_6 ne_xg2_xg1 ne_xg1_xg2 nn_xg1_xg5 nm_xg1_xg5 G3 c0__xg2_1 c0__xg1_1
  have H4' : Hid (Own w [(xg5, 62, #[.int .i64 2, .int .i64 8]), (xg4, 29, #[.slice none 0 0, .bool false, .slice none 0 0]), (xg3, 26, #[.int .i64 0, .string ⟨#[]⟩, .string ⟨#[]⟩, .int .i64 0, .int .i64 0, .int .i64 0, .int .i64 0, .int .i64 0, .int .i64 0]), (xg2, 37, #[.int .i64 8, .string nn, .string nt, .string nd, .int .i64 nc, .int .i64 ns, .int .i64 ni, .int .i64 nm, .bool nok, .slice ia il ic, .slice ja jl jc]), (xg1, 26, #[.int .i64 2, .string n, .string pw, .int .i64 st, .int .i64 tm, .int .i64 ct, .int .i64 0, .int .i64 sa, .int .i64 cd])] ((W2.setCell ⟨xg1, 6, none⟩ (.int .i64 0)).alloc (.cells #[.int .i64 2, .int .i64 8] 62))) := Lib.hid (by
    have k0 := H2.out
    have k1 := Own.lay k0 [.int .i64 0] 6 3 #[.int .i64 2, .string n, .string pw, .int .i64 st, .int .i64 tm, .int .i64 ct, .int .i64 0, .int .i64 sa, .int .i64 cd] rfl (by kernel_rfl)
    have k2 := Own.alloc (g := xg5) k1 62 #[.int .i64 2, .int .i64 8] (by first | exact hxg5 | (rw [hxg5]; simp [U.fillW_size]))
    exact k2.cast (by kernel_rfl) (by kernel_rfl))
  rw [← hxg5]
  refine calls_own H4'.out (fun W4 hW => ?_)
  have H4 := Lib.hid hW
  clear hW H4' H2 hxg5
  refine (HS.out _).mono ?_
  rintro e W5 ⟨rfl, hn⟩
  have H5 := Lib.hid (H4.out.call hn)
  clear hn H4
  have c_xg2_4 : W5.cell? ⟨xg2, 4, none⟩ = some (.int .i64 nc) := H5.out.cell 3 4 rfl rfl
  go_wp2
  clear c_xg2_4
  have H6' := H5
  refine world_own H6'.out (fun W6 hW => ?_)
  have H6 := Lib.hid hW
  clear hW H6' H5 
  apply U.wp_cut1 (F := fun xg6 x => Own w [(xg6, 37, #[.int .i64 3, .string ⟨#[]⟩, .string ⟨#[]⟩, .string ⟨#[]⟩, .int .i64 nc, .int .i64 0, .int .i64 0, .int .i64 0, .bool false, .slice none 0 0, .slice none 0 0]), (xg5, 62, #[.int .i64 2, .int .i64 8]), (xg4, 29, #[.slice none 0 0, .bool false, .slice (some ⟨xg6, 0, none⟩) 1 1]), (xg3, 26, #[.int .i64 6, .string n, .string pw, .int .i64 st, .int .i64 tm, .int .i64 ct, .int .i64 0, .int .i64 sa, .int .i64 nc]), (xg2, 37, #[.int .i64 8, .string nn, .string nt, .string nd, .int .i64 nc, .int .i64 ns, .int .i64 ni, .int .i64 nm, .bool nok, .slice ia il ic, .slice ja jl jc]), (xg1, 26, #[.int .i64 2, .string n, .string pw, .int .i64 st, .int .i64 tm, .int .i64 ct, .int .i64 0, .int .i64 sa, .int .i64 cd])] x)
  · obtain ⟨S, MK, UN⟩ : ∃ S : World → Prop, Hid (∀ x, Own w [(xg2, 37, #[.int .i64 8, .string nn, .string nt, .string nd, .int .i64 nc, .int .i64 ns, .int .i64 ni, .int .i64 nm, .bool nok, .slice ia il ic, .slice ja jl jc]), (xg1, 26, #[.int .i64 2, .string n, .string pw, .int .i64 st, .int .i64 tm, .int .i64 ct, .int .i64 0, .int .i64 sa, .int .i64 cd])] x → S x) ∧ Hid (∀ x, S x → Own w [(xg2, 37, #[.int .i64 8, .string nn, .string nt, .string nd, .int .i64 nc, .int .i64 ns, .int .i64 ni, .int .i64 nm, .bool nok, .slice ia il ic, .slice ja jl jc]), (xg1, 26, #[.int .i64 2, .string n, .string pw, .int .i64 st, .int .i64 tm, .int .i64 ct, .int .i64 0, .int .i64 sa, .int .i64 cd])] x) := ⟨_, Lib.hid (fun _ h => h), Lib.hid (fun _ h => h)⟩
    refine U.wp_region_free (S := S) [0, 1, 2, 3, 4, 5, 6, 7, 8, 9] (by kernel_rfl) ?_
    obtain ⟨X7, hX⟩ : ∃ X, X = W6.drew := ⟨_, rfl⟩
    have H7 : Hid (Own w [(xg5, 62, #[.int .i64 2, .int .i64 8]), (xg4, 29, #[.slice none 0 0, .bool false, .slice none 0 0]), (xg3, 26, #[.int .i64 0, .string ⟨#[]⟩, .string ⟨#[]⟩, .int .i64 0, .int .i64 0, .int .i64 0, .int .i64 0, .int .i64 0, .int .i64 0]), (xg2, 37, #[.int .i64 8, .string nn, .string nt, .string nd, .int .i64 nc, .int .i64 ns, .int .i64 ni, .int .i64 nm, .bool nok, .slice ia il ic, .slice ja jl jc]), (xg1, 26, #[.int .i64 2, .string n, .string pw, .int .i64 st, .int .i64 tm, .int .i64 ct, .int .i64 0, .int .i64 sa, .int .i64 cd])] X7) := Lib.hid (by rw [hX]; exact H6.out.drew)
    rw [← hX]
    clear hX
    change U.wpAnyM _ _ _ _ _ _ 11 #[false, false, false, false, false, false, false, false, false, false, false] _ _
    have p_xg1_0 : ∀ x : U.In S, x.w.cell? ⟨xg1, 0, none⟩ = some (.int .i64 2) := fun x => (UN.out _ x.h).cell 1 0 rfl rfl
    have p_xg1_1 : ∀ x : U.In S, x.w.cell? ⟨xg1, 1, none⟩ = some (.string n) := fun x => (UN.out _ x.h).cell 1 1 rfl rfl
    have p_xg1_2 : ∀ x : U.In S, x.w.cell? ⟨xg1, 2, none⟩ = some (.string pw) := fun x => (UN.out _ x.h).cell 1 2 rfl rfl
    have p_xg1_3 : ∀ x : U.In S, x.w.cell? ⟨xg1, 3, none⟩ = some (.int .i64 st) := fun x => (UN.out _ x.h).cell 1 3 rfl rfl
    have p_xg1_4 : ∀ x : U.In S, x.w.cell? ⟨xg1, 4, none⟩ = some (.int .i64 tm) := fun x => (UN.out _ x.h).cell 1 4 rfl rfl
    have p_xg1_5 : ∀ x : U.In S, x.w.cell? ⟨xg1, 5, none⟩ = some (.int .i64 ct) := fun x => (UN.out _ x.h).cell 1 5 rfl rfl
    have p_xg1_6 : ∀ x : U.In S, x.w.cell? ⟨xg1, 6, none⟩ = some (.int .i64 0) := fun x => (UN.out _ x.h).cell 1 6 rfl rfl
    have p_xg1_7 : ∀ x : U.In S, x.w.cell? ⟨xg1, 7, none⟩ = some (.int .i64 sa) := fun x => (UN.out _ x.h).cell 1 7 rfl rfl
    have p_xg1_8 : ∀ x : U.In S, x.w.cell? ⟨xg1, 8, none⟩ = some (.int .i64 cd) := fun x => (UN.out _ x.h).cell 1 8 rfl rfl
    have p_xg2_4 : ∀ x : U.In S, x.w.cell? ⟨xg2, 4, none⟩ = some (.int .i64 nc) := fun x => (UN.out _ x.h).cell 0 4 rfl rfl
    haveI : Nonempty (U.In (S)) := ⟨⟨_, (MK.out _ (H7.out.pick [3, 4] (by decide)))⟩⟩
    refine U.wpAnyM_reads (n := 5) (L := #[true, true, true, false, true, true, true, false, false, false, false]) [0, 1, 2, 4, 5, 6] _ _ (by kernel_rfl) (fun _ _ _ _ _ h => h) ⟨⟨_, (MK.out _ (H7.out.pick [3, 4] (by decide)))⟩, rfl⟩ (by kernel_rfl) (by kernel_rfl) (by kernel_rfl) ?_
    simp only [List.filterMap_cons, List.filterMap_nil, List.getElem?_toArray, List.getElem?_cons_succ, List.getElem?_cons_zero]
    change wpQuiet _ _ _ _ [_, _, _, _, _, _] _
    repeat go_big_quiet_step (fail)
    refine wpQuiet_nil ?_
    clear p_xg1_0 p_xg1_1 p_xg1_2 p_xg1_3 p_xg1_4 p_xg1_5 p_xg1_6 p_xg1_7 p_xg1_8 p_xg2_4 this
    refine U.wpAnyM_two (i := 3) (j := 7) (L1 := #[true, true, true, true, true, true, true, false, false, false, false]) (L2 := #[true, true, true, false, true, true, true, true, false, false, false]) (by kernel_rfl) (by kernel_rfl) (by kernel_rfl) ?_ ?_ 
    · refine U.wpOp_step (o := _) rfl ?_
      go_wp2_with fail
      refine ((over_any 2 n pw st tm ct 0 sa cd nc) _).mono ?_
      rintro e X8 ⟨rfl, hn⟩
      have H8 := Lib.hid (H7.out.call hn)
      clear hn
      go_wp2
      refine ⟨fun _ _ => ⟨⟨_, (MK.out _ (H8.out.pick [3, 4] (by decide)))⟩, rfl⟩, ?_⟩
      refine U.wpAnyM_two (i := 7) (j := 9) (L1 := #[true, true, true, true, true, true, true, true, false, false, false]) (L2 := #[true, true, true, true, true, true, true, false, false, true, false]) (by kernel_rfl) (by kernel_rfl) (by kernel_rfl) ?_ ?_ 
      · refine U.wpOp_step (o := _) rfl ?_
        obtain ⟨xg6, hxg6⟩ : ∃ g, g = X8.heap.size := ⟨_, rfl⟩
        go_wp2
        obtain ⟨X9, hX⟩ : ∃ X, X = (X8.alloc (.cells #[.int .i64 3, .string ⟨#[]⟩, .string ⟨#[]⟩, .string ⟨#[]⟩, .int .i64 nc, .int .i64 0, .int .i64 0, .int .i64 0, .bool false, .slice none 0 0, .slice none 0 0] 37)) := ⟨_, rfl⟩
        have H9 : Hid (Own w [(xg6, 37, #[.int .i64 3, .string ⟨#[]⟩, .string ⟨#[]⟩, .string ⟨#[]⟩, .int .i64 nc, .int .i64 0, .int .i64 0, .int .i64 0, .bool false, .slice none 0 0, .slice none 0 0]), (xg5, 62, #[.int .i64 2, .int .i64 8]), (xg4, 29, #[.slice none 0 0, .bool false, .slice none 0 0]), (xg3, 26, #[.int .i64 0, .string ⟨#[]⟩, .string ⟨#[]⟩, .int .i64 0, .int .i64 0, .int .i64 0, .int .i64 0, .int .i64 0, .int .i64 0]), (xg2, 37, #[.int .i64 8, .string nn, .string nt, .string nd, .int .i64 nc, .int .i64 ns, .int .i64 ni, .int .i64 nm, .bool nok, .slice ia il ic, .slice ja jl jc]), (xg1, 26, #[.int .i64 2, .string n, .string pw, .int .i64 st, .int .i64 tm, .int .i64 ct, .int .i64 0, .int .i64 sa, .int .i64 cd])] X9) := Lib.hid (by
          rw [hX]
          have k0 := H8.out
          have k1 := Own.alloc (g := xg6) k0 37 #[.int .i64 3, .string ⟨#[]⟩, .string ⟨#[]⟩, .string ⟨#[]⟩, .int .i64 nc, .int .i64 0, .int .i64 0, .int .i64 0, .bool false, .slice none 0 0, .slice none 0 0] (by first | exact hxg6 | (rw [hxg6]; simp [U.fillW_size]))
          exact k1.cast (by kernel_rfl) (by kernel_rfl))
        rw [← hX, ← hxg6]
        clear hX hxg6
        refine ⟨fun _ _ => ⟨⟨_, (MK.out _ (H9.out.pick [4, 5] (by decide)))⟩, rfl⟩, ?_⟩
        haveI : Nonempty (U.In (S)) := ⟨⟨_, (MK.out _ (H9.out.pick [4, 5] (by decide)))⟩⟩
        refine U.wpAnyM_reads (n := 2) (L := #[true, true, true, true, true, true, true, true, true, false, false]) [8] _ _ (by kernel_rfl) (fun _ _ _ _ _ h => h) ⟨⟨_, (MK.out _ (H9.out.pick [4, 5] (by decide)))⟩, rfl⟩ (by kernel_rfl) (by kernel_rfl) (by kernel_rfl) ?_
        simp only [List.filterMap_cons, List.filterMap_nil, List.getElem?_toArray, List.getElem?_cons_succ, List.getElem?_cons_zero]
        change wpQuiet _ _ _ _ [_] _
        repeat go_big_quiet_step (fail)
        refine wpQuiet_nil ?_
        clear  this
        refine U.wpAnyM_one (i := 9) (L' := #[true, true, true, true, true, true, true, true, true, true, false]) (by kernel_rfl) (by kernel_rfl) ?_
        refine U.wpOp_step (o := _) rfl ?_
        have c_xg3_0 : X9.cell? ⟨xg3, 0, none⟩ = some (.int .i64 0) := H9.out.cell 3 0 rfl rfl
        have c_xg3_1 : X9.cell? ⟨xg3, 1, none⟩ = some (.string ⟨#[]⟩) := H9.out.cell 3 1 rfl rfl
        have c_xg3_2 : X9.cell? ⟨xg3, 2, none⟩ = some (.string ⟨#[]⟩) := H9.out.cell 3 2 rfl rfl
        have c_xg3_3 : X9.cell? ⟨xg3, 3, none⟩ = some (.int .i64 0) := H9.out.cell 3 3 rfl rfl
        have c_xg3_4 : X9.cell? ⟨xg3, 4, none⟩ = some (.int .i64 0) := H9.out.cell 3 4 rfl rfl
        have c_xg3_5 : X9.cell? ⟨xg3, 5, none⟩ = some (.int .i64 0) := H9.out.cell 3 5 rfl rfl
        have c_xg3_6 : X9.cell? ⟨xg3, 6, none⟩ = some (.int .i64 0) := H9.out.cell 3 6 rfl rfl
        have c_xg3_7 : X9.cell? ⟨xg3, 7, none⟩ = some (.int .i64 0) := H9.out.cell 3 7 rfl rfl
        have c_xg3_8 : X9.cell? ⟨xg3, 8, none⟩ = some (.int .i64 0) := H9.out.cell 3 8 rfl rfl
        have d_xg3_0 : X9.frozen? ⟨xg3, 0, none⟩ = false := H9.out.free 3 0 rfl
        have d_xg3_1 : X9.frozen? ⟨xg3, 1, none⟩ = false := H9.out.free 3 1 rfl
        have d_xg3_2 : X9.frozen? ⟨xg3, 2, none⟩ = false := H9.out.free 3 2 rfl
        have d_xg3_3 : X9.frozen? ⟨xg3, 3, none⟩ = false := H9.out.free 3 3 rfl
        have d_xg3_4 : X9.frozen? ⟨xg3, 4, none⟩ = false := H9.out.free 3 4 rfl
        have d_xg3_5 : X9.frozen? ⟨xg3, 5, none⟩ = false := H9.out.free 3 5 rfl
        have d_xg3_6 : X9.frozen? ⟨xg3, 6, none⟩ = false := H9.out.free 3 6 rfl
        have d_xg3_7 : X9.frozen? ⟨xg3, 7, none⟩ = false := H9.out.free 3 7 rfl
        have d_xg3_8 : X9.frozen? ⟨xg3, 8, none⟩ = false := H9.out.free 3 8 rfl
        go_wp2
        clear c_xg3_0 c_xg3_1 c_xg3_2 c_xg3_3 c_xg3_4 c_xg3_5 c_xg3_6 c_xg3_7 c_xg3_8 d_xg3_0 d_xg3_1 d_xg3_2 d_xg3_3 d_xg3_4 d_xg3_5 d_xg3_6 d_xg3_7 d_xg3_8
        obtain ⟨X10, hX⟩ : ∃ X, X = (((((((((X9.setCell ⟨xg3, 0, none⟩ (.int .i64 6)).setCell ⟨xg3, 1, none⟩ (.string n)).setCell ⟨xg3, 2, none⟩ (.string pw)).setCell ⟨xg3, 3, none⟩ (.int .i64 st)).setCell ⟨xg3, 4, none⟩ (.int .i64 tm)).setCell ⟨xg3, 5, none⟩ (.int .i64 ct)).setCell ⟨xg3, 6, none⟩ (.int .i64 0)).setCell ⟨xg3, 7, none⟩ (.int .i64 sa)).setCell ⟨xg3, 8, none⟩ (.int .i64 nc)) := ⟨_, rfl⟩
        have H10 : Hid (Own w [(xg6, 37, #[.int .i64 3, .string ⟨#[]⟩, .string ⟨#[]⟩, .string ⟨#[]⟩, .int .i64 nc, .int .i64 0, .int .i64 0, .int .i64 0, .bool false, .slice none 0 0, .slice none 0 0]), (xg5, 62, #[.int .i64 2, .int .i64 8]), (xg4, 29, #[.slice none 0 0, .bool false, .slice none 0 0]), (xg3, 26, #[.int .i64 6, .string n, .string pw, .int .i64 st, .int .i64 tm, .int .i64 ct, .int .i64 0, .int .i64 sa, .int .i64 nc]), (xg2, 37, #[.int .i64 8, .string nn, .string nt, .string nd, .int .i64 nc, .int .i64 ns, .int .i64 ni, .int .i64 nm, .bool nok, .slice ia il ic, .slice ja jl jc]), (xg1, 26, #[.int .i64 2, .string n, .string pw, .int .i64 st, .int .i64 tm, .int .i64 ct, .int .i64 0, .int .i64 sa, .int .i64 cd])] X10) := Lib.hid (by
          rw [hX]
          have k0 := H9.out
          have k1 := Own.lay k0 [.int .i64 6, .string n, .string pw, .int .i64 st, .int .i64 tm, .int .i64 ct, .int .i64 0, .int .i64 sa, .int .i64 nc] 0 3 #[.int .i64 6, .string n, .string pw, .int .i64 st, .int .i64 tm, .int .i64 ct, .int .i64 0, .int .i64 sa, .int .i64 nc] rfl (by kernel_rfl)
          exact k1.cast (by kernel_rfl) (by kernel_rfl))
        rw [← hX]
        clear hX 
        refine ⟨fun _ _ => ⟨⟨_, (MK.out _ (H10.out.pick [4, 5] (by decide)))⟩, rfl⟩, ?_⟩
        refine U.wpAnyM_one (i := 10) (L' := #[true, true, true, true, true, true, true, true, true, true, true]) (by kernel_rfl) (by kernel_rfl) ?_
        refine U.wpOp_step (o := _) rfl ?_
        have c_xg4_0 : X10.cell? ⟨xg4, 0, none⟩ = some (.slice none 0 0) := H10.out.cell 2 0 rfl rfl
        have c_xg4_1 : X10.cell? ⟨xg4, 1, none⟩ = some (.bool false) := H10.out.cell 2 1 rfl rfl
        have c_xg4_2 : X10.cell? ⟨xg4, 2, none⟩ = some (.slice none 0 0) := H10.out.cell 2 2 rfl rfl
        have d_xg4_0 : X10.frozen? ⟨xg4, 0, none⟩ = false := H10.out.free 2 0 rfl
        have d_xg4_1 : X10.frozen? ⟨xg4, 1, none⟩ = false := H10.out.free 2 1 rfl
        have d_xg4_2 : X10.frozen? ⟨xg4, 2, none⟩ = false := H10.out.free 2 2 rfl
        go_wp2
        clear c_xg4_0 c_xg4_1 c_xg4_2 d_xg4_0 d_xg4_1 d_xg4_2
        obtain ⟨X11, hX⟩ : ∃ X, X = (((X10.setCell ⟨xg4, 0, none⟩ (.slice none 0 0)).setCell ⟨xg4, 1, none⟩ (.bool false)).setCell ⟨xg4, 2, none⟩ (.slice (some ⟨xg6, 0, none⟩) 1 1)) := ⟨_, rfl⟩
        have H11 : Hid (Own w [(xg6, 37, #[.int .i64 3, .string ⟨#[]⟩, .string ⟨#[]⟩, .string ⟨#[]⟩, .int .i64 nc, .int .i64 0, .int .i64 0, .int .i64 0, .bool false, .slice none 0 0, .slice none 0 0]), (xg5, 62, #[.int .i64 2, .int .i64 8]), (xg4, 29, #[.slice none 0 0, .bool false, .slice (some ⟨xg6, 0, none⟩) 1 1]), (xg3, 26, #[.int .i64 6, .string n, .string pw, .int .i64 st, .int .i64 tm, .int .i64 ct, .int .i64 0, .int .i64 sa, .int .i64 nc]), (xg2, 37, #[.int .i64 8, .string nn, .string nt, .string nd, .int .i64 nc, .int .i64 ns, .int .i64 ni, .int .i64 nm, .bool nok, .slice ia il ic, .slice ja jl jc]), (xg1, 26, #[.int .i64 2, .string n, .string pw, .int .i64 st, .int .i64 tm, .int .i64 ct, .int .i64 0, .int .i64 sa, .int .i64 cd])] X11) := Lib.hid (by
          rw [hX]
          have k0 := H10.out
          have k1 := Own.lay k0 [.slice none 0 0, .bool false, .slice (some ⟨xg6, 0, none⟩) 1 1] 0 2 #[.slice none 0 0, .bool false, .slice (some ⟨xg6, 0, none⟩) 1 1] rfl (by kernel_rfl)
          exact k1.cast (by kernel_rfl) (by kernel_rfl))
        rw [← hX]
        clear hX 
        refine ⟨fun h => (by cases h), ?_⟩
        refine U.wpAnyM_end (by kernel_rfl) ?_
        exact ⟨rfl, xg6, rfl, H11.out.pick [0, 1, 2, 3, 4, 5] (by decide)⟩
      · refine U.wpOp_step (o := _) rfl ?_
        have c_xg3_0 : X8.cell? ⟨xg3, 0, none⟩ = some (.int .i64 0) := H8.out.cell 2 0 rfl rfl
        have c_xg3_1 : X8.cell? ⟨xg3, 1, none⟩ = some (.string ⟨#[]⟩) := H8.out.cell 2 1 rfl rfl
        have c_xg3_2 : X8.cell? ⟨xg3, 2, none⟩ = some (.string ⟨#[]⟩) := H8.out.cell 2 2 rfl rfl
        have c_xg3_3 : X8.cell? ⟨xg3, 3, none⟩ = some (.int .i64 0) := H8.out.cell 2 3 rfl rfl
        have c_xg3_4 : X8.cell? ⟨xg3, 4, none⟩ = some (.int .i64 0) := H8.out.cell 2 4 rfl rfl
        have c_xg3_5 : X8.cell? ⟨xg3, 5, none⟩ = some (.int .i64 0) := H8.out.cell 2 5 rfl rfl
        have c_xg3_6 : X8.cell? ⟨xg3, 6, none⟩ = some (.int .i64 0) := H8.out.cell 2 6 rfl rfl
        have c_xg3_7 : X8.cell? ⟨xg3, 7, none⟩ = some (.int .i64 0) := H8.out.cell 2 7 rfl rfl
        have c_xg3_8 : X8.cell? ⟨xg3, 8, none⟩ = some (.int .i64 0) := H8.out.cell 2 8 rfl rfl
        have d_xg3_0 : X8.frozen? ⟨xg3, 0, none⟩ = false := H8.out.free 2 0 rfl
        have d_xg3_1 : X8.frozen? ⟨xg3, 1, none⟩ = false := H8.out.free 2 1 rfl
        have d_xg3_2 : X8.frozen? ⟨xg3, 2, none⟩ = false := H8.out.free 2 2 rfl
        have d_xg3_3 : X8.frozen? ⟨xg3, 3, none⟩ = false := H8.out.free 2 3 rfl
        have d_xg3_4 : X8.frozen? ⟨xg3, 4, none⟩ = false := H8.out.free 2 4 rfl
        have d_xg3_5 : X8.frozen? ⟨xg3, 5, none⟩ = false := H8.out.free 2 5 rfl
        have d_xg3_6 : X8.frozen? ⟨xg3, 6, none⟩ = false := H8.out.free 2 6 rfl
        have d_xg3_7 : X8.frozen? ⟨xg3, 7, none⟩ = false := H8.out.free 2 7 rfl
        have d_xg3_8 : X8.frozen? ⟨xg3, 8, none⟩ = false := H8.out.free 2 8 rfl
        go_wp2
        clear c_xg3_0 c_xg3_1 c_xg3_2 c_xg3_3 c_xg3_4 c_xg3_5 c_xg3_6 c_xg3_7 c_xg3_8 d_xg3_0 d_xg3_1 d_xg3_2 d_xg3_3 d_xg3_4 d_xg3_5 d_xg3_6 d_xg3_7 d_xg3_8
        obtain ⟨X12, hX⟩ : ∃ X, X = (((((((((X8.setCell ⟨xg3, 0, none⟩ (.int .i64 6)).setCell ⟨xg3, 1, none⟩ (.string n)).setCell ⟨xg3, 2, none⟩ (.string pw)).setCell ⟨xg3, 3, none⟩ (.int .i64 st)).setCell ⟨xg3, 4, none⟩ (.int .i64 tm)).setCell ⟨xg3, 5, none⟩ (.int .i64 ct)).setCell ⟨xg3, 6, none⟩ (.int .i64 0)).setCell ⟨xg3, 7, none⟩ (.int .i64 sa)).setCell ⟨xg3, 8, none⟩ (.int .i64 nc)) := ⟨_, rfl⟩
        have H12 : Hid (Own w [(xg5, 62, #[.int .i64 2, .int .i64 8]), (xg4, 29, #[.slice none 0 0, .bool false, .slice none 0 0]), (xg3, 26, #[.int .i64 6, .string n, .string pw, .int .i64 st, .int .i64 tm, .int .i64 ct, .int .i64 0, .int .i64 sa, .int .i64 nc]), (xg2, 37, #[.int .i64 8, .string nn, .string nt, .string nd, .int .i64 nc, .int .i64 ns, .int .i64 ni, .int .i64 nm, .bool nok, .slice ia il ic, .slice ja jl jc]), (xg1, 26, #[.int .i64 2, .string n, .string pw, .int .i64 st, .int .i64 tm, .int .i64 ct, .int .i64 0, .int .i64 sa, .int .i64 cd])] X12) := Lib.hid (by
          rw [hX]
          have k0 := H8.out
          have k1 := Own.lay k0 [.int .i64 6, .string n, .string pw, .int .i64 st, .int .i64 tm, .int .i64 ct, .int .i64 0, .int .i64 sa, .int .i64 nc] 0 2 #[.int .i64 6, .string n, .string pw, .int .i64 st, .int .i64 tm, .int .i64 ct, .int .i64 0, .int .i64 sa, .int .i64 nc] rfl (by kernel_rfl)
          exact k1.cast (by kernel_rfl) (by kernel_rfl))
        rw [← hX]
        clear hX 
        refine ⟨fun _ _ => ⟨⟨_, (MK.out _ (H12.out.pick [3, 4] (by decide)))⟩, rfl⟩, ?_⟩
        refine U.wpAnyM_one (i := 7) (L' := #[true, true, true, true, true, true, true, true, false, true, false]) (by kernel_rfl) (by kernel_rfl) ?_
        refine U.wpOp_step (o := _) rfl ?_
        obtain ⟨xg7, hxg7⟩ : ∃ g, g = X12.heap.size := ⟨_, rfl⟩
        go_wp2
        obtain ⟨X13, hX⟩ : ∃ X, X = (X12.alloc (.cells #[.int .i64 3, .string ⟨#[]⟩, .string ⟨#[]⟩, .string ⟨#[]⟩, .int .i64 nc, .int .i64 0, .int .i64 0, .int .i64 0, .bool false, .slice none 0 0, .slice none 0 0] 37)) := ⟨_, rfl⟩
        have H13 : Hid (Own w [(xg7, 37, #[.int .i64 3, .string ⟨#[]⟩, .string ⟨#[]⟩, .string ⟨#[]⟩, .int .i64 nc, .int .i64 0, .int .i64 0, .int .i64 0, .bool false, .slice none 0 0, .slice none 0 0]), (xg5, 62, #[.int .i64 2, .int .i64 8]), (xg4, 29, #[.slice none 0 0, .bool false, .slice none 0 0]), (xg3, 26, #[.int .i64 6, .string n, .string pw, .int .i64 st, .int .i64 tm, .int .i64 ct, .int .i64 0, .int .i64 sa, .int .i64 nc]), (xg2, 37, #[.int .i64 8, .string nn, .string nt, .string nd, .int .i64 nc, .int .i64 ns, .int .i64 ni, .int .i64 nm, .bool nok, .slice ia il ic, .slice ja jl jc]), (xg1, 26, #[.int .i64 2, .string n, .string pw, .int .i64 st, .int .i64 tm, .int .i64 ct, .int .i64 0, .int .i64 sa, .int .i64 cd])] X13) := Lib.hid (by
          rw [hX]
          have k0 := H12.out
          have k1 := Own.alloc (g := xg7) k0 37 #[.int .i64 3, .string ⟨#[]⟩, .string ⟨#[]⟩, .string ⟨#[]⟩, .int .i64 nc, .int .i64 0, .int .i64 0, .int .i64 0, .bool false, .slice none 0 0, .slice none 0 0] (by first | exact hxg7 | (rw [hxg7]; simp [U.fillW_size]))
          exact k1.cast (by kernel_rfl) (by kernel_rfl))
        rw [← hX, ← hxg7]
        clear hX hxg7
        refine ⟨fun _ _ => ⟨⟨_, (MK.out _ (H13.out.pick [4, 5] (by decide)))⟩, rfl⟩, ?_⟩
        haveI : Nonempty (U.In (S)) := ⟨⟨_, (MK.out _ (H13.out.pick [4, 5] (by decide)))⟩⟩
        refine U.wpAnyM_reads (n := 1) (L := #[true, true, true, true, true, true, true, true, true, true, false]) [8] _ _ (by kernel_rfl) (fun _ _ _ _ _ h => h) ⟨⟨_, (MK.out _ (H13.out.pick [4, 5] (by decide)))⟩, rfl⟩ (by kernel_rfl) (by kernel_rfl) (by kernel_rfl) ?_
        simp only [List.filterMap_cons, List.filterMap_nil, List.getElem?_toArray, List.getElem?_cons_succ, List.getElem?_cons_zero]
        change wpQuiet _ _ _ _ [_] _
        repeat go_big_quiet_step (fail)
        refine wpQuiet_nil ?_
        clear  this
        refine U.wpAnyM_one (i := 10) (L' := #[true, true, true, true, true, true, true, true, true, true, true]) (by kernel_rfl) (by kernel_rfl) ?_
        refine U.wpOp_step (o := _) rfl ?_
        have c_xg4_0 : X13.cell? ⟨xg4, 0, none⟩ = some (.slice none 0 0) := H13.out.cell 2 0 rfl rfl
        have c_xg4_1 : X13.cell? ⟨xg4, 1, none⟩ = some (.bool false) := H13.out.cell 2 1 rfl rfl
        have c_xg4_2 : X13.cell? ⟨xg4, 2, none⟩ = some (.slice none 0 0) := H13.out.cell 2 2 rfl rfl
        have d_xg4_0 : X13.frozen? ⟨xg4, 0, none⟩ = false := H13.out.free 2 0 rfl
        have d_xg4_1 : X13.frozen? ⟨xg4, 1, none⟩ = false := H13.out.free 2 1 rfl
        have d_xg4_2 : X13.frozen? ⟨xg4, 2, none⟩ = false := H13.out.free 2 2 rfl
        go_wp2
        clear c_xg4_0 c_xg4_1 c_xg4_2 d_xg4_0 d_xg4_1 d_xg4_2
        obtain ⟨X14, hX⟩ : ∃ X, X = (((X13.setCell ⟨xg4, 0, none⟩ (.slice none 0 0)).setCell ⟨xg4, 1, none⟩ (.bool false)).setCell ⟨xg4, 2, none⟩ (.slice (some ⟨xg7, 0, none⟩) 1 1)) := ⟨_, rfl⟩
        have H14 : Hid (Own w [(xg7, 37, #[.int .i64 3, .string ⟨#[]⟩, .string ⟨#[]⟩, .string ⟨#[]⟩, .int .i64 nc, .int .i64 0, .int .i64 0, .int .i64 0, .bool false, .slice none 0 0, .slice none 0 0]), (xg5, 62, #[.int .i64 2, .int .i64 8]), (xg4, 29, #[.slice none 0 0, .bool false, .slice (some ⟨xg7, 0, none⟩) 1 1]), (xg3, 26, #[.int .i64 6, .string n, .string pw, .int .i64 st, .int .i64 tm, .int .i64 ct, .int .i64 0, .int .i64 sa, .int .i64 nc]), (xg2, 37, #[.int .i64 8, .string nn, .string nt, .string nd, .int .i64 nc, .int .i64 ns, .int .i64 ni, .int .i64 nm, .bool nok, .slice ia il ic, .slice ja jl jc]), (xg1, 26, #[.int .i64 2, .string n, .string pw, .int .i64 st, .int .i64 tm, .int .i64 ct, .int .i64 0, .int .i64 sa, .int .i64 cd])] X14) := Lib.hid (by
          rw [hX]
          have k0 := H13.out
          have k1 := Own.lay k0 [.slice none 0 0, .bool false, .slice (some ⟨xg7, 0, none⟩) 1 1] 0 2 #[.slice none 0 0, .bool false, .slice (some ⟨xg7, 0, none⟩) 1 1] rfl (by kernel_rfl)
          exact k1.cast (by kernel_rfl) (by kernel_rfl))
        rw [← hX]
        clear hX 
        refine ⟨fun h => (by cases h), ?_⟩
        refine U.wpAnyM_end (by kernel_rfl) ?_
        exact ⟨rfl, xg7, rfl, H14.out.pick [0, 1, 2, 3, 4, 5] (by decide)⟩
    · refine U.wpOp_step (o := _) rfl ?_
      obtain ⟨xg8, hxg8⟩ : ∃ g, g = X7.heap.size := ⟨_, rfl⟩
      go_wp2
      obtain ⟨X15, hX⟩ : ∃ X, X = (X7.alloc (.cells #[.int .i64 3, .string ⟨#[]⟩, .string ⟨#[]⟩, .string ⟨#[]⟩, .int .i64 nc, .int .i64 0, .int .i64 0, .int .i64 0, .bool false, .slice none 0 0, .slice none 0 0] 37)) := ⟨_, rfl⟩
      have H15 : Hid (Own w [(xg8, 37, #[.int .i64 3, .string ⟨#[]⟩, .string ⟨#[]⟩, .string ⟨#[]⟩, .int .i64 nc, .int .i64 0, .int .i64 0, .int .i64 0, .bool false, .slice none 0 0, .slice none 0 0]), (xg5, 62, #[.int .i64 2, .int .i64 8]), (xg4, 29, #[.slice none 0 0, .bool false, .slice none 0 0]), (xg3, 26, #[.int .i64 0, .string ⟨#[]⟩, .string ⟨#[]⟩, .int .i64 0, .int .i64 0, .int .i64 0, .int .i64 0, .int .i64 0, .int .i64 0]), (xg2, 37, #[.int .i64 8, .string nn, .string nt, .string nd, .int .i64 nc, .int .i64 ns, .int .i64 ni, .int .i64 nm, .bool nok, .slice ia il ic, .slice ja jl jc]), (xg1, 26, #[.int .i64 2, .string n, .string pw, .int .i64 st, .int .i64 tm, .int .i64 ct, .int .i64 0, .int .i64 sa, .int .i64 cd])] X15) := Lib.hid (by
        rw [hX]
        have k0 := H7.out
        have k1 := Own.alloc (g := xg8) k0 37 #[.int .i64 3, .string ⟨#[]⟩, .string ⟨#[]⟩, .string ⟨#[]⟩, .int .i64 nc, .int .i64 0, .int .i64 0, .int .i64 0, .bool false, .slice none 0 0, .slice none 0 0] (by first | exact hxg8 | (rw [hxg8]; simp [U.fillW_size]))
        exact k1.cast (by kernel_rfl) (by kernel_rfl))
      rw [← hX, ← hxg8]
      clear hX hxg8
      refine ⟨fun _ _ => ⟨⟨_, (MK.out _ (H15.out.pick [4, 5] (by decide)))⟩, rfl⟩, ?_⟩
      haveI : Nonempty (U.In (S)) := ⟨⟨_, (MK.out _ (H15.out.pick [4, 5] (by decide)))⟩⟩
      refine U.wpAnyM_reads (n := 3) (L := #[true, true, true, false, true, true, true, true, true, false, false]) [8] _ _ (by kernel_rfl) (fun _ _ _ _ _ h => h) ⟨⟨_, (MK.out _ (H15.out.pick [4, 5] (by decide)))⟩, rfl⟩ (by kernel_rfl) (by kernel_rfl) (by kernel_rfl) ?_
      simp only [List.filterMap_cons, List.filterMap_nil, List.getElem?_toArray, List.getElem?_cons_succ, List.getElem?_cons_zero]
      change wpQuiet _ _ _ _ [_] _
      repeat go_big_quiet_step (fail)
      refine wpQuiet_nil ?_
      clear  this
      refine U.wpAnyM_one (i := 3) (L' := #[true, true, true, true, true, true, true, true, true, false, false]) (by kernel_rfl) (by kernel_rfl) ?_
      refine U.wpOp_step (o := _) rfl ?_
      go_wp2_with fail
      refine ((over_any 2 n pw st tm ct 0 sa cd nc) _).mono ?_
      rintro e X16 ⟨rfl, hn⟩
      have H16 := Lib.hid (H15.out.call hn)
      clear hn
      go_wp2
      refine ⟨fun _ _ => ⟨⟨_, (MK.out _ (H16.out.pick [4, 5] (by decide)))⟩, rfl⟩, ?_⟩
      refine U.wpAnyM_one (i := 9) (L' := #[true, true, true, true, true, true, true, true, true, true, false]) (by kernel_rfl) (by kernel_rfl) ?_
      refine U.wpOp_step (o := _) rfl ?_
      have c_xg3_0 : X16.cell? ⟨xg3, 0, none⟩ = some (.int .i64 0) := H16.out.cell 3 0 rfl rfl
      have c_xg3_1 : X16.cell? ⟨xg3, 1, none⟩ = some (.string ⟨#[]⟩) := H16.out.cell 3 1 rfl rfl
      have c_xg3_2 : X16.cell? ⟨xg3, 2, none⟩ = some (.string ⟨#[]⟩) := H16.out.cell 3 2 rfl rfl
      have c_xg3_3 : X16.cell? ⟨xg3, 3, none⟩ = some (.int .i64 0) := H16.out.cell 3 3 rfl rfl
      have c_xg3_4 : X16.cell? ⟨xg3, 4, none⟩ = some (.int .i64 0) := H16.out.cell 3 4 rfl rfl
      have c_xg3_5 : X16.cell? ⟨xg3, 5, none⟩ = some (.int .i64 0) := H16.out.cell 3 5 rfl rfl
      have c_xg3_6 : X16.cell? ⟨xg3, 6, none⟩ = some (.int .i64 0) := H16.out.cell 3 6 rfl rfl
      have c_xg3_7 : X16.cell? ⟨xg3, 7, none⟩ = some (.int .i64 0) := H16.out.cell 3 7 rfl rfl
      have c_xg3_8 : X16.cell? ⟨xg3, 8, none⟩ = some (.int .i64 0) := H16.out.cell 3 8 rfl rfl
      have d_xg3_0 : X16.frozen? ⟨xg3, 0, none⟩ = false := H16.out.free 3 0 rfl
      have d_xg3_1 : X16.frozen? ⟨xg3, 1, none⟩ = false := H16.out.free 3 1 rfl
      have d_xg3_2 : X16.frozen? ⟨xg3, 2, none⟩ = false := H16.out.free 3 2 rfl
      have d_xg3_3 : X16.frozen? ⟨xg3, 3, none⟩ = false := H16.out.free 3 3 rfl
      have d_xg3_4 : X16.frozen? ⟨xg3, 4, none⟩ = false := H16.out.free 3 4 rfl
      have d_xg3_5 : X16.frozen? ⟨xg3, 5, none⟩ = false := H16.out.free 3 5 rfl
      have d_xg3_6 : X16.frozen? ⟨xg3, 6, none⟩ = false := H16.out.free 3 6 rfl
      have d_xg3_7 : X16.frozen? ⟨xg3, 7, none⟩ = false := H16.out.free 3 7 rfl
      have d_xg3_8 : X16.frozen? ⟨xg3, 8, none⟩ = false := H16.out.free 3 8 rfl
      go_wp2
      clear c_xg3_0 c_xg3_1 c_xg3_2 c_xg3_3 c_xg3_4 c_xg3_5 c_xg3_6 c_xg3_7 c_xg3_8 d_xg3_0 d_xg3_1 d_xg3_2 d_xg3_3 d_xg3_4 d_xg3_5 d_xg3_6 d_xg3_7 d_xg3_8
      obtain ⟨X17, hX⟩ : ∃ X, X = (((((((((X16.setCell ⟨xg3, 0, none⟩ (.int .i64 6)).setCell ⟨xg3, 1, none⟩ (.string n)).setCell ⟨xg3, 2, none⟩ (.string pw)).setCell ⟨xg3, 3, none⟩ (.int .i64 st)).setCell ⟨xg3, 4, none⟩ (.int .i64 tm)).setCell ⟨xg3, 5, none⟩ (.int .i64 ct)).setCell ⟨xg3, 6, none⟩ (.int .i64 0)).setCell ⟨xg3, 7, none⟩ (.int .i64 sa)).setCell ⟨xg3, 8, none⟩ (.int .i64 nc)) := ⟨_, rfl⟩
      have H17 : Hid (Own w [(xg8, 37, #[.int .i64 3, .string ⟨#[]⟩, .string ⟨#[]⟩, .string ⟨#[]⟩, .int .i64 nc, .int .i64 0, .int .i64 0, .int .i64 0, .bool false, .slice none 0 0, .slice none 0 0]), (xg5, 62, #[.int .i64 2, .int .i64 8]), (xg4, 29, #[.slice none 0 0, .bool false, .slice none 0 0]), (xg3, 26, #[.int .i64 6, .string n, .string pw, .int .i64 st, .int .i64 tm, .int .i64 ct, .int .i64 0, .int .i64 sa, .int .i64 nc]), (xg2, 37, #[.int .i64 8, .string nn, .string nt, .string nd, .int .i64 nc, .int .i64 ns, .int .i64 ni, .int .i64 nm, .bool nok, .slice ia il ic, .slice ja jl jc]), (xg1, 26, #[.int .i64 2, .string n, .string pw, .int .i64 st, .int .i64 tm, .int .i64 ct, .int .i64 0, .int .i64 sa, .int .i64 cd])] X17) := Lib.hid (by
        rw [hX]
        have k0 := H16.out
        have k1 := Own.lay k0 [.int .i64 6, .string n, .string pw, .int .i64 st, .int .i64 tm, .int .i64 ct, .int .i64 0, .int .i64 sa, .int .i64 nc] 0 3 #[.int .i64 6, .string n, .string pw, .int .i64 st, .int .i64 tm, .int .i64 ct, .int .i64 0, .int .i64 sa, .int .i64 nc] rfl (by kernel_rfl)
        exact k1.cast (by kernel_rfl) (by kernel_rfl))
      rw [← hX]
      clear hX 
      refine ⟨fun _ _ => ⟨⟨_, (MK.out _ (H17.out.pick [4, 5] (by decide)))⟩, rfl⟩, ?_⟩
      refine U.wpAnyM_one (i := 10) (L' := #[true, true, true, true, true, true, true, true, true, true, true]) (by kernel_rfl) (by kernel_rfl) ?_
      refine U.wpOp_step (o := _) rfl ?_
      have c_xg4_0 : X17.cell? ⟨xg4, 0, none⟩ = some (.slice none 0 0) := H17.out.cell 2 0 rfl rfl
      have c_xg4_1 : X17.cell? ⟨xg4, 1, none⟩ = some (.bool false) := H17.out.cell 2 1 rfl rfl
      have c_xg4_2 : X17.cell? ⟨xg4, 2, none⟩ = some (.slice none 0 0) := H17.out.cell 2 2 rfl rfl
      have d_xg4_0 : X17.frozen? ⟨xg4, 0, none⟩ = false := H17.out.free 2 0 rfl
      have d_xg4_1 : X17.frozen? ⟨xg4, 1, none⟩ = false := H17.out.free 2 1 rfl
      have d_xg4_2 : X17.frozen? ⟨xg4, 2, none⟩ = false := H17.out.free 2 2 rfl
      go_wp2
      clear c_xg4_0 c_xg4_1 c_xg4_2 d_xg4_0 d_xg4_1 d_xg4_2
      obtain ⟨X18, hX⟩ : ∃ X, X = (((X17.setCell ⟨xg4, 0, none⟩ (.slice none 0 0)).setCell ⟨xg4, 1, none⟩ (.bool false)).setCell ⟨xg4, 2, none⟩ (.slice (some ⟨xg8, 0, none⟩) 1 1)) := ⟨_, rfl⟩
      have H18 : Hid (Own w [(xg8, 37, #[.int .i64 3, .string ⟨#[]⟩, .string ⟨#[]⟩, .string ⟨#[]⟩, .int .i64 nc, .int .i64 0, .int .i64 0, .int .i64 0, .bool false, .slice none 0 0, .slice none 0 0]), (xg5, 62, #[.int .i64 2, .int .i64 8]), (xg4, 29, #[.slice none 0 0, .bool false, .slice (some ⟨xg8, 0, none⟩) 1 1]), (xg3, 26, #[.int .i64 6, .string n, .string pw, .int .i64 st, .int .i64 tm, .int .i64 ct, .int .i64 0, .int .i64 sa, .int .i64 nc]), (xg2, 37, #[.int .i64 8, .string nn, .string nt, .string nd, .int .i64 nc, .int .i64 ns, .int .i64 ni, .int .i64 nm, .bool nok, .slice ia il ic, .slice ja jl jc]), (xg1, 26, #[.int .i64 2, .string n, .string pw, .int .i64 st, .int .i64 tm, .int .i64 ct, .int .i64 0, .int .i64 sa, .int .i64 cd])] X18) := Lib.hid (by
        rw [hX]
        have k0 := H17.out
        have k1 := Own.lay k0 [.slice none 0 0, .bool false, .slice (some ⟨xg8, 0, none⟩) 1 1] 0 2 #[.slice none 0 0, .bool false, .slice (some ⟨xg8, 0, none⟩) 1 1] rfl (by kernel_rfl)
        exact k1.cast (by kernel_rfl) (by kernel_rfl))
      rw [← hX]
      clear hX 
      refine ⟨fun h => (by cases h), ?_⟩
      refine U.wpAnyM_end (by kernel_rfl) ?_
      exact ⟨rfl, xg8, rfl, H18.out.pick [0, 1, 2, 3, 4, 5] (by decide)⟩
  intro xg6 W19 hW
  have H19 := Lib.hid hW
  clear hW H6
  go_wp2
  have H20 := H19
  exact bodyPost_ret (res_cc rfl (H20.out.at 3 rfl) Tryd.underlying26 (by kernel_rfl) rfl (H20.out.at 2 rfl) Tryd.underlying29 (by kernel_rfl) rfl rfl rfl) rfl ⟨xg6, rfl, H20.out.pick [0] (by decide)⟩
end Go.Proofs.YtpjkbamkaicoiaaDoor.Ses
end

section
/- session's functions, some of their ways. (Printed by a program, by wc.py.) -/
set_option linter.unusedVariables false
set_option linter.unusedSimpArgs false
set_option maxRecDepth 100000
namespace Go.Proofs.YtpjkbamkaicoiaaDoor.Ses
open Go.RowKit U
set_option maxHeartbeats 8000000 in
theorem Comes_bad (bn bp : ByteArray) (bs bt bc : Int) (ck co : ByteArray) (cd : Int) (hc : ¬ cd = 0) (hn : bn.size + bp.size + ck.size + co.size ≤ 12000) (hp : (bp.toList == []) = false) (hl : bp.size ≤ 16) (s1 : 0 ≤ bs) (s2 : bs ≤ 65535) (c1 : 0 ≤ bc) (c2 : bc ≤ 65535) (t1 : 0 ≤ bt) (t2 : bt ≤ 4294967295) (hG : ∀ w, Calls Tryd.prog 39 #[.string bp] w fun e w' => e = .returned (.int .i64 0) ∧ Below w.heap.size w w') (hC : ∀ w, Calls Tryd.prog 40 #[.string bn] w fun e w' => e = .returned (.int .i64 0) ∧ Below w.heap.size w w') (D : ByteArray) (hD : ∀ w, Calls Tryd.prog 27 #[.string ck, .string bp, .string tailS] w fun e w' => e = .returned (.string D) ∧ Below w.heap.size w w') (hR : ∀ w, Calls Tryd.prog 11 #[.string ck, .string bp] w fun e w' => e = .returned (.string D) ∧ Below w.heap.size w w') (hS : ∀ w, Calls Tryd.prog 28 #[.string bn, .string bn] w fun e w' => e = .returned (.bool true) ∧ Below w.heap.size w w') (hL : ∀ w, Calls Tryd.prog 8 #[] w fun e w' => e = .returned (.bool true) ∧ Below w.heap.size w w') (w : World) : Calls Tryd.prog 3 #[.agg #[.string bn, .string bp, .int .i64 bs, .int .i64 bt, .int .i64 bc], .string ck, .string co, .int .i64 cd] w fun e w' => e = .returned (.bool true) ∧ Own w [] w' := by
  have HL := Lib.hid (Own.ret hL)
  have HG := Lib.hid hG
  have HC := Lib.hid hC
  have HD := Lib.hid hD
  have HS := Lib.hid hS
  have HR := Lib.hid (Own.ret hR)
  have hqD : (D.toList == D.toList) = true := beq_self_eq_true _
  have hqo : (co.toList == co.toList) = true := beq_self_eq_true _
  have H0 := Lib.hid (Own.start w)
  go_enter Tryd.func3, Tryd.ntmps3
  obtain ⟨xg1, hxg1⟩ : ∃ g, g = w.heap.size := ⟨_, rfl⟩
  go_wp2_with fail
  have H1' : Hid (Own w [(xg1, 23, #[.string bn, .string bp, .int .i64 bs, .int .i64 bt, .int .i64 bc])] (w.alloc (.cells #[.string bn, .string bp, .int .i64 bs, .int .i64 bt, .int .i64 bc] 23))) := Lib.hid (by
    have k0 := H0.out
    have k1 := Own.alloc (g := xg1) k0 23 #[.string bn, .string bp, .int .i64 bs, .int .i64 bt, .int .i64 bc] (by first | exact hxg1 | (rw [hxg1]; simp [U.fillW_size]))
    exact k1.cast (by kernel_rfl) (by kernel_rfl))
  rw [← hxg1]
  refine calls_own H1'.out (fun W1 hW => ?_)
  have H1 := Lib.hid hW
  clear hW H1' H0 hxg1
  refine ((begin_ok bn bp bs bt bc hp (by omega) (by omega) (by omega) (by omega) (by omega) (by omega) (by omega) HG.out HC.out) _).mono ?_
  rintro e W2 ⟨xr2, rfl, hn⟩
  have H2 := Lib.hid (H1.out.call hn)
  clear hn H1
  obtain ⟨xg3, hxg3⟩ : ∃ g, g = W2.heap.size := ⟨_, rfl⟩
  obtain ⟨xg4, hxg4⟩ : ∃ g, g = W2.heap.size + 1 := ⟨_, rfl⟩
  go_wp2_with fail
  have H3' : Hid (Own w [(xg4, 29, #[.slice (some ⟨xr2, 0, none⟩) 2 2, .bool true, .slice none 0 0]), (xg3, 26, #[.int .i64 1, .string bn, .string bp, .int .i64 bs, .int .i64 bt, .int .i64 bc, .int .i64 0, .int .i64 0, .int .i64 0]), (xr2, 37, #[.int .i64 1, .string ⟨#[]⟩, .string ⟨#[]⟩, .string ⟨#[]⟩, .int .i64 0, .int .i64 0, .int .i64 0, .int .i64 0, .bool false, .slice none 0 0, .slice none 0 0, .int .i64 5, .string bn, .string ⟨#[]⟩, .string ⟨#[]⟩, .int .i64 0, .int .i64 0, .int .i64 0, .int .i64 0, .bool false, .slice none 0 0, .slice none 0 0]), (xg1, 23, #[.string bn, .string bp, .int .i64 bs, .int .i64 bt, .int .i64 bc])] ((W2.alloc (.cells #[.int .i64 1, .string bn, .string bp, .int .i64 bs, .int .i64 bt, .int .i64 bc, .int .i64 0, .int .i64 0, .int .i64 0] 26)).alloc (.cells #[.slice (some ⟨xr2, 0, none⟩) 2 2, .bool true, .slice none 0 0] 29))) := Lib.hid (by
    have k0 := H2.out
    have k1 := Own.alloc (g := xg3) k0 26 #[.int .i64 1, .string bn, .string bp, .int .i64 bs, .int .i64 bt, .int .i64 bc, .int .i64 0, .int .i64 0, .int .i64 0] (by first | exact hxg3 | (rw [hxg3]; simp [U.fillW_size]))
    have k2 := Own.alloc (g := xg4) k1 29 #[.slice (some ⟨xr2, 0, none⟩) 2 2, .bool true, .slice none 0 0] (by first | exact hxg4 | (rw [hxg4]; simp [U.fillW_size]))
    exact k2.cast (by kernel_rfl) (by kernel_rfl))
  rw [← hxg4]
  rw [← hxg3]
  refine calls_own H3'.out (fun W3 hW => ?_)
  have H3 := Lib.hid hW
  clear hW H3' H2 hxg3 hxg4
  refine ((Take_key bn bp bs bt bc 0 0 0 ck D HD.out) _).mono ?_
  rintro e W4 ⟨xr5, rfl, hn⟩
  have H4 := Lib.hid (H3.out.call hn)
  clear hn H3
  obtain ⟨xg6, hxg6⟩ : ∃ g, g = W4.heap.size := ⟨_, rfl⟩
  have nn_xg3_xg6 : ¬ xg3 = W4.heap.size := by have := H4.out.lt 2 rfl; omega
  have nm_xg3_xg6 : ¬ W4.heap.size = xg3 := by have := H4.out.lt 2 rfl; omega
  have G5 : Hid (Own w [(xg6, 29, #[.slice none 0 0, .bool false, .slice none 0 0]), (xr5, 37, #[.int .i64 7, .string bn, .string ⟨#[]⟩, .string D, .int .i64 0, .int .i64 0, .int .i64 0, .int .i64 0, .bool false, .slice none 0 0, .slice none 0 0]), (xg4, 29, #[.slice (some ⟨xr2, 0, none⟩) 2 2, .bool true, .slice none 0 0]), (xg3, 26, #[.int .i64 1, .string bn, .string bp, .int .i64 bs, .int .i64 bt, .int .i64 bc, .int .i64 0, .int .i64 0, .int .i64 0]), (xr2, 37, #[.int .i64 1, .string ⟨#[]⟩, .string ⟨#[]⟩, .string ⟨#[]⟩, .int .i64 0, .int .i64 0, .int .i64 0, .int .i64 0, .bool false, .slice none 0 0, .slice none 0 0, .int .i64 5, .string bn, .string ⟨#[]⟩, .string ⟨#[]⟩, .int .i64 0, .int .i64 0, .int .i64 0, .int .i64 0, .bool false, .slice none 0 0, .slice none 0 0]), (xg1, 23, #[.string bn, .string bp, .int .i64 bs, .int .i64 bt, .int .i64 bc])] (W4.alloc (.cells #[.slice none 0 0, .bool false, .slice none 0 0] 29))) := Lib.hid (by
    have k0 := H4.out
    have k1 := Own.alloc (g := xg6) k0 29 #[.slice none 0 0, .bool false, .slice none 0 0] (by first | exact hxg6 | (rw [hxg6]; simp [U.fillW_size]))
    exact k1.cast (by kernel_rfl) (by kernel_rfl))
  have c0__xg3_0 : (_ : Option Value) = some (.int .i64 1) := G5.out.cell 3 0 rfl rfl
  have c0__xg3_1 : (_ : Option Value) = some (.string bn) := G5.out.cell 3 1 rfl rfl
  have c0__xg3_2 : (_ : Option Value) = some (.string bp) := G5.out.cell 3 2 rfl rfl
  have c0__xg3_3 : (_ : Option Value) = some (.int .i64 bs) := G5.out.cell 3 3 rfl rfl
  have c0__xg3_4 : (_ : Option Value) = some (.int .i64 bt) := G5.out.cell 3 4 rfl rfl
  have c0__xg3_5 : (_ : Option Value) = some (.int .i64 bc) := G5.out.cell 3 5 rfl rfl
  have c0__xg3_6 : (_ : Option Value) = some (.int .i64 0) := G5.out.cell 3 6 rfl rfl
  have c0__xg3_7 : (_ : Option Value) = some (.int .i64 0) := G5.out.cell 3 7 rfl rfl
  have c0__xg3_8 : (_ : Option Value) = some (.int .i64 0) := G5.out.cell 3 8 rfl rfl
  have d0__xg3_0 : (_ : Bool) = false := G5.out.free 3 0 rfl
  have d0__xg3_1 : (_ : Bool) = false := G5.out.free 3 1 rfl
  have d0__xg3_2 : (_ : Bool) = false := G5.out.free 3 2 rfl
  have d0__xg3_3 : (_ : Bool) = false := G5.out.free 3 3 rfl
  have d0__xg3_4 : (_ : Bool) = false := G5.out.free 3 4 rfl
  have d0__xg3_5 : (_ : Bool) = false := G5.out.free 3 5 rfl
  have d0__xg3_6 : (_ : Bool) = false := G5.out.free 3 6 rfl
  have d0__xg3_7 : (_ : Bool) = false := G5.out.free 3 7 rfl
  have d0__xg3_8 : (_ : Bool) = false := G5.out.free 3 8 rfl
  go_wp2
  clear nn_xg3_xg6 nm_xg3_xg6 G5 c0__xg3_0 c0__xg3_1 c0__xg3_2 c0__xg3_3 c0__xg3_4 c0__xg3_5 c0__xg3_6 c0__xg3_7 c0__xg3_8 d0__xg3_0 d0__xg3_1 d0__xg3_2 d0__xg3_3 d0__xg3_4 d0__xg3_5 d0__xg3_6 d0__xg3_7 d0__xg3_8
  have H6' : Hid (Own w [(xg6, 29, #[.slice (some ⟨xr5, 0, none⟩) 1 1, .bool false, .slice none 0 0]), (xr5, 37, #[.int .i64 7, .string bn, .string ⟨#[]⟩, .string D, .int .i64 0, .int .i64 0, .int .i64 0, .int .i64 0, .bool false, .slice none 0 0, .slice none 0 0]), (xg4, 29, #[.slice (some ⟨xr2, 0, none⟩) 2 2, .bool true, .slice none 0 0]), (xg3, 26, #[.int .i64 2, .string bn, .string bp, .int .i64 bs, .int .i64 bt, .int .i64 bc, .int .i64 0, .int .i64 0, .int .i64 0]), (xr2, 37, #[.int .i64 1, .string ⟨#[]⟩, .string ⟨#[]⟩, .string ⟨#[]⟩, .int .i64 0, .int .i64 0, .int .i64 0, .int .i64 0, .bool false, .slice none 0 0, .slice none 0 0, .int .i64 5, .string bn, .string ⟨#[]⟩, .string ⟨#[]⟩, .int .i64 0, .int .i64 0, .int .i64 0, .int .i64 0, .bool false, .slice none 0 0, .slice none 0 0]), (xg1, 23, #[.string bn, .string bp, .int .i64 bs, .int .i64 bt, .int .i64 bc])] (((((((((((((W4.alloc (.cells #[.slice none 0 0, .bool false, .slice none 0 0] 29)).setCell ⟨xg3, 0, none⟩ (.int .i64 2)).setCell ⟨xg3, 1, none⟩ (.string bn)).setCell ⟨xg3, 2, none⟩ (.string bp)).setCell ⟨xg3, 3, none⟩ (.int .i64 bs)).setCell ⟨xg3, 4, none⟩ (.int .i64 bt)).setCell ⟨xg3, 5, none⟩ (.int .i64 bc)).setCell ⟨xg3, 6, none⟩ (.int .i64 0)).setCell ⟨xg3, 7, none⟩ (.int .i64 0)).setCell ⟨xg3, 8, none⟩ (.int .i64 0)).setCell ⟨xg6, 0, none⟩ (.slice (some ⟨xr5, 0, none⟩) 1 1)).setCell ⟨xg6, 1, none⟩ (.bool false)).setCell ⟨xg6, 2, none⟩ (.slice none 0 0))) := Lib.hid (by
    have k0 := H4.out
    have k1 := Own.alloc (g := xg6) k0 29 #[.slice none 0 0, .bool false, .slice none 0 0] (by first | exact hxg6 | (rw [hxg6]; simp [U.fillW_size]))
    have k2 := Own.lay k1 [.int .i64 2, .string bn, .string bp, .int .i64 bs, .int .i64 bt, .int .i64 bc, .int .i64 0, .int .i64 0, .int .i64 0] 0 3 #[.int .i64 2, .string bn, .string bp, .int .i64 bs, .int .i64 bt, .int .i64 bc, .int .i64 0, .int .i64 0, .int .i64 0] rfl (by kernel_rfl)
    have k3 := Own.lay k2 [.slice (some ⟨xr5, 0, none⟩) 1 1, .bool false, .slice none 0 0] 0 0 #[.slice (some ⟨xr5, 0, none⟩) 1 1, .bool false, .slice none 0 0] rfl (by kernel_rfl)
    exact k3.cast (by kernel_rfl) (by kernel_rfl))
  rw [← hxg6]
  refine world_own H6'.out (fun W6 hW => ?_)
  have H6 := Lib.hid hW
  clear hW H6' H4 hxg6
  obtain ⟨S, MK, UN⟩ : ∃ S : World → Prop, Hid (∀ x, Own w [(xg6, 29, #[.slice (some ⟨xr5, 0, none⟩) 1 1, .bool false, .slice none 0 0]), (xr5, 37, #[.int .i64 7, .string bn, .string ⟨#[]⟩, .string D, .int .i64 0, .int .i64 0, .int .i64 0, .int .i64 0, .bool false, .slice none 0 0, .slice none 0 0]), (xg4, 29, #[.slice (some ⟨xr2, 0, none⟩) 2 2, .bool true, .slice none 0 0]), (xg3, 26, #[.int .i64 2, .string bn, .string bp, .int .i64 bs, .int .i64 bt, .int .i64 bc, .int .i64 0, .int .i64 0, .int .i64 0]), (xr2, 37, #[.int .i64 1, .string ⟨#[]⟩, .string ⟨#[]⟩, .string ⟨#[]⟩, .int .i64 0, .int .i64 0, .int .i64 0, .int .i64 0, .bool false, .slice none 0 0, .slice none 0 0, .int .i64 5, .string bn, .string ⟨#[]⟩, .string ⟨#[]⟩, .int .i64 0, .int .i64 0, .int .i64 0, .int .i64 0, .bool false, .slice none 0 0, .slice none 0 0]), (xg1, 23, #[.string bn, .string bp, .int .i64 bs, .int .i64 bt, .int .i64 bc])] x → S x) ∧ Hid (∀ x, S x → Own w [(xg6, 29, #[.slice (some ⟨xr5, 0, none⟩) 1 1, .bool false, .slice none 0 0]), (xr5, 37, #[.int .i64 7, .string bn, .string ⟨#[]⟩, .string D, .int .i64 0, .int .i64 0, .int .i64 0, .int .i64 0, .bool false, .slice none 0 0, .slice none 0 0]), (xg4, 29, #[.slice (some ⟨xr2, 0, none⟩) 2 2, .bool true, .slice none 0 0]), (xg3, 26, #[.int .i64 2, .string bn, .string bp, .int .i64 bs, .int .i64 bt, .int .i64 bc, .int .i64 0, .int .i64 0, .int .i64 0]), (xr2, 37, #[.int .i64 1, .string ⟨#[]⟩, .string ⟨#[]⟩, .string ⟨#[]⟩, .int .i64 0, .int .i64 0, .int .i64 0, .int .i64 0, .bool false, .slice none 0 0, .slice none 0 0, .int .i64 5, .string bn, .string ⟨#[]⟩, .string ⟨#[]⟩, .int .i64 0, .int .i64 0, .int .i64 0, .int .i64 0, .bool false, .slice none 0 0, .slice none 0 0]), (xg1, 23, #[.string bn, .string bp, .int .i64 bs, .int .i64 bt, .int .i64 bc])] x) := ⟨_, Lib.hid (fun _ h => h), Lib.hid (fun _ h => h)⟩
  have p_xg6_0 : ∀ x : U.In S, x.w.cell? ⟨xg6, 0, none⟩ = some (.slice (some ⟨xr5, 0, none⟩) 1 1) := fun x => (UN.out _ x.h).cell 0 0 rfl rfl
  have p_xr5_0 : ∀ x : U.In S, x.w.cell? ⟨xr5, 0, none⟩ = some (.int .i64 7) := fun x => (UN.out _ x.h).cell 1 0 rfl rfl
  have p_xr5_3 : ∀ x : U.In S, x.w.cell? ⟨xr5, 3, none⟩ = some (.string D) := fun x => (UN.out _ x.h).cell 1 3 rfl rfl
  have p_xg1_1 : ∀ x : U.In S, x.w.cell? ⟨xg1, 1, none⟩ = some (.string bp) := fun x => (UN.out _ x.h).cell 5 1 rfl rfl
  have p_xg3_0 : ∀ x : U.In S, x.w.cell? ⟨xg3, 0, none⟩ = some (.int .i64 2) := fun x => (UN.out _ x.h).cell 3 0 rfl rfl
  have HK : Hid (∀ u v : World, S u → Below u.heap.size u v → S v) := Lib.hid (fun u v h hb => MK.out _ ((UN.out _ h).below hb))
  haveI : Nonempty (U.In S) := ⟨⟨_, MK.out _ H6.out⟩⟩
  refine U.region_in (l := _ :: _ :: _ :: _ :: _ :: _ :: _ :: _ :: _ :: _ :: _ :: _ :: _ :: _ :: _ :: _ :: _ :: _ :: _ :: _ :: _ :: _ :: _ :: _ :: _ :: _ :: _ :: _ :: _ :: []) (S := S) (by kernel_rfl) (by kernel_rfl) (MK.out _ H6.out.drew) ?_
  repeat (go_big_quiet_step (first | (go_at_call 11; exact U.call_own _ (HR.out _) HK.out)))
  refine wpQuiet_nil ?_
  intro W7 hW
  have H7 := Lib.hid (UN.out _ hW)
  clear hW this HK p_xg6_0 p_xr5_0 p_xr5_3 p_xg1_1 p_xg3_0 H6 MK UN
  have c_xg3_0 : W7.cell? ⟨xg3, 0, none⟩ = some (.int .i64 2) := H7.out.cell 3 0 rfl rfl
  have c_xg3_1 : W7.cell? ⟨xg3, 1, none⟩ = some (.string bn) := H7.out.cell 3 1 rfl rfl
  have c_xg3_2 : W7.cell? ⟨xg3, 2, none⟩ = some (.string bp) := H7.out.cell 3 2 rfl rfl
  have c_xg3_3 : W7.cell? ⟨xg3, 3, none⟩ = some (.int .i64 bs) := H7.out.cell 3 3 rfl rfl
  have c_xg3_4 : W7.cell? ⟨xg3, 4, none⟩ = some (.int .i64 bt) := H7.out.cell 3 4 rfl rfl
  have c_xg3_5 : W7.cell? ⟨xg3, 5, none⟩ = some (.int .i64 bc) := H7.out.cell 3 5 rfl rfl
  have c_xg3_6 : W7.cell? ⟨xg3, 6, none⟩ = some (.int .i64 0) := H7.out.cell 3 6 rfl rfl
  have c_xg3_7 : W7.cell? ⟨xg3, 7, none⟩ = some (.int .i64 0) := H7.out.cell 3 7 rfl rfl
  have c_xg3_8 : W7.cell? ⟨xg3, 8, none⟩ = some (.int .i64 0) := H7.out.cell 3 8 rfl rfl
  have c_xg1_0 : W7.cell? ⟨xg1, 0, none⟩ = some (.string bn) := H7.out.cell 5 0 rfl rfl
  go_wp2_with fail
  clear c_xg3_0 c_xg3_1 c_xg3_2 c_xg3_3 c_xg3_4 c_xg3_5 c_xg3_6 c_xg3_7 c_xg3_8 c_xg1_0
  have H8' := H7
  refine calls_own H8'.out (fun W8 hW => ?_)
  have H8 := Lib.hid hW
  clear hW H8' H7 
  refine ((Take_letbad bn bp bs bt bc 0 0 0 bn (⟨#[]⟩) (⟨#[]⟩) cd 0 0 0 false none 0 0 none 0 0 hc HS.out) _).mono ?_
  rintro e W9 ⟨xr7, rfl, hn⟩
  have H9 := Lib.hid (H8.out.call hn)
  clear hn H8
  obtain ⟨xg8, hxg8⟩ : ∃ g, g = W9.heap.size := ⟨_, rfl⟩
  obtain ⟨xg9, hxg9⟩ : ∃ g, g = W9.heap.size + 1 := ⟨_, rfl⟩
  go_wp2_with fail
  have H10' : Hid (Own w [(xg9, 29, #[.slice none 0 0, .bool false, .slice (some ⟨xr7, 0, none⟩) 1 1]), (xg8, 26, #[.int .i64 6, .string bn, .string bp, .int .i64 bs, .int .i64 bt, .int .i64 bc, .int .i64 0, .int .i64 0, .int .i64 cd]), (xr7, 37, #[.int .i64 3, .string ⟨#[]⟩, .string ⟨#[]⟩, .string ⟨#[]⟩, .int .i64 cd, .int .i64 0, .int .i64 0, .int .i64 0, .bool false, .slice none 0 0, .slice none 0 0]), (xg6, 29, #[.slice (some ⟨xr5, 0, none⟩) 1 1, .bool false, .slice none 0 0]), (xr5, 37, #[.int .i64 7, .string bn, .string ⟨#[]⟩, .string D, .int .i64 0, .int .i64 0, .int .i64 0, .int .i64 0, .bool false, .slice none 0 0, .slice none 0 0]), (xg4, 29, #[.slice (some ⟨xr2, 0, none⟩) 2 2, .bool true, .slice none 0 0]), (xg3, 26, #[.int .i64 2, .string bn, .string bp, .int .i64 bs, .int .i64 bt, .int .i64 bc, .int .i64 0, .int .i64 0, .int .i64 0]), (xr2, 37, #[.int .i64 1, .string ⟨#[]⟩, .string ⟨#[]⟩, .string ⟨#[]⟩, .int .i64 0, .int .i64 0, .int .i64 0, .int .i64 0, .bool false, .slice none 0 0, .slice none 0 0, .int .i64 5, .string bn, .string ⟨#[]⟩, .string ⟨#[]⟩, .int .i64 0, .int .i64 0, .int .i64 0, .int .i64 0, .bool false, .slice none 0 0, .slice none 0 0]), (xg1, 23, #[.string bn, .string bp, .int .i64 bs, .int .i64 bt, .int .i64 bc])] ((W9.alloc (.cells #[.int .i64 6, .string bn, .string bp, .int .i64 bs, .int .i64 bt, .int .i64 bc, .int .i64 0, .int .i64 0, .int .i64 cd] 26)).alloc (.cells #[.slice none 0 0, .bool false, .slice (some ⟨xr7, 0, none⟩) 1 1] 29))) := Lib.hid (by
    have k0 := H9.out
    have k1 := Own.alloc (g := xg8) k0 26 #[.int .i64 6, .string bn, .string bp, .int .i64 bs, .int .i64 bt, .int .i64 bc, .int .i64 0, .int .i64 0, .int .i64 cd] (by first | exact hxg8 | (rw [hxg8]; simp [U.fillW_size]))
    have k2 := Own.alloc (g := xg9) k1 29 #[.slice none 0 0, .bool false, .slice (some ⟨xr7, 0, none⟩) 1 1] (by first | exact hxg9 | (rw [hxg9]; simp [U.fillW_size]))
    exact k2.cast (by kernel_rfl) (by kernel_rfl))
  rw [← hxg9]
  rw [← hxg8]
  refine calls_own H10'.out (fun W10 hW => ?_)
  have H10 := Lib.hid hW
  clear hW H10' H9 hxg8 hxg9
  refine (HL.out _).mono ?_
  rintro e W11 ⟨rfl, hn⟩
  have H11 := Lib.hid (H10.out.call hn)
  clear hn H10
  go_wp2
  have H12 := H11
  go_ret
  exact ⟨rfl, H12.out.pick [] (by decide)⟩
end Go.Proofs.YtpjkbamkaicoiaaDoor.Ses
end

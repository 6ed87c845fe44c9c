/- Contracts of functions of this translation, and what they come to; what is not used is left out. -/
import Derived.Test.YtpjkbamkaicoiaaDoorQg7
import Derived.Test.YtpjkbamkaicoiaaDoorQBox
import Derived.Test.YtpjkbamkaicoiaaDoorQCls
import Derived.Test.YtpjkbamkaicoiaaDoorQUtil
import Derived.Test.YtpjkbamkaicoiaaDoorQg6

section
/- session's functions. (Printed by gen_sesa.py.) -/
set_option linter.unusedVariables false
set_option linter.unusedSimpArgs false
set_option maxRecDepth 100000
namespace Go.Proofs.YtpjkbamkaicoiaaDoor.Ses
open Go.RowKit U
abbrev tailS : ByteArray := ⟨#[65, 79, 76, 32, 73, 110, 115, 116, 97, 110, 116, 32, 77, 101, 115, 115, 101, 110, 103, 101, 114, 32, 40, 83, 77, 41]⟩
set_option maxHeartbeats 1000000 in
theorem under_yes (ph : Int) (n pw : ByteArray) (st tm ct he sa cd : Int) (h1 : 1 ≤ ph) (h2 : ph ≤ 5) (w : World) : Calls Tryd.prog 24 #[.agg #[.int .i64 ph, .string n, .string pw, .int .i64 st, .int .i64 tm, .int .i64 ct, .int .i64 he, .int .i64 sa, .int .i64 cd]] w fun e w' => e = .returned (.bool true) ∧ Own w [] w' := by
  have H0 := Lib.hid (Own.start w)
  go_enter Tryd.func24, Tryd.ntmps24
  obtain ⟨xg1, hxg1⟩ : ∃ g, g = w.heap.size := ⟨_, rfl⟩
  go_wp2
  have H1 : Hid (Own w [(xg1, 26, #[.int .i64 ph, .string n, .string pw, .int .i64 st, .int .i64 tm, .int .i64 ct, .int .i64 he, .int .i64 sa, .int .i64 cd])] (w.alloc (.cells #[.int .i64 ph, .string n, .string pw, .int .i64 st, .int .i64 tm, .int .i64 ct, .int .i64 he, .int .i64 sa, .int .i64 cd] 26))) := Lib.hid (by
    have k0 := H0.out
    have k1 := Own.alloc (g := xg1) k0 26 #[.int .i64 ph, .string n, .string pw, .int .i64 st, .int .i64 tm, .int .i64 ct, .int .i64 he, .int .i64 sa, .int .i64 cd] (by first | exact hxg1 | (rw [hxg1]; simp [U.fillW_size]))
    exact k1.cast (by kernel_rfl) (by kernel_rfl))
  rw [← hxg1]
  go_ret
  exact ⟨rfl, H1.out.pick [] (by decide)⟩
set_option maxHeartbeats 1000000 in
theorem says_any (ph : Int) (n pw : ByteArray) (st tm ct he sa cd : Int) (x : Int) (b k c : Nat) (w : World) : Calls Tryd.prog 26 #[.agg #[.int .i64 ph, .string n, .string pw, .int .i64 st, .int .i64 tm, .int .i64 ct, .int .i64 he, .int .i64 sa, .int .i64 cd], .int .i64 x, .slice (some ⟨b, 0, none⟩) k c] w fun e w' => e = .returned (.tuple #[.agg #[.int .i64 x, .string n, .string pw, .int .i64 st, .int .i64 tm, .int .i64 ct, .int .i64 he, .int .i64 0, .int .i64 cd], .agg #[.slice (some ⟨b, 0, none⟩) k c, .bool false, .slice none 0 0]]) ∧ Own w [] w' := by
  have H0 := Lib.hid (Own.start w)
  go_enter Tryd.func26, Tryd.ntmps26
  obtain ⟨xg1, hxg1⟩ : ∃ g, g = w.heap.size := ⟨_, rfl⟩
  obtain ⟨xg2, hxg2⟩ : ∃ g, g = w.heap.size + 1 := ⟨_, rfl⟩
  obtain ⟨xg3, hxg3⟩ : ∃ g, g = w.heap.size + 1 + 1 := ⟨_, rfl⟩
  go_wp2
  have H1 : Hid (Own w [(xg3, 29, #[.slice (some ⟨b, 0, none⟩) k c, .bool false, .slice none 0 0]), (xg2, 26, #[.int .i64 x, .string n, .string pw, .int .i64 st, .int .i64 tm, .int .i64 ct, .int .i64 he, .int .i64 0, .int .i64 cd]), (xg1, 26, #[.int .i64 x, .string n, .string pw, .int .i64 st, .int .i64 tm, .int .i64 ct, .int .i64 he, .int .i64 0, .int .i64 cd])] (((w.alloc (.cells #[.int .i64 x, .string n, .string pw, .int .i64 st, .int .i64 tm, .int .i64 ct, .int .i64 he, .int .i64 0, .int .i64 cd] 26)).alloc (.cells #[.int .i64 x, .string n, .string pw, .int .i64 st, .int .i64 tm, .int .i64 ct, .int .i64 he, .int .i64 0, .int .i64 cd] 26)).alloc (.cells #[.slice (some ⟨b, 0, none⟩) k c, .bool false, .slice none 0 0] 29))) := Lib.hid (by
    have k0 := H0.out
    have k1 := Own.alloc (g := xg1) k0 26 #[.int .i64 x, .string n, .string pw, .int .i64 st, .int .i64 tm, .int .i64 ct, .int .i64 he, .int .i64 0, .int .i64 cd] (by first | exact hxg1 | (rw [hxg1]; simp [U.fillW_size]))
    have k2 := Own.alloc (g := xg2) k1 26 #[.int .i64 x, .string n, .string pw, .int .i64 st, .int .i64 tm, .int .i64 ct, .int .i64 he, .int .i64 0, .int .i64 cd] (by first | exact hxg2 | (rw [hxg2]; simp [U.fillW_size]))
    have k3 := Own.alloc (g := xg3) k2 29 #[.slice (some ⟨b, 0, none⟩) k c, .bool false, .slice none 0 0] (by first | exact hxg3 | (rw [hxg3]; simp [U.fillW_size]))
    exact k3.cast (by kernel_rfl) (by kernel_rfl))
  rw [← hxg3]
  rw [← hxg2]
  rw [← hxg1]
  exact bodyPost_ret (res_cc rfl (H1.out.at 1 rfl) Tryd.underlying26 (by kernel_rfl) rfl (H1.out.at 0 rfl) Tryd.underlying29 (by kernel_rfl) rfl rfl rfl) rfl ⟨rfl, H1.out.pick [] (by decide)⟩
set_option maxHeartbeats 4000000 in
theorem Take_key (n pw : ByteArray) (st tm ct he sa cd : Int) (data D : ByteArray) (hD : ∀ w, Calls Tryd.prog 27 #[.string data, .string pw, .string tailS] w fun e w' => e = .returned (.string D) ∧ Below w.heap.size w w') (w : World) : Calls Tryd.prog 10 #[.agg #[.int .i64 1, .string n, .string pw, .int .i64 st, .int .i64 tm, .int .i64 ct, .int .i64 he, .int .i64 sa, .int .i64 cd], .agg #[.int .i64 6, .string ⟨#[]⟩, .string ⟨#[]⟩, .string data, .int .i64 0, .int .i64 0, .int .i64 0, .int .i64 0, .bool false, .slice none 0 0, .slice none 0 0]] w fun e w' => ∃ r1, e = .returned (.tuple #[.agg #[.int .i64 2, .string n, .string pw, .int .i64 st, .int .i64 tm, .int .i64 ct, .int .i64 0, .int .i64 0, .int .i64 cd], .agg #[.slice (some ⟨r1, 0, none⟩) 1 1, .bool false, .slice none 0 0]]) ∧ Own w [(r1, 37, #[.int .i64 7, .string n, .string ⟨#[]⟩, .string D, .int .i64 0, .int .i64 0, .int .i64 0, .int .i64 0, .bool false, .slice none 0 0, .slice none 0 0])] w' := by
  have HS := Lib.hid (Own.ret hD)
  have H0 := Lib.hid (Own.start w)
  go_enter Tryd.func10, Tryd.ntmps10
  obtain ⟨xg1, hxg1⟩ : ∃ g, g = w.heap.size := ⟨_, rfl⟩
  obtain ⟨xg2, hxg2⟩ : ∃ g, g = w.heap.size + 1 := ⟨_, rfl⟩
  obtain ⟨xg3, hxg3⟩ : ∃ g, g = w.heap.size + 1 + 1 := ⟨_, rfl⟩
  obtain ⟨xg4, hxg4⟩ : ∃ g, g = w.heap.size + 1 + 1 + 1 := ⟨_, rfl⟩
  go_wp2_with fail
  have H1' : Hid (Own w [(xg4, 29, #[.slice none 0 0, .bool false, .slice none 0 0]), (xg3, 26, #[.int .i64 0, .string ⟨#[]⟩, .string ⟨#[]⟩, .int .i64 0, .int .i64 0, .int .i64 0, .int .i64 0, .int .i64 0, .int .i64 0]), (xg2, 37, #[.int .i64 6, .string ⟨#[]⟩, .string ⟨#[]⟩, .string data, .int .i64 0, .int .i64 0, .int .i64 0, .int .i64 0, .bool false, .slice none 0 0, .slice none 0 0]), (xg1, 26, #[.int .i64 1, .string n, .string pw, .int .i64 st, .int .i64 tm, .int .i64 ct, .int .i64 he, .int .i64 sa, .int .i64 cd])] ((((w.alloc (.cells #[.int .i64 1, .string n, .string pw, .int .i64 st, .int .i64 tm, .int .i64 ct, .int .i64 he, .int .i64 sa, .int .i64 cd] 26)).alloc (.cells #[.int .i64 6, .string ⟨#[]⟩, .string ⟨#[]⟩, .string data, .int .i64 0, .int .i64 0, .int .i64 0, .int .i64 0, .bool false, .slice none 0 0, .slice none 0 0] 37)).alloc (.cells #[.int .i64 0, .string ⟨#[]⟩, .string ⟨#[]⟩, .int .i64 0, .int .i64 0, .int .i64 0, .int .i64 0, .int .i64 0, .int .i64 0] 26)).alloc (.cells #[.slice none 0 0, .bool false, .slice none 0 0] 29))) := Lib.hid (by
    have k0 := H0.out
    have k1 := Own.alloc (g := xg1) k0 26 #[.int .i64 1, .string n, .string pw, .int .i64 st, .int .i64 tm, .int .i64 ct, .int .i64 he, .int .i64 sa, .int .i64 cd] (by first | exact hxg1 | (rw [hxg1]; simp [U.fillW_size]))
    have k2 := Own.alloc (g := xg2) k1 37 #[.int .i64 6, .string ⟨#[]⟩, .string ⟨#[]⟩, .string data, .int .i64 0, .int .i64 0, .int .i64 0, .int .i64 0, .bool false, .slice none 0 0, .slice none 0 0] (by first | exact hxg2 | (rw [hxg2]; simp [U.fillW_size]))
    have k3 := Own.alloc (g := xg3) k2 26 #[.int .i64 0, .string ⟨#[]⟩, .string ⟨#[]⟩, .int .i64 0, .int .i64 0, .int .i64 0, .int .i64 0, .int .i64 0, .int .i64 0] (by first | exact hxg3 | (rw [hxg3]; simp [U.fillW_size]))
    have k4 := Own.alloc (g := xg4) k3 29 #[.slice none 0 0, .bool false, .slice none 0 0] (by first | exact hxg4 | (rw [hxg4]; simp [U.fillW_size]))
    exact k4.cast (by kernel_rfl) (by kernel_rfl))
  rw [← hxg4]
  rw [← hxg3]
  rw [← hxg2]
  rw [← hxg1]
  refine calls_own H1'.out (fun W1 hW => ?_)
  have H1 := Lib.hid hW
  clear hW H1' H0 hxg1 hxg2 hxg3 hxg4
  refine ((under_yes 1 n pw st tm ct he sa cd (by decide) (by decide)) _).mono ?_
  rintro e W2 ⟨rfl, hn⟩
  have H2 := Lib.hid (H1.out.call hn)
  clear hn H1
  obtain ⟨xg5, hxg5⟩ : ∃ g, g = W2.heap.size := ⟨_, rfl⟩
  have c_xg2_0 : W2.cell? ⟨xg2, 0, none⟩ = some (.int .i64 6) := H2.out.cell 2 0 rfl rfl
  have c_xg1_0 : W2.cell? ⟨xg1, 0, none⟩ = some (.int .i64 1) := H2.out.cell 3 0 rfl rfl
  have c_xg1_6 : W2.cell? ⟨xg1, 6, none⟩ = some (.int .i64 he) := H2.out.cell 3 6 rfl rfl
  have d_xg1_6 : W2.frozen? ⟨xg1, 6, none⟩ = false := H2.out.free 3 6 rfl
  have ne_xg2_xg1 : ¬ xg2 = xg1 := H2.out.ne 2 3 rfl rfl (by decide)
  have ne_xg1_xg2 : ¬ xg1 = xg2 := H2.out.ne 3 2 rfl rfl (by decide)
  have nn_xg1_xg5 : ¬ xg1 = W2.heap.size := by have := H2.out.lt 3 rfl; omega
  have nm_xg1_xg5 : ¬ W2.heap.size = xg1 := by have := H2.out.lt 3 rfl; omega
  go_wp2
  clear c_xg2_0 c_xg1_0 c_xg1_6 d_xg1_6 ne_xg2_xg1 ne_xg1_xg2 nn_xg1_xg5 nm_xg1_xg5
  have H3' : Hid (Own w [(xg5, 62, #[.int .i64 1, .int .i64 6]), (xg4, 29, #[.slice none 0 0, .bool false, .slice none 0 0]), (xg3, 26, #[.int .i64 0, .string ⟨#[]⟩, .string ⟨#[]⟩, .int .i64 0, .int .i64 0, .int .i64 0, .int .i64 0, .int .i64 0, .int .i64 0]), (xg2, 37, #[.int .i64 6, .string ⟨#[]⟩, .string ⟨#[]⟩, .string data, .int .i64 0, .int .i64 0, .int .i64 0, .int .i64 0, .bool false, .slice none 0 0, .slice none 0 0]), (xg1, 26, #[.int .i64 1, .string n, .string pw, .int .i64 st, .int .i64 tm, .int .i64 ct, .int .i64 0, .int .i64 sa, .int .i64 cd])] ((W2.setCell ⟨xg1, 6, none⟩ (.int .i64 0)).alloc (.cells #[.int .i64 1, .int .i64 6] 62))) := Lib.hid (by
    have k0 := H2.out
    have k1 := Own.lay k0 [.int .i64 0] 6 3 #[.int .i64 1, .string n, .string pw, .int .i64 st, .int .i64 tm, .int .i64 ct, .int .i64 0, .int .i64 sa, .int .i64 cd] rfl (by kernel_rfl)
    have k2 := Own.alloc (g := xg5) k1 62 #[.int .i64 1, .int .i64 6] (by first | exact hxg5 | (rw [hxg5]; simp [U.fillW_size]))
    exact k2.cast (by kernel_rfl) (by kernel_rfl))
  rw [← hxg5]
  refine world_own H3'.out (fun W3 hW => ?_)
  have H3 := Lib.hid hW
  clear hW H3' H2 hxg5
  apply U.wp_cut1 (F := fun xg6 x => Own w [(xg6, 37, #[.int .i64 7, .string n, .string ⟨#[]⟩, .string D, .int .i64 0, .int .i64 0, .int .i64 0, .int .i64 0, .bool false, .slice none 0 0, .slice none 0 0]), (xg5, 62, #[.int .i64 1, .int .i64 6]), (xg4, 29, #[.slice (some ⟨xg6, 0, none⟩) 1 1, .bool false, .slice none 0 0]), (xg3, 26, #[.int .i64 2, .string n, .string pw, .int .i64 st, .int .i64 tm, .int .i64 ct, .int .i64 0, .int .i64 0, .int .i64 cd]), (xg2, 37, #[.int .i64 6, .string ⟨#[]⟩, .string ⟨#[]⟩, .string data, .int .i64 0, .int .i64 0, .int .i64 0, .int .i64 0, .bool false, .slice none 0 0, .slice none 0 0]), (xg1, 26, #[.int .i64 1, .string n, .string pw, .int .i64 st, .int .i64 tm, .int .i64 ct, .int .i64 0, .int .i64 sa, .int .i64 cd])] x)
  · obtain ⟨S, MK, UN⟩ : ∃ S : World → Prop, Hid (∀ x, Own w [(xg2, 37, #[.int .i64 6, .string ⟨#[]⟩, .string ⟨#[]⟩, .string data, .int .i64 0, .int .i64 0, .int .i64 0, .int .i64 0, .bool false, .slice none 0 0, .slice none 0 0]), (xg1, 26, #[.int .i64 1, .string n, .string pw, .int .i64 st, .int .i64 tm, .int .i64 ct, .int .i64 0, .int .i64 sa, .int .i64 cd])] x → S x) ∧ Hid (∀ x, S x → Own w [(xg2, 37, #[.int .i64 6, .string ⟨#[]⟩, .string ⟨#[]⟩, .string data, .int .i64 0, .int .i64 0, .int .i64 0, .int .i64 0, .bool false, .slice none 0 0, .slice none 0 0]), (xg1, 26, #[.int .i64 1, .string n, .string pw, .int .i64 st, .int .i64 tm, .int .i64 ct, .int .i64 0, .int .i64 sa, .int .i64 cd])] x) := ⟨_, Lib.hid (fun _ h => h), Lib.hid (fun _ h => h)⟩
    refine U.wp_region_free (S := S) [0, 1, 2, 3, 4, 5, 6, 7, 8, 9] (by kernel_rfl) ?_
    obtain ⟨X4, hX⟩ : ∃ X, X = W3.drew := ⟨_, rfl⟩
    have H4 : Hid (Own w [(xg5, 62, #[.int .i64 1, .int .i64 6]), (xg4, 29, #[.slice none 0 0, .bool false, .slice none 0 0]), (xg3, 26, #[.int .i64 0, .string ⟨#[]⟩, .string ⟨#[]⟩, .int .i64 0, .int .i64 0, .int .i64 0, .int .i64 0, .int .i64 0, .int .i64 0]), (xg2, 37, #[.int .i64 6, .string ⟨#[]⟩, .string ⟨#[]⟩, .string data, .int .i64 0, .int .i64 0, .int .i64 0, .int .i64 0, .bool false, .slice none 0 0, .slice none 0 0]), (xg1, 26, #[.int .i64 1, .string n, .string pw, .int .i64 st, .int .i64 tm, .int .i64 ct, .int .i64 0, .int .i64 sa, .int .i64 cd])] X4) := Lib.hid (by rw [hX]; exact H3.out.drew)
    rw [← hX]
    clear hX
    change U.wpAnyM _ _ _ _ _ _ 15 #[false, false, false, false, false, false, false, false, false, false, false, false, false, false, false] _ _
    have p_xg1_0 : ∀ x : U.In S, x.w.cell? ⟨xg1, 0, none⟩ = some (.int .i64 1) := fun x => (UN.out _ x.h).cell 1 0 rfl rfl
    have p_xg1_1 : ∀ x : U.In S, x.w.cell? ⟨xg1, 1, none⟩ = some (.string n) := fun x => (UN.out _ x.h).cell 1 1 rfl rfl
    have p_xg1_2 : ∀ x : U.In S, x.w.cell? ⟨xg1, 2, none⟩ = some (.string pw) := fun x => (UN.out _ x.h).cell 1 2 rfl rfl
    have p_xg1_3 : ∀ x : U.In S, x.w.cell? ⟨xg1, 3, none⟩ = some (.int .i64 st) := fun x => (UN.out _ x.h).cell 1 3 rfl rfl
    have p_xg1_4 : ∀ x : U.In S, x.w.cell? ⟨xg1, 4, none⟩ = some (.int .i64 tm) := fun x => (UN.out _ x.h).cell 1 4 rfl rfl
    have p_xg1_5 : ∀ x : U.In S, x.w.cell? ⟨xg1, 5, none⟩ = some (.int .i64 ct) := fun x => (UN.out _ x.h).cell 1 5 rfl rfl
    have p_xg1_6 : ∀ x : U.In S, x.w.cell? ⟨xg1, 6, none⟩ = some (.int .i64 0) := fun x => (UN.out _ x.h).cell 1 6 rfl rfl
    have p_xg1_7 : ∀ x : U.In S, x.w.cell? ⟨xg1, 7, none⟩ = some (.int .i64 sa) := fun x => (UN.out _ x.h).cell 1 7 rfl rfl
    have p_xg1_8 : ∀ x : U.In S, x.w.cell? ⟨xg1, 8, none⟩ = some (.int .i64 cd) := fun x => (UN.out _ x.h).cell 1 8 rfl rfl
    have p_xg2_3 : ∀ x : U.In S, x.w.cell? ⟨xg2, 3, none⟩ = some (.string data) := fun x => (UN.out _ x.h).cell 0 3 rfl rfl
    haveI : Nonempty (U.In (S)) := ⟨⟨_, (MK.out _ (H4.out.pick [3, 4] (by decide)))⟩⟩
    refine U.wpAnyM_reads (n := 8) (L := #[true, true, true, true, true, true, true, false, false, false, false, false, false, false, false]) [0, 1, 2, 3, 4, 5, 6] _ _ (by kernel_rfl) (fun _ _ _ _ _ h => h) ⟨⟨_, (MK.out _ (H4.out.pick [3, 4] (by decide)))⟩, rfl⟩ (by kernel_rfl) (by kernel_rfl) (by kernel_rfl) ?_
    simp only [List.filterMap_cons, List.filterMap_nil, List.getElem?_toArray, List.getElem?_cons_succ, List.getElem?_cons_zero]
    change wpQuiet _ _ _ _ [_, _, _, _, _, _, _] _
    repeat go_big_quiet_step (fail)
    refine wpQuiet_nil ?_
    clear p_xg1_0 p_xg1_1 p_xg1_2 p_xg1_3 p_xg1_4 p_xg1_5 p_xg1_6 p_xg1_7 p_xg1_8 p_xg2_3 this
    refine U.wpAnyM_one (i := 7) (L' := #[true, true, true, true, true, true, true, true, false, false, false, false, false, false, false]) (by kernel_rfl) (by kernel_rfl) ?_
    refine U.wpOp_step (o := _) rfl ?_
    go_wp2_with fail
    refine (HS.out _).mono ?_
    rintro e X5 ⟨rfl, hn⟩
    have H5 := Lib.hid (H4.out.call hn)
    clear hn
    go_wp2
    refine ⟨fun _ _ => ⟨⟨_, (MK.out _ (H5.out.pick [3, 4] (by decide)))⟩, rfl⟩, ?_⟩
    haveI : Nonempty (U.In (S)) := ⟨⟨_, (MK.out _ (H5.out.pick [3, 4] (by decide)))⟩⟩
    refine U.wpAnyM_reads (n := 6) (L := #[true, true, true, true, true, true, true, true, true, false, false, false, false, false, false]) [8] _ _ (by kernel_rfl) (fun _ _ _ _ _ h => h) ⟨⟨_, (MK.out _ (H5.out.pick [3, 4] (by decide)))⟩, rfl⟩ (by kernel_rfl) (by kernel_rfl) (by kernel_rfl) ?_
    simp only [List.filterMap_cons, List.filterMap_nil, List.getElem?_toArray, List.getElem?_cons_succ, List.getElem?_cons_zero]
    change wpQuiet _ _ _ _ [_] _
    repeat go_big_quiet_step (fail)
    refine wpQuiet_nil ?_
    clear  this
    refine U.wpAnyM_one (i := 9) (L' := #[true, true, true, true, true, true, true, true, true, true, false, false, false, false, false]) (by kernel_rfl) (by kernel_rfl) ?_
    refine U.wpOp_step (o := _) rfl ?_
    obtain ⟨xg6, hxg6⟩ : ∃ g, g = X5.heap.size := ⟨_, rfl⟩
    go_wp2
    obtain ⟨X6, hX⟩ : ∃ X, X = (X5.alloc (.cells #[.int .i64 7, .string n, .string ⟨#[]⟩, .string D, .int .i64 0, .int .i64 0, .int .i64 0, .int .i64 0, .bool false, .slice none 0 0, .slice none 0 0] 37)) := ⟨_, rfl⟩
    have H6 : Hid (Own w [(xg6, 37, #[.int .i64 7, .string n, .string ⟨#[]⟩, .string D, .int .i64 0, .int .i64 0, .int .i64 0, .int .i64 0, .bool false, .slice none 0 0, .slice none 0 0]), (xg5, 62, #[.int .i64 1, .int .i64 6]), (xg4, 29, #[.slice none 0 0, .bool false, .slice none 0 0]), (xg3, 26, #[.int .i64 0, .string ⟨#[]⟩, .string ⟨#[]⟩, .int .i64 0, .int .i64 0, .int .i64 0, .int .i64 0, .int .i64 0, .int .i64 0]), (xg2, 37, #[.int .i64 6, .string ⟨#[]⟩, .string ⟨#[]⟩, .string data, .int .i64 0, .int .i64 0, .int .i64 0, .int .i64 0, .bool false, .slice none 0 0, .slice none 0 0]), (xg1, 26, #[.int .i64 1, .string n, .string pw, .int .i64 st, .int .i64 tm, .int .i64 ct, .int .i64 0, .int .i64 sa, .int .i64 cd])] X6) := Lib.hid (by
      rw [hX]
      have k0 := H5.out
      have k1 := Own.alloc (g := xg6) k0 37 #[.int .i64 7, .string n, .string ⟨#[]⟩, .string D, .int .i64 0, .int .i64 0, .int .i64 0, .int .i64 0, .bool false, .slice none 0 0, .slice none 0 0] (by first | exact hxg6 | (rw [hxg6]; simp [U.fillW_size]))
      exact k1.cast (by kernel_rfl) (by kernel_rfl))
    rw [← hX, ← hxg6]
    clear hX hxg6
    refine ⟨fun _ _ => ⟨⟨_, (MK.out _ (H6.out.pick [4, 5] (by decide)))⟩, rfl⟩, ?_⟩
    refine U.wpAnyM_one (i := 10) (L' := #[true, true, true, true, true, true, true, true, true, true, true, false, false, false, false]) (by kernel_rfl) (by kernel_rfl) ?_
    refine U.wpOp_step (o := _) rfl ?_
    go_wp2_with fail
    refine ((says_any 1 n pw st tm ct 0 sa cd 2 xg6 1 1) _).mono ?_
    rintro e X7 ⟨rfl, hn⟩
    have H7 := Lib.hid (H6.out.call hn)
    clear hn
    go_wp2
    refine ⟨fun h => (by cases h), ?_⟩
    haveI : Nonempty (U.In (S)) := ⟨⟨_, (MK.out _ (H7.out.pick [4, 5] (by decide)))⟩⟩
    refine U.wpAnyM_reads (n := 2) (L := #[true, true, true, true, true, true, true, true, true, true, true, true, true, false, false]) [11, 12] _ _ (by kernel_rfl) (fun _ _ _ _ _ h => h) ⟨⟨_, (MK.out _ (H7.out.pick [4, 5] (by decide)))⟩, rfl⟩ (by kernel_rfl) (by kernel_rfl) (by kernel_rfl) ?_
    simp only [List.filterMap_cons, List.filterMap_nil, List.getElem?_toArray, List.getElem?_cons_succ, List.getElem?_cons_zero]
    change wpQuiet _ _ _ _ [_, _] _
    repeat go_big_quiet_step (fail)
    refine wpQuiet_nil ?_
    clear  this
    refine U.wpAnyM_one (i := 13) (L' := #[true, true, true, true, true, true, true, true, true, true, true, true, true, true, false]) (by kernel_rfl) (by kernel_rfl) ?_
    refine U.wpOp_step (o := _) rfl ?_
    have c_xg3_0 : X7.cell? ⟨xg3, 0, none⟩ = some (.int .i64 0) := H7.out.cell 3 0 rfl rfl
    have c_xg3_1 : X7.cell? ⟨xg3, 1, none⟩ = some (.string ⟨#[]⟩) := H7.out.cell 3 1 rfl rfl
    have c_xg3_2 : X7.cell? ⟨xg3, 2, none⟩ = some (.string ⟨#[]⟩) := H7.out.cell 3 2 rfl rfl
    have c_xg3_3 : X7.cell? ⟨xg3, 3, none⟩ = some (.int .i64 0) := H7.out.cell 3 3 rfl rfl
    have c_xg3_4 : X7.cell? ⟨xg3, 4, none⟩ = some (.int .i64 0) := H7.out.cell 3 4 rfl rfl
    have c_xg3_5 : X7.cell? ⟨xg3, 5, none⟩ = some (.int .i64 0) := H7.out.cell 3 5 rfl rfl
    have c_xg3_6 : X7.cell? ⟨xg3, 6, none⟩ = some (.int .i64 0) := H7.out.cell 3 6 rfl rfl
    have c_xg3_7 : X7.cell? ⟨xg3, 7, none⟩ = some (.int .i64 0) := H7.out.cell 3 7 rfl rfl
    have c_xg3_8 : X7.cell? ⟨xg3, 8, none⟩ = some (.int .i64 0) := H7.out.cell 3 8 rfl rfl
    have d_xg3_0 : X7.frozen? ⟨xg3, 0, none⟩ = false := H7.out.free 3 0 rfl
    have d_xg3_1 : X7.frozen? ⟨xg3, 1, none⟩ = false := H7.out.free 3 1 rfl
    have d_xg3_2 : X7.frozen? ⟨xg3, 2, none⟩ = false := H7.out.free 3 2 rfl
    have d_xg3_3 : X7.frozen? ⟨xg3, 3, none⟩ = false := H7.out.free 3 3 rfl
    have d_xg3_4 : X7.frozen? ⟨xg3, 4, none⟩ = false := H7.out.free 3 4 rfl
    have d_xg3_5 : X7.frozen? ⟨xg3, 5, none⟩ = false := H7.out.free 3 5 rfl
    have d_xg3_6 : X7.frozen? ⟨xg3, 6, none⟩ = false := H7.out.free 3 6 rfl
    have d_xg3_7 : X7.frozen? ⟨xg3, 7, none⟩ = false := H7.out.free 3 7 rfl
    have d_xg3_8 : X7.frozen? ⟨xg3, 8, none⟩ = false := H7.out.free 3 8 rfl
    go_wp2
    clear c_xg3_0 c_xg3_1 c_xg3_2 c_xg3_3 c_xg3_4 c_xg3_5 c_xg3_6 c_xg3_7 c_xg3_8 d_xg3_0 d_xg3_1 d_xg3_2 d_xg3_3 d_xg3_4 d_xg3_5 d_xg3_6 d_xg3_7 d_xg3_8
    obtain ⟨X8, hX⟩ : ∃ X, X = (((((((((X7.setCell ⟨xg3, 0, none⟩ (.int .i64 2)).setCell ⟨xg3, 1, none⟩ (.string n)).setCell ⟨xg3, 2, none⟩ (.string pw)).setCell ⟨xg3, 3, none⟩ (.int .i64 st)).setCell ⟨xg3, 4, none⟩ (.int .i64 tm)).setCell ⟨xg3, 5, none⟩ (.int .i64 ct)).setCell ⟨xg3, 6, none⟩ (.int .i64 0)).setCell ⟨xg3, 7, none⟩ (.int .i64 0)).setCell ⟨xg3, 8, none⟩ (.int .i64 cd)) := ⟨_, rfl⟩
    have H8 : Hid (Own w [(xg6, 37, #[.int .i64 7, .string n, .string ⟨#[]⟩, .string D, .int .i64 0, .int .i64 0, .int .i64 0, .int .i64 0, .bool false, .slice none 0 0, .slice none 0 0]), (xg5, 62, #[.int .i64 1, .int .i64 6]), (xg4, 29, #[.slice none 0 0, .bool false, .slice none 0 0]), (xg3, 26, #[.int .i64 2, .string n, .string pw, .int .i64 st, .int .i64 tm, .int .i64 ct, .int .i64 0, .int .i64 0, .int .i64 cd]), (xg2, 37, #[.int .i64 6, .string ⟨#[]⟩, .string ⟨#[]⟩, .string data, .int .i64 0, .int .i64 0, .int .i64 0, .int .i64 0, .bool false, .slice none 0 0, .slice none 0 0]), (xg1, 26, #[.int .i64 1, .string n, .string pw, .int .i64 st, .int .i64 tm, .int .i64 ct, .int .i64 0, .int .i64 sa, .int .i64 cd])] X8) := Lib.hid (by
      rw [hX]
      have k0 := H7.out
      have k1 := Own.lay k0 [.int .i64 2, .string n, .string pw, .int .i64 st, .int .i64 tm, .int .i64 ct, .int .i64 0, .int .i64 0, .int .i64 cd] 0 3 #[.int .i64 2, .string n, .string pw, .int .i64 st, .int .i64 tm, .int .i64 ct, .int .i64 0, .int .i64 0, .int .i64 cd] rfl (by kernel_rfl)
      exact k1.cast (by kernel_rfl) (by kernel_rfl))
    rw [← hX]
    clear hX 
    refine ⟨fun h => (by cases h), ?_⟩
    refine U.wpAnyM_one (i := 14) (L' := #[true, true, true, true, true, true, true, true, true, true, true, true, true, true, true]) (by kernel_rfl) (by kernel_rfl) ?_
    refine U.wpOp_step (o := _) rfl ?_
    have c_xg4_0 : X8.cell? ⟨xg4, 0, none⟩ = some (.slice none 0 0) := H8.out.cell 2 0 rfl rfl
    have c_xg4_1 : X8.cell? ⟨xg4, 1, none⟩ = some (.bool false) := H8.out.cell 2 1 rfl rfl
    have c_xg4_2 : X8.cell? ⟨xg4, 2, none⟩ = some (.slice none 0 0) := H8.out.cell 2 2 rfl rfl
    have d_xg4_0 : X8.frozen? ⟨xg4, 0, none⟩ = false := H8.out.free 2 0 rfl
    have d_xg4_1 : X8.frozen? ⟨xg4, 1, none⟩ = false := H8.out.free 2 1 rfl
    have d_xg4_2 : X8.frozen? ⟨xg4, 2, none⟩ = false := H8.out.free 2 2 rfl
    go_wp2
    clear c_xg4_0 c_xg4_1 c_xg4_2 d_xg4_0 d_xg4_1 d_xg4_2
    obtain ⟨X9, hX⟩ : ∃ X, X = (((X8.setCell ⟨xg4, 0, none⟩ (.slice (some ⟨xg6, 0, none⟩) 1 1)).setCell ⟨xg4, 1, none⟩ (.bool false)).setCell ⟨xg4, 2, none⟩ (.slice none 0 0)) := ⟨_, rfl⟩
    have H9 : Hid (Own w [(xg6, 37, #[.int .i64 7, .string n, .string ⟨#[]⟩, .string D, .int .i64 0, .int .i64 0, .int .i64 0, .int .i64 0, .bool false, .slice none 0 0, .slice none 0 0]), (xg5, 62, #[.int .i64 1, .int .i64 6]), (xg4, 29, #[.slice (some ⟨xg6, 0, none⟩) 1 1, .bool false, .slice none 0 0]), (xg3, 26, #[.int .i64 2, .string n, .string pw, .int .i64 st, .int .i64 tm, .int .i64 ct, .int .i64 0, .int .i64 0, .int .i64 cd]), (xg2, 37, #[.int .i64 6, .string ⟨#[]⟩, .string ⟨#[]⟩, .string data, .int .i64 0, .int .i64 0, .int .i64 0, .int .i64 0, .bool false, .slice none 0 0, .slice none 0 0]), (xg1, 26, #[.int .i64 1, .string n, .string pw, .int .i64 st, .int .i64 tm, .int .i64 ct, .int .i64 0, .int .i64 sa, .int .i64 cd])] X9) := Lib.hid (by
      rw [hX]
      have k0 := H8.out
      have k1 := Own.lay k0 [.slice (some ⟨xg6, 0, none⟩) 1 1, .bool false, .slice none 0 0] 0 2 #[.slice (some ⟨xg6, 0, none⟩) 1 1, .bool false, .slice none 0 0] rfl (by kernel_rfl)
      exact k1.cast (by kernel_rfl) (by kernel_rfl))
    rw [← hX]
    clear hX 
    refine ⟨fun h => (by cases h), ?_⟩
    refine U.wpAnyM_end (by kernel_rfl) ?_
    exact ⟨rfl, xg6, rfl, H9.out.pick [0, 1, 2, 3, 4, 5] (by decide)⟩
  intro xg6 W10 hW
  have H10 := Lib.hid hW
  clear hW H3
  go_wp2
  have H11 := H10
  exact bodyPost_ret (res_cc rfl (H11.out.at 3 rfl) Tryd.underlying26 (by kernel_rfl) rfl (H11.out.at 2 rfl) Tryd.underlying29 (by kernel_rfl) rfl rfl rfl) rfl ⟨xg6, rfl, H11.out.pick [0] (by decide)⟩
end Go.Proofs.YtpjkbamkaicoiaaDoor.Ses
end

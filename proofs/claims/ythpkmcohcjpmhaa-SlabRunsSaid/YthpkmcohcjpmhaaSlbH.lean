/- slab at this translation: a write that is torn. -/
import Derived.Test.YthpkmcohcjpmhaaSlbG
set_option linter.unusedVariables false
set_option linter.unusedSimpArgs false
namespace Go.Proofs.Ythpkmcohcjpmhaa.Slb
open Go.RowKit U
variable {gS gB : Nat} {s : S} {w : World}
theorem Is.drew (h : Is gS gB s w) : Is gS gB s w.drew := ⟨h.hs, h.hb, h.ne, h.len, h.few⟩
theorem below_drew {B : Nat} {w W : World} (h : Below B w W) : Below B w W.drew := ⟨h.os, h.tape, h.output, h.size, h.block⟩
set_option maxHeartbeats 1000000 in
theorem Write_torn (h : Is gS gB s w) (k : Nat) (hk : k < s.bs.length) (hd : s.dead = false) (b : ByteArray) (hb : b.size = 64) (ha : s.after = 0) (K : Nat) (hK : s.keep = (K : Int)) (hK2 : K ≤ 64) :
    Calls Try.prog 12 #[P gS, .int .i64 (k : Int), .string b] w (Post gS gB { s with bs := wr s.bs k (b.data.toList.take K), dead := true } w (.int .i64 210)) := by
  have HB := Lib.hid (begin_any h (k : Int))
  have hr : beg s (k : Int) = 0 := by unfold beg; rw [hd]; simp; omega
  rw [hr] at HB
  have hx : (b.extract 0 K).size = K := by rw [← U.len_data, U.take_data, List.length_take, U.len_data]; omega
  have hbl : (b.data.toList.take K).length ≤ 64 := by rw [List.length_take]; omega
  have h1 := h.drew
  have h2 := h1.copy k hk (b.data.toList.take K) hbl
  have h3 := h2.set3 true
  have c0 := h.c0
  have c1 := h.c1
  have c2 := h.c2
  have hcp := copied h1 k hk 64 (b.extract 0 K) (by omega)
  rw [hx, U.take_data] at hcp
  rw [ha] at c1
  rw [hK] at c2
  obtain ⟨W2, hW2⟩ : ∃ W2, W2 = (w.drew).setCells gB (k * 64) (vals (b.data.toList.take K)) := ⟨_, rfl⟩
  rw [← hW2] at hcp h2 h3
  have HCP := Lib.hid hcp
  clear hcp
  have d3 := h2.c3
  have g3 := h2.fz 3
  have H3 := Lib.hid h3
  have HW := Lib.hid hW2
  obtain ⟨L, hL⟩ : ∃ L : Nat, L = s.bs.length := ⟨_, rfl⟩
  have hl := h.few
  rw [← hL] at c0 hl hk
  have b1 : (K : Int) ≤ (b.size : Int) := by omega
  have b2 : (K : Int) ≤ 64 := by omega
  have e0 : w.drew.cell? ⟨gS, 0, none⟩ = some (.slice (some ⟨gB, 0, none⟩) L L) := c0
  have e2 : w.drew.cell? ⟨gS, 2, none⟩ = some (.int .i64 (K : Int)) := c2
  clear hW2 h1 h2 h3 hr h hL
  go_enter Try.func12, Try.ntmps12
  go_wp2_with fail
  refine HB.out.mono ?_
  rintro e w1 ⟨rfl, rfl⟩
  go_wp2
  refine wp_region_still_tail 13 (by kernel_rfl) (by kernel_rfl) ?_
  simp only [List.take_succ_cons, List.take_zero, List.drop_succ_cons, List.drop_zero]
  change wpStill _ _ w.drew _ _ _
  repeat still_step
  refine wpStill_nil ?_
  go_wp2
  rw [HCP.out]
  go_wp2
  go_ret
  refine ⟨rfl, H3.out, fun B q1 q2 => ?_⟩
  rw [HW.out]
  exact (Below_setCells q2 _ _ _ (below_drew (Below.refl B _))).setCell (p := ⟨gS, 3, none⟩) q1 _
end Go.Proofs.Ythpkmcohcjpmhaa.Slb

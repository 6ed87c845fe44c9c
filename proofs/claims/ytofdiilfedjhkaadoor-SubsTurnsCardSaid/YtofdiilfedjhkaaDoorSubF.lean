/- subs.Heard: one who comes. (Printed by gen_subf.py.) -/
import Derived.Test.YtofdiilfedjhkaaDoorSubE
set_option linter.unusedVariables false
set_option linter.unusedSimpArgs false
namespace Go.Proofs.YtofdiilfedjhkaaDoor.Sub
open Go.RowKit U
set_option maxHeartbeats 4000000 in
theorem Heard_on (n nn : ByteArray) (pend await from_ ask onl : Bool) (st idle : Int) (ha : n.size ≤ 68719476736) (hb : nn.size ≤ 68719476736) (hs : Han.norm n.data.toList = Han.norm nn.data.toList) (w : World) :
    Calls Tryd.prog 8 #[CV n true pend await from_ ask onl st idle, .agg (NW 13 nn ⟨#[]⟩)] w fun e w' => ∃ g cp, e = .returned (.tuple #[CV n true pend await from_ ask true 0 0, .agg #[.slice (some ⟨g, 0, none⟩) 1 cp, .slice none 0 0, .slice none 0 0]]) ∧
      w'.cell? ⟨g, 0, none⟩ = some (.string ⟨#[]⟩) ∧ Below w.heap.size w w' := by
  have HS := Lib.hid (same_yes n nn ha hb hs)
  have K := ((((Box.start w).alloc 23 (CC n true pend await from_ ask onl st idle)).alloc 35 (NW 13 nn ⟨#[]⟩)).alloc 23 (CC n true pend await from_ ask onl st idle)).alloc 29 ZT
  have HK := Lib.hid K; clear K
  go_enter Tryd.func8, Tryd.ntmps8
  go_wp2_with fail
  refine (HS.out _).mono ?_
  rintro e w5 ⟨rfl, hb5⟩
  obtain ⟨gt, hgt⟩ : ∃ g, g = w.heap.size + 1 + 1 + 1 := ⟨_, rfl⟩
  obtain ⟨gd, hgd⟩ : ∃ g, g = w.heap.size + 1 + 1 := ⟨_, rfl⟩
  obtain ⟨gn, hgn⟩ : ∃ g, g = w.heap.size + 1 := ⟨_, rfl⟩
  have HN : Hid (¬ gd = gt ∧ ¬ gt = gd ∧ w.heap.size ≤ gd ∧ w.heap.size ≤ gt ∧ gd < w5.heap.size ∧ gt < w5.heap.size ∧ ¬ gn = gd) := Lib.hid (by have := hb5.size; simp at this; omega)
  have HA : Hid (At gd 23 (CC n true pend await from_ ask onl st idle) w5 ∧ At gt 29 ZT w5 ∧ Below w.heap.size w w5 ∧ At gn 35 (NW 13 nn ⟨#[]⟩) w5) := Lib.hid
    ⟨by rw [hgd]; exact At.below (by simpa using HK.out.at 1 _ _ _ rfl) hb5, by rw [hgt]; exact At.below (by simpa using HK.out.at 0 _ _ _ rfl) hb5, HK.out.low.trans (hb5.mono HK.out.low.size), by rw [hgn]; exact At.below (by simpa using HK.out.at 2 _ _ _ rfl) hb5⟩
  rw [← hgt, ← hgd, ← hgn]
  clear hgd hgt hgn hb5 HK
  have k0 : w5.cell? ⟨gn, 0, none⟩ = some (.int .i64 13) := HA.out.2.2.2.cell 0 _ rfl
  go_wp2
  have q5 : ∀ x : U.In (At gn 35 (NW 13 nn ⟨#[]⟩)), x.w.cell? ⟨gn, 5, none⟩ = some (.int .i64 0) := fun x => At.cell x.h 5 _ rfl
  have q6 : ∀ x : U.In (At gn 35 (NW 13 nn ⟨#[]⟩)), x.w.cell? ⟨gn, 6, none⟩ = some (.int .i64 0) := fun x => At.cell x.h 6 _ rfl
  haveI : Nonempty (U.In (At gn 35 (NW 13 nn ⟨#[]⟩))) := ⟨⟨_, HA.out.2.2.2⟩⟩
  refine U.wp_region_mix (S := At gn 35 (NW 13 nn ⟨#[]⟩)) [0, 1, 2, 3, 4] [5, 6, 7] [8, 9] (by kernel_rfl) (by kernel_rfl) (At.drewN HA.out.2.2.2 1) ?_
  simp only [List.filterMap_cons, List.filterMap_nil, List.getElem?_toArray, List.getElem?_cons_succ, List.getElem?_cons_zero]
  change wpQuiet _ _ _ _ [_, _, _, _, _] _
  repeat go_big_quiet_step (fail)
  refine wpQuiet_nil ?_
  clear q5 q6 this k0
  have d0 := (HA.out.1).free 0
  have dc0 := (HA.out.1).cell 0 _ rfl
  have d1 := (HA.out.1).free 1
  have dc1 := (HA.out.1).cell 1 _ rfl
  have d2 := (HA.out.1).free 2
  have dc2 := (HA.out.1).cell 2 _ rfl
  have d3 := (HA.out.1).free 3
  have dc3 := (HA.out.1).cell 3 _ rfl
  have d4 := (HA.out.1).free 4
  have dc4 := (HA.out.1).cell 4 _ rfl
  have d5 := (HA.out.1).free 5
  have dc5 := (HA.out.1).cell 5 _ rfl
  have d6 := (HA.out.1).free 6
  have dc6 := (HA.out.1).cell 6 _ rfl
  have d7 := (HA.out.1).free 7
  have dc7 := (HA.out.1).cell 7 _ rfl
  have d8 := (HA.out.1).free 8
  have dc8 := (HA.out.1).cell 8 _ rfl
  refine U.wpParts_step (o := _) rfl ?_
  go_wp2
  refine ⟨⟨⟨_, At.drewN (HA.out.2.2.2.other ⟨gd, 6, none⟩ _ HN.out.2.2.2.2.2.2) 1⟩, rfl⟩, ?_⟩
  refine U.wpParts_step (o := _) rfl ?_
  go_wp2
  refine ⟨⟨⟨_, At.drewN (HA.out.2.2.2.other ⟨gd, 6, none⟩ _ HN.out.2.2.2.2.2.2) 1⟩, rfl⟩, ?_⟩
  refine U.wpParts_step (o := _) rfl ?_
  go_wp2
  refine ⟨⟨⟨_, At.drewN ((HA.out.2.2.2.other ⟨gd, 6, none⟩ _ HN.out.2.2.2.2.2.2).other ⟨gd, 7, none⟩ _ HN.out.2.2.2.2.2.2) 1⟩, rfl⟩, ?_⟩
  unfold U.wpParts U.Ends
  simp only [List.filterMap_cons, List.filterMap_nil, List.getElem?_toArray, List.getElem?_cons_succ, List.getElem?_cons_zero]
  change wpList _ _ _ [_, _] _ _
  have HX : Hid (At gd 23 (CC n true pend await from_ ask true 0 0) (((w5.setCell ⟨gd, 6, none⟩ (.bool true)).setCell ⟨gd, 7, none⟩ (.int .i64 0)).setCell ⟨gd, 8, none⟩ (.int .i64 0)).drew ∧ At gt 29 ZT (((w5.setCell ⟨gd, 6, none⟩ (.bool true)).setCell ⟨gd, 7, none⟩ (.int .i64 0)).setCell ⟨gd, 8, none⟩ (.int .i64 0)).drew ∧ Below w.heap.size w (((w5.setCell ⟨gd, 6, none⟩ (.bool true)).setCell ⟨gd, 7, none⟩ (.int .i64 0)).setCell ⟨gd, 8, none⟩ (.int .i64 0)).drew ∧ gd < (((w5.setCell ⟨gd, 6, none⟩ (.bool true)).setCell ⟨gd, 7, none⟩ (.int .i64 0)).setCell ⟨gd, 8, none⟩ (.int .i64 0)).drew.heap.size ∧ gt < (((w5.setCell ⟨gd, 6, none⟩ (.bool true)).setCell ⟨gd, 7, none⟩ (.int .i64 0)).setCell ⟨gd, 8, none⟩ (.int .i64 0)).drew.heap.size) := Lib.hid (by
    have hn := HN.out
    have h1 : At gd 23 (CC n true pend await from_ ask true 0 0) (((w5.setCell ⟨gd, 6, none⟩ (.bool true)).setCell ⟨gd, 7, none⟩ (.int .i64 0)).setCell ⟨gd, 8, none⟩ (.int .i64 0)) := by simpa using ((HA.out.1.set 6 (.bool true)).set 7 (.int .i64 0)).set 8 (.int .i64 0)
    have h2 : At gt 29 ZT (((w5.setCell ⟨gd, 6, none⟩ (.bool true)).setCell ⟨gd, 7, none⟩ (.int .i64 0)).setCell ⟨gd, 8, none⟩ (.int .i64 0)) := ((HA.out.2.1.other ⟨gd, 6, none⟩ _ hn.2.1).other ⟨gd, 7, none⟩ _ hn.2.1).other ⟨gd, 8, none⟩ _ hn.2.1
    have h3 := U.below_drewN (((HA.out.2.2.1.setCell (p := ⟨gd, 6, none⟩) hn.2.2.1 (.bool true)).setCell (p := ⟨gd, 7, none⟩) hn.2.2.1 (.int .i64 0)).setCell (p := ⟨gd, 8, none⟩) hn.2.2.1 (.int .i64 0)) 1
    exact ⟨At.drewN h1 1, At.drewN h2 1, h3, (At.drewN h1 1).lt, (At.drewN h2 1).lt⟩)
  go_wp2_with fail
  obtain ⟨W7, hW7⟩ : ∃ W7, W7 = (((w5.setCell ⟨gd, 6, none⟩ (.bool true)).setCell ⟨gd, 7, none⟩ (.int .i64 0)).setCell ⟨gd, 8, none⟩ (.int .i64 0)).drew := ⟨_, rfl⟩
  rw [← hW7] at HX ⊢
  clear hW7 HA d0 dc0 d1 dc1 d2 dc2 d3 dc3 d4 dc4 d5 dc5 d6 dc6 d7 dc7 d8 dc8
  refine (shown_any n true pend await from_ ask true 0 0 _ W7.heap.size 0 [] W7 (Soft.nil _ _) (Nat.le_refl _) (by omega)).mono ?_
  rintro e w8 ⟨v', rfl, hs8, hg8⟩
  have hs9 : Soft w8 W7.heap.size v' 1 [.string ⟨#[]⟩] := hs8
  obtain ⟨g, cp, rfl, hgl, hgs⟩ := hs9.form (by omega)
  have c8 := hs9.cellAt 0 _ rfl
  have HA8 : Hid (At gd 23 (CC n true pend await from_ ask true 0 0) w8 ∧ At gt 29 ZT w8 ∧ Below w.heap.size w w8 ∧ w8.cell? ⟨g, 0, none⟩ = some (.string ⟨#[]⟩) ∧ ¬ g = gt) := Lib.hid (by
    have hx := HX.out
    exact ⟨(hg8.block gd hx.1.lt (fun e => by cases e)).trans hx.1, (hg8.block gt hx.2.1.lt (fun e => by cases e)).trans hx.2.1, hx.2.2.1.grown hg8 hx.2.2.1.size (fun b hb => by cases hb), c8, by omega⟩)
  clear hs8 hs9 hg8 hgl hgs c8 HX
  have t0 := (HA8.out.2.1).free 0
  have tc0 := (HA8.out.2.1).cell 0 _ rfl
  have t1 := (HA8.out.2.1).free 1
  have tc1 := (HA8.out.2.1).cell 1 _ rfl
  have t2 := (HA8.out.2.1).free 2
  have tc2 := (HA8.out.2.1).cell 2 _ rfl
  have HW : Hid (At gd 23 (CC n true pend await from_ ask true 0 0) (w8.setCell ⟨gt, 0, none⟩ (.slice (some ⟨g, 0, none⟩) 1 cp)) ∧ At gt 29 #[.slice (some ⟨g, 0, none⟩) 1 cp, .slice none 0 0, .slice none 0 0] (w8.setCell ⟨gt, 0, none⟩ (.slice (some ⟨g, 0, none⟩) 1 cp)) ∧ (w8.setCell ⟨gt, 0, none⟩ (.slice (some ⟨g, 0, none⟩) 1 cp)).cell? ⟨g, 0, none⟩ = some (.string ⟨#[]⟩) ∧ Below w.heap.size w (w8.setCell ⟨gt, 0, none⟩ (.slice (some ⟨g, 0, none⟩) 1 cp))) := Lib.hid (by
    have hn := HN.out
    refine ⟨HA8.out.1.other ⟨gt, 0, none⟩ _ hn.1, by simpa using HA8.out.2.1.set 0 (.slice (some ⟨g, 0, none⟩) 1 cp), ?_, HA8.out.2.2.1.setCell (p := ⟨gt, 0, none⟩) hn.2.2.2.1 _⟩
    rw [World.cell?_setCell_other w8 _ _ _ (by intro hh; injection hh with h1; exact HA8.out.2.2.2.2 h1.symm)]
    exact HA8.out.2.2.2.1)
  go_wp2
  clear t0 tc0 t1 tc1 t2 tc2
  refine in_world (fun x => At gd 23 (CC n true pend await from_ ask true 0 0) x ∧ At gt 29 #[.slice (some ⟨g, 0, none⟩) 1 cp, .slice none 0 0, .slice none 0 0] x ∧ x.cell? ⟨g, 0, none⟩ = some (.string ⟨#[]⟩) ∧ Below w.heap.size w x) HW.out (fun W hW => ?_)
  clear HW HA8
  have HW := Lib.hid hW
  have ne1 : ¬ gd = gt := HN.out.1
  have ne2 : ¬ gt = gd := HN.out.2.1
  clear hW
  have q0 : ∀ x : U.In (fun x : World => At gd 23 #[.string n, .bool true, .bool pend, .bool await, .bool from_, .bool ask, .bool true, .int .i64 0, .int .i64 0] x ∧ At gt 29 #[.slice (some ⟨g, 0, none⟩) 1 cp, .slice none 0 0, .slice none 0 0] x), x.w.cell? ⟨gd, 0, none⟩ = some (.string n) := fun x => At.cell x.h.1 0 _ rfl
  have q1 : ∀ x : U.In (fun x : World => At gd 23 #[.string n, .bool true, .bool pend, .bool await, .bool from_, .bool ask, .bool true, .int .i64 0, .int .i64 0] x ∧ At gt 29 #[.slice (some ⟨g, 0, none⟩) 1 cp, .slice none 0 0, .slice none 0 0] x), x.w.cell? ⟨gd, 1, none⟩ = some (.bool true) := fun x => At.cell x.h.1 1 _ rfl
  have q2 : ∀ x : U.In (fun x : World => At gd 23 #[.string n, .bool true, .bool pend, .bool await, .bool from_, .bool ask, .bool true, .int .i64 0, .int .i64 0] x ∧ At gt 29 #[.slice (some ⟨g, 0, none⟩) 1 cp, .slice none 0 0, .slice none 0 0] x), x.w.cell? ⟨gd, 2, none⟩ = some (.bool pend) := fun x => At.cell x.h.1 2 _ rfl
  have q3 : ∀ x : U.In (fun x : World => At gd 23 #[.string n, .bool true, .bool pend, .bool await, .bool from_, .bool ask, .bool true, .int .i64 0, .int .i64 0] x ∧ At gt 29 #[.slice (some ⟨g, 0, none⟩) 1 cp, .slice none 0 0, .slice none 0 0] x), x.w.cell? ⟨gd, 3, none⟩ = some (.bool await) := fun x => At.cell x.h.1 3 _ rfl
  have q4 : ∀ x : U.In (fun x : World => At gd 23 #[.string n, .bool true, .bool pend, .bool await, .bool from_, .bool ask, .bool true, .int .i64 0, .int .i64 0] x ∧ At gt 29 #[.slice (some ⟨g, 0, none⟩) 1 cp, .slice none 0 0, .slice none 0 0] x), x.w.cell? ⟨gd, 4, none⟩ = some (.bool from_) := fun x => At.cell x.h.1 4 _ rfl
  have q5 : ∀ x : U.In (fun x : World => At gd 23 #[.string n, .bool true, .bool pend, .bool await, .bool from_, .bool ask, .bool true, .int .i64 0, .int .i64 0] x ∧ At gt 29 #[.slice (some ⟨g, 0, none⟩) 1 cp, .slice none 0 0, .slice none 0 0] x), x.w.cell? ⟨gd, 5, none⟩ = some (.bool ask) := fun x => At.cell x.h.1 5 _ rfl
  have q6 : ∀ x : U.In (fun x : World => At gd 23 #[.string n, .bool true, .bool pend, .bool await, .bool from_, .bool ask, .bool true, .int .i64 0, .int .i64 0] x ∧ At gt 29 #[.slice (some ⟨g, 0, none⟩) 1 cp, .slice none 0 0, .slice none 0 0] x), x.w.cell? ⟨gd, 6, none⟩ = some (.bool true) := fun x => At.cell x.h.1 6 _ rfl
  have q7 : ∀ x : U.In (fun x : World => At gd 23 #[.string n, .bool true, .bool pend, .bool await, .bool from_, .bool ask, .bool true, .int .i64 0, .int .i64 0] x ∧ At gt 29 #[.slice (some ⟨g, 0, none⟩) 1 cp, .slice none 0 0, .slice none 0 0] x), x.w.cell? ⟨gd, 7, none⟩ = some (.int .i64 0) := fun x => At.cell x.h.1 7 _ rfl
  have q8 : ∀ x : U.In (fun x : World => At gd 23 #[.string n, .bool true, .bool pend, .bool await, .bool from_, .bool ask, .bool true, .int .i64 0, .int .i64 0] x ∧ At gt 29 #[.slice (some ⟨g, 0, none⟩) 1 cp, .slice none 0 0, .slice none 0 0] x), x.w.cell? ⟨gd, 8, none⟩ = some (.int .i64 0) := fun x => At.cell x.h.1 8 _ rfl
  have r0 : ∀ x : U.In (fun x : World => At gd 23 #[.string n, .bool true, .bool pend, .bool await, .bool from_, .bool ask, .bool true, .int .i64 0, .int .i64 0] x ∧ At gt 29 #[.slice (some ⟨g, 0, none⟩) 1 cp, .slice none 0 0, .slice none 0 0] x), x.w.cell? ⟨gt, 0, none⟩ = some (.slice (some ⟨g, 0, none⟩) 1 cp) := fun x => At.cell x.h.2 0 _ rfl
  have r1 : ∀ x : U.In (fun x : World => At gd 23 #[.string n, .bool true, .bool pend, .bool await, .bool from_, .bool ask, .bool true, .int .i64 0, .int .i64 0] x ∧ At gt 29 #[.slice (some ⟨g, 0, none⟩) 1 cp, .slice none 0 0, .slice none 0 0] x), x.w.cell? ⟨gt, 1, none⟩ = some (.slice none 0 0) := fun x => At.cell x.h.2 1 _ rfl
  have r2 : ∀ x : U.In (fun x : World => At gd 23 #[.string n, .bool true, .bool pend, .bool await, .bool from_, .bool ask, .bool true, .int .i64 0, .int .i64 0] x ∧ At gt 29 #[.slice (some ⟨g, 0, none⟩) 1 cp, .slice none 0 0, .slice none 0 0] x), x.w.cell? ⟨gt, 2, none⟩ = some (.slice none 0 0) := fun x => At.cell x.h.2 2 _ rfl
  haveI : Nonempty (U.In (fun x : World => At gd 23 #[.string n, .bool true, .bool pend, .bool await, .bool from_, .bool ask, .bool true, .int .i64 0, .int .i64 0] x ∧ At gt 29 #[.slice (some ⟨g, 0, none⟩) 1 cp, .slice none 0 0, .slice none 0 0] x)) := ⟨⟨_, ⟨HW.out.1, HW.out.2.1⟩⟩⟩
  refine U.wp_region_mix (S := fun x : World => At gd 23 #[.string n, .bool true, .bool pend, .bool await, .bool from_, .bool ask, .bool true, .int .i64 0, .int .i64 0] x ∧ At gt 29 #[.slice (some ⟨g, 0, none⟩) 1 cp, .slice none 0 0, .slice none 0 0] x) [0, 1] [2] [3] (by kernel_rfl) (by kernel_rfl) ⟨At.drewN HW.out.1 1, At.drewN HW.out.2.1 1⟩ ?_
  simp only [List.filterMap_cons, List.filterMap_nil, List.getElem?_toArray, List.getElem?_cons_succ, List.getElem?_cons_zero]
  change wpQuiet _ _ _ _ [_, _] _
  repeat go_big_quiet_step (fail)
  refine wpQuiet_nil ?_
  clear q0 q1 q2 q3 q4 q5 q6 q7 q8 r0 r1 r2 this
  have d0 := HW.out.1.free 0
  have dc0 : W.cell? ⟨gd, 0, none⟩ = some (.string n) := HW.out.1.cell 0 _ rfl
  have d1 := HW.out.1.free 1
  have dc1 : W.cell? ⟨gd, 1, none⟩ = some (.bool true) := HW.out.1.cell 1 _ rfl
  have d2 := HW.out.1.free 2
  have dc2 : W.cell? ⟨gd, 2, none⟩ = some (.bool pend) := HW.out.1.cell 2 _ rfl
  have d3 := HW.out.1.free 3
  have dc3 : W.cell? ⟨gd, 3, none⟩ = some (.bool await) := HW.out.1.cell 3 _ rfl
  have d4 := HW.out.1.free 4
  have dc4 : W.cell? ⟨gd, 4, none⟩ = some (.bool from_) := HW.out.1.cell 4 _ rfl
  have d5 := HW.out.1.free 5
  have dc5 : W.cell? ⟨gd, 5, none⟩ = some (.bool ask) := HW.out.1.cell 5 _ rfl
  have d6 := HW.out.1.free 6
  have dc6 : W.cell? ⟨gd, 6, none⟩ = some (.bool true) := HW.out.1.cell 6 _ rfl
  have d7 := HW.out.1.free 7
  have dc7 : W.cell? ⟨gd, 7, none⟩ = some (.int .i64 0) := HW.out.1.cell 7 _ rfl
  have d8 := HW.out.1.free 8
  have dc8 : W.cell? ⟨gd, 8, none⟩ = some (.int .i64 0) := HW.out.1.cell 8 _ rfl
  have t0 := HW.out.2.1.free 0
  have tc0 : W.cell? ⟨gt, 0, none⟩ = some (.slice (some ⟨g, 0, none⟩) 1 cp) := HW.out.2.1.cell 0 _ rfl
  have t1 := HW.out.2.1.free 1
  have tc1 : W.cell? ⟨gt, 1, none⟩ = some (.slice none 0 0) := HW.out.2.1.cell 1 _ rfl
  have t2 := HW.out.2.1.free 2
  have tc2 : W.cell? ⟨gt, 2, none⟩ = some (.slice none 0 0) := HW.out.2.1.cell 2 _ rfl
  refine U.wpParts_step (o := _) rfl ?_
  go_wp2
  simp only [setCell_self dc0, setCell_self dc1, setCell_self dc2, setCell_self dc3, setCell_self dc4, setCell_self dc5, setCell_self dc6, setCell_self dc7, setCell_self dc8]
  refine ⟨⟨⟨_, ⟨At.drewN HW.out.1 1, At.drewN HW.out.2.1 1⟩⟩, rfl⟩, ?_⟩
  unfold U.wpParts U.Ends
  simp only [List.filterMap_cons, List.filterMap_nil, List.getElem?_toArray, List.getElem?_cons_succ, List.getElem?_cons_zero]
  change wpList _ _ _ [_] _ _
  go_wp2
  simp only [setCell_self tc0, setCell_self tc1, setCell_self tc2]
  exact bodyPost_ret (res_ct rfl _ _ gd gt _ _ rfl rfl (At.drewN HW.out.1 1) (At.drewN HW.out.2.1 1) rfl rfl) rfl ⟨g, cp, rfl, HW.out.2.2.1, U.below_drewN HW.out.2.2.2 1⟩
end Go.Proofs.YtofdiilfedjhkaaDoor.Sub

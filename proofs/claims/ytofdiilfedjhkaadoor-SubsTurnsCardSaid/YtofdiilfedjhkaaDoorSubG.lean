/- subs.Dealt: somebody who was added. (Printed by gen_subg.py.) -/
import Derived.Test.YtofdiilfedjhkaaDoorSubF
set_option linter.unusedVariables false
set_option linter.unusedSimpArgs false
namespace Go.Proofs.YtofdiilfedjhkaaDoor.Sub
open Go.RowKit U
set_option maxHeartbeats 4000000 in
theorem Dealt_ok (n wn wa wg : ByteArray) (tt await from_ ask onl : Bool) (st idle : Int) (ha : n.size ≤ 68719476736) (hb : wn.size ≤ 68719476736) (hs : Han.norm n.data.toList = Han.norm wn.data.toList) (w : World) :
    Calls Tryd.prog 13 #[CV n tt true await from_ ask onl st idle, (.agg #[.int .i64 1, .string wn, .string wa, .string wg, .bool false, .int .i64 0])] w fun e w' => ∃ g cp, e = .returned (.tuple #[CV n true false await from_ ask onl st idle, .agg #[(.slice (some ⟨g, 0, none⟩) (1 + (more onl).length) cp), .slice none 0 0, .slice none 0 0]]) ∧
      Soft w' w.heap.size (.slice (some ⟨g, 0, none⟩) (1 + (more onl).length) cp) (1 + (more onl).length) (.string sS :: more onl) ∧ Below w.heap.size w w' := by
  have HS := Lib.hid (same_yes n wn ha hb hs)
  have HSN := Lib.hid (seen_any n tt true await from_ ask onl st idle)
  have K := (((((Box.start w).alloc 23 (CC n tt true await from_ ask onl st idle)).alloc 45 #[.int .i64 1, .string wn, .string wa, .string wg, .bool false, .int .i64 0]).alloc 23 ZC).alloc 29 ZT).alloc 42 #[.int .i64 1, .string wn, .string wa, .string wg, .bool false]
  have HK := Lib.hid K; clear K
  go_enter Tryd.func13, Tryd.ntmps13
  go_wp2_with fail
  refine (HS.out _).mono ?_
  rintro e w5 ⟨rfl, hb5⟩
  obtain ⟨gw, hgw⟩ : ∃ g, g = w.heap.size + 1 + 1 + 1 + 1 := ⟨_, rfl⟩
  obtain ⟨gt, hgt⟩ : ∃ g, g = w.heap.size + 1 + 1 + 1 := ⟨_, rfl⟩
  obtain ⟨gd, hgd⟩ : ∃ g, g = w.heap.size + 1 + 1 := ⟨_, rfl⟩
  obtain ⟨gx, hgx⟩ : ∃ g, g = w.heap.size + 1 := ⟨_, rfl⟩
  have HN : Hid (¬ gd = gt ∧ ¬ gt = gd ∧ w.heap.size ≤ gd ∧ w.heap.size ≤ gt ∧ gd < w5.heap.size ∧ gt < w5.heap.size) := Lib.hid (by have := hb5.size; simp at this; omega)
  have HA : Hid (At gd 23 ZC w5 ∧ At gt 29 ZT w5 ∧ Below w.heap.size w w5 ∧ At gx 45 #[.int .i64 1, .string wn, .string wa, .string wg, .bool false, .int .i64 0] w5 ∧ At gw 42 #[.int .i64 1, .string wn, .string wa, .string wg, .bool false] w5 ∧ At w.heap.size 23 (CC n tt true await from_ ask onl st idle) w5) := Lib.hid
    ⟨by rw [hgd]; exact At.below (by simpa using HK.out.at 2 _ _ _ rfl) hb5, by rw [hgt]; exact At.below (by simpa using HK.out.at 1 _ _ _ rfl) hb5, HK.out.low.trans (hb5.mono HK.out.low.size), by rw [hgx]; exact At.below (by simpa using HK.out.at 3 _ _ _ rfl) hb5, by rw [hgw]; exact At.below (by simpa using HK.out.at 0 _ _ _ rfl) hb5, At.below (by simpa using HK.out.at 4 _ _ _ rfl) hb5⟩
  rw [← hgw, ← hgt, ← hgd, ← hgx]
  clear hgd hgt hgx hgw hb5 HK
  have x5 : w5.cell? ⟨gx, 5, none⟩ = some (.int .i64 0) := HA.out.2.2.2.1.cell 5 _ rfl
  have w4 : w5.cell? ⟨gw, 4, none⟩ = some (.bool false) := HA.out.2.2.2.2.1.cell 4 _ rfl
  have c0 := (HA.out.2.2.2.2.2).free 0
  have cc0 := (HA.out.2.2.2.2.2).cell 0 _ rfl
  have c1 := (HA.out.2.2.2.2.2).free 1
  have cc1 := (HA.out.2.2.2.2.2).cell 1 _ rfl
  have c2 := (HA.out.2.2.2.2.2).free 2
  have cc2 := (HA.out.2.2.2.2.2).cell 2 _ rfl
  have c3 := (HA.out.2.2.2.2.2).free 3
  have cc3 := (HA.out.2.2.2.2.2).cell 3 _ rfl
  have c4 := (HA.out.2.2.2.2.2).free 4
  have cc4 := (HA.out.2.2.2.2.2).cell 4 _ rfl
  have c5 := (HA.out.2.2.2.2.2).free 5
  have cc5 := (HA.out.2.2.2.2.2).cell 5 _ rfl
  have c6 := (HA.out.2.2.2.2.2).free 6
  have cc6 := (HA.out.2.2.2.2.2).cell 6 _ rfl
  have c7 := (HA.out.2.2.2.2.2).free 7
  have cc7 := (HA.out.2.2.2.2.2).cell 7 _ rfl
  have c8 := (HA.out.2.2.2.2.2).free 8
  have cc8 := (HA.out.2.2.2.2.2).cell 8 _ rfl
  go_wp2_with fail
  refine (HSN.out _).mono ?_
  rintro e w6 ⟨p, rfl, hs6, hb6⟩
  obtain ⟨g, cp, rfl, hg1, hg2⟩ := hs6.form (by omega)
  have HN6 : Hid (gd < w6.heap.size ∧ gt < w6.heap.size) := Lib.hid (by have h1 := hb6.size; have h2 := HN.out; omega)
  have HA6 : Hid (At gd 23 ZC w6 ∧ At gt 29 ZT w6 ∧ Below w.heap.size w w6 ∧ Soft w6 w.heap.size (.slice (some ⟨g, 0, none⟩) (1 + (more onl).length) cp) (1 + (more onl).length) (.string sS :: more onl) ∧ gd < g ∧ gt < g) := Lib.hid
    ⟨HA.out.1.below hb6, HA.out.2.1.below hb6, HA.out.2.2.1.trans (hb6.mono HA.out.2.2.1.size), Soft.weaken hs6 HA.out.2.2.1.size, by have := HN.out; omega, by have := HN.out; omega⟩
  clear hs6 hb6 hg1 hg2 x5 w4 c0 cc0 c1 cc1 c2 cc2 c3 cc3 c4 cc4 c5 cc5 c6 cc6 c7 cc7 c8 cc8 HA
  go_wp2
  obtain ⟨g8, hg8⟩ : ∃ g, g = w6.heap.size := ⟨_, rfl⟩
  obtain ⟨g9, hg9⟩ : ∃ g, g = w6.heap.size + 1 := ⟨_, rfl⟩
  have HN8 : Hid (¬ g8 = gd ∧ ¬ g9 = gd ∧ ¬ g8 = gt ∧ ¬ g9 = gt) := Lib.hid (by have := HN6.out; omega)
  refine in_world (fun x => At g8 23 (CC n true false await from_ ask onl st idle) x ∧ At g9 29 #[(.slice (some ⟨g, 0, none⟩) (1 + (more onl).length) cp), .slice none 0 0, .slice none 0 0] x ∧ At gd 23 ZC x ∧ At gt 29 ZT x ∧ Below w.heap.size w x ∧ Soft x w.heap.size (.slice (some ⟨g, 0, none⟩) (1 + (more onl).length) cp) (1 + (more onl).length) (.string sS :: more onl))
    ⟨(new_at w6 _ _ g8 hg8).alloc _, new_at _ _ _ g9 (by rw [hg9]; simp), (HA6.out.1.alloc _).alloc _, (HA6.out.2.1.alloc _).alloc _, (HA6.out.2.2.1.alloc HA6.out.2.2.1.size _).alloc (by have := HA6.out.2.2.1.size; simp; omega) _, (HA6.out.2.2.2.1.below ((Below.refl w6.heap.size w6).alloc (Nat.le_refl _) _)).below ((Below.refl _ _).alloc (Nat.le_refl _) _)⟩ (fun W hW => ?_)
  rw [← hg8]
  rw [show (Value.pointer (some ⟨g8 + 1, 0, none⟩)) = .pointer (some ⟨g9, 0, none⟩) by rw [hg9, hg8]]
  have HW := Lib.hid hW
  have HGG := Lib.hid HA6.out.2.2.2.2
  clear hW HA6 hg8 hg9
  have q0 : ∀ x : U.In (fun x : World => At g8 23 (CC n true false await from_ ask onl st idle) x ∧ At g9 29 #[(.slice (some ⟨g, 0, none⟩) (1 + (more onl).length) cp), .slice none 0 0, .slice none 0 0] x), x.w.cell? ⟨g8, 0, none⟩ = some (.string n) := fun x => At.cell x.h.1 0 _ rfl
  have q1 : ∀ x : U.In (fun x : World => At g8 23 (CC n true false await from_ ask onl st idle) x ∧ At g9 29 #[(.slice (some ⟨g, 0, none⟩) (1 + (more onl).length) cp), .slice none 0 0, .slice none 0 0] x), x.w.cell? ⟨g8, 1, none⟩ = some (.bool true) := fun x => At.cell x.h.1 1 _ rfl
  have q2 : ∀ x : U.In (fun x : World => At g8 23 (CC n true false await from_ ask onl st idle) x ∧ At g9 29 #[(.slice (some ⟨g, 0, none⟩) (1 + (more onl).length) cp), .slice none 0 0, .slice none 0 0] x), x.w.cell? ⟨g8, 2, none⟩ = some (.bool false) := fun x => At.cell x.h.1 2 _ rfl
  have q3 : ∀ x : U.In (fun x : World => At g8 23 (CC n true false await from_ ask onl st idle) x ∧ At g9 29 #[(.slice (some ⟨g, 0, none⟩) (1 + (more onl).length) cp), .slice none 0 0, .slice none 0 0] x), x.w.cell? ⟨g8, 3, none⟩ = some (.bool await) := fun x => At.cell x.h.1 3 _ rfl
  have q4 : ∀ x : U.In (fun x : World => At g8 23 (CC n true false await from_ ask onl st idle) x ∧ At g9 29 #[(.slice (some ⟨g, 0, none⟩) (1 + (more onl).length) cp), .slice none 0 0, .slice none 0 0] x), x.w.cell? ⟨g8, 4, none⟩ = some (.bool from_) := fun x => At.cell x.h.1 4 _ rfl
  have q5 : ∀ x : U.In (fun x : World => At g8 23 (CC n true false await from_ ask onl st idle) x ∧ At g9 29 #[(.slice (some ⟨g, 0, none⟩) (1 + (more onl).length) cp), .slice none 0 0, .slice none 0 0] x), x.w.cell? ⟨g8, 5, none⟩ = some (.bool ask) := fun x => At.cell x.h.1 5 _ rfl
  have q6 : ∀ x : U.In (fun x : World => At g8 23 (CC n true false await from_ ask onl st idle) x ∧ At g9 29 #[(.slice (some ⟨g, 0, none⟩) (1 + (more onl).length) cp), .slice none 0 0, .slice none 0 0] x), x.w.cell? ⟨g8, 6, none⟩ = some (.bool onl) := fun x => At.cell x.h.1 6 _ rfl
  have q7 : ∀ x : U.In (fun x : World => At g8 23 (CC n true false await from_ ask onl st idle) x ∧ At g9 29 #[(.slice (some ⟨g, 0, none⟩) (1 + (more onl).length) cp), .slice none 0 0, .slice none 0 0] x), x.w.cell? ⟨g8, 7, none⟩ = some (.int .i64 st) := fun x => At.cell x.h.1 7 _ rfl
  have q8 : ∀ x : U.In (fun x : World => At g8 23 (CC n true false await from_ ask onl st idle) x ∧ At g9 29 #[(.slice (some ⟨g, 0, none⟩) (1 + (more onl).length) cp), .slice none 0 0, .slice none 0 0] x), x.w.cell? ⟨g8, 8, none⟩ = some (.int .i64 idle) := fun x => At.cell x.h.1 8 _ rfl
  have r0 : ∀ x : U.In (fun x : World => At g8 23 (CC n true false await from_ ask onl st idle) x ∧ At g9 29 #[(.slice (some ⟨g, 0, none⟩) (1 + (more onl).length) cp), .slice none 0 0, .slice none 0 0] x), x.w.cell? ⟨g9, 0, none⟩ = some (.slice (some ⟨g, 0, none⟩) (1 + (more onl).length) cp) := fun x => At.cell x.h.2 0 _ rfl
  have r1 : ∀ x : U.In (fun x : World => At g8 23 (CC n true false await from_ ask onl st idle) x ∧ At g9 29 #[(.slice (some ⟨g, 0, none⟩) (1 + (more onl).length) cp), .slice none 0 0, .slice none 0 0] x), x.w.cell? ⟨g9, 1, none⟩ = some (.slice none 0 0) := fun x => At.cell x.h.2 1 _ rfl
  have r2 : ∀ x : U.In (fun x : World => At g8 23 (CC n true false await from_ ask onl st idle) x ∧ At g9 29 #[(.slice (some ⟨g, 0, none⟩) (1 + (more onl).length) cp), .slice none 0 0, .slice none 0 0] x), x.w.cell? ⟨g9, 2, none⟩ = some (.slice none 0 0) := fun x => At.cell x.h.2 2 _ rfl
  haveI : Nonempty (U.In (fun x : World => At g8 23 (CC n true false await from_ ask onl st idle) x ∧ At g9 29 #[(.slice (some ⟨g, 0, none⟩) (1 + (more onl).length) cp), .slice none 0 0, .slice none 0 0] x)) := ⟨⟨_, ⟨HW.out.1, HW.out.2.1⟩⟩⟩
  refine U.wp_region_mix (S := fun x : World => At g8 23 (CC n true false await from_ ask onl st idle) x ∧ At g9 29 #[(.slice (some ⟨g, 0, none⟩) (1 + (more onl).length) cp), .slice none 0 0, .slice none 0 0] x) [0, 1] [2] [3] (by kernel_rfl) (by kernel_rfl) ⟨At.drewN HW.out.1 1, At.drewN HW.out.2.1 1⟩ ?_
  simp only [List.filterMap_cons, List.filterMap_nil, List.getElem?_toArray, List.getElem?_cons_succ, List.getElem?_cons_zero]
  change wpQuiet _ _ _ _ [_, _] _
  repeat go_big_quiet_step (fail)
  refine wpQuiet_nil ?_
  clear q0 q1 q2 q3 q4 q5 q6 q7 q8 r0 r1 r2 this
  have d0 := (HW.out.2.2.1).free 0
  have dc0 := (HW.out.2.2.1).cell 0 _ rfl
  have d1 := (HW.out.2.2.1).free 1
  have dc1 := (HW.out.2.2.1).cell 1 _ rfl
  have d2 := (HW.out.2.2.1).free 2
  have dc2 := (HW.out.2.2.1).cell 2 _ rfl
  have d3 := (HW.out.2.2.1).free 3
  have dc3 := (HW.out.2.2.1).cell 3 _ rfl
  have d4 := (HW.out.2.2.1).free 4
  have dc4 := (HW.out.2.2.1).cell 4 _ rfl
  have d5 := (HW.out.2.2.1).free 5
  have dc5 := (HW.out.2.2.1).cell 5 _ rfl
  have d6 := (HW.out.2.2.1).free 6
  have dc6 := (HW.out.2.2.1).cell 6 _ rfl
  have d7 := (HW.out.2.2.1).free 7
  have dc7 := (HW.out.2.2.1).cell 7 _ rfl
  have d8 := (HW.out.2.2.1).free 8
  have dc8 := (HW.out.2.2.1).cell 8 _ rfl
  have t0 := (HW.out.2.2.2.1).free 0
  have tc0 := (HW.out.2.2.2.1).cell 0 _ rfl
  have t1 := (HW.out.2.2.2.1).free 1
  have tc1 := (HW.out.2.2.2.1).cell 1 _ rfl
  have t2 := (HW.out.2.2.2.1).free 2
  have tc2 := (HW.out.2.2.2.1).cell 2 _ rfl
  have ne1 : ¬ gd = gt := HN.out.1
  have ne2 : ¬ gt = gd := HN.out.2.1
  refine U.wpParts_step (o := _) rfl ?_
  go_wp2
  refine ⟨⟨⟨_, ⟨At.drewN (at_other9 _ _ _ _ _ _ _ _ _ HW.out.1 HN8.out.1) 1, At.drewN (at_other9 _ _ _ _ _ _ _ _ _ HW.out.2.1 HN8.out.2.1) 1⟩⟩, rfl⟩, ?_⟩
  unfold U.wpParts U.Ends
  simp only [List.filterMap_cons, List.filterMap_nil, List.getElem?_toArray, List.getElem?_cons_succ, List.getElem?_cons_zero]
  change wpList _ _ _ [_] _ _
  go_wp2
  have hn := HN.out
  have hgd : ∀ b, (Value.slice (some ⟨g, 0, none⟩) (1 + (more onl).length) cp).ownBlock = some b → some gd ≠ some b := fun b hb e => by
    injection e with e; injection hb with hb; have hb' : g = b := hb; have := HGG.out; omega
  have hgt : ∀ b, (Value.slice (some ⟨g, 0, none⟩) (1 + (more onl).length) cp).ownBlock = some b → some gt ≠ some b := fun b hb e => by
    injection e with e; injection hb with hb; have hb' : g = b := hb; have := HGG.out; omega
  exact bodyPost_ret (res_ct rfl _ _ gd gt (CC n true false await from_ ask onl st idle) #[(.slice (some ⟨g, 0, none⟩) (1 + (more onl).length) cp), .slice none 0 0, .slice none 0 0] rfl rfl (At.drewN (at_other3 _ _ _ (at_set9 _ _ _ _ _ _ _ _ _ _ _ _ _ _ _ _ _ _ HW.out.2.2.1) hn.1) 1) (At.drewN (at_set3 _ _ _ _ _ _ (at_other9 _ _ _ _ _ _ _ _ _ HW.out.2.2.2.1 hn.2.1)) 1) rfl rfl) rfl
    ⟨g, cp, rfl, (soft_set3 _ _ _ (soft_set9 _ _ _ _ _ _ _ _ _ HW.out.2.2.2.2.2 hgd) hgt).drewN 1, U.below_drewN (low_set3 _ _ _ (low_set9 _ _ _ _ _ _ _ _ _ HW.out.2.2.2.2.1 hn.2.2.1) hn.2.2.2.1) 1⟩
end Go.Proofs.YtofdiilfedjhkaaDoor.Sub

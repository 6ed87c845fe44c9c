/- subs.User. (Printed by gen_subd.py.) -/
import Derived.Test.YtofdiilfedjhkaaDoorSubC
set_option linter.unusedVariables false
set_option linter.unusedSimpArgs false
namespace Go.Proofs.YtofdiilfedjhkaaDoor.Sub
open Go.RowKit U
set_option maxHeartbeats 4000000 in
theorem User_sub (n al gr : ByteArray) (pend await from_ ask onl : Bool) (st idle : Int) (w : World) :
    Calls Tryd.prog 9 #[CV n false pend await from_ ask onl st idle, .string ⟨#[115, 117, 98, 115, 99, 114, 105, 98, 101]⟩, .string al, .string gr] w fun e w' => ∃ g, e = .returned (.tuple #[CV n false true await from_ ask onl st idle, .agg #[.slice none 0 0, .slice none 0 0, .slice (some ⟨g, 0, none⟩) 1 1]]) ∧
      At g 42 #[.int .i64 1, .string n, .string al, .string gr, .bool false] w' ∧ Below w.heap.size w w' := by
  have K := ((((Box.start w).alloc 23 (CC n false pend await from_ ask onl st idle)).alloc 23 (CC n false true await from_ ask onl st idle)).alloc 29 #[.slice none 0 0, .slice none 0 0, .slice (some ⟨w.heap.size + 1 + 1 + 1, 0, none⟩) 1 1]).alloc 42 #[.int .i64 1, .string n, .string al, .string gr, .bool false]
  have HK := Lib.hid K; clear K
  go_enter Tryd.func9, Tryd.ntmps9
  go_wp2
  refine in_world (fun x => At (w.heap.size + 1) 23 (CC n false true await from_ ask onl st idle) x ∧ At (w.heap.size + 1 + 1) 29 #[.slice none 0 0, .slice none 0 0, .slice (some ⟨w.heap.size + 1 + 1 + 1, 0, none⟩) 1 1] x ∧ At (w.heap.size + 1 + 1 + 1) 42 #[.int .i64 1, .string n, .string al, .string gr, .bool false] x ∧ Below w.heap.size w x)
    ⟨by simpa using HK.out.at 2 _ _ _ rfl, by simpa using HK.out.at 1 _ _ _ rfl, by simpa using HK.out.at 0 _ _ _ rfl, HK.out.low⟩ (fun W hW => ?_)
  obtain ⟨gw, hgw⟩ : ∃ g, g = w.heap.size + 1 + 1 + 1 := ⟨_, rfl⟩
  rw [← hgw] at hW ⊢
  obtain ⟨gt, hgt⟩ : ∃ g, g = w.heap.size + 1 + 1 := ⟨_, rfl⟩
  rw [← hgt] at hW ⊢
  obtain ⟨gd, hgd⟩ : ∃ g, g = w.heap.size + 1 := ⟨_, rfl⟩
  rw [← hgd] at hW ⊢
  have HW := Lib.hid hW
  have ne1 : ¬ gd = gt := by omega
  have ne2 : ¬ gt = gd := by omega
  clear hW hgw hgt hgd HK
  have q0 : ∀ x : U.In (fun x : World => At gd 23 #[.string n, .bool false, .bool true, .bool await, .bool from_, .bool ask, .bool onl, .int .i64 st, .int .i64 idle] x ∧ At gt 29 #[.slice none 0 0, .slice none 0 0, .slice (some ⟨gw, 0, none⟩) 1 1] x), x.w.cell? ⟨gd, 0, none⟩ = some (.string n) := fun x => At.cell x.h.1 0 _ rfl
  have q1 : ∀ x : U.In (fun x : World => At gd 23 #[.string n, .bool false, .bool true, .bool await, .bool from_, .bool ask, .bool onl, .int .i64 st, .int .i64 idle] x ∧ At gt 29 #[.slice none 0 0, .slice none 0 0, .slice (some ⟨gw, 0, none⟩) 1 1] x), x.w.cell? ⟨gd, 1, none⟩ = some (.bool false) := fun x => At.cell x.h.1 1 _ rfl
  have q2 : ∀ x : U.In (fun x : World => At gd 23 #[.string n, .bool false, .bool true, .bool await, .bool from_, .bool ask, .bool onl, .int .i64 st, .int .i64 idle] x ∧ At gt 29 #[.slice none 0 0, .slice none 0 0, .slice (some ⟨gw, 0, none⟩) 1 1] x), x.w.cell? ⟨gd, 2, none⟩ = some (.bool true) := fun x => At.cell x.h.1 2 _ rfl
  have q3 : ∀ x : U.In (fun x : World => At gd 23 #[.string n, .bool false, .bool true, .bool await, .bool from_, .bool ask, .bool onl, .int .i64 st, .int .i64 idle] x ∧ At gt 29 #[.slice none 0 0, .slice none 0 0, .slice (some ⟨gw, 0, none⟩) 1 1] x), x.w.cell? ⟨gd, 3, none⟩ = some (.bool await) := fun x => At.cell x.h.1 3 _ rfl
  have q4 : ∀ x : U.In (fun x : World => At gd 23 #[.string n, .bool false, .bool true, .bool await, .bool from_, .bool ask, .bool onl, .int .i64 st, .int .i64 idle] x ∧ At gt 29 #[.slice none 0 0, .slice none 0 0, .slice (some ⟨gw, 0, none⟩) 1 1] x), x.w.cell? ⟨gd, 4, none⟩ = some (.bool from_) := fun x => At.cell x.h.1 4 _ rfl
  have q5 : ∀ x : U.In (fun x : World => At gd 23 #[.string n, .bool false, .bool true, .bool await, .bool from_, .bool ask, .bool onl, .int .i64 st, .int .i64 idle] x ∧ At gt 29 #[.slice none 0 0, .slice none 0 0, .slice (some ⟨gw, 0, none⟩) 1 1] x), x.w.cell? ⟨gd, 5, none⟩ = some (.bool ask) := fun x => At.cell x.h.1 5 _ rfl
  have q6 : ∀ x : U.In (fun x : World => At gd 23 #[.string n, .bool false, .bool true, .bool await, .bool from_, .bool ask, .bool onl, .int .i64 st, .int .i64 idle] x ∧ At gt 29 #[.slice none 0 0, .slice none 0 0, .slice (some ⟨gw, 0, none⟩) 1 1] x), x.w.cell? ⟨gd, 6, none⟩ = some (.bool onl) := fun x => At.cell x.h.1 6 _ rfl
  have q7 : ∀ x : U.In (fun x : World => At gd 23 #[.string n, .bool false, .bool true, .bool await, .bool from_, .bool ask, .bool onl, .int .i64 st, .int .i64 idle] x ∧ At gt 29 #[.slice none 0 0, .slice none 0 0, .slice (some ⟨gw, 0, none⟩) 1 1] x), x.w.cell? ⟨gd, 7, none⟩ = some (.int .i64 st) := fun x => At.cell x.h.1 7 _ rfl
  have q8 : ∀ x : U.In (fun x : World => At gd 23 #[.string n, .bool false, .bool true, .bool await, .bool from_, .bool ask, .bool onl, .int .i64 st, .int .i64 idle] x ∧ At gt 29 #[.slice none 0 0, .slice none 0 0, .slice (some ⟨gw, 0, none⟩) 1 1] x), x.w.cell? ⟨gd, 8, none⟩ = some (.int .i64 idle) := fun x => At.cell x.h.1 8 _ rfl
  have r0 : ∀ x : U.In (fun x : World => At gd 23 #[.string n, .bool false, .bool true, .bool await, .bool from_, .bool ask, .bool onl, .int .i64 st, .int .i64 idle] x ∧ At gt 29 #[.slice none 0 0, .slice none 0 0, .slice (some ⟨gw, 0, none⟩) 1 1] x), x.w.cell? ⟨gt, 0, none⟩ = some (.slice none 0 0) := fun x => At.cell x.h.2 0 _ rfl
  have r1 : ∀ x : U.In (fun x : World => At gd 23 #[.string n, .bool false, .bool true, .bool await, .bool from_, .bool ask, .bool onl, .int .i64 st, .int .i64 idle] x ∧ At gt 29 #[.slice none 0 0, .slice none 0 0, .slice (some ⟨gw, 0, none⟩) 1 1] x), x.w.cell? ⟨gt, 1, none⟩ = some (.slice none 0 0) := fun x => At.cell x.h.2 1 _ rfl
  have r2 : ∀ x : U.In (fun x : World => At gd 23 #[.string n, .bool false, .bool true, .bool await, .bool from_, .bool ask, .bool onl, .int .i64 st, .int .i64 idle] x ∧ At gt 29 #[.slice none 0 0, .slice none 0 0, .slice (some ⟨gw, 0, none⟩) 1 1] x), x.w.cell? ⟨gt, 2, none⟩ = some (.slice (some ⟨gw, 0, none⟩) 1 1) := fun x => At.cell x.h.2 2 _ rfl
  haveI : Nonempty (U.In (fun x : World => At gd 23 #[.string n, .bool false, .bool true, .bool await, .bool from_, .bool ask, .bool onl, .int .i64 st, .int .i64 idle] x ∧ At gt 29 #[.slice none 0 0, .slice none 0 0, .slice (some ⟨gw, 0, none⟩) 1 1] x)) := ⟨⟨_, ⟨HW.out.1, HW.out.2.1⟩⟩⟩
  refine U.wp_region_mix (S := fun x : World => At gd 23 #[.string n, .bool false, .bool true, .bool await, .bool from_, .bool ask, .bool onl, .int .i64 st, .int .i64 idle] x ∧ At gt 29 #[.slice none 0 0, .slice none 0 0, .slice (some ⟨gw, 0, none⟩) 1 1] x) [0, 1] [2] [3] (by kernel_rfl) (by kernel_rfl) ⟨At.drewN HW.out.1 1, At.drewN HW.out.2.1 1⟩ ?_
  simp only [List.filterMap_cons, List.filterMap_nil, List.getElem?_toArray, List.getElem?_cons_succ, List.getElem?_cons_zero]
  change wpQuiet _ _ _ _ [_, _] _
  repeat go_big_quiet_step (fail)
  refine wpQuiet_nil ?_
  clear q0 q1 q2 q3 q4 q5 q6 q7 q8 r0 r1 r2 this
  have d0 := HW.out.1.free 0
  have dc0 : W.cell? ⟨gd, 0, none⟩ = some (.string n) := HW.out.1.cell 0 _ rfl
  have d1 := HW.out.1.free 1
  have dc1 : W.cell? ⟨gd, 1, none⟩ = some (.bool false) := HW.out.1.cell 1 _ rfl
  have d2 := HW.out.1.free 2
  have dc2 : W.cell? ⟨gd, 2, none⟩ = some (.bool true) := HW.out.1.cell 2 _ rfl
  have d3 := HW.out.1.free 3
  have dc3 : W.cell? ⟨gd, 3, none⟩ = some (.bool await) := HW.out.1.cell 3 _ rfl
  have d4 := HW.out.1.free 4
  have dc4 : W.cell? ⟨gd, 4, none⟩ = some (.bool from_) := HW.out.1.cell 4 _ rfl
  have d5 := HW.out.1.free 5
  have dc5 : W.cell? ⟨gd, 5, none⟩ = some (.bool ask) := HW.out.1.cell 5 _ rfl
  have d6 := HW.out.1.free 6
  have dc6 : W.cell? ⟨gd, 6, none⟩ = some (.bool onl) := HW.out.1.cell 6 _ rfl
  have d7 := HW.out.1.free 7
  have dc7 : W.cell? ⟨gd, 7, none⟩ = some (.int .i64 st) := HW.out.1.cell 7 _ rfl
  have d8 := HW.out.1.free 8
  have dc8 : W.cell? ⟨gd, 8, none⟩ = some (.int .i64 idle) := HW.out.1.cell 8 _ rfl
  have t0 := HW.out.2.1.free 0
  have tc0 : W.cell? ⟨gt, 0, none⟩ = some (.slice none 0 0) := HW.out.2.1.cell 0 _ rfl
  have t1 := HW.out.2.1.free 1
  have tc1 : W.cell? ⟨gt, 1, none⟩ = some (.slice none 0 0) := HW.out.2.1.cell 1 _ rfl
  have t2 := HW.out.2.1.free 2
  have tc2 : W.cell? ⟨gt, 2, none⟩ = some (.slice (some ⟨gw, 0, none⟩) 1 1) := HW.out.2.1.cell 2 _ rfl
  refine U.wpParts_step (o := _) rfl ?_
  go_wp2
  simp only [setCell_self dc0, setCell_self dc1, setCell_self dc2, setCell_self dc3, setCell_self dc4, setCell_self dc5, setCell_self dc6, setCell_self dc7, setCell_self dc8]
  refine ⟨⟨⟨_, ⟨At.drewN HW.out.1 1, At.drewN HW.out.2.1 1⟩⟩, rfl⟩, ?_⟩
  unfold U.wpParts U.Ends
  simp only [List.filterMap_cons, List.filterMap_nil, List.getElem?_toArray, List.getElem?_cons_succ, List.getElem?_cons_zero]
  change wpList _ _ _ [_] _ _
  go_wp2
  simp only [setCell_self tc0, setCell_self tc1, setCell_self tc2]
  exact bodyPost_ret (res_ct rfl _ _ gd gt _ _ rfl rfl (At.drewN HW.out.1 1) (At.drewN HW.out.2.1 1) rfl rfl) rfl ⟨gw, rfl, At.drewN HW.out.2.2.1 1, U.below_drewN HW.out.2.2.2 1⟩
abbrev NC (n : ByteArray) (ok : Bool) : Array Value := #[.int .i64 28, .string n, .string ⟨#[]⟩, .string ⟨#[]⟩, .int .i64 0, .int .i64 0, .int .i64 0, .int .i64 0, .bool ok, .slice none 0 0, .slice none 0 0]
set_option maxHeartbeats 1000000 in
theorem granted_any (n : ByteArray) (tt pend await from_ ask onl : Bool) (st idle : Int) (ok : Bool) (w : World) :
    Calls Tryd.prog 21 #[CV n tt pend await from_ ask onl st idle, .bool ok] w fun e w' => ∃ g, e = .returned (.slice (some ⟨g, 0, none⟩) 1 1) ∧ At g 35 (NC n ok) w' ∧ w.heap.size ≤ g ∧ Below w.heap.size w w' := by
  have K := ((Box.start w).alloc 23 (CC n tt pend await from_ ask onl st idle)).alloc 35 (NC n ok)
  have HK := Lib.hid K; clear K
  go_enter Tryd.func21, Tryd.ntmps21
  go_wp2
  go_ret
  exact ⟨_, rfl, by simpa using HK.out.at 0 _ _ _ rfl, by omega, HK.out.low⟩
set_option maxHeartbeats 4000000 in
theorem User_ok (n al gr : ByteArray) (tt pend await from_ onl : Bool) (st idle : Int) (w : World) :
    Calls Tryd.prog 9 #[CV n tt pend await from_ true onl st idle, .string ⟨#[115, 117, 98, 115, 99, 114, 105, 98, 101, 100]⟩, .string al, .string gr] w fun e w' => ∃ g, e = .returned (.tuple #[CV n tt pend await true false onl st idle, .agg #[.slice none 0 0, .slice (some ⟨g, 0, none⟩) 1 1, .slice none 0 0]]) ∧
      At g 35 (NC n true) w' ∧ Below w.heap.size w w' := by
  have HG := Lib.hid (granted_any n tt pend await from_ true onl st idle true)
  have K := (((Box.start w).alloc 23 (CC n tt pend await from_ true onl st idle)).alloc 23 (CC n tt pend await true true onl st idle)).alloc 29 ZT
  have HK := Lib.hid K; clear K
  go_enter Tryd.func9, Tryd.ntmps9
  go_wp2_with fail
  refine (HG.out _).mono ?_
  rintro e w5 ⟨g, rfl, hg, hgl, hb5⟩
  obtain ⟨gt, hgt⟩ : ∃ g, g = w.heap.size + 1 + 1 := ⟨_, rfl⟩
  obtain ⟨gd, hgd⟩ : ∃ g, g = w.heap.size + 1 := ⟨_, rfl⟩
  have HN : Hid (¬ gd = gt ∧ ¬ gt = gd ∧ w.heap.size ≤ gd ∧ w.heap.size ≤ gt ∧ gd < g ∧ gt < g) := Lib.hid (by simp at hgl; omega)
  have HA : Hid (At gd 23 (CC n tt pend await true true onl st idle) w5 ∧ At gt 29 ZT w5 ∧ Below w.heap.size w w5 ∧ At g 35 (NC n true) w5) := Lib.hid
    ⟨by rw [hgd]; exact At.below (by simpa using HK.out.at 1 _ _ _ rfl) hb5, by rw [hgt]; exact At.below (by simpa using HK.out.at 0 _ _ _ rfl) hb5, HK.out.low.trans (hb5.mono HK.out.low.size), hg⟩
  rw [← hgt, ← hgd]
  clear hgd hgt hb5 hgl hg HK
  have HW : Hid (At gd 23 (CC n tt pend await true false onl st idle) (((w5.setCell ⟨gt, 1, none⟩ (.slice (some ⟨g, 0, none⟩) 1 1)).setCell ⟨gd, 5, none⟩ (.bool false)).setCell ⟨gd, 4, none⟩ (.bool true)) ∧ At gt 29 #[.slice none 0 0, .slice (some ⟨g, 0, none⟩) 1 1, .slice none 0 0] (((w5.setCell ⟨gt, 1, none⟩ (.slice (some ⟨g, 0, none⟩) 1 1)).setCell ⟨gd, 5, none⟩ (.bool false)).setCell ⟨gd, 4, none⟩ (.bool true)) ∧ At g 35 (NC n true) (((w5.setCell ⟨gt, 1, none⟩ (.slice (some ⟨g, 0, none⟩) 1 1)).setCell ⟨gd, 5, none⟩ (.bool false)).setCell ⟨gd, 4, none⟩ (.bool true)) ∧ Below w.heap.size w (((w5.setCell ⟨gt, 1, none⟩ (.slice (some ⟨g, 0, none⟩) 1 1)).setCell ⟨gd, 5, none⟩ (.bool false)).setCell ⟨gd, 4, none⟩ (.bool true))) := Lib.hid (by
    have hn := HN.out
    refine ⟨?_, ?_, ?_, ?_⟩
    · simpa using ((HA.out.1.other ⟨gt, 1, none⟩ _ hn.1).set 5 (.bool false)).set 4 (.bool true)
    · simpa using ((HA.out.2.1.set 1 (.slice (some ⟨g, 0, none⟩) 1 1)).other ⟨gd, 5, none⟩ (.bool false) hn.2.1).other ⟨gd, 4, none⟩ (.bool true) hn.2.1
    · exact ((HA.out.2.2.2.other ⟨gt, 1, none⟩ _ (by show ¬ g = gt; omega)).other ⟨gd, 5, none⟩ _ (by show ¬ g = gd; omega)).other ⟨gd, 4, none⟩ _ (by show ¬ g = gd; omega)
    · exact ((HA.out.2.2.1.setCell (p := ⟨gt, 1, none⟩) hn.2.2.2.1 _).setCell (p := ⟨gd, 5, none⟩) hn.2.2.1 _).setCell (p := ⟨gd, 4, none⟩) hn.2.2.1 _)
  have d0 := (HA.out.1).free 0
  have dc0 := (HA.out.1).cell 0 _ rfl
  have d1 := (HA.out.1).free 1
  have dc1 := (HA.out.1).cell 1 _ rfl
  have d2 := (HA.out.1).free 2
  have dc2 := (HA.out.1).cell 2 _ rfl
  have d3 := (HA.out.1).free 3
  have dc3 := (HA.out.1).cell 3 _ rfl
  have d4 := (HA.out.1).free 4
  have dc4 := (HA.out.1).cell 4 _ rfl
  have d5 := (HA.out.1).free 5
  have dc5 := (HA.out.1).cell 5 _ rfl
  have d6 := (HA.out.1).free 6
  have dc6 := (HA.out.1).cell 6 _ rfl
  have d7 := (HA.out.1).free 7
  have dc7 := (HA.out.1).cell 7 _ rfl
  have d8 := (HA.out.1).free 8
  have dc8 := (HA.out.1).cell 8 _ rfl
  have t0 := (HA.out.2.1).free 0
  have tc0 := (HA.out.2.1).cell 0 _ rfl
  have t1 := (HA.out.2.1).free 1
  have tc1 := (HA.out.2.1).cell 1 _ rfl
  have t2 := (HA.out.2.1).free 2
  have tc2 := (HA.out.2.1).cell 2 _ rfl
  have ne1 : ¬ gd = gt := HN.out.1
  have ne2 : ¬ gt = gd := HN.out.2.1
  go_wp2
  clear d0 dc0 d1 dc1 d2 dc2 d3 dc3 d4 dc4 d5 dc5 d6 dc6 d7 dc7 d8 dc8 t0 tc0 t1 tc1 t2 tc2
  refine in_world (fun x => At gd 23 (CC n tt pend await true false onl st idle) x ∧ At gt 29 #[.slice none 0 0, .slice (some ⟨g, 0, none⟩) 1 1, .slice none 0 0] x ∧ At g 35 (NC n true) x ∧ Below w.heap.size w x) HW.out (fun W hW => ?_)
  clear HW HA
  have HW := Lib.hid hW
  clear hW
  have q0 : ∀ x : U.In (fun x : World => At gd 23 #[.string n, .bool tt, .bool pend, .bool await, .bool true, .bool false, .bool onl, .int .i64 st, .int .i64 idle] x ∧ At gt 29 #[.slice none 0 0, .slice (some ⟨g, 0, none⟩) 1 1, .slice none 0 0] x), x.w.cell? ⟨gd, 0, none⟩ = some (.string n) := fun x => At.cell x.h.1 0 _ rfl
  have q1 : ∀ x : U.In (fun x : World => At gd 23 #[.string n, .bool tt, .bool pend, .bool await, .bool true, .bool false, .bool onl, .int .i64 st, .int .i64 idle] x ∧ At gt 29 #[.slice none 0 0, .slice (some ⟨g, 0, none⟩) 1 1, .slice none 0 0] x), x.w.cell? ⟨gd, 1, none⟩ = some (.bool tt) := fun x => At.cell x.h.1 1 _ rfl
  have q2 : ∀ x : U.In (fun x : World => At gd 23 #[.string n, .bool tt, .bool pend, .bool await, .bool true, .bool false, .bool onl, .int .i64 st, .int .i64 idle] x ∧ At gt 29 #[.slice none 0 0, .slice (some ⟨g, 0, none⟩) 1 1, .slice none 0 0] x), x.w.cell? ⟨gd, 2, none⟩ = some (.bool pend) := fun x => At.cell x.h.1 2 _ rfl
  have q3 : ∀ x : U.In (fun x : World => At gd 23 #[.string n, .bool tt, .bool pend, .bool await, .bool true, .bool false, .bool onl, .int .i64 st, .int .i64 idle] x ∧ At gt 29 #[.slice none 0 0, .slice (some ⟨g, 0, none⟩) 1 1, .slice none 0 0] x), x.w.cell? ⟨gd, 3, none⟩ = some (.bool await) := fun x => At.cell x.h.1 3 _ rfl
  have q4 : ∀ x : U.In (fun x : World => At gd 23 #[.string n, .bool tt, .bool pend, .bool await, .bool true, .bool false, .bool onl, .int .i64 st, .int .i64 idle] x ∧ At gt 29 #[.slice none 0 0, .slice (some ⟨g, 0, none⟩) 1 1, .slice none 0 0] x), x.w.cell? ⟨gd, 4, none⟩ = some (.bool true) := fun x => At.cell x.h.1 4 _ rfl
  have q5 : ∀ x : U.In (fun x : World => At gd 23 #[.string n, .bool tt, .bool pend, .bool await, .bool true, .bool false, .bool onl, .int .i64 st, .int .i64 idle] x ∧ At gt 29 #[.slice none 0 0, .slice (some ⟨g, 0, none⟩) 1 1, .slice none 0 0] x), x.w.cell? ⟨gd, 5, none⟩ = some (.bool false) := fun x => At.cell x.h.1 5 _ rfl
  have q6 : ∀ x : U.In (fun x : World => At gd 23 #[.string n, .bool tt, .bool pend, .bool await, .bool true, .bool false, .bool onl, .int .i64 st, .int .i64 idle] x ∧ At gt 29 #[.slice none 0 0, .slice (some ⟨g, 0, none⟩) 1 1, .slice none 0 0] x), x.w.cell? ⟨gd, 6, none⟩ = some (.bool onl) := fun x => At.cell x.h.1 6 _ rfl
  have q7 : ∀ x : U.In (fun x : World => At gd 23 #[.string n, .bool tt, .bool pend, .bool await, .bool true, .bool false, .bool onl, .int .i64 st, .int .i64 idle] x ∧ At gt 29 #[.slice none 0 0, .slice (some ⟨g, 0, none⟩) 1 1, .slice none 0 0] x), x.w.cell? ⟨gd, 7, none⟩ = some (.int .i64 st) := fun x => At.cell x.h.1 7 _ rfl
  have q8 : ∀ x : U.In (fun x : World => At gd 23 #[.string n, .bool tt, .bool pend, .bool await, .bool true, .bool false, .bool onl, .int .i64 st, .int .i64 idle] x ∧ At gt 29 #[.slice none 0 0, .slice (some ⟨g, 0, none⟩) 1 1, .slice none 0 0] x), x.w.cell? ⟨gd, 8, none⟩ = some (.int .i64 idle) := fun x => At.cell x.h.1 8 _ rfl
  have r0 : ∀ x : U.In (fun x : World => At gd 23 #[.string n, .bool tt, .bool pend, .bool await, .bool true, .bool false, .bool onl, .int .i64 st, .int .i64 idle] x ∧ At gt 29 #[.slice none 0 0, .slice (some ⟨g, 0, none⟩) 1 1, .slice none 0 0] x), x.w.cell? ⟨gt, 0, none⟩ = some (.slice none 0 0) := fun x => At.cell x.h.2 0 _ rfl
  have r1 : ∀ x : U.In (fun x : World => At gd 23 #[.string n, .bool tt, .bool pend, .bool await, .bool true, .bool false, .bool onl, .int .i64 st, .int .i64 idle] x ∧ At gt 29 #[.slice none 0 0, .slice (some ⟨g, 0, none⟩) 1 1, .slice none 0 0] x), x.w.cell? ⟨gt, 1, none⟩ = some (.slice (some ⟨g, 0, none⟩) 1 1) := fun x => At.cell x.h.2 1 _ rfl
  have r2 : ∀ x : U.In (fun x : World => At gd 23 #[.string n, .bool tt, .bool pend, .bool await, .bool true, .bool false, .bool onl, .int .i64 st, .int .i64 idle] x ∧ At gt 29 #[.slice none 0 0, .slice (some ⟨g, 0, none⟩) 1 1, .slice none 0 0] x), x.w.cell? ⟨gt, 2, none⟩ = some (.slice none 0 0) := fun x => At.cell x.h.2 2 _ rfl
  haveI : Nonempty (U.In (fun x : World => At gd 23 #[.string n, .bool tt, .bool pend, .bool await, .bool true, .bool false, .bool onl, .int .i64 st, .int .i64 idle] x ∧ At gt 29 #[.slice none 0 0, .slice (some ⟨g, 0, none⟩) 1 1, .slice none 0 0] x)) := ⟨⟨_, ⟨HW.out.1, HW.out.2.1⟩⟩⟩
  refine U.wp_region_mix (S := fun x : World => At gd 23 #[.string n, .bool tt, .bool pend, .bool await, .bool true, .bool false, .bool onl, .int .i64 st, .int .i64 idle] x ∧ At gt 29 #[.slice none 0 0, .slice (some ⟨g, 0, none⟩) 1 1, .slice none 0 0] x) [0, 1] [2] [3] (by kernel_rfl) (by kernel_rfl) ⟨At.drewN HW.out.1 1, At.drewN HW.out.2.1 1⟩ ?_
  simp only [List.filterMap_cons, List.filterMap_nil, List.getElem?_toArray, List.getElem?_cons_succ, List.getElem?_cons_zero]
  change wpQuiet _ _ _ _ [_, _] _
  repeat go_big_quiet_step (fail)
  refine wpQuiet_nil ?_
  clear q0 q1 q2 q3 q4 q5 q6 q7 q8 r0 r1 r2 this
  have d0 := HW.out.1.free 0
  have dc0 : W.cell? ⟨gd, 0, none⟩ = some (.string n) := HW.out.1.cell 0 _ rfl
  have d1 := HW.out.1.free 1
  have dc1 : W.cell? ⟨gd, 1, none⟩ = some (.bool tt) := HW.out.1.cell 1 _ rfl
  have d2 := HW.out.1.free 2
  have dc2 : W.cell? ⟨gd, 2, none⟩ = some (.bool pend) := HW.out.1.cell 2 _ rfl
  have d3 := HW.out.1.free 3
  have dc3 : W.cell? ⟨gd, 3, none⟩ = some (.bool await) := HW.out.1.cell 3 _ rfl
  have d4 := HW.out.1.free 4
  have dc4 : W.cell? ⟨gd, 4, none⟩ = some (.bool true) := HW.out.1.cell 4 _ rfl
  have d5 := HW.out.1.free 5
  have dc5 : W.cell? ⟨gd, 5, none⟩ = some (.bool false) := HW.out.1.cell 5 _ rfl
  have d6 := HW.out.1.free 6
  have dc6 : W.cell? ⟨gd, 6, none⟩ = some (.bool onl) := HW.out.1.cell 6 _ rfl
  have d7 := HW.out.1.free 7
  have dc7 : W.cell? ⟨gd, 7, none⟩ = some (.int .i64 st) := HW.out.1.cell 7 _ rfl
  have d8 := HW.out.1.free 8
  have dc8 : W.cell? ⟨gd, 8, none⟩ = some (.int .i64 idle) := HW.out.1.cell 8 _ rfl
  have t0 := HW.out.2.1.free 0
  have tc0 : W.cell? ⟨gt, 0, none⟩ = some (.slice none 0 0) := HW.out.2.1.cell 0 _ rfl
  have t1 := HW.out.2.1.free 1
  have tc1 : W.cell? ⟨gt, 1, none⟩ = some (.slice (some ⟨g, 0, none⟩) 1 1) := HW.out.2.1.cell 1 _ rfl
  have t2 := HW.out.2.1.free 2
  have tc2 : W.cell? ⟨gt, 2, none⟩ = some (.slice none 0 0) := HW.out.2.1.cell 2 _ rfl
  refine U.wpParts_step (o := _) rfl ?_
  go_wp2
  simp only [setCell_self dc0, setCell_self dc1, setCell_self dc2, setCell_self dc3, setCell_self dc4, setCell_self dc5, setCell_self dc6, setCell_self dc7, setCell_self dc8]
  refine ⟨⟨⟨_, ⟨At.drewN HW.out.1 1, At.drewN HW.out.2.1 1⟩⟩, rfl⟩, ?_⟩
  unfold U.wpParts U.Ends
  simp only [List.filterMap_cons, List.filterMap_nil, List.getElem?_toArray, List.getElem?_cons_succ, List.getElem?_cons_zero]
  change wpList _ _ _ [_] _ _
  go_wp2
  simp only [setCell_self tc0, setCell_self tc1, setCell_self tc2]
  exact bodyPost_ret (res_ct rfl _ _ gd gt _ _ rfl rfl (At.drewN HW.out.1 1) (At.drewN HW.out.2.1 1) rfl rfl) rfl ⟨g, rfl, At.drewN HW.out.2.2.1 1, U.below_drewN HW.out.2.2.2 1⟩
set_option maxHeartbeats 4000000 in
theorem User_no (n al gr : ByteArray) (tt pend await from_ onl : Bool) (st idle : Int) (w : World) :
    Calls Tryd.prog 9 #[CV n tt pend await from_ true onl st idle, .string ⟨#[117, 110, 115, 117, 98, 115, 99, 114, 105, 98, 101, 100]⟩, .string al, .string gr] w fun e w' => ∃ g, e = .returned (.tuple #[CV n tt pend await false false onl st idle, .agg #[.slice none 0 0, .slice (some ⟨g, 0, none⟩) 1 1, .slice none 0 0]]) ∧
      At g 35 (NC n false) w' ∧ Below w.heap.size w w' := by
  have HG := Lib.hid (granted_any n tt pend await from_ true onl st idle false)
  have K := (((Box.start w).alloc 23 (CC n tt pend await from_ true onl st idle)).alloc 23 (CC n tt pend await from_ true onl st idle)).alloc 29 ZT
  have HK := Lib.hid K; clear K
  go_enter Tryd.func9, Tryd.ntmps9
  go_wp2_with fail
  refine (HG.out _).mono ?_
  rintro e w5 ⟨g, rfl, hg, hgl, hb5⟩
  obtain ⟨gt, hgt⟩ : ∃ g, g = w.heap.size + 1 + 1 := ⟨_, rfl⟩
  obtain ⟨gd, hgd⟩ : ∃ g, g = w.heap.size + 1 := ⟨_, rfl⟩
  have HN : Hid (¬ gd = gt ∧ ¬ gt = gd ∧ w.heap.size ≤ gd ∧ w.heap.size ≤ gt ∧ gd < g ∧ gt < g) := Lib.hid (by simp at hgl; omega)
  have HA : Hid (At gd 23 (CC n tt pend await from_ true onl st idle) w5 ∧ At gt 29 ZT w5 ∧ Below w.heap.size w w5 ∧ At g 35 (NC n false) w5) := Lib.hid
    ⟨by rw [hgd]; exact At.below (by simpa using HK.out.at 1 _ _ _ rfl) hb5, by rw [hgt]; exact At.below (by simpa using HK.out.at 0 _ _ _ rfl) hb5, HK.out.low.trans (hb5.mono HK.out.low.size), hg⟩
  rw [← hgt, ← hgd]
  clear hgd hgt hb5 hgl hg HK
  have HW : Hid (At gd 23 (CC n tt pend await false false onl st idle) (((w5.setCell ⟨gt, 1, none⟩ (.slice (some ⟨g, 0, none⟩) 1 1)).setCell ⟨gd, 5, none⟩ (.bool false)).setCell ⟨gd, 4, none⟩ (.bool false)) ∧ At gt 29 #[.slice none 0 0, .slice (some ⟨g, 0, none⟩) 1 1, .slice none 0 0] (((w5.setCell ⟨gt, 1, none⟩ (.slice (some ⟨g, 0, none⟩) 1 1)).setCell ⟨gd, 5, none⟩ (.bool false)).setCell ⟨gd, 4, none⟩ (.bool false)) ∧ At g 35 (NC n false) (((w5.setCell ⟨gt, 1, none⟩ (.slice (some ⟨g, 0, none⟩) 1 1)).setCell ⟨gd, 5, none⟩ (.bool false)).setCell ⟨gd, 4, none⟩ (.bool false)) ∧ Below w.heap.size w (((w5.setCell ⟨gt, 1, none⟩ (.slice (some ⟨g, 0, none⟩) 1 1)).setCell ⟨gd, 5, none⟩ (.bool false)).setCell ⟨gd, 4, none⟩ (.bool false))) := Lib.hid (by
    have hn := HN.out
    refine ⟨?_, ?_, ?_, ?_⟩
    · simpa using ((HA.out.1.other ⟨gt, 1, none⟩ _ hn.1).set 5 (.bool false)).set 4 (.bool false)
    · simpa using ((HA.out.2.1.set 1 (.slice (some ⟨g, 0, none⟩) 1 1)).other ⟨gd, 5, none⟩ (.bool false) hn.2.1).other ⟨gd, 4, none⟩ (.bool false) hn.2.1
    · exact ((HA.out.2.2.2.other ⟨gt, 1, none⟩ _ (by show ¬ g = gt; omega)).other ⟨gd, 5, none⟩ _ (by show ¬ g = gd; omega)).other ⟨gd, 4, none⟩ _ (by show ¬ g = gd; omega)
    · exact ((HA.out.2.2.1.setCell (p := ⟨gt, 1, none⟩) hn.2.2.2.1 _).setCell (p := ⟨gd, 5, none⟩) hn.2.2.1 _).setCell (p := ⟨gd, 4, none⟩) hn.2.2.1 _)
  have d0 := (HA.out.1).free 0
  have dc0 := (HA.out.1).cell 0 _ rfl
  have d1 := (HA.out.1).free 1
  have dc1 := (HA.out.1).cell 1 _ rfl
  have d2 := (HA.out.1).free 2
  have dc2 := (HA.out.1).cell 2 _ rfl
  have d3 := (HA.out.1).free 3
  have dc3 := (HA.out.1).cell 3 _ rfl
  have d4 := (HA.out.1).free 4
  have dc4 := (HA.out.1).cell 4 _ rfl
  have d5 := (HA.out.1).free 5
  have dc5 := (HA.out.1).cell 5 _ rfl
  have d6 := (HA.out.1).free 6
  have dc6 := (HA.out.1).cell 6 _ rfl
  have d7 := (HA.out.1).free 7
  have dc7 := (HA.out.1).cell 7 _ rfl
  have d8 := (HA.out.1).free 8
  have dc8 := (HA.out.1).cell 8 _ rfl
  have t0 := (HA.out.2.1).free 0
  have tc0 := (HA.out.2.1).cell 0 _ rfl
  have t1 := (HA.out.2.1).free 1
  have tc1 := (HA.out.2.1).cell 1 _ rfl
  have t2 := (HA.out.2.1).free 2
  have tc2 := (HA.out.2.1).cell 2 _ rfl
  have ne1 : ¬ gd = gt := HN.out.1
  have ne2 : ¬ gt = gd := HN.out.2.1
  go_wp2
  clear d0 dc0 d1 dc1 d2 dc2 d3 dc3 d4 dc4 d5 dc5 d6 dc6 d7 dc7 d8 dc8 t0 tc0 t1 tc1 t2 tc2
  refine in_world (fun x => At gd 23 (CC n tt pend await false false onl st idle) x ∧ At gt 29 #[.slice none 0 0, .slice (some ⟨g, 0, none⟩) 1 1, .slice none 0 0] x ∧ At g 35 (NC n false) x ∧ Below w.heap.size w x) HW.out (fun W hW => ?_)
  clear HW HA
  have HW := Lib.hid hW
  clear hW
  have q0 : ∀ x : U.In (fun x : World => At gd 23 #[.string n, .bool tt, .bool pend, .bool await, .bool false, .bool false, .bool onl, .int .i64 st, .int .i64 idle] x ∧ At gt 29 #[.slice none 0 0, .slice (some ⟨g, 0, none⟩) 1 1, .slice none 0 0] x), x.w.cell? ⟨gd, 0, none⟩ = some (.string n) := fun x => At.cell x.h.1 0 _ rfl
  have q1 : ∀ x : U.In (fun x : World => At gd 23 #[.string n, .bool tt, .bool pend, .bool await, .bool false, .bool false, .bool onl, .int .i64 st, .int .i64 idle] x ∧ At gt 29 #[.slice none 0 0, .slice (some ⟨g, 0, none⟩) 1 1, .slice none 0 0] x), x.w.cell? ⟨gd, 1, none⟩ = some (.bool tt) := fun x => At.cell x.h.1 1 _ rfl
  have q2 : ∀ x : U.In (fun x : World => At gd 23 #[.string n, .bool tt, .bool pend, .bool await, .bool false, .bool false, .bool onl, .int .i64 st, .int .i64 idle] x ∧ At gt 29 #[.slice none 0 0, .slice (some ⟨g, 0, none⟩) 1 1, .slice none 0 0] x), x.w.cell? ⟨gd, 2, none⟩ = some (.bool pend) := fun x => At.cell x.h.1 2 _ rfl
  have q3 : ∀ x : U.In (fun x : World => At gd 23 #[.string n, .bool tt, .bool pend, .bool await, .bool false, .bool false, .bool onl, .int .i64 st, .int .i64 idle] x ∧ At gt 29 #[.slice none 0 0, .slice (some ⟨g, 0, none⟩) 1 1, .slice none 0 0] x), x.w.cell? ⟨gd, 3, none⟩ = some (.bool await) := fun x => At.cell x.h.1 3 _ rfl
  have q4 : ∀ x : U.In (fun x : World => At gd 23 #[.string n, .bool tt, .bool pend, .bool await, .bool false, .bool false, .bool onl, .int .i64 st, .int .i64 idle] x ∧ At gt 29 #[.slice none 0 0, .slice (some ⟨g, 0, none⟩) 1 1, .slice none 0 0] x), x.w.cell? ⟨gd, 4, none⟩ = some (.bool false) := fun x => At.cell x.h.1 4 _ rfl
  have q5 : ∀ x : U.In (fun x : World => At gd 23 #[.string n, .bool tt, .bool pend, .bool await, .bool false, .bool false, .bool onl, .int .i64 st, .int .i64 idle] x ∧ At gt 29 #[.slice none 0 0, .slice (some ⟨g, 0, none⟩) 1 1, .slice none 0 0] x), x.w.cell? ⟨gd, 5, none⟩ = some (.bool false) := fun x => At.cell x.h.1 5 _ rfl
  have q6 : ∀ x : U.In (fun x : World => At gd 23 #[.string n, .bool tt, .bool pend, .bool await, .bool false, .bool false, .bool onl, .int .i64 st, .int .i64 idle] x ∧ At gt 29 #[.slice none 0 0, .slice (some ⟨g, 0, none⟩) 1 1, .slice none 0 0] x), x.w.cell? ⟨gd, 6, none⟩ = some (.bool onl) := fun x => At.cell x.h.1 6 _ rfl
  have q7 : ∀ x : U.In (fun x : World => At gd 23 #[.string n, .bool tt, .bool pend, .bool await, .bool false, .bool false, .bool onl, .int .i64 st, .int .i64 idle] x ∧ At gt 29 #[.slice none 0 0, .slice (some ⟨g, 0, none⟩) 1 1, .slice none 0 0] x), x.w.cell? ⟨gd, 7, none⟩ = some (.int .i64 st) := fun x => At.cell x.h.1 7 _ rfl
  have q8 : ∀ x : U.In (fun x : World => At gd 23 #[.string n, .bool tt, .bool pend, .bool await, .bool false, .bool false, .bool onl, .int .i64 st, .int .i64 idle] x ∧ At gt 29 #[.slice none 0 0, .slice (some ⟨g, 0, none⟩) 1 1, .slice none 0 0] x), x.w.cell? ⟨gd, 8, none⟩ = some (.int .i64 idle) := fun x => At.cell x.h.1 8 _ rfl
  have r0 : ∀ x : U.In (fun x : World => At gd 23 #[.string n, .bool tt, .bool pend, .bool await, .bool false, .bool false, .bool onl, .int .i64 st, .int .i64 idle] x ∧ At gt 29 #[.slice none 0 0, .slice (some ⟨g, 0, none⟩) 1 1, .slice none 0 0] x), x.w.cell? ⟨gt, 0, none⟩ = some (.slice none 0 0) := fun x => At.cell x.h.2 0 _ rfl
  have r1 : ∀ x : U.In (fun x : World => At gd 23 #[.string n, .bool tt, .bool pend, .bool await, .bool false, .bool false, .bool onl, .int .i64 st, .int .i64 idle] x ∧ At gt 29 #[.slice none 0 0, .slice (some ⟨g, 0, none⟩) 1 1, .slice none 0 0] x), x.w.cell? ⟨gt, 1, none⟩ = some (.slice (some ⟨g, 0, none⟩) 1 1) := fun x => At.cell x.h.2 1 _ rfl
  have r2 : ∀ x : U.In (fun x : World => At gd 23 #[.string n, .bool tt, .bool pend, .bool await, .bool false, .bool false, .bool onl, .int .i64 st, .int .i64 idle] x ∧ At gt 29 #[.slice none 0 0, .slice (some ⟨g, 0, none⟩) 1 1, .slice none 0 0] x), x.w.cell? ⟨gt, 2, none⟩ = some (.slice none 0 0) := fun x => At.cell x.h.2 2 _ rfl
  haveI : Nonempty (U.In (fun x : World => At gd 23 #[.string n, .bool tt, .bool pend, .bool await, .bool false, .bool false, .bool onl, .int .i64 st, .int .i64 idle] x ∧ At gt 29 #[.slice none 0 0, .slice (some ⟨g, 0, none⟩) 1 1, .slice none 0 0] x)) := ⟨⟨_, ⟨HW.out.1, HW.out.2.1⟩⟩⟩
  refine U.wp_region_mix (S := fun x : World => At gd 23 #[.string n, .bool tt, .bool pend, .bool await, .bool false, .bool false, .bool onl, .int .i64 st, .int .i64 idle] x ∧ At gt 29 #[.slice none 0 0, .slice (some ⟨g, 0, none⟩) 1 1, .slice none 0 0] x) [0, 1] [2] [3] (by kernel_rfl) (by kernel_rfl) ⟨At.drewN HW.out.1 1, At.drewN HW.out.2.1 1⟩ ?_
  simp only [List.filterMap_cons, List.filterMap_nil, List.getElem?_toArray, List.getElem?_cons_succ, List.getElem?_cons_zero]
  change wpQuiet _ _ _ _ [_, _] _
  repeat go_big_quiet_step (fail)
  refine wpQuiet_nil ?_
  clear q0 q1 q2 q3 q4 q5 q6 q7 q8 r0 r1 r2 this
  have d0 := HW.out.1.free 0
  have dc0 : W.cell? ⟨gd, 0, none⟩ = some (.string n) := HW.out.1.cell 0 _ rfl
  have d1 := HW.out.1.free 1
  have dc1 : W.cell? ⟨gd, 1, none⟩ = some (.bool tt) := HW.out.1.cell 1 _ rfl
  have d2 := HW.out.1.free 2
  have dc2 : W.cell? ⟨gd, 2, none⟩ = some (.bool pend) := HW.out.1.cell 2 _ rfl
  have d3 := HW.out.1.free 3
  have dc3 : W.cell? ⟨gd, 3, none⟩ = some (.bool await) := HW.out.1.cell 3 _ rfl
  have d4 := HW.out.1.free 4
  have dc4 : W.cell? ⟨gd, 4, none⟩ = some (.bool false) := HW.out.1.cell 4 _ rfl
  have d5 := HW.out.1.free 5
  have dc5 : W.cell? ⟨gd, 5, none⟩ = some (.bool false) := HW.out.1.cell 5 _ rfl
  have d6 := HW.out.1.free 6
  have dc6 : W.cell? ⟨gd, 6, none⟩ = some (.bool onl) := HW.out.1.cell 6 _ rfl
  have d7 := HW.out.1.free 7
  have dc7 : W.cell? ⟨gd, 7, none⟩ = some (.int .i64 st) := HW.out.1.cell 7 _ rfl
  have d8 := HW.out.1.free 8
  have dc8 : W.cell? ⟨gd, 8, none⟩ = some (.int .i64 idle) := HW.out.1.cell 8 _ rfl
  have t0 := HW.out.2.1.free 0
  have tc0 : W.cell? ⟨gt, 0, none⟩ = some (.slice none 0 0) := HW.out.2.1.cell 0 _ rfl
  have t1 := HW.out.2.1.free 1
  have tc1 : W.cell? ⟨gt, 1, none⟩ = some (.slice (some ⟨g, 0, none⟩) 1 1) := HW.out.2.1.cell 1 _ rfl
  have t2 := HW.out.2.1.free 2
  have tc2 : W.cell? ⟨gt, 2, none⟩ = some (.slice none 0 0) := HW.out.2.1.cell 2 _ rfl
  refine U.wpParts_step (o := _) rfl ?_
  go_wp2
  simp only [setCell_self dc0, setCell_self dc1, setCell_self dc2, setCell_self dc3, setCell_self dc4, setCell_self dc5, setCell_self dc6, setCell_self dc7, setCell_self dc8]
  refine ⟨⟨⟨_, ⟨At.drewN HW.out.1 1, At.drewN HW.out.2.1 1⟩⟩, rfl⟩, ?_⟩
  unfold U.wpParts U.Ends
  simp only [List.filterMap_cons, List.filterMap_nil, List.getElem?_toArray, List.getElem?_cons_succ, List.getElem?_cons_zero]
  change wpList _ _ _ [_] _ _
  go_wp2
  simp only [setCell_self tc0, setCell_self tc1, setCell_self tc2]
  exact bodyPost_ret (res_ct rfl _ _ gd gt _ _ rfl rfl (At.drewN HW.out.1 1) (At.drewN HW.out.2.1 1) rfl rfl) rfl ⟨g, rfl, At.drewN HW.out.2.2.1 1, U.below_drewN HW.out.2.2.2 1⟩
end Go.Proofs.YtofdiilfedjhkaaDoor.Sub

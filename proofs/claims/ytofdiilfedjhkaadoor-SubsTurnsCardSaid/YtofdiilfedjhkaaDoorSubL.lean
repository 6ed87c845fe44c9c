/- subs.User: an answer where nothing was asked; wharfref14.Same of a note with itself. (Printed by gen_subl.py.) -/
import Derived.Test.YtofdiilfedjhkaaDoorSubK
set_option linter.unusedVariables false
set_option linter.unusedSimpArgs false
namespace Go.Proofs.YtofdiilfedjhkaaDoor.Sub
open Go.RowKit U
set_option maxHeartbeats 4000000 in
theorem User_keep (n al gr : ByteArray) (tt pend await from_ onl : Bool) (st idle : Int) (w : World) :
    Calls Tryd.prog 9 #[CV n tt pend await from_ false onl st idle, .string ⟨#[115, 117, 98, 115, 99, 114, 105, 98, 101, 100]⟩, .string al, .string gr] w fun e w' => e = .returned (.tuple #[CV n tt pend await from_ false onl st idle, .agg ZT]) ∧ Below w.heap.size w w' := by
  have K := (((Box.start w).alloc 23 (CC n tt pend await from_ false onl st idle)).alloc 23 (CC n tt pend await from_ false onl st idle)).alloc 29 ZT
  have HK := Lib.hid K; clear K
  go_enter Tryd.func9, Tryd.ntmps9
  go_wp2
  refine in_world (fun x => At (w.heap.size + 1) 23 (CC n tt pend await from_ false onl st idle) x ∧ At (w.heap.size + 1 + 1) 29 ZT x ∧ Below w.heap.size w x)
    ⟨by simpa using HK.out.at 1 _ _ _ rfl, by simpa using HK.out.at 0 _ _ _ rfl, HK.out.low⟩ (fun W hW => ?_)
  obtain ⟨gt, hgt⟩ : ∃ g, g = w.heap.size + 1 + 1 := ⟨_, rfl⟩
  rw [← hgt] at hW ⊢
  obtain ⟨gd, hgd⟩ : ∃ g, g = w.heap.size + 1 := ⟨_, rfl⟩
  rw [← hgd] at hW ⊢
  have HW := Lib.hid hW
  have ne1 : ¬ gd = gt := by omega
  have ne2 : ¬ gt = gd := by omega
  clear hW hgt hgd HK
  have q0 : ∀ x : U.In (fun x : World => At gd 23 #[.string n, .bool tt, .bool pend, .bool await, .bool from_, .bool false, .bool onl, .int .i64 st, .int .i64 idle] x ∧ At gt 29 #[.slice none 0 0, .slice none 0 0, .slice none 0 0] x), x.w.cell? ⟨gd, 0, none⟩ = some (.string n) := fun x => At.cell x.h.1 0 _ rfl
  have q1 : ∀ x : U.In (fun x : World => At gd 23 #[.string n, .bool tt, .bool pend, .bool await, .bool from_, .bool false, .bool onl, .int .i64 st, .int .i64 idle] x ∧ At gt 29 #[.slice none 0 0, .slice none 0 0, .slice none 0 0] x), x.w.cell? ⟨gd, 1, none⟩ = some (.bool tt) := fun x => At.cell x.h.1 1 _ rfl
  have q2 : ∀ x : U.In (fun x : World => At gd 23 #[.string n, .bool tt, .bool pend, .bool await, .bool from_, .bool false, .bool onl, .int .i64 st, .int .i64 idle] x ∧ At gt 29 #[.slice none 0 0, .slice none 0 0, .slice none 0 0] x), x.w.cell? ⟨gd, 2, none⟩ = some (.bool pend) := fun x => At.cell x.h.1 2 _ rfl
  have q3 : ∀ x : U.In (fun x : World => At gd 23 #[.string n, .bool tt, .bool pend, .bool await, .bool from_, .bool false, .bool onl, .int .i64 st, .int .i64 idle] x ∧ At gt 29 #[.slice none 0 0, .slice none 0 0, .slice none 0 0] x), x.w.cell? ⟨gd, 3, none⟩ = some (.bool await) := fun x => At.cell x.h.1 3 _ rfl
  have q4 : ∀ x : U.In (fun x : World => At gd 23 #[.string n, .bool tt, .bool pend, .bool await, .bool from_, .bool false, .bool onl, .int .i64 st, .int .i64 idle] x ∧ At gt 29 #[.slice none 0 0, .slice none 0 0, .slice none 0 0] x), x.w.cell? ⟨gd, 4, none⟩ = some (.bool from_) := fun x => At.cell x.h.1 4 _ rfl
  have q5 : ∀ x : U.In (fun x : World => At gd 23 #[.string n, .bool tt, .bool pend, .bool await, .bool from_, .bool false, .bool onl, .int .i64 st, .int .i64 idle] x ∧ At gt 29 #[.slice none 0 0, .slice none 0 0, .slice none 0 0] x), x.w.cell? ⟨gd, 5, none⟩ = some (.bool false) := fun x => At.cell x.h.1 5 _ rfl
  have q6 : ∀ x : U.In (fun x : World => At gd 23 #[.string n, .bool tt, .bool pend, .bool await, .bool from_, .bool false, .bool onl, .int .i64 st, .int .i64 idle] x ∧ At gt 29 #[.slice none 0 0, .slice none 0 0, .slice none 0 0] x), x.w.cell? ⟨gd, 6, none⟩ = some (.bool onl) := fun x => At.cell x.h.1 6 _ rfl
  have q7 : ∀ x : U.In (fun x : World => At gd 23 #[.string n, .bool tt, .bool pend, .bool await, .bool from_, .bool false, .bool onl, .int .i64 st, .int .i64 idle] x ∧ At gt 29 #[.slice none 0 0, .slice none 0 0, .slice none 0 0] x), x.w.cell? ⟨gd, 7, none⟩ = some (.int .i64 st) := fun x => At.cell x.h.1 7 _ rfl
  have q8 : ∀ x : U.In (fun x : World => At gd 23 #[.string n, .bool tt, .bool pend, .bool await, .bool from_, .bool false, .bool onl, .int .i64 st, .int .i64 idle] x ∧ At gt 29 #[.slice none 0 0, .slice none 0 0, .slice none 0 0] x), x.w.cell? ⟨gd, 8, none⟩ = some (.int .i64 idle) := fun x => At.cell x.h.1 8 _ rfl
  have r0 : ∀ x : U.In (fun x : World => At gd 23 #[.string n, .bool tt, .bool pend, .bool await, .bool from_, .bool false, .bool onl, .int .i64 st, .int .i64 idle] x ∧ At gt 29 #[.slice none 0 0, .slice none 0 0, .slice none 0 0] x), x.w.cell? ⟨gt, 0, none⟩ = some (.slice none 0 0) := fun x => At.cell x.h.2 0 _ rfl
  have r1 : ∀ x : U.In (fun x : World => At gd 23 #[.string n, .bool tt, .bool pend, .bool await, .bool from_, .bool false, .bool onl, .int .i64 st, .int .i64 idle] x ∧ At gt 29 #[.slice none 0 0, .slice none 0 0, .slice none 0 0] x), x.w.cell? ⟨gt, 1, none⟩ = some (.slice none 0 0) := fun x => At.cell x.h.2 1 _ rfl
  have r2 : ∀ x : U.In (fun x : World => At gd 23 #[.string n, .bool tt, .bool pend, .bool await, .bool from_, .bool false, .bool onl, .int .i64 st, .int .i64 idle] x ∧ At gt 29 #[.slice none 0 0, .slice none 0 0, .slice none 0 0] x), x.w.cell? ⟨gt, 2, none⟩ = some (.slice none 0 0) := fun x => At.cell x.h.2 2 _ rfl
  haveI : Nonempty (U.In (fun x : World => At gd 23 #[.string n, .bool tt, .bool pend, .bool await, .bool from_, .bool false, .bool onl, .int .i64 st, .int .i64 idle] x ∧ At gt 29 #[.slice none 0 0, .slice none 0 0, .slice none 0 0] x)) := ⟨⟨_, ⟨HW.out.1, HW.out.2.1⟩⟩⟩
  refine U.wp_region_mix (S := fun x : World => At gd 23 #[.string n, .bool tt, .bool pend, .bool await, .bool from_, .bool false, .bool onl, .int .i64 st, .int .i64 idle] x ∧ At gt 29 #[.slice none 0 0, .slice none 0 0, .slice none 0 0] x) [0, 1] [2] [3] (by kernel_rfl) (by kernel_rfl) ⟨At.drewN HW.out.1 1, At.drewN HW.out.2.1 1⟩ ?_
  simp only [List.filterMap_cons, List.filterMap_nil, List.getElem?_toArray, List.getElem?_cons_succ, List.getElem?_cons_zero]
  change wpQuiet _ _ _ _ [_, _] _
  repeat go_big_quiet_step (fail)
  refine wpQuiet_nil ?_
  clear q0 q1 q2 q3 q4 q5 q6 q7 q8 r0 r1 r2 this
  have d0 := HW.out.1.free 0
  have dc0 : W.cell? ⟨gd, 0, none⟩ = some (.string n) := HW.out.1.cell 0 _ rfl
  have d1 := HW.out.1.free 1
  have dc1 : W.cell? ⟨gd, 1, none⟩ = some (.bool tt) := HW.out.1.cell 1 _ rfl
  have d2 := HW.out.1.free 2
  have dc2 : W.cell? ⟨gd, 2, none⟩ = some (.bool pend) := HW.out.1.cell 2 _ rfl
  have d3 := HW.out.1.free 3
  have dc3 : W.cell? ⟨gd, 3, none⟩ = some (.bool await) := HW.out.1.cell 3 _ rfl
  have d4 := HW.out.1.free 4
  have dc4 : W.cell? ⟨gd, 4, none⟩ = some (.bool from_) := HW.out.1.cell 4 _ rfl
  have d5 := HW.out.1.free 5
  have dc5 : W.cell? ⟨gd, 5, none⟩ = some (.bool false) := HW.out.1.cell 5 _ rfl
  have d6 := HW.out.1.free 6
  have dc6 : W.cell? ⟨gd, 6, none⟩ = some (.bool onl) := HW.out.1.cell 6 _ rfl
  have d7 := HW.out.1.free 7
  have dc7 : W.cell? ⟨gd, 7, none⟩ = some (.int .i64 st) := HW.out.1.cell 7 _ rfl
  have d8 := HW.out.1.free 8
  have dc8 : W.cell? ⟨gd, 8, none⟩ = some (.int .i64 idle) := HW.out.1.cell 8 _ rfl
  have t0 := HW.out.2.1.free 0
  have tc0 : W.cell? ⟨gt, 0, none⟩ = some (.slice none 0 0) := HW.out.2.1.cell 0 _ rfl
  have t1 := HW.out.2.1.free 1
  have tc1 : W.cell? ⟨gt, 1, none⟩ = some (.slice none 0 0) := HW.out.2.1.cell 1 _ rfl
  have t2 := HW.out.2.1.free 2
  have tc2 : W.cell? ⟨gt, 2, none⟩ = some (.slice none 0 0) := HW.out.2.1.cell 2 _ rfl
  refine U.wpParts_step (o := _) rfl ?_
  go_wp2
  simp only [setCell_self dc0, setCell_self dc1, setCell_self dc2, setCell_self dc3, setCell_self dc4, setCell_self dc5, setCell_self dc6, setCell_self dc7, setCell_self dc8]
  refine ⟨⟨⟨_, ⟨At.drewN HW.out.1 1, At.drewN HW.out.2.1 1⟩⟩, rfl⟩, ?_⟩
  unfold U.wpParts U.Ends
  simp only [List.filterMap_cons, List.filterMap_nil, List.getElem?_toArray, List.getElem?_cons_succ, List.getElem?_cons_zero]
  change wpList _ _ _ [_] _ _
  go_wp2
  simp only [setCell_self tc0, setCell_self tc1, setCell_self tc2]
  exact bodyPost_ret (res_ct rfl _ _ gd gt _ _ rfl rfl (At.drewN HW.out.1 1) (At.drewN HW.out.2.1 1) rfl rfl) rfl ⟨rfl, U.below_drewN HW.out.2.2 1⟩
set_option maxHeartbeats 4000000 in
theorem User_drop (n al gr : ByteArray) (tt pend await from_ onl : Bool) (st idle : Int) (w : World) :
    Calls Tryd.prog 9 #[CV n tt pend await from_ false onl st idle, .string ⟨#[117, 110, 115, 117, 98, 115, 99, 114, 105, 98, 101, 100]⟩, .string al, .string gr] w fun e w' => e = .returned (.tuple #[CV n tt pend await false false onl st idle, .agg ZT]) ∧ Below w.heap.size w w' := by
  have K := (((Box.start w).alloc 23 (CC n tt pend await from_ false onl st idle)).alloc 23 (CC n tt pend await false false onl st idle)).alloc 29 ZT
  have HK := Lib.hid K; clear K
  go_enter Tryd.func9, Tryd.ntmps9
  go_wp2
  refine in_world (fun x => At (w.heap.size + 1) 23 (CC n tt pend await false false onl st idle) x ∧ At (w.heap.size + 1 + 1) 29 ZT x ∧ Below w.heap.size w x)
    ⟨by simpa using HK.out.at 1 _ _ _ rfl, by simpa using HK.out.at 0 _ _ _ rfl, HK.out.low⟩ (fun W hW => ?_)
  obtain ⟨gt, hgt⟩ : ∃ g, g = w.heap.size + 1 + 1 := ⟨_, rfl⟩
  rw [← hgt] at hW ⊢
  obtain ⟨gd, hgd⟩ : ∃ g, g = w.heap.size + 1 := ⟨_, rfl⟩
  rw [← hgd] at hW ⊢
  have HW := Lib.hid hW
  have ne1 : ¬ gd = gt := by omega
  have ne2 : ¬ gt = gd := by omega
  clear hW hgt hgd HK
  have q0 : ∀ x : U.In (fun x : World => At gd 23 #[.string n, .bool tt, .bool pend, .bool await, .bool false, .bool false, .bool onl, .int .i64 st, .int .i64 idle] x ∧ At gt 29 #[.slice none 0 0, .slice none 0 0, .slice none 0 0] x), x.w.cell? ⟨gd, 0, none⟩ = some (.string n) := fun x => At.cell x.h.1 0 _ rfl
  have q1 : ∀ x : U.In (fun x : World => At gd 23 #[.string n, .bool tt, .bool pend, .bool await, .bool false, .bool false, .bool onl, .int .i64 st, .int .i64 idle] x ∧ At gt 29 #[.slice none 0 0, .slice none 0 0, .slice none 0 0] x), x.w.cell? ⟨gd, 1, none⟩ = some (.bool tt) := fun x => At.cell x.h.1 1 _ rfl
  have q2 : ∀ x : U.In (fun x : World => At gd 23 #[.string n, .bool tt, .bool pend, .bool await, .bool false, .bool false, .bool onl, .int .i64 st, .int .i64 idle] x ∧ At gt 29 #[.slice none 0 0, .slice none 0 0, .slice none 0 0] x), x.w.cell? ⟨gd, 2, none⟩ = some (.bool pend) := fun x => At.cell x.h.1 2 _ rfl
  have q3 : ∀ x : U.In (fun x : World => At gd 23 #[.string n, .bool tt, .bool pend, .bool await, .bool false, .bool false, .bool onl, .int .i64 st, .int .i64 idle] x ∧ At gt 29 #[.slice none 0 0, .slice none 0 0, .slice none 0 0] x), x.w.cell? ⟨gd, 3, none⟩ = some (.bool await) := fun x => At.cell x.h.1 3 _ rfl
  have q4 : ∀ x : U.In (fun x : World => At gd 23 #[.string n, .bool tt, .bool pend, .bool await, .bool false, .bool false, .bool onl, .int .i64 st, .int .i64 idle] x ∧ At gt 29 #[.slice none 0 0, .slice none 0 0, .slice none 0 0] x), x.w.cell? ⟨gd, 4, none⟩ = some (.bool false) := fun x => At.cell x.h.1 4 _ rfl
  have q5 : ∀ x : U.In (fun x : World => At gd 23 #[.string n, .bool tt, .bool pend, .bool await, .bool false, .bool false, .bool onl, .int .i64 st, .int .i64 idle] x ∧ At gt 29 #[.slice none 0 0, .slice none 0 0, .slice none 0 0] x), x.w.cell? ⟨gd, 5, none⟩ = some (.bool false) := fun x => At.cell x.h.1 5 _ rfl
  have q6 : ∀ x : U.In (fun x : World => At gd 23 #[.string n, .bool tt, .bool pend, .bool await, .bool false, .bool false, .bool onl, .int .i64 st, .int .i64 idle] x ∧ At gt 29 #[.slice none 0 0, .slice none 0 0, .slice none 0 0] x), x.w.cell? ⟨gd, 6, none⟩ = some (.bool onl) := fun x => At.cell x.h.1 6 _ rfl
  have q7 : ∀ x : U.In (fun x : World => At gd 23 #[.string n, .bool tt, .bool pend, .bool await, .bool false, .bool false, .bool onl, .int .i64 st, .int .i64 idle] x ∧ At gt 29 #[.slice none 0 0, .slice none 0 0, .slice none 0 0] x), x.w.cell? ⟨gd, 7, none⟩ = some (.int .i64 st) := fun x => At.cell x.h.1 7 _ rfl
  have q8 : ∀ x : U.In (fun x : World => At gd 23 #[.string n, .bool tt, .bool pend, .bool await, .bool false, .bool false, .bool onl, .int .i64 st, .int .i64 idle] x ∧ At gt 29 #[.slice none 0 0, .slice none 0 0, .slice none 0 0] x), x.w.cell? ⟨gd, 8, none⟩ = some (.int .i64 idle) := fun x => At.cell x.h.1 8 _ rfl
  have r0 : ∀ x : U.In (fun x : World => At gd 23 #[.string n, .bool tt, .bool pend, .bool await, .bool false, .bool false, .bool onl, .int .i64 st, .int .i64 idle] x ∧ At gt 29 #[.slice none 0 0, .slice none 0 0, .slice none 0 0] x), x.w.cell? ⟨gt, 0, none⟩ = some (.slice none 0 0) := fun x => At.cell x.h.2 0 _ rfl
  have r1 : ∀ x : U.In (fun x : World => At gd 23 #[.string n, .bool tt, .bool pend, .bool await, .bool false, .bool false, .bool onl, .int .i64 st, .int .i64 idle] x ∧ At gt 29 #[.slice none 0 0, .slice none 0 0, .slice none 0 0] x), x.w.cell? ⟨gt, 1, none⟩ = some (.slice none 0 0) := fun x => At.cell x.h.2 1 _ rfl
  have r2 : ∀ x : U.In (fun x : World => At gd 23 #[.string n, .bool tt, .bool pend, .bool await, .bool false, .bool false, .bool onl, .int .i64 st, .int .i64 idle] x ∧ At gt 29 #[.slice none 0 0, .slice none 0 0, .slice none 0 0] x), x.w.cell? ⟨gt, 2, none⟩ = some (.slice none 0 0) := fun x => At.cell x.h.2 2 _ rfl
  haveI : Nonempty (U.In (fun x : World => At gd 23 #[.string n, .bool tt, .bool pend, .bool await, .bool false, .bool false, .bool onl, .int .i64 st, .int .i64 idle] x ∧ At gt 29 #[.slice none 0 0, .slice none 0 0, .slice none 0 0] x)) := ⟨⟨_, ⟨HW.out.1, HW.out.2.1⟩⟩⟩
  refine U.wp_region_mix (S := fun x : World => At gd 23 #[.string n, .bool tt, .bool pend, .bool await, .bool false, .bool false, .bool onl, .int .i64 st, .int .i64 idle] x ∧ At gt 29 #[.slice none 0 0, .slice none 0 0, .slice none 0 0] x) [0, 1] [2] [3] (by kernel_rfl) (by kernel_rfl) ⟨At.drewN HW.out.1 1, At.drewN HW.out.2.1 1⟩ ?_
  simp only [List.filterMap_cons, List.filterMap_nil, List.getElem?_toArray, List.getElem?_cons_succ, List.getElem?_cons_zero]
  change wpQuiet _ _ _ _ [_, _] _
  repeat go_big_quiet_step (fail)
  refine wpQuiet_nil ?_
  clear q0 q1 q2 q3 q4 q5 q6 q7 q8 r0 r1 r2 this
  have d0 := HW.out.1.free 0
  have dc0 : W.cell? ⟨gd, 0, none⟩ = some (.string n) := HW.out.1.cell 0 _ rfl
  have d1 := HW.out.1.free 1
  have dc1 : W.cell? ⟨gd, 1, none⟩ = some (.bool tt) := HW.out.1.cell 1 _ rfl
  have d2 := HW.out.1.free 2
  have dc2 : W.cell? ⟨gd, 2, none⟩ = some (.bool pend) := HW.out.1.cell 2 _ rfl
  have d3 := HW.out.1.free 3
  have dc3 : W.cell? ⟨gd, 3, none⟩ = some (.bool await) := HW.out.1.cell 3 _ rfl
  have d4 := HW.out.1.free 4
  have dc4 : W.cell? ⟨gd, 4, none⟩ = some (.bool false) := HW.out.1.cell 4 _ rfl
  have d5 := HW.out.1.free 5
  have dc5 : W.cell? ⟨gd, 5, none⟩ = some (.bool false) := HW.out.1.cell 5 _ rfl
  have d6 := HW.out.1.free 6
  have dc6 : W.cell? ⟨gd, 6, none⟩ = some (.bool onl) := HW.out.1.cell 6 _ rfl
  have d7 := HW.out.1.free 7
  have dc7 : W.cell? ⟨gd, 7, none⟩ = some (.int .i64 st) := HW.out.1.cell 7 _ rfl
  have d8 := HW.out.1.free 8
  have dc8 : W.cell? ⟨gd, 8, none⟩ = some (.int .i64 idle) := HW.out.1.cell 8 _ rfl
  have t0 := HW.out.2.1.free 0
  have tc0 : W.cell? ⟨gt, 0, none⟩ = some (.slice none 0 0) := HW.out.2.1.cell 0 _ rfl
  have t1 := HW.out.2.1.free 1
  have tc1 : W.cell? ⟨gt, 1, none⟩ = some (.slice none 0 0) := HW.out.2.1.cell 1 _ rfl
  have t2 := HW.out.2.1.free 2
  have tc2 : W.cell? ⟨gt, 2, none⟩ = some (.slice none 0 0) := HW.out.2.1.cell 2 _ rfl
  refine U.wpParts_step (o := _) rfl ?_
  go_wp2
  simp only [setCell_self dc0, setCell_self dc1, setCell_self dc2, setCell_self dc3, setCell_self dc4, setCell_self dc5, setCell_self dc6, setCell_self dc7, setCell_self dc8]
  refine ⟨⟨⟨_, ⟨At.drewN HW.out.1 1, At.drewN HW.out.2.1 1⟩⟩, rfl⟩, ?_⟩
  unfold U.wpParts U.Ends
  simp only [List.filterMap_cons, List.filterMap_nil, List.getElem?_toArray, List.getElem?_cons_succ, List.getElem?_cons_zero]
  change wpList _ _ _ [_] _ _
  go_wp2
  simp only [setCell_self tc0, setCell_self tc1, setCell_self tc2]
  exact bodyPost_ret (res_ct rfl _ _ gd gt _ _ rfl rfl (At.drewN HW.out.1 1) (At.drewN HW.out.2.1 1) rfl rfl) rfl ⟨rfl, U.below_drewN HW.out.2.2 1⟩
set_option maxHeartbeats 4000000 in
theorem Same_note (n : ByteArray) (ok : Bool) (w : World) : Calls Tryd.prog 10 #[.agg (NC n ok), .agg (NC n ok)] w fun e w' => e = .returned (.bool true) ∧ Below w.heap.size w w' := by
  have hq : (n.toList == n.toList) = true := beq_self_eq_true _
  have HB := Lib.hid (((Below.refl w.heap.size w).alloc (Nat.le_refl _) (.cells (NC n ok) 35)).alloc (by simp) (.cells (NC n ok) 35))
  have HF : Hid (At w.heap.size 35 (NC n ok) ((w.alloc (.cells (NC n ok) 35)).alloc (.cells (NC n ok) 35)) ∧ At (w.heap.size + 1) 35 (NC n ok) ((w.alloc (.cells (NC n ok) 35)).alloc (.cells (NC n ok) 35)) ∧ Below w.heap.size w ((w.alloc (.cells (NC n ok) 35)).alloc (.cells (NC n ok) 35))) := Lib.hid ⟨(At.new w _ _).alloc _, new_at _ _ _ _ (by simp), HB.out⟩
  clear HB
  go_enter Tryd.func10, Tryd.ntmps10
  go_wp2
  go_loopw [5] (fun i wq => i = .int .i64 0 ∧ Hid (At w.heap.size 35 (NC n ok) wq ∧ At (w.heap.size + 1) 35 (NC n ok) wq ∧ Below w.heap.size w wq)) (fun _ _ => 0)
  case atStart => exact ⟨rfl, HF⟩
  case round =>
    obtain ⟨rfl, HR⟩ := hrel
    have a9 := HR.out.1.cell 9 _ rfl
    have b9 := HR.out.2.1.cell 9 _ rfl
    have a10 := HR.out.1.cell 10 _ rfl
    have b10 := HR.out.2.1.cell 10 _ rfl
    go_wp2
    clear a9 b9 a10 b10
    go_loopw [6] (fun i wq => i = .int .i64 0 ∧ Hid (At w.heap.size 35 (NC n ok) wq ∧ At (w.heap.size + 1) 35 (NC n ok) wq ∧ Below w.heap.size w wq)) (fun _ _ => 0)
    case atStart => exact ⟨rfl, HR⟩
    case round =>
      obtain ⟨rfl, HR2⟩ := hrel
      have a9 := HR2.out.1.cell 9 _ rfl
      have b9 := HR2.out.2.1.cell 9 _ rfl
      have a10 := HR2.out.1.cell 10 _ rfl
      have b10 := HR2.out.2.1.cell 10 _ rfl
      go_wp2
      go_ret
      exact ⟨rfl, HR2.out.2.2⟩
end Go.Proofs.YtofdiilfedjhkaaDoor.Sub

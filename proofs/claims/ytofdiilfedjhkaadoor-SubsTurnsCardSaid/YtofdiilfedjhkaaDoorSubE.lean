/- subs.Heard: a request. (Printed by gen_sube.py.) -/
import Derived.Test.YtofdiilfedjhkaaDoorSubD
set_option linter.unusedVariables false
set_option linter.unusedSimpArgs false
namespace Go.Proofs.YtofdiilfedjhkaaDoor.Sub
open Go.RowKit U
abbrev NW (k : Int) (nn tx : ByteArray) : Array Value := #[.int .i64 k, .string nn, .string tx, .string ⟨#[]⟩, .int .i64 0, .int .i64 0, .int .i64 0, .int .i64 0, .bool false, .slice none 0 0, .slice none 0 0]
theorem same_yes (a b : ByteArray) (ha : a.size ≤ 68719476736) (hb : b.size ≤ 68719476736) (h : Han.norm a.data.toList = Han.norm b.data.toList) (w : World) : Calls Tryd.prog 17 #[.string a, .string b] w fun e w' => e = .returned (.bool true) ∧ Below w.heap.size w w' :=
  (Han.Same_any a b ha hb w).mono fun e w' ⟨h1, h2⟩ => ⟨by rw [h1, h]; simp, h2⟩
set_option maxHeartbeats 4000000 in
theorem Heard_wants (n nn tx : ByteArray) (tt pend await ask onl : Bool) (st idle : Int) (ha : n.size ≤ 68719476736) (hb : nn.size ≤ 68719476736) (hs : Han.norm n.data.toList = Han.norm nn.data.toList) (w : World) :
    Calls Tryd.prog 8 #[CV n tt pend await false ask onl st idle, .agg (NW 27 nn tx)] w fun e w' => ∃ g, e = .returned (.tuple #[CV n tt pend await false true onl st idle, .agg #[.slice (some ⟨g, 0, none⟩) 1 1, .slice none 0 0, .slice none 0 0]]) ∧
      At g 9 #[.string ⟨#[115, 117, 98, 115, 99, 114, 105, 98, 101]⟩] w' ∧ Below w.heap.size w w' := by
  have HS := Lib.hid (same_yes n nn ha hb hs)
  have K := ((((Box.start w).alloc 23 (CC n tt pend await false ask onl st idle)).alloc 35 (NW 27 nn tx)).alloc 23 (CC n tt pend await false ask onl st idle)).alloc 29 ZT
  have HK := Lib.hid K; clear K
  go_enter Tryd.func8, Tryd.ntmps8
  go_wp2_with fail
  refine (HS.out _).mono ?_
  rintro e w5 ⟨rfl, hb5⟩
  obtain ⟨gt, hgt⟩ : ∃ g, g = w.heap.size + 1 + 1 + 1 := ⟨_, rfl⟩
  obtain ⟨gd, hgd⟩ : ∃ g, g = w.heap.size + 1 + 1 := ⟨_, rfl⟩
  obtain ⟨gn, hgn⟩ : ∃ g, g = w.heap.size + 1 := ⟨_, rfl⟩
  have HN : Hid (¬ gd = gt ∧ ¬ gt = gd ∧ w.heap.size ≤ gd ∧ w.heap.size ≤ gt ∧ gd < w5.heap.size ∧ gt < w5.heap.size) := Lib.hid (by have := hb5.size; simp at this; omega)
  have HA : Hid (At gd 23 (CC n tt pend await false ask onl st idle) w5 ∧ At gt 29 ZT w5 ∧ Below w.heap.size w w5 ∧ At gn 35 (NW 27 nn tx) w5 ∧ At w.heap.size 23 (CC n tt pend await false ask onl st idle) w5) := Lib.hid
    ⟨by rw [hgd]; exact At.below (by simpa using HK.out.at 1 _ _ _ rfl) hb5, by rw [hgt]; exact At.below (by simpa using HK.out.at 0 _ _ _ rfl) hb5, HK.out.low.trans (hb5.mono HK.out.low.size), by rw [hgn]; exact At.below (by simpa using HK.out.at 2 _ _ _ rfl) hb5, At.below (by simpa using HK.out.at 3 _ _ _ rfl) hb5⟩
  rw [← hgt, ← hgd, ← hgn]
  clear hgd hgt hgn hb5 HK
  have k0 : w5.cell? ⟨gn, 0, none⟩ = some (.int .i64 27) := HA.out.2.2.2.1.cell 0 _ rfl
  have c4 : w5.cell? ⟨w.heap.size, 4, none⟩ = some (.bool false) := HA.out.2.2.2.2.cell 4 _ rfl
  have d0 := (HA.out.1).free 0
  have dc0 := (HA.out.1).cell 0 _ rfl
  have d1 := (HA.out.1).free 1
  have dc1 := (HA.out.1).cell 1 _ rfl
  have d2 := (HA.out.1).free 2
  have dc2 := (HA.out.1).cell 2 _ rfl
  have d3 := (HA.out.1).free 3
  have dc3 := (HA.out.1).cell 3 _ rfl
  have d4 := (HA.out.1).free 4
  have dc4 := (HA.out.1).cell 4 _ rfl
  have d5 := (HA.out.1).free 5
  have dc5 := (HA.out.1).cell 5 _ rfl
  have d6 := (HA.out.1).free 6
  have dc6 := (HA.out.1).cell 6 _ rfl
  have d7 := (HA.out.1).free 7
  have dc7 := (HA.out.1).cell 7 _ rfl
  have d8 := (HA.out.1).free 8
  have dc8 := (HA.out.1).cell 8 _ rfl
  have t0 := (HA.out.2.1).free 0
  have tc0 := (HA.out.2.1).cell 0 _ rfl
  have t1 := (HA.out.2.1).free 1
  have tc1 := (HA.out.2.1).cell 1 _ rfl
  have t2 := (HA.out.2.1).free 2
  have tc2 := (HA.out.2.1).cell 2 _ rfl
  have d5' := (HA.out.1.alloc (.cells #[.string ⟨#[115, 117, 98, 115, 99, 114, 105, 98, 101]⟩] 9)).free 5
  have t0' := ((HA.out.2.1.other ⟨gd, 5, none⟩ (.bool true) HN.out.2.1).alloc (.cells #[.string ⟨#[115, 117, 98, 115, 99, 114, 105, 98, 101]⟩] 9)).free 0
  have tc0' := ((HA.out.2.1.other ⟨gd, 5, none⟩ (.bool true) HN.out.2.1).alloc (.cells #[.string ⟨#[115, 117, 98, 115, 99, 114, 105, 98, 101]⟩] 9)).cell 0 _ rfl
  have ne1 : ¬ gd = gt := HN.out.1
  have ne2 : ¬ gt = gd := HN.out.2.1
  have HW : Hid (At gd 23 (CC n tt pend await false true onl st idle) (((w5.setCell ⟨gd, 5, none⟩ (.bool true)).alloc (.cells #[.string ⟨#[115, 117, 98, 115, 99, 114, 105, 98, 101]⟩] 9)).setCell ⟨gt, 0, none⟩ (.slice (some ⟨w5.heap.size, 0, none⟩) 1 1)) ∧ At gt 29 #[.slice (some ⟨w5.heap.size, 0, none⟩) 1 1, .slice none 0 0, .slice none 0 0] (((w5.setCell ⟨gd, 5, none⟩ (.bool true)).alloc (.cells #[.string ⟨#[115, 117, 98, 115, 99, 114, 105, 98, 101]⟩] 9)).setCell ⟨gt, 0, none⟩ (.slice (some ⟨w5.heap.size, 0, none⟩) 1 1)) ∧ At w5.heap.size 9 #[.string ⟨#[115, 117, 98, 115, 99, 114, 105, 98, 101]⟩] (((w5.setCell ⟨gd, 5, none⟩ (.bool true)).alloc (.cells #[.string ⟨#[115, 117, 98, 115, 99, 114, 105, 98, 101]⟩] 9)).setCell ⟨gt, 0, none⟩ (.slice (some ⟨w5.heap.size, 0, none⟩) 1 1)) ∧ Below w.heap.size w (((w5.setCell ⟨gd, 5, none⟩ (.bool true)).alloc (.cells #[.string ⟨#[115, 117, 98, 115, 99, 114, 105, 98, 101]⟩] 9)).setCell ⟨gt, 0, none⟩ (.slice (some ⟨w5.heap.size, 0, none⟩) 1 1))) := Lib.hid (by
    have hn := HN.out
    refine ⟨?_, ?_, ?_, ?_⟩
    · simpa using ((HA.out.1.set 5 (.bool true)).alloc (.cells #[.string ⟨#[115, 117, 98, 115, 99, 114, 105, 98, 101]⟩] 9)).other ⟨gt, 0, none⟩ (.slice (some ⟨w5.heap.size, 0, none⟩) 1 1) hn.1
    · simpa using ((HA.out.2.1.other ⟨gd, 5, none⟩ (.bool true) hn.2.1).alloc (.cells #[.string ⟨#[115, 117, 98, 115, 99, 114, 105, 98, 101]⟩] 9)).set 0 (.slice (some ⟨w5.heap.size, 0, none⟩) 1 1)
    · exact (new_at (w5.setCell ⟨gd, 5, none⟩ (.bool true)) 9 #[.string ⟨#[115, 117, 98, 115, 99, 114, 105, 98, 101]⟩] w5.heap.size (by simp)).other ⟨gt, 0, none⟩ _ (by show ¬ w5.heap.size = gt; omega)
    · exact ((HA.out.2.2.1.setCell (p := ⟨gd, 5, none⟩) hn.2.2.1 _).alloc (by have := HA.out.2.2.1.size; simp; omega) _).setCell (p := ⟨gt, 0, none⟩) hn.2.2.2.1 _)
  go_wp2
  clear d0 dc0 d1 dc1 d2 dc2 d3 dc3 d4 dc4 d5 dc5 d6 dc6 d7 dc7 d8 dc8 t0 tc0 t1 tc1 t2 tc2 d5' t0' tc0' k0 c4
  obtain ⟨g, hg⟩ : ∃ g, g = w5.heap.size := ⟨_, rfl⟩
  refine in_world (fun x => At gd 23 (CC n tt pend await false true onl st idle) x ∧ At gt 29 #[.slice (some ⟨g, 0, none⟩) 1 1, .slice none 0 0, .slice none 0 0] x ∧ At g 9 #[.string ⟨#[115, 117, 98, 115, 99, 114, 105, 98, 101]⟩] x ∧ Below w.heap.size w x) (by rw [hg]; exact HW.out) (fun W hW => ?_)
  clear HW HA
  have HW := Lib.hid hW
  clear hW hg
  have q0 : ∀ x : U.In (fun x : World => At gd 23 #[.string n, .bool tt, .bool pend, .bool await, .bool false, .bool true, .bool onl, .int .i64 st, .int .i64 idle] x ∧ At gt 29 #[.slice (some ⟨g, 0, none⟩) 1 1, .slice none 0 0, .slice none 0 0] x), x.w.cell? ⟨gd, 0, none⟩ = some (.string n) := fun x => At.cell x.h.1 0 _ rfl
  have q1 : ∀ x : U.In (fun x : World => At gd 23 #[.string n, .bool tt, .bool pend, .bool await, .bool false, .bool true, .bool onl, .int .i64 st, .int .i64 idle] x ∧ At gt 29 #[.slice (some ⟨g, 0, none⟩) 1 1, .slice none 0 0, .slice none 0 0] x), x.w.cell? ⟨gd, 1, none⟩ = some (.bool tt) := fun x => At.cell x.h.1 1 _ rfl
  have q2 : ∀ x : U.In (fun x : World => At gd 23 #[.string n, .bool tt, .bool pend, .bool await, .bool false, .bool true, .bool onl, .int .i64 st, .int .i64 idle] x ∧ At gt 29 #[.slice (some ⟨g, 0, none⟩) 1 1, .slice none 0 0, .slice none 0 0] x), x.w.cell? ⟨gd, 2, none⟩ = some (.bool pend) := fun x => At.cell x.h.1 2 _ rfl
  have q3 : ∀ x : U.In (fun x : World => At gd 23 #[.string n, .bool tt, .bool pend, .bool await, .bool false, .bool true, .bool onl, .int .i64 st, .int .i64 idle] x ∧ At gt 29 #[.slice (some ⟨g, 0, none⟩) 1 1, .slice none 0 0, .slice none 0 0] x), x.w.cell? ⟨gd, 3, none⟩ = some (.bool await) := fun x => At.cell x.h.1 3 _ rfl
  have q4 : ∀ x : U.In (fun x : World => At gd 23 #[.string n, .bool tt, .bool pend, .bool await, .bool false, .bool true, .bool onl, .int .i64 st, .int .i64 idle] x ∧ At gt 29 #[.slice (some ⟨g, 0, none⟩) 1 1, .slice none 0 0, .slice none 0 0] x), x.w.cell? ⟨gd, 4, none⟩ = some (.bool false) := fun x => At.cell x.h.1 4 _ rfl
  have q5 : ∀ x : U.In (fun x : World => At gd 23 #[.string n, .bool tt, .bool pend, .bool await, .bool false, .bool true, .bool onl, .int .i64 st, .int .i64 idle] x ∧ At gt 29 #[.slice (some ⟨g, 0, none⟩) 1 1, .slice none 0 0, .slice none 0 0] x), x.w.cell? ⟨gd, 5, none⟩ = some (.bool true) := fun x => At.cell x.h.1 5 _ rfl
  have q6 : ∀ x : U.In (fun x : World => At gd 23 #[.string n, .bool tt, .bool pend, .bool await, .bool false, .bool true, .bool onl, .int .i64 st, .int .i64 idle] x ∧ At gt 29 #[.slice (some ⟨g, 0, none⟩) 1 1, .slice none 0 0, .slice none 0 0] x), x.w.cell? ⟨gd, 6, none⟩ = some (.bool onl) := fun x => At.cell x.h.1 6 _ rfl
  have q7 : ∀ x : U.In (fun x : World => At gd 23 #[.string n, .bool tt, .bool pend, .bool await, .bool false, .bool true, .bool onl, .int .i64 st, .int .i64 idle] x ∧ At gt 29 #[.slice (some ⟨g, 0, none⟩) 1 1, .slice none 0 0, .slice none 0 0] x), x.w.cell? ⟨gd, 7, none⟩ = some (.int .i64 st) := fun x => At.cell x.h.1 7 _ rfl
  have q8 : ∀ x : U.In (fun x : World => At gd 23 #[.string n, .bool tt, .bool pend, .bool await, .bool false, .bool true, .bool onl, .int .i64 st, .int .i64 idle] x ∧ At gt 29 #[.slice (some ⟨g, 0, none⟩) 1 1, .slice none 0 0, .slice none 0 0] x), x.w.cell? ⟨gd, 8, none⟩ = some (.int .i64 idle) := fun x => At.cell x.h.1 8 _ rfl
  have r0 : ∀ x : U.In (fun x : World => At gd 23 #[.string n, .bool tt, .bool pend, .bool await, .bool false, .bool true, .bool onl, .int .i64 st, .int .i64 idle] x ∧ At gt 29 #[.slice (some ⟨g, 0, none⟩) 1 1, .slice none 0 0, .slice none 0 0] x), x.w.cell? ⟨gt, 0, none⟩ = some (.slice (some ⟨g, 0, none⟩) 1 1) := fun x => At.cell x.h.2 0 _ rfl
  have r1 : ∀ x : U.In (fun x : World => At gd 23 #[.string n, .bool tt, .bool pend, .bool await, .bool false, .bool true, .bool onl, .int .i64 st, .int .i64 idle] x ∧ At gt 29 #[.slice (some ⟨g, 0, none⟩) 1 1, .slice none 0 0, .slice none 0 0] x), x.w.cell? ⟨gt, 1, none⟩ = some (.slice none 0 0) := fun x => At.cell x.h.2 1 _ rfl
  have r2 : ∀ x : U.In (fun x : World => At gd 23 #[.string n, .bool tt, .bool pend, .bool await, .bool false, .bool true, .bool onl, .int .i64 st, .int .i64 idle] x ∧ At gt 29 #[.slice (some ⟨g, 0, none⟩) 1 1, .slice none 0 0, .slice none 0 0] x), x.w.cell? ⟨gt, 2, none⟩ = some (.slice none 0 0) := fun x => At.cell x.h.2 2 _ rfl
  haveI : Nonempty (U.In (fun x : World => At gd 23 #[.string n, .bool tt, .bool pend, .bool await, .bool false, .bool true, .bool onl, .int .i64 st, .int .i64 idle] x ∧ At gt 29 #[.slice (some ⟨g, 0, none⟩) 1 1, .slice none 0 0, .slice none 0 0] x)) := ⟨⟨_, ⟨HW.out.1, HW.out.2.1⟩⟩⟩
  refine U.wp_region_mix (S := fun x : World => At gd 23 #[.string n, .bool tt, .bool pend, .bool await, .bool false, .bool true, .bool onl, .int .i64 st, .int .i64 idle] x ∧ At gt 29 #[.slice (some ⟨g, 0, none⟩) 1 1, .slice none 0 0, .slice none 0 0] x) [0, 1] [2] [3] (by kernel_rfl) (by kernel_rfl) ⟨At.drewN HW.out.1 1, At.drewN HW.out.2.1 1⟩ ?_
  simp only [List.filterMap_cons, List.filterMap_nil, List.getElem?_toArray, List.getElem?_cons_succ, List.getElem?_cons_zero]
  change wpQuiet _ _ _ _ [_, _] _
  repeat go_big_quiet_step (fail)
  refine wpQuiet_nil ?_
  clear q0 q1 q2 q3 q4 q5 q6 q7 q8 r0 r1 r2 this
  have d0 := HW.out.1.free 0
  have dc0 : W.cell? ⟨gd, 0, none⟩ = some (.string n) := HW.out.1.cell 0 _ rfl
  have d1 := HW.out.1.free 1
  have dc1 : W.cell? ⟨gd, 1, none⟩ = some (.bool tt) := HW.out.1.cell 1 _ rfl
  have d2 := HW.out.1.free 2
  have dc2 : W.cell? ⟨gd, 2, none⟩ = some (.bool pend) := HW.out.1.cell 2 _ rfl
  have d3 := HW.out.1.free 3
  have dc3 : W.cell? ⟨gd, 3, none⟩ = some (.bool await) := HW.out.1.cell 3 _ rfl
  have d4 := HW.out.1.free 4
  have dc4 : W.cell? ⟨gd, 4, none⟩ = some (.bool false) := HW.out.1.cell 4 _ rfl
  have d5 := HW.out.1.free 5
  have dc5 : W.cell? ⟨gd, 5, none⟩ = some (.bool true) := HW.out.1.cell 5 _ rfl
  have d6 := HW.out.1.free 6
  have dc6 : W.cell? ⟨gd, 6, none⟩ = some (.bool onl) := HW.out.1.cell 6 _ rfl
  have d7 := HW.out.1.free 7
  have dc7 : W.cell? ⟨gd, 7, none⟩ = some (.int .i64 st) := HW.out.1.cell 7 _ rfl
  have d8 := HW.out.1.free 8
  have dc8 : W.cell? ⟨gd, 8, none⟩ = some (.int .i64 idle) := HW.out.1.cell 8 _ rfl
  have t0 := HW.out.2.1.free 0
  have tc0 : W.cell? ⟨gt, 0, none⟩ = some (.slice (some ⟨g, 0, none⟩) 1 1) := HW.out.2.1.cell 0 _ rfl
  have t1 := HW.out.2.1.free 1
  have tc1 : W.cell? ⟨gt, 1, none⟩ = some (.slice none 0 0) := HW.out.2.1.cell 1 _ rfl
  have t2 := HW.out.2.1.free 2
  have tc2 : W.cell? ⟨gt, 2, none⟩ = some (.slice none 0 0) := HW.out.2.1.cell 2 _ rfl
  refine U.wpParts_step (o := _) rfl ?_
  go_wp2
  simp only [setCell_self dc0, setCell_self dc1, setCell_self dc2, setCell_self dc3, setCell_self dc4, setCell_self dc5, setCell_self dc6, setCell_self dc7, setCell_self dc8]
  refine ⟨⟨⟨_, ⟨At.drewN HW.out.1 1, At.drewN HW.out.2.1 1⟩⟩, rfl⟩, ?_⟩
  unfold U.wpParts U.Ends
  simp only [List.filterMap_cons, List.filterMap_nil, List.getElem?_toArray, List.getElem?_cons_succ, List.getElem?_cons_zero]
  change wpList _ _ _ [_] _ _
  go_wp2
  simp only [setCell_self tc0, setCell_self tc1, setCell_self tc2]
  exact bodyPost_ret (res_ct rfl _ _ gd gt _ _ rfl rfl (At.drewN HW.out.1 1) (At.drewN HW.out.2.1 1) rfl rfl) rfl ⟨g, rfl, At.drewN HW.out.2.2.1 1, U.below_drewN HW.out.2.2.2 1⟩
end Go.Proofs.YtofdiilfedjhkaaDoor.Sub

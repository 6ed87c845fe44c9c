/- subs.User: unsubscribe. (Printed by gen_subk.py.) -/
import Derived.Test.YtofdiilfedjhkaaDoorSubH
set_option linter.unusedVariables false
set_option linter.unusedSimpArgs false
namespace Go.Proofs.YtofdiilfedjhkaaDoor.Sub
open Go.RowKit U
theorem at_type {g g' : Nat} {T T' : TypeId} {a b : Array Value} {w : World} (h : At g T a w) (k : At g' T' b w) (hT : T ≠ T') : ¬ g = g' := fun e => by
  subst e
  unfold At at h k
  rw [h] at k
  injection k with k; injection k with _ k _
  exact hT k
set_option maxHeartbeats 4000000 in
theorem User_off (n al gr : ByteArray) (pend await from_ ask onl : Bool) (st idle : Int) (w : World) :
    Calls Tryd.prog 9 #[CV n true pend await from_ ask onl st idle, .string ⟨#[117, 110, 115, 117, 98, 115, 99, 114, 105, 98, 101]⟩, .string al, .string gr] w fun e w' => ∃ g2 g, e = .returned (.tuple #[CV n false false false from_ ask onl st idle, .agg #[.slice (some ⟨g2, 0, none⟩) 1 1, .slice none 0 0, .slice (some ⟨g, 0, none⟩) 1 1]]) ∧
      At g2 9 #[.string ⟨#[117, 110, 115, 117, 98, 115, 99, 114, 105, 98, 101, 100]⟩] w' ∧ At g 42 #[.int .i64 2, .string n, .string ⟨#[]⟩, .string ⟨#[]⟩, .bool false] w' ∧ Below w.heap.size w w' := by
  have HDR := Lib.hid (dropped_any n true pend await from_ ask onl st idle)
  have HU := Lib.hid (unseen_any n true pend await from_ ask onl st idle)
  have K := (((Box.start w).alloc 23 (CC n true pend await from_ ask onl st idle)).alloc 23 (CC n true pend await from_ ask onl st idle)).alloc 29 ZT
  have HK := Lib.hid K; clear K
  go_enter Tryd.func9, Tryd.ntmps9
  go_wp2_with fail
  refine (HDR.out _).mono ?_
  rintro e w5 ⟨g, rfl, hg, hb5⟩
  obtain ⟨gt, hgt⟩ : ∃ g, g = w.heap.size + 1 + 1 := ⟨_, rfl⟩
  obtain ⟨gd, hgd⟩ : ∃ g, g = w.heap.size + 1 := ⟨_, rfl⟩
  obtain ⟨gc, hgc⟩ : ∃ g, g = w.heap.size := ⟨_, rfl⟩
  have HA : Hid (At gd 23 (CC n true pend await from_ ask onl st idle) w5 ∧ At gt 29 ZT w5 ∧ Below w.heap.size w w5 ∧ At g 42 #[.int .i64 2, .string n, .string ⟨#[]⟩, .string ⟨#[]⟩, .bool false] w5 ∧ At gc 23 (CC n true pend await from_ ask onl st idle) w5) := Lib.hid
    ⟨by rw [hgd]; exact At.below (by simpa using HK.out.at 1 _ _ _ rfl) hb5, by rw [hgt]; exact At.below (by simpa using HK.out.at 0 _ _ _ rfl) hb5, HK.out.low.trans (hb5.mono HK.out.low.size), hg, by rw [hgc]; exact At.below (by simpa using HK.out.at 2 _ _ _ rfl) hb5⟩
  have HN : Hid (¬ gd = gt ∧ ¬ gt = gd ∧ w.heap.size ≤ gd ∧ w.heap.size ≤ gt ∧ ¬ g = gd ∧ ¬ g = gt ∧ ¬ gc = gt ∧ gd < w5.heap.size ∧ gt < w5.heap.size) := Lib.hid
    ⟨by omega, by omega, by omega, by omega, at_type HA.out.2.2.2.1 HA.out.1 (by decide), at_type HA.out.2.2.2.1 HA.out.2.1 (by decide), by omega, HA.out.1.lt, HA.out.2.1.lt⟩
  rw [← hgt, ← hgd]
  rw [show (Value.pointer (some ⟨w.heap.size, 0, none⟩)) = .pointer (some ⟨gc, 0, none⟩) by rw [hgc]]
  clear hgd hgt hgc hb5 hg HK
  have d0 := (HA.out.1).free 0
  have dc0 := (HA.out.1).cell 0 _ rfl
  have d1 := (HA.out.1).free 1
  have dc1 := (HA.out.1).cell 1 _ rfl
  have d2 := (HA.out.1).free 2
  have dc2 := (HA.out.1).cell 2 _ rfl
  have d3 := (HA.out.1).free 3
  have dc3 := (HA.out.1).cell 3 _ rfl
  have d4 := (HA.out.1).free 4
  have dc4 := (HA.out.1).cell 4 _ rfl
  have d5 := (HA.out.1).free 5
  have dc5 := (HA.out.1).cell 5 _ rfl
  have d6 := (HA.out.1).free 6
  have dc6 := (HA.out.1).cell 6 _ rfl
  have d7 := (HA.out.1).free 7
  have dc7 := (HA.out.1).cell 7 _ rfl
  have d8 := (HA.out.1).free 8
  have dc8 := (HA.out.1).cell 8 _ rfl
  have t0 := (HA.out.2.1).free 0
  have tc0 := (HA.out.2.1).cell 0 _ rfl
  have t1 := (HA.out.2.1).free 1
  have tc1 := (HA.out.2.1).cell 1 _ rfl
  have t2 := (HA.out.2.1).free 2
  have tc2 := (HA.out.2.1).cell 2 _ rfl
  have c0 := (HA.out.2.2.2.2).free 0
  have cc0 := (HA.out.2.2.2.2).cell 0 _ rfl
  have c1 := (HA.out.2.2.2.2).free 1
  have cc1 := (HA.out.2.2.2.2).cell 1 _ rfl
  have c2 := (HA.out.2.2.2.2).free 2
  have cc2 := (HA.out.2.2.2.2).cell 2 _ rfl
  have c3 := (HA.out.2.2.2.2).free 3
  have cc3 := (HA.out.2.2.2.2).cell 3 _ rfl
  have c4 := (HA.out.2.2.2.2).free 4
  have cc4 := (HA.out.2.2.2.2).cell 4 _ rfl
  have c5 := (HA.out.2.2.2.2).free 5
  have cc5 := (HA.out.2.2.2.2).cell 5 _ rfl
  have c6 := (HA.out.2.2.2.2).free 6
  have cc6 := (HA.out.2.2.2.2).cell 6 _ rfl
  have c7 := (HA.out.2.2.2.2).free 7
  have cc7 := (HA.out.2.2.2.2).cell 7 _ rfl
  have c8 := (HA.out.2.2.2.2).free 8
  have cc8 := (HA.out.2.2.2.2).cell 8 _ rfl
  have ne1 : ¬ gd = gt := HN.out.1
  have ne2 : ¬ gt = gd := HN.out.2.1
  have ne3 : ¬ gc = gt := HN.out.2.2.2.2.2.2.1
  have ne4 : ¬ gt = gc := fun e => ne3 e.symm
  go_wp2_with fail
  clear d0 dc0 c0 cc0 d1 dc1 c1 cc1 d2 dc2 c2 cc2 d3 dc3 c3 cc3 d4 dc4 c4 cc4 d5 dc5 c5 cc5 d6 dc6 c6 cc6 d7 dc7 c7 cc7 d8 dc8 c8 cc8 t0 tc0 t1 tc1 t2 tc2
  refine (HU.out _).mono ?_
  rintro e w6 ⟨rfl, hb6⟩
  have HB : Hid (At gd 23 (CC n true pend await from_ ask onl st idle) w6 ∧ At gt 29 #[.slice none 0 0, .slice none 0 0, .slice (some ⟨g, 0, none⟩) 1 1] w6 ∧ Below w.heap.size w w6 ∧ At g 42 #[.int .i64 2, .string n, .string ⟨#[]⟩, .string ⟨#[]⟩, .bool false] w6) := Lib.hid (by
    have hn := HN.out
    have h1 := (HA.out.1.other ⟨gt, 2, none⟩ (.slice (some ⟨g, 0, none⟩) 1 1) hn.1).below hb6
    have h2 : At gt 29 #[.slice none 0 0, .slice none 0 0, .slice (some ⟨g, 0, none⟩) 1 1] (w5.setCell ⟨gt, 2, none⟩ (.slice (some ⟨g, 0, none⟩) 1 1)) := by simpa using HA.out.2.1.set 2 (.slice (some ⟨g, 0, none⟩) 1 1)
    have h3 := HA.out.2.2.1.setCell (p := ⟨gt, 2, none⟩) hn.2.2.2.1 (.slice (some ⟨g, 0, none⟩) 1 1)
    exact ⟨h1, h2.below hb6, h3.trans (hb6.mono h3.size), (HA.out.2.2.2.1.other ⟨gt, 2, none⟩ _ hn.2.2.2.2.2.1).below hb6⟩)
  clear hb6 HA
  have d0 := (HB.out.1).free 0
  have dc0 := (HB.out.1).cell 0 _ rfl
  have d1 := (HB.out.1).free 1
  have dc1 := (HB.out.1).cell 1 _ rfl
  have d2 := (HB.out.1).free 2
  have dc2 := (HB.out.1).cell 2 _ rfl
  have d3 := (HB.out.1).free 3
  have dc3 := (HB.out.1).cell 3 _ rfl
  have d4 := (HB.out.1).free 4
  have dc4 := (HB.out.1).cell 4 _ rfl
  have d5 := (HB.out.1).free 5
  have dc5 := (HB.out.1).cell 5 _ rfl
  have d6 := (HB.out.1).free 6
  have dc6 := (HB.out.1).cell 6 _ rfl
  have d7 := (HB.out.1).free 7
  have dc7 := (HB.out.1).cell 7 _ rfl
  have d8 := (HB.out.1).free 8
  have dc8 := (HB.out.1).cell 8 _ rfl
  have t0 := (HB.out.2.1).free 0
  have tc0 := (HB.out.2.1).cell 0 _ rfl
  have t1 := (HB.out.2.1).free 1
  have tc1 := (HB.out.2.1).cell 1 _ rfl
  have t2 := (HB.out.2.1).free 2
  have tc2 := (HB.out.2.1).cell 2 _ rfl
  have HC9 : Hid (At gd 23 (CC n false false false from_ ask onl st idle) (((((((((w6.setCell ⟨gd, 0, none⟩ (.string n)).setCell ⟨gd, 1, none⟩ (.bool false)).setCell ⟨gd, 2, none⟩ (.bool false)).setCell ⟨gd, 3, none⟩ (.bool false)).setCell ⟨gd, 4, none⟩ (.bool from_)).setCell ⟨gd, 5, none⟩ (.bool ask)).setCell ⟨gd, 6, none⟩ (.bool onl)).setCell ⟨gd, 7, none⟩ (.int .i64 st)).setCell ⟨gd, 8, none⟩ (.int .i64 idle)) ∧ At gt 29 #[.slice none 0 0, .slice none 0 0, .slice (some ⟨g, 0, none⟩) 1 1] (((((((((w6.setCell ⟨gd, 0, none⟩ (.string n)).setCell ⟨gd, 1, none⟩ (.bool false)).setCell ⟨gd, 2, none⟩ (.bool false)).setCell ⟨gd, 3, none⟩ (.bool false)).setCell ⟨gd, 4, none⟩ (.bool from_)).setCell ⟨gd, 5, none⟩ (.bool ask)).setCell ⟨gd, 6, none⟩ (.bool onl)).setCell ⟨gd, 7, none⟩ (.int .i64 st)).setCell ⟨gd, 8, none⟩ (.int .i64 idle)) ∧ Below w.heap.size w (((((((((w6.setCell ⟨gd, 0, none⟩ (.string n)).setCell ⟨gd, 1, none⟩ (.bool false)).setCell ⟨gd, 2, none⟩ (.bool false)).setCell ⟨gd, 3, none⟩ (.bool false)).setCell ⟨gd, 4, none⟩ (.bool from_)).setCell ⟨gd, 5, none⟩ (.bool ask)).setCell ⟨gd, 6, none⟩ (.bool onl)).setCell ⟨gd, 7, none⟩ (.int .i64 st)).setCell ⟨gd, 8, none⟩ (.int .i64 idle)) ∧ At g 42 #[.int .i64 2, .string n, .string ⟨#[]⟩, .string ⟨#[]⟩, .bool false] (((((((((w6.setCell ⟨gd, 0, none⟩ (.string n)).setCell ⟨gd, 1, none⟩ (.bool false)).setCell ⟨gd, 2, none⟩ (.bool false)).setCell ⟨gd, 3, none⟩ (.bool false)).setCell ⟨gd, 4, none⟩ (.bool from_)).setCell ⟨gd, 5, none⟩ (.bool ask)).setCell ⟨gd, 6, none⟩ (.bool onl)).setCell ⟨gd, 7, none⟩ (.int .i64 st)).setCell ⟨gd, 8, none⟩ (.int .i64 idle))) := Lib.hid
    ⟨at_set9 _ _ _ _ _ _ _ _ _ _ _ _ _ _ _ _ _ _ HB.out.1, at_other9 _ _ _ _ _ _ _ _ _ HB.out.2.1 HN.out.2.1, low_set9 _ _ _ _ _ _ _ _ _ HB.out.2.2.1 HN.out.2.2.1, at_other9 _ _ _ _ _ _ _ _ _ HB.out.2.2.2 HN.out.2.2.2.2.1⟩
  have u0 := (HC9.out.2.1.alloc (.cells #[.string ⟨#[117, 110, 115, 117, 98, 115, 99, 114, 105, 98, 101, 100]⟩] 9)).free 0
  have uc0 := (HC9.out.2.1.alloc (.cells #[.string ⟨#[117, 110, 115, 117, 98, 115, 99, 114, 105, 98, 101, 100]⟩] 9)).cell 0 _ rfl
  have HW : Hid (At gd 23 (CC n false false false from_ ask onl st idle) (((((((((((w6.setCell ⟨gd, 0, none⟩ (.string n)).setCell ⟨gd, 1, none⟩ (.bool false)).setCell ⟨gd, 2, none⟩ (.bool false)).setCell ⟨gd, 3, none⟩ (.bool false)).setCell ⟨gd, 4, none⟩ (.bool from_)).setCell ⟨gd, 5, none⟩ (.bool ask)).setCell ⟨gd, 6, none⟩ (.bool onl)).setCell ⟨gd, 7, none⟩ (.int .i64 st)).setCell ⟨gd, 8, none⟩ (.int .i64 idle)).alloc (.cells #[.string ⟨#[117, 110, 115, 117, 98, 115, 99, 114, 105, 98, 101, 100]⟩] 9)).setCell ⟨gt, 0, none⟩ (.slice (some ⟨w6.heap.size, 0, none⟩) 1 1)) ∧ At gt 29 #[.slice (some ⟨w6.heap.size, 0, none⟩) 1 1, .slice none 0 0, .slice (some ⟨g, 0, none⟩) 1 1] (((((((((((w6.setCell ⟨gd, 0, none⟩ (.string n)).setCell ⟨gd, 1, none⟩ (.bool false)).setCell ⟨gd, 2, none⟩ (.bool false)).setCell ⟨gd, 3, none⟩ (.bool false)).setCell ⟨gd, 4, none⟩ (.bool from_)).setCell ⟨gd, 5, none⟩ (.bool ask)).setCell ⟨gd, 6, none⟩ (.bool onl)).setCell ⟨gd, 7, none⟩ (.int .i64 st)).setCell ⟨gd, 8, none⟩ (.int .i64 idle)).alloc (.cells #[.string ⟨#[117, 110, 115, 117, 98, 115, 99, 114, 105, 98, 101, 100]⟩] 9)).setCell ⟨gt, 0, none⟩ (.slice (some ⟨w6.heap.size, 0, none⟩) 1 1)) ∧ At w6.heap.size 9 #[.string ⟨#[117, 110, 115, 117, 98, 115, 99, 114, 105, 98, 101, 100]⟩] (((((((((((w6.setCell ⟨gd, 0, none⟩ (.string n)).setCell ⟨gd, 1, none⟩ (.bool false)).setCell ⟨gd, 2, none⟩ (.bool false)).setCell ⟨gd, 3, none⟩ (.bool false)).setCell ⟨gd, 4, none⟩ (.bool from_)).setCell ⟨gd, 5, none⟩ (.bool ask)).setCell ⟨gd, 6, none⟩ (.bool onl)).setCell ⟨gd, 7, none⟩ (.int .i64 st)).setCell ⟨gd, 8, none⟩ (.int .i64 idle)).alloc (.cells #[.string ⟨#[117, 110, 115, 117, 98, 115, 99, 114, 105, 98, 101, 100]⟩] 9)).setCell ⟨gt, 0, none⟩ (.slice (some ⟨w6.heap.size, 0, none⟩) 1 1)) ∧ At g 42 #[.int .i64 2, .string n, .string ⟨#[]⟩, .string ⟨#[]⟩, .bool false] (((((((((((w6.setCell ⟨gd, 0, none⟩ (.string n)).setCell ⟨gd, 1, none⟩ (.bool false)).setCell ⟨gd, 2, none⟩ (.bool false)).setCell ⟨gd, 3, none⟩ (.bool false)).setCell ⟨gd, 4, none⟩ (.bool from_)).setCell ⟨gd, 5, none⟩ (.bool ask)).setCell ⟨gd, 6, none⟩ (.bool onl)).setCell ⟨gd, 7, none⟩ (.int .i64 st)).setCell ⟨gd, 8, none⟩ (.int .i64 idle)).alloc (.cells #[.string ⟨#[117, 110, 115, 117, 98, 115, 99, 114, 105, 98, 101, 100]⟩] 9)).setCell ⟨gt, 0, none⟩ (.slice (some ⟨w6.heap.size, 0, none⟩) 1 1)) ∧ Below w.heap.size w (((((((((((w6.setCell ⟨gd, 0, none⟩ (.string n)).setCell ⟨gd, 1, none⟩ (.bool false)).setCell ⟨gd, 2, none⟩ (.bool false)).setCell ⟨gd, 3, none⟩ (.bool false)).setCell ⟨gd, 4, none⟩ (.bool from_)).setCell ⟨gd, 5, none⟩ (.bool ask)).setCell ⟨gd, 6, none⟩ (.bool onl)).setCell ⟨gd, 7, none⟩ (.int .i64 st)).setCell ⟨gd, 8, none⟩ (.int .i64 idle)).alloc (.cells #[.string ⟨#[117, 110, 115, 117, 98, 115, 99, 114, 105, 98, 101, 100]⟩] 9)).setCell ⟨gt, 0, none⟩ (.slice (some ⟨w6.heap.size, 0, none⟩) 1 1))) := Lib.hid (by
    have hn := HN.out
    have hl := HB.out.2.1.lt
    have hz : (((((((((w6.setCell ⟨gd, 0, none⟩ (.string n)).setCell ⟨gd, 1, none⟩ (.bool false)).setCell ⟨gd, 2, none⟩ (.bool false)).setCell ⟨gd, 3, none⟩ (.bool false)).setCell ⟨gd, 4, none⟩ (.bool from_)).setCell ⟨gd, 5, none⟩ (.bool ask)).setCell ⟨gd, 6, none⟩ (.bool onl)).setCell ⟨gd, 7, none⟩ (.int .i64 st)).setCell ⟨gd, 8, none⟩ (.int .i64 idle)).heap.size = w6.heap.size := by simp
    refine ⟨(HC9.out.1.alloc _).other ⟨gt, 0, none⟩ _ hn.1, ?_, ?_, (HC9.out.2.2.2.alloc _).other ⟨gt, 0, none⟩ _ hn.2.2.2.2.2.1, ?_⟩
    · simpa using (HC9.out.2.1.alloc (.cells #[.string ⟨#[117, 110, 115, 117, 98, 115, 99, 114, 105, 98, 101, 100]⟩] 9)).set 0 (.slice (some ⟨w6.heap.size, 0, none⟩) 1 1)
    · exact (new_at _ 9 #[.string ⟨#[117, 110, 115, 117, 98, 115, 99, 114, 105, 98, 101, 100]⟩] w6.heap.size hz.symm).other ⟨gt, 0, none⟩ _ (by show ¬ w6.heap.size = gt; omega)
    · exact (HC9.out.2.2.1.alloc HC9.out.2.2.1.size _).setCell (p := ⟨gt, 0, none⟩) hn.2.2.2.1 _)
  go_wp2
  clear d0 dc0 d1 dc1 d2 dc2 d3 dc3 d4 dc4 d5 dc5 d6 dc6 d7 dc7 d8 dc8 t0 tc0 t1 tc1 t2 tc2 u0 uc0
  obtain ⟨g2, hg2⟩ : ∃ g, g = w6.heap.size := ⟨_, rfl⟩
  refine in_world (fun x => At gd 23 (CC n false false false from_ ask onl st idle) x ∧ At gt 29 #[.slice (some ⟨g2, 0, none⟩) 1 1, .slice none 0 0, .slice (some ⟨g, 0, none⟩) 1 1] x ∧ At g2 9 #[.string ⟨#[117, 110, 115, 117, 98, 115, 99, 114, 105, 98, 101, 100]⟩] x ∧ At g 42 #[.int .i64 2, .string n, .string ⟨#[]⟩, .string ⟨#[]⟩, .bool false] x ∧ Below w.heap.size w x) (by rw [hg2]; exact HW.out) (fun W hW => ?_)
  clear HW HC9 HB
  have HW := Lib.hid hW
  clear hW hg2
  have q0 : ∀ x : U.In (fun x : World => At gd 23 #[.string n, .bool false, .bool false, .bool false, .bool from_, .bool ask, .bool onl, .int .i64 st, .int .i64 idle] x ∧ At gt 29 #[.slice (some ⟨g2, 0, none⟩) 1 1, .slice none 0 0, .slice (some ⟨g, 0, none⟩) 1 1] x), x.w.cell? ⟨gd, 0, none⟩ = some (.string n) := fun x => At.cell x.h.1 0 _ rfl
  have q1 : ∀ x : U.In (fun x : World => At gd 23 #[.string n, .bool false, .bool false, .bool false, .bool from_, .bool ask, .bool onl, .int .i64 st, .int .i64 idle] x ∧ At gt 29 #[.slice (some ⟨g2, 0, none⟩) 1 1, .slice none 0 0, .slice (some ⟨g, 0, none⟩) 1 1] x), x.w.cell? ⟨gd, 1, none⟩ = some (.bool false) := fun x => At.cell x.h.1 1 _ rfl
  have q2 : ∀ x : U.In (fun x : World => At gd 23 #[.string n, .bool false, .bool false, .bool false, .bool from_, .bool ask, .bool onl, .int .i64 st, .int .i64 idle] x ∧ At gt 29 #[.slice (some ⟨g2, 0, none⟩) 1 1, .slice none 0 0, .slice (some ⟨g, 0, none⟩) 1 1] x), x.w.cell? ⟨gd, 2, none⟩ = some (.bool false) := fun x => At.cell x.h.1 2 _ rfl
  have q3 : ∀ x : U.In (fun x : World => At gd 23 #[.string n, .bool false, .bool false, .bool false, .bool from_, .bool ask, .bool onl, .int .i64 st, .int .i64 idle] x ∧ At gt 29 #[.slice (some ⟨g2, 0, none⟩) 1 1, .slice none 0 0, .slice (some ⟨g, 0, none⟩) 1 1] x), x.w.cell? ⟨gd, 3, none⟩ = some (.bool false) := fun x => At.cell x.h.1 3 _ rfl
  have q4 : ∀ x : U.In (fun x : World => At gd 23 #[.string n, .bool false, .bool false, .bool false, .bool from_, .bool ask, .bool onl, .int .i64 st, .int .i64 idle] x ∧ At gt 29 #[.slice (some ⟨g2, 0, none⟩) 1 1, .slice none 0 0, .slice (some ⟨g, 0, none⟩) 1 1] x), x.w.cell? ⟨gd, 4, none⟩ = some (.bool from_) := fun x => At.cell x.h.1 4 _ rfl
  have q5 : ∀ x : U.In (fun x : World => At gd 23 #[.string n, .bool false, .bool false, .bool false, .bool from_, .bool ask, .bool onl, .int .i64 st, .int .i64 idle] x ∧ At gt 29 #[.slice (some ⟨g2, 0, none⟩) 1 1, .slice none 0 0, .slice (some ⟨g, 0, none⟩) 1 1] x), x.w.cell? ⟨gd, 5, none⟩ = some (.bool ask) := fun x => At.cell x.h.1 5 _ rfl
  have q6 : ∀ x : U.In (fun x : World => At gd 23 #[.string n, .bool false, .bool false, .bool false, .bool from_, .bool ask, .bool onl, .int .i64 st, .int .i64 idle] x ∧ At gt 29 #[.slice (some ⟨g2, 0, none⟩) 1 1, .slice none 0 0, .slice (some ⟨g, 0, none⟩) 1 1] x), x.w.cell? ⟨gd, 6, none⟩ = some (.bool onl) := fun x => At.cell x.h.1 6 _ rfl
  have q7 : ∀ x : U.In (fun x : World => At gd 23 #[.string n, .bool false, .bool false, .bool false, .bool from_, .bool ask, .bool onl, .int .i64 st, .int .i64 idle] x ∧ At gt 29 #[.slice (some ⟨g2, 0, none⟩) 1 1, .slice none 0 0, .slice (some ⟨g, 0, none⟩) 1 1] x), x.w.cell? ⟨gd, 7, none⟩ = some (.int .i64 st) := fun x => At.cell x.h.1 7 _ rfl
  have q8 : ∀ x : U.In (fun x : World => At gd 23 #[.string n, .bool false, .bool false, .bool false, .bool from_, .bool ask, .bool onl, .int .i64 st, .int .i64 idle] x ∧ At gt 29 #[.slice (some ⟨g2, 0, none⟩) 1 1, .slice none 0 0, .slice (some ⟨g, 0, none⟩) 1 1] x), x.w.cell? ⟨gd, 8, none⟩ = some (.int .i64 idle) := fun x => At.cell x.h.1 8 _ rfl
  have r0 : ∀ x : U.In (fun x : World => At gd 23 #[.string n, .bool false, .bool false, .bool false, .bool from_, .bool ask, .bool onl, .int .i64 st, .int .i64 idle] x ∧ At gt 29 #[.slice (some ⟨g2, 0, none⟩) 1 1, .slice none 0 0, .slice (some ⟨g, 0, none⟩) 1 1] x), x.w.cell? ⟨gt, 0, none⟩ = some (.slice (some ⟨g2, 0, none⟩) 1 1) := fun x => At.cell x.h.2 0 _ rfl
  have r1 : ∀ x : U.In (fun x : World => At gd 23 #[.string n, .bool false, .bool false, .bool false, .bool from_, .bool ask, .bool onl, .int .i64 st, .int .i64 idle] x ∧ At gt 29 #[.slice (some ⟨g2, 0, none⟩) 1 1, .slice none 0 0, .slice (some ⟨g, 0, none⟩) 1 1] x), x.w.cell? ⟨gt, 1, none⟩ = some (.slice none 0 0) := fun x => At.cell x.h.2 1 _ rfl
  have r2 : ∀ x : U.In (fun x : World => At gd 23 #[.string n, .bool false, .bool false, .bool false, .bool from_, .bool ask, .bool onl, .int .i64 st, .int .i64 idle] x ∧ At gt 29 #[.slice (some ⟨g2, 0, none⟩) 1 1, .slice none 0 0, .slice (some ⟨g, 0, none⟩) 1 1] x), x.w.cell? ⟨gt, 2, none⟩ = some (.slice (some ⟨g, 0, none⟩) 1 1) := fun x => At.cell x.h.2 2 _ rfl
  haveI : Nonempty (U.In (fun x : World => At gd 23 #[.string n, .bool false, .bool false, .bool false, .bool from_, .bool ask, .bool onl, .int .i64 st, .int .i64 idle] x ∧ At gt 29 #[.slice (some ⟨g2, 0, none⟩) 1 1, .slice none 0 0, .slice (some ⟨g, 0, none⟩) 1 1] x)) := ⟨⟨_, ⟨HW.out.1, HW.out.2.1⟩⟩⟩
  refine U.wp_region_mix (S := fun x : World => At gd 23 #[.string n, .bool false, .bool false, .bool false, .bool from_, .bool ask, .bool onl, .int .i64 st, .int .i64 idle] x ∧ At gt 29 #[.slice (some ⟨g2, 0, none⟩) 1 1, .slice none 0 0, .slice (some ⟨g, 0, none⟩) 1 1] x) [0, 1] [2] [3] (by kernel_rfl) (by kernel_rfl) ⟨At.drewN HW.out.1 1, At.drewN HW.out.2.1 1⟩ ?_
  simp only [List.filterMap_cons, List.filterMap_nil, List.getElem?_toArray, List.getElem?_cons_succ, List.getElem?_cons_zero]
  change wpQuiet _ _ _ _ [_, _] _
  repeat go_big_quiet_step (fail)
  refine wpQuiet_nil ?_
  clear q0 q1 q2 q3 q4 q5 q6 q7 q8 r0 r1 r2 this
  have d0 := HW.out.1.free 0
  have dc0 : W.cell? ⟨gd, 0, none⟩ = some (.string n) := HW.out.1.cell 0 _ rfl
  have d1 := HW.out.1.free 1
  have dc1 : W.cell? ⟨gd, 1, none⟩ = some (.bool false) := HW.out.1.cell 1 _ rfl
  have d2 := HW.out.1.free 2
  have dc2 : W.cell? ⟨gd, 2, none⟩ = some (.bool false) := HW.out.1.cell 2 _ rfl
  have d3 := HW.out.1.free 3
  have dc3 : W.cell? ⟨gd, 3, none⟩ = some (.bool false) := HW.out.1.cell 3 _ rfl
  have d4 := HW.out.1.free 4
  have dc4 : W.cell? ⟨gd, 4, none⟩ = some (.bool from_) := HW.out.1.cell 4 _ rfl
  have d5 := HW.out.1.free 5
  have dc5 : W.cell? ⟨gd, 5, none⟩ = some (.bool ask) := HW.out.1.cell 5 _ rfl
  have d6 := HW.out.1.free 6
  have dc6 : W.cell? ⟨gd, 6, none⟩ = some (.bool onl) := HW.out.1.cell 6 _ rfl
  have d7 := HW.out.1.free 7
  have dc7 : W.cell? ⟨gd, 7, none⟩ = some (.int .i64 st) := HW.out.1.cell 7 _ rfl
  have d8 := HW.out.1.free 8
  have dc8 : W.cell? ⟨gd, 8, none⟩ = some (.int .i64 idle) := HW.out.1.cell 8 _ rfl
  have t0 := HW.out.2.1.free 0
  have tc0 : W.cell? ⟨gt, 0, none⟩ = some (.slice (some ⟨g2, 0, none⟩) 1 1) := HW.out.2.1.cell 0 _ rfl
  have t1 := HW.out.2.1.free 1
  have tc1 : W.cell? ⟨gt, 1, none⟩ = some (.slice none 0 0) := HW.out.2.1.cell 1 _ rfl
  have t2 := HW.out.2.1.free 2
  have tc2 : W.cell? ⟨gt, 2, none⟩ = some (.slice (some ⟨g, 0, none⟩) 1 1) := HW.out.2.1.cell 2 _ rfl
  refine U.wpParts_step (o := _) rfl ?_
  go_wp2
  simp only [setCell_self dc0, setCell_self dc1, setCell_self dc2, setCell_self dc3, setCell_self dc4, setCell_self dc5, setCell_self dc6, setCell_self dc7, setCell_self dc8]
  refine ⟨⟨⟨_, ⟨At.drewN HW.out.1 1, At.drewN HW.out.2.1 1⟩⟩, rfl⟩, ?_⟩
  unfold U.wpParts U.Ends
  simp only [List.filterMap_cons, List.filterMap_nil, List.getElem?_toArray, List.getElem?_cons_succ, List.getElem?_cons_zero]
  change wpList _ _ _ [_] _ _
  go_wp2
  simp only [setCell_self tc0, setCell_self tc1, setCell_self tc2]
  exact bodyPost_ret (res_ct rfl _ _ gd gt _ _ rfl rfl (At.drewN HW.out.1 1) (At.drewN HW.out.2.1 1) rfl rfl) rfl ⟨g2, g, rfl, At.drewN HW.out.2.2.1 1, At.drewN HW.out.2.2.2.1 1, U.below_drewN HW.out.2.2.2.2 1⟩
end Go.Proofs.YtofdiilfedjhkaaDoor.Sub

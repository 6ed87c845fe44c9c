/- subs.Row, Idle, Gone. (Printed by gen_subs.py.) -/
import Derived.Test.YtofdiilfedjhkaaDoorSubB
set_option linter.unusedVariables false
set_option linter.unusedSimpArgs false
namespace Go.Proofs.YtofdiilfedjhkaaDoor.Sub
open Go.RowKit U
def rowS (tt from_ : Bool) : ByteArray := if tt && from_ then ⟨#[98, 111, 116, 104]⟩ else if tt then ⟨#[116, 111]⟩ else if from_ then ⟨#[102, 114, 111, 109]⟩ else ⟨#[110, 111, 110, 101]⟩
set_option maxHeartbeats 1000000 in
theorem Row_any (n : ByteArray) (tt pend await from_ ask onl : Bool) (st idle : Int) (w : World) :
    Calls Tryd.prog 11 #[CV n tt pend await from_ ask onl st idle] w fun e w' => e = .returned (.string (rowS tt from_)) ∧ Below w.heap.size w w' := by
  cases tt <;> cases from_
  all_goals
    go_enter Tryd.func11, Tryd.ntmps11
    go_wp2
    go_ret
    exact ⟨rfl, (Below.refl _ w).alloc (Nat.le_refl _) _⟩
set_option maxHeartbeats 1000000 in
theorem Idle_any (n : ByteArray) (tt pend await from_ ask onl : Bool) (st idle : Int) (w : World) :
    Calls Tryd.prog 12 #[CV n tt pend await from_ ask onl st idle] w fun e w' => e = .returned (.bool (!tt && !pend && !await && !from_ && !ask && !onl)) ∧ Below w.heap.size w w' := by
  go_enter Tryd.func12, Tryd.ntmps12
  go_wp2
  all_goals
    go_ret
    refine ⟨?_, (Below.refl _ w).alloc (Nat.le_refl _) _⟩
    simp_all
abbrev unsS : ByteArray := ⟨#[117, 110, 115, 117, 98, 115, 99, 114, 105, 98, 101, 100]⟩
set_option maxHeartbeats 4000000 in
theorem Gone_on (n : ByteArray) (tt pend await from_ ask onl : Bool) (st idle : Int) (h : (tt || await) = true) (w : World) :
    Calls Tryd.prog 14 #[CV n tt pend await from_ ask onl st idle] w fun e w' => ∃ g, e = .returned (.tuple #[CV n false false false from_ ask onl st idle, .agg #[.slice (some ⟨g, 0, none⟩) 1 1, .slice none 0 0, .slice none 0 0]]) ∧ At g 9 #[.string unsS] w' ∧ Below w.heap.size w w' := by
  have HU := Lib.hid (unseen_any n tt pend await from_ ask onl st idle)
  have K := (((Box.start w).alloc 23 (CC n tt pend await from_ ask onl st idle)).alloc 23 ZC).alloc 29 ZT
  have HK := Lib.hid K; clear K
  cases tt
  · cases await
    · cases h
    · clear h
      go_enter Tryd.func14, Tryd.ntmps14
      go_wp2_with fail
      refine (HU.out _).mono ?_
      rintro e w5 ⟨rfl, hb5⟩
      obtain ⟨gd, hgd⟩ : ∃ g, g = w.heap.size + 1 := ⟨_, rfl⟩
      obtain ⟨gt, hgt⟩ : ∃ g, g = w.heap.size + 1 + 1 := ⟨_, rfl⟩
      have HN : Hid (¬ gd = gt ∧ ¬ gt = gd ∧ w.heap.size ≤ gd ∧ w.heap.size ≤ gt ∧ gd < w5.heap.size ∧ gt < w5.heap.size) := Lib.hid (by have := hb5.size; simp at this; omega)
      have HA : Hid (At gd 23 ZC w5 ∧ At gt 29 ZT w5 ∧ Below w.heap.size w w5) := Lib.hid
        ⟨by rw [hgd]; exact At.below (by simpa using HK.out.at 1 _ _ _ rfl) hb5, by rw [hgt]; exact At.below (by simpa using HK.out.at 0 _ _ _ rfl) hb5, HK.out.low.trans (hb5.mono HK.out.low.size)⟩
      rw [← hgt, ← hgd]
      clear hgd hgt hb5 HK
      have HE : Hid (At gd 23 (CC n false false false from_ ask onl st idle) (((((((((((((w5.alloc (.cells #[.string ⟨#[117, 110, 115, 117, 98, 115, 99, 114, 105, 98, 101, 100]⟩] 9)).setCell ⟨gd, 0, none⟩ (.string n)).setCell ⟨gd, 1, none⟩ (.bool false)).setCell ⟨gd, 2, none⟩ (.bool false)).setCell ⟨gd, 3, none⟩ (.bool false)).setCell ⟨gd, 4, none⟩ (.bool from_)).setCell ⟨gd, 5, none⟩ (.bool ask)).setCell ⟨gd, 6, none⟩ (.bool onl)).setCell ⟨gd, 7, none⟩ (.int .i64 st)).setCell ⟨gd, 8, none⟩ (.int .i64 idle)).setCell ⟨gt, 0, none⟩ (.slice (some ⟨w5.heap.size, 0, none⟩) 1 1)).setCell ⟨gt, 1, none⟩ (.slice none 0 0)).setCell ⟨gt, 2, none⟩ (.slice none 0 0)) ∧ At gt 29 #[.slice (some ⟨w5.heap.size, 0, none⟩) 1 1, .slice none 0 0, .slice none 0 0] (((((((((((((w5.alloc (.cells #[.string ⟨#[117, 110, 115, 117, 98, 115, 99, 114, 105, 98, 101, 100]⟩] 9)).setCell ⟨gd, 0, none⟩ (.string n)).setCell ⟨gd, 1, none⟩ (.bool false)).setCell ⟨gd, 2, none⟩ (.bool false)).setCell ⟨gd, 3, none⟩ (.bool false)).setCell ⟨gd, 4, none⟩ (.bool from_)).setCell ⟨gd, 5, none⟩ (.bool ask)).setCell ⟨gd, 6, none⟩ (.bool onl)).setCell ⟨gd, 7, none⟩ (.int .i64 st)).setCell ⟨gd, 8, none⟩ (.int .i64 idle)).setCell ⟨gt, 0, none⟩ (.slice (some ⟨w5.heap.size, 0, none⟩) 1 1)).setCell ⟨gt, 1, none⟩ (.slice none 0 0)).setCell ⟨gt, 2, none⟩ (.slice none 0 0)) ∧ At w5.heap.size 9 #[.string unsS] (((((((((((((w5.alloc (.cells #[.string ⟨#[117, 110, 115, 117, 98, 115, 99, 114, 105, 98, 101, 100]⟩] 9)).setCell ⟨gd, 0, none⟩ (.string n)).setCell ⟨gd, 1, none⟩ (.bool false)).setCell ⟨gd, 2, none⟩ (.bool false)).setCell ⟨gd, 3, none⟩ (.bool false)).setCell ⟨gd, 4, none⟩ (.bool from_)).setCell ⟨gd, 5, none⟩ (.bool ask)).setCell ⟨gd, 6, none⟩ (.bool onl)).setCell ⟨gd, 7, none⟩ (.int .i64 st)).setCell ⟨gd, 8, none⟩ (.int .i64 idle)).setCell ⟨gt, 0, none⟩ (.slice (some ⟨w5.heap.size, 0, none⟩) 1 1)).setCell ⟨gt, 1, none⟩ (.slice none 0 0)).setCell ⟨gt, 2, none⟩ (.slice none 0 0)) ∧ Below w.heap.size w (((((((((((((w5.alloc (.cells #[.string ⟨#[117, 110, 115, 117, 98, 115, 99, 114, 105, 98, 101, 100]⟩] 9)).setCell ⟨gd, 0, none⟩ (.string n)).setCell ⟨gd, 1, none⟩ (.bool false)).setCell ⟨gd, 2, none⟩ (.bool false)).setCell ⟨gd, 3, none⟩ (.bool false)).setCell ⟨gd, 4, none⟩ (.bool from_)).setCell ⟨gd, 5, none⟩ (.bool ask)).setCell ⟨gd, 6, none⟩ (.bool onl)).setCell ⟨gd, 7, none⟩ (.int .i64 st)).setCell ⟨gd, 8, none⟩ (.int .i64 idle)).setCell ⟨gt, 0, none⟩ (.slice (some ⟨w5.heap.size, 0, none⟩) 1 1)).setCell ⟨gt, 1, none⟩ (.slice none 0 0)).setCell ⟨gt, 2, none⟩ (.slice none 0 0))) := Lib.hid (by
        have hn := HN.out
        refine ⟨?_, ?_, ?_, ?_⟩
        · exact at_other3 _ _ _ (at_set9 _ _ _ _ _ _ _ _ _ _ _ _ _ _ _ _ _ _ (HA.out.1.alloc _)) hn.1
        · exact at_set3 _ _ _ _ _ _ (at_other9 _ _ _ _ _ _ _ _ _ (HA.out.2.1.alloc _) hn.2.1)
        · exact at_other3 _ _ _ (at_other9 _ _ _ _ _ _ _ _ _ (At.new w5 _ _) (by omega)) (by omega)
        · exact low_set3 _ _ _ (low_set9 _ _ _ _ _ _ _ _ _ (HA.out.2.2.alloc HA.out.2.2.size _) hn.2.2.1) hn.2.2.2.1)
      have d0 := (HA.out.1.alloc (.cells #[.string ⟨#[117, 110, 115, 117, 98, 115, 99, 114, 105, 98, 101, 100]⟩] 9)).free 0
      have dc0 := (HA.out.1.alloc (.cells #[.string ⟨#[117, 110, 115, 117, 98, 115, 99, 114, 105, 98, 101, 100]⟩] 9)).cell 0 _ rfl
      have d1 := (HA.out.1.alloc (.cells #[.string ⟨#[117, 110, 115, 117, 98, 115, 99, 114, 105, 98, 101, 100]⟩] 9)).free 1
      have dc1 := (HA.out.1.alloc (.cells #[.string ⟨#[117, 110, 115, 117, 98, 115, 99, 114, 105, 98, 101, 100]⟩] 9)).cell 1 _ rfl
      have d2 := (HA.out.1.alloc (.cells #[.string ⟨#[117, 110, 115, 117, 98, 115, 99, 114, 105, 98, 101, 100]⟩] 9)).free 2
      have dc2 := (HA.out.1.alloc (.cells #[.string ⟨#[117, 110, 115, 117, 98, 115, 99, 114, 105, 98, 101, 100]⟩] 9)).cell 2 _ rfl
      have d3 := (HA.out.1.alloc (.cells #[.string ⟨#[117, 110, 115, 117, 98, 115, 99, 114, 105, 98, 101, 100]⟩] 9)).free 3
      have dc3 := (HA.out.1.alloc (.cells #[.string ⟨#[117, 110, 115, 117, 98, 115, 99, 114, 105, 98, 101, 100]⟩] 9)).cell 3 _ rfl
      have d4 := (HA.out.1.alloc (.cells #[.string ⟨#[117, 110, 115, 117, 98, 115, 99, 114, 105, 98, 101, 100]⟩] 9)).free 4
      have dc4 := (HA.out.1.alloc (.cells #[.string ⟨#[117, 110, 115, 117, 98, 115, 99, 114, 105, 98, 101, 100]⟩] 9)).cell 4 _ rfl
      have d5 := (HA.out.1.alloc (.cells #[.string ⟨#[117, 110, 115, 117, 98, 115, 99, 114, 105, 98, 101, 100]⟩] 9)).free 5
      have dc5 := (HA.out.1.alloc (.cells #[.string ⟨#[117, 110, 115, 117, 98, 115, 99, 114, 105, 98, 101, 100]⟩] 9)).cell 5 _ rfl
      have d6 := (HA.out.1.alloc (.cells #[.string ⟨#[117, 110, 115, 117, 98, 115, 99, 114, 105, 98, 101, 100]⟩] 9)).free 6
      have dc6 := (HA.out.1.alloc (.cells #[.string ⟨#[117, 110, 115, 117, 98, 115, 99, 114, 105, 98, 101, 100]⟩] 9)).cell 6 _ rfl
      have d7 := (HA.out.1.alloc (.cells #[.string ⟨#[117, 110, 115, 117, 98, 115, 99, 114, 105, 98, 101, 100]⟩] 9)).free 7
      have dc7 := (HA.out.1.alloc (.cells #[.string ⟨#[117, 110, 115, 117, 98, 115, 99, 114, 105, 98, 101, 100]⟩] 9)).cell 7 _ rfl
      have d8 := (HA.out.1.alloc (.cells #[.string ⟨#[117, 110, 115, 117, 98, 115, 99, 114, 105, 98, 101, 100]⟩] 9)).free 8
      have dc8 := (HA.out.1.alloc (.cells #[.string ⟨#[117, 110, 115, 117, 98, 115, 99, 114, 105, 98, 101, 100]⟩] 9)).cell 8 _ rfl
      have t0 := (HA.out.2.1.alloc (.cells #[.string ⟨#[117, 110, 115, 117, 98, 115, 99, 114, 105, 98, 101, 100]⟩] 9)).free 0
      have tc0 := (HA.out.2.1.alloc (.cells #[.string ⟨#[117, 110, 115, 117, 98, 115, 99, 114, 105, 98, 101, 100]⟩] 9)).cell 0 _ rfl
      have t1 := (HA.out.2.1.alloc (.cells #[.string ⟨#[117, 110, 115, 117, 98, 115, 99, 114, 105, 98, 101, 100]⟩] 9)).free 1
      have tc1 := (HA.out.2.1.alloc (.cells #[.string ⟨#[117, 110, 115, 117, 98, 115, 99, 114, 105, 98, 101, 100]⟩] 9)).cell 1 _ rfl
      have t2 := (HA.out.2.1.alloc (.cells #[.string ⟨#[117, 110, 115, 117, 98, 115, 99, 114, 105, 98, 101, 100]⟩] 9)).free 2
      have tc2 := (HA.out.2.1.alloc (.cells #[.string ⟨#[117, 110, 115, 117, 98, 115, 99, 114, 105, 98, 101, 100]⟩] 9)).cell 2 _ rfl
      have ne1 : ¬ gd = gt := HN.out.1
      have ne2 : ¬ gt = gd := HN.out.2.1
      go_wp2
      exact bodyPost_ret (res_ct rfl _ _ gd gt _ _ rfl rfl HE.out.1 HE.out.2.1 rfl rfl) rfl ⟨_, rfl, HE.out.2.2⟩
  · clear h
    go_enter Tryd.func14, Tryd.ntmps14
    go_wp2_with fail
    refine (HU.out _).mono ?_
    rintro e w5 ⟨rfl, hb5⟩
    obtain ⟨gd, hgd⟩ : ∃ g, g = w.heap.size + 1 := ⟨_, rfl⟩
    obtain ⟨gt, hgt⟩ : ∃ g, g = w.heap.size + 1 + 1 := ⟨_, rfl⟩
    have HN : Hid (¬ gd = gt ∧ ¬ gt = gd ∧ w.heap.size ≤ gd ∧ w.heap.size ≤ gt ∧ gd < w5.heap.size ∧ gt < w5.heap.size) := Lib.hid (by have := hb5.size; simp at this; omega)
    have HA : Hid (At gd 23 ZC w5 ∧ At gt 29 ZT w5 ∧ Below w.heap.size w w5) := Lib.hid
      ⟨by rw [hgd]; exact At.below (by simpa using HK.out.at 1 _ _ _ rfl) hb5, by rw [hgt]; exact At.below (by simpa using HK.out.at 0 _ _ _ rfl) hb5, HK.out.low.trans (hb5.mono HK.out.low.size)⟩
    rw [← hgt, ← hgd]
    clear hgd hgt hb5 HK
    have HE : Hid (At gd 23 (CC n false false false from_ ask onl st idle) (((((((((((((w5.alloc (.cells #[.string ⟨#[117, 110, 115, 117, 98, 115, 99, 114, 105, 98, 101, 100]⟩] 9)).setCell ⟨gd, 0, none⟩ (.string n)).setCell ⟨gd, 1, none⟩ (.bool false)).setCell ⟨gd, 2, none⟩ (.bool false)).setCell ⟨gd, 3, none⟩ (.bool false)).setCell ⟨gd, 4, none⟩ (.bool from_)).setCell ⟨gd, 5, none⟩ (.bool ask)).setCell ⟨gd, 6, none⟩ (.bool onl)).setCell ⟨gd, 7, none⟩ (.int .i64 st)).setCell ⟨gd, 8, none⟩ (.int .i64 idle)).setCell ⟨gt, 0, none⟩ (.slice (some ⟨w5.heap.size, 0, none⟩) 1 1)).setCell ⟨gt, 1, none⟩ (.slice none 0 0)).setCell ⟨gt, 2, none⟩ (.slice none 0 0)) ∧ At gt 29 #[.slice (some ⟨w5.heap.size, 0, none⟩) 1 1, .slice none 0 0, .slice none 0 0] (((((((((((((w5.alloc (.cells #[.string ⟨#[117, 110, 115, 117, 98, 115, 99, 114, 105, 98, 101, 100]⟩] 9)).setCell ⟨gd, 0, none⟩ (.string n)).setCell ⟨gd, 1, none⟩ (.bool false)).setCell ⟨gd, 2, none⟩ (.bool false)).setCell ⟨gd, 3, none⟩ (.bool false)).setCell ⟨gd, 4, none⟩ (.bool from_)).setCell ⟨gd, 5, none⟩ (.bool ask)).setCell ⟨gd, 6, none⟩ (.bool onl)).setCell ⟨gd, 7, none⟩ (.int .i64 st)).setCell ⟨gd, 8, none⟩ (.int .i64 idle)).setCell ⟨gt, 0, none⟩ (.slice (some ⟨w5.heap.size, 0, none⟩) 1 1)).setCell ⟨gt, 1, none⟩ (.slice none 0 0)).setCell ⟨gt, 2, none⟩ (.slice none 0 0)) ∧ At w5.heap.size 9 #[.string unsS] (((((((((((((w5.alloc (.cells #[.string ⟨#[117, 110, 115, 117, 98, 115, 99, 114, 105, 98, 101, 100]⟩] 9)).setCell ⟨gd, 0, none⟩ (.string n)).setCell ⟨gd, 1, none⟩ (.bool false)).setCell ⟨gd, 2, none⟩ (.bool false)).setCell ⟨gd, 3, none⟩ (.bool false)).setCell ⟨gd, 4, none⟩ (.bool from_)).setCell ⟨gd, 5, none⟩ (.bool ask)).setCell ⟨gd, 6, none⟩ (.bool onl)).setCell ⟨gd, 7, none⟩ (.int .i64 st)).setCell ⟨gd, 8, none⟩ (.int .i64 idle)).setCell ⟨gt, 0, none⟩ (.slice (some ⟨w5.heap.size, 0, none⟩) 1 1)).setCell ⟨gt, 1, none⟩ (.slice none 0 0)).setCell ⟨gt, 2, none⟩ (.slice none 0 0)) ∧ Below w.heap.size w (((((((((((((w5.alloc (.cells #[.string ⟨#[117, 110, 115, 117, 98, 115, 99, 114, 105, 98, 101, 100]⟩] 9)).setCell ⟨gd, 0, none⟩ (.string n)).setCell ⟨gd, 1, none⟩ (.bool false)).setCell ⟨gd, 2, none⟩ (.bool false)).setCell ⟨gd, 3, none⟩ (.bool false)).setCell ⟨gd, 4, none⟩ (.bool from_)).setCell ⟨gd, 5, none⟩ (.bool ask)).setCell ⟨gd, 6, none⟩ (.bool onl)).setCell ⟨gd, 7, none⟩ (.int .i64 st)).setCell ⟨gd, 8, none⟩ (.int .i64 idle)).setCell ⟨gt, 0, none⟩ (.slice (some ⟨w5.heap.size, 0, none⟩) 1 1)).setCell ⟨gt, 1, none⟩ (.slice none 0 0)).setCell ⟨gt, 2, none⟩ (.slice none 0 0))) := Lib.hid (by
      have hn := HN.out
      refine ⟨?_, ?_, ?_, ?_⟩
      · exact at_other3 _ _ _ (at_set9 _ _ _ _ _ _ _ _ _ _ _ _ _ _ _ _ _ _ (HA.out.1.alloc _)) hn.1
      · exact at_set3 _ _ _ _ _ _ (at_other9 _ _ _ _ _ _ _ _ _ (HA.out.2.1.alloc _) hn.2.1)
      · exact at_other3 _ _ _ (at_other9 _ _ _ _ _ _ _ _ _ (At.new w5 _ _) (by omega)) (by omega)
      · exact low_set3 _ _ _ (low_set9 _ _ _ _ _ _ _ _ _ (HA.out.2.2.alloc HA.out.2.2.size _) hn.2.2.1) hn.2.2.2.1)
    have d0 := (HA.out.1.alloc (.cells #[.string ⟨#[117, 110, 115, 117, 98, 115, 99, 114, 105, 98, 101, 100]⟩] 9)).free 0
    have dc0 := (HA.out.1.alloc (.cells #[.string ⟨#[117, 110, 115, 117, 98, 115, 99, 114, 105, 98, 101, 100]⟩] 9)).cell 0 _ rfl
    have d1 := (HA.out.1.alloc (.cells #[.string ⟨#[117, 110, 115, 117, 98, 115, 99, 114, 105, 98, 101, 100]⟩] 9)).free 1
    have dc1 := (HA.out.1.alloc (.cells #[.string ⟨#[117, 110, 115, 117, 98, 115, 99, 114, 105, 98, 101, 100]⟩] 9)).cell 1 _ rfl
    have d2 := (HA.out.1.alloc (.cells #[.string ⟨#[117, 110, 115, 117, 98, 115, 99, 114, 105, 98, 101, 100]⟩] 9)).free 2
    have dc2 := (HA.out.1.alloc (.cells #[.string ⟨#[117, 110, 115, 117, 98, 115, 99, 114, 105, 98, 101, 100]⟩] 9)).cell 2 _ rfl
    have d3 := (HA.out.1.alloc (.cells #[.string ⟨#[117, 110, 115, 117, 98, 115, 99, 114, 105, 98, 101, 100]⟩] 9)).free 3
    have dc3 := (HA.out.1.alloc (.cells #[.string ⟨#[117, 110, 115, 117, 98, 115, 99, 114, 105, 98, 101, 100]⟩] 9)).cell 3 _ rfl
    have d4 := (HA.out.1.alloc (.cells #[.string ⟨#[117, 110, 115, 117, 98, 115, 99, 114, 105, 98, 101, 100]⟩] 9)).free 4
    have dc4 := (HA.out.1.alloc (.cells #[.string ⟨#[117, 110, 115, 117, 98, 115, 99, 114, 105, 98, 101, 100]⟩] 9)).cell 4 _ rfl
    have d5 := (HA.out.1.alloc (.cells #[.string ⟨#[117, 110, 115, 117, 98, 115, 99, 114, 105, 98, 101, 100]⟩] 9)).free 5
    have dc5 := (HA.out.1.alloc (.cells #[.string ⟨#[117, 110, 115, 117, 98, 115, 99, 114, 105, 98, 101, 100]⟩] 9)).cell 5 _ rfl
    have d6 := (HA.out.1.alloc (.cells #[.string ⟨#[117, 110, 115, 117, 98, 115, 99, 114, 105, 98, 101, 100]⟩] 9)).free 6
    have dc6 := (HA.out.1.alloc (.cells #[.string ⟨#[117, 110, 115, 117, 98, 115, 99, 114, 105, 98, 101, 100]⟩] 9)).cell 6 _ rfl
    have d7 := (HA.out.1.alloc (.cells #[.string ⟨#[117, 110, 115, 117, 98, 115, 99, 114, 105, 98, 101, 100]⟩] 9)).free 7
    have dc7 := (HA.out.1.alloc (.cells #[.string ⟨#[117, 110, 115, 117, 98, 115, 99, 114, 105, 98, 101, 100]⟩] 9)).cell 7 _ rfl
    have d8 := (HA.out.1.alloc (.cells #[.string ⟨#[117, 110, 115, 117, 98, 115, 99, 114, 105, 98, 101, 100]⟩] 9)).free 8
    have dc8 := (HA.out.1.alloc (.cells #[.string ⟨#[117, 110, 115, 117, 98, 115, 99, 114, 105, 98, 101, 100]⟩] 9)).cell 8 _ rfl
    have t0 := (HA.out.2.1.alloc (.cells #[.string ⟨#[117, 110, 115, 117, 98, 115, 99, 114, 105, 98, 101, 100]⟩] 9)).free 0
    have tc0 := (HA.out.2.1.alloc (.cells #[.string ⟨#[117, 110, 115, 117, 98, 115, 99, 114, 105, 98, 101, 100]⟩] 9)).cell 0 _ rfl
    have t1 := (HA.out.2.1.alloc (.cells #[.string ⟨#[117, 110, 115, 117, 98, 115, 99, 114, 105, 98, 101, 100]⟩] 9)).free 1
    have tc1 := (HA.out.2.1.alloc (.cells #[.string ⟨#[117, 110, 115, 117, 98, 115, 99, 114, 105, 98, 101, 100]⟩] 9)).cell 1 _ rfl
    have t2 := (HA.out.2.1.alloc (.cells #[.string ⟨#[117, 110, 115, 117, 98, 115, 99, 114, 105, 98, 101, 100]⟩] 9)).free 2
    have tc2 := (HA.out.2.1.alloc (.cells #[.string ⟨#[117, 110, 115, 117, 98, 115, 99, 114, 105, 98, 101, 100]⟩] 9)).cell 2 _ rfl
    have ne1 : ¬ gd = gt := HN.out.1
    have ne2 : ¬ gt = gd := HN.out.2.1
    go_wp2
    exact bodyPost_ret (res_ct rfl _ _ gd gt _ _ rfl rfl HE.out.1 HE.out.2.1 rfl rfl) rfl ⟨_, rfl, HE.out.2.2⟩
end Go.Proofs.YtofdiilfedjhkaaDoor.Sub

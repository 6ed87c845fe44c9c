/- subs.seen. -/
import Derived.Test.YtofdiilfedjhkaaDoorSubA
set_option linter.unusedVariables false
set_option linter.unusedSimpArgs false
namespace Go.Proofs.YtofdiilfedjhkaaDoor.Sub
open Go.RowKit U
abbrev sS : ByteArray := ⟨#[115, 117, 98, 115, 99, 114, 105, 98, 101, 100]⟩
abbrev ZC : Array Value := #[.string ⟨#[]⟩, .bool false, .bool false, .bool false, .bool false, .bool false, .bool false, .int .i64 0, .int .i64 0]
abbrev ZT : Array Value := #[.slice none 0 0, .slice none 0 0, .slice none 0 0]
theorem Soft.weaken {w : World} {B B' : Nat} {v : Value} {n : Nat} {xs : List Value} (h : Soft w B v n xs) (hB : B' ≤ B) : Soft w B' v n xs := by
  refine ⟨h.1, ?_⟩
  rcases h.2 with h2 | ⟨g, cap, e1, e2, e3⟩
  · exact .inl h2
  · exact .inr ⟨g, cap, e1, Nat.le_trans hB e2, e3⟩
theorem soft_new (w : World) (T : TypeId) (xs : List Value) (h2 : xs.length ≤ maxLen) : Soft (w.alloc (.cells xs.toArray T)) w.heap.size (.slice (some ⟨w.heap.size, 0, none⟩) xs.length xs.length) xs.length xs := by
  have ha := At.new w T xs.toArray
  refine ⟨rfl, .inr ⟨w.heap.size, xs.length, rfl, Nat.le_refl _, ha.lt, Nat.le_refl _, h2, fun j u hj => ha.cell j u (by simpa using hj), fun j hj => ⟨?_, ha.free j⟩⟩⟩
  rw [ha.cell j xs[j] (by simp [hj])]; rfl
theorem in_world {P : Program} {id : Nat} {ops : Array Oper} {b : Bool} {Q : Exit → Act → World → Prop} {a : Act} {W : World} (F : World → Prop) (hF : F W) (k : ∀ WS : World, F WS → (Code.region id ops b).wp P Q a WS) : (Code.region id ops b).wp P Q a W := k W hF
/-- shown in whatever state. -/
theorem shown_any (n : ByteArray) (tt pend await from_ ask onl : Bool) (st idle : Int) (v : Value) (B m : Nat) (xs : List Value) (w : World) (hv : Soft w B v m xs) (hB : B ≤ w.heap.size) (hm : m ≤ 1000) :
    Calls Tryd.prog 18 #[CV n tt pend await from_ ask onl st idle, v] w (ShownPost B v m xs (tt && onl) w) := by
  cases tt with
  | false => exact shown_no n false pend await from_ ask onl st idle v B m xs (.inl rfl) w hv
  | true =>
    cases onl with
    | false => exact shown_no n true pend await from_ ask false st idle v B m xs (.inr rfl) w hv
    | true => exact shown_yes n pend await from_ ask st idle v B m xs w hv hB hm
def SeenPost (n : ByteArray) (from_ ask onl : Bool) (st idle : Int) (w : World) (e : Ending) (w' : World) : Prop :=
  ∃ p, e = .returned (.tuple #[CV n true false false from_ ask onl st idle, .agg #[p, .slice none 0 0, .slice none 0 0]]) ∧ Soft w' w.heap.size p (1 + (more onl).length) (.string sS :: more onl) ∧ Below w.heap.size w w'
set_option maxHeartbeats 4000000 in
theorem seen_any (n : ByteArray) (tt pend await from_ ask onl : Bool) (st idle : Int) (w : World) :
    Calls Tryd.prog 19 #[CV n tt pend await from_ ask onl st idle] w (SeenPost n from_ ask onl st idle w) := by
  have K := (((Box.start w).alloc 23 (CC n true false false from_ ask onl st idle)).alloc 23 ZC).alloc 29 ZT
  have HK := Lib.hid K; clear K
  go_enter Tryd.func19, Tryd.ntmps19
  go_wp2
  refine in_world (fun x => At w.heap.size 23 (CC n true false false from_ ask onl st idle) x ∧ At (w.heap.size + 1) 23 ZC x ∧ At (w.heap.size + 1 + 1) 29 ZT x ∧ Below w.heap.size w x)
    ⟨HK.out.at 2 _ _ _ rfl, by simpa using HK.out.at 1 _ _ _ rfl, by simpa using HK.out.at 0 _ _ _ rfl, HK.out.low⟩ (fun W hW => ?_)
  obtain ⟨gc, hgc⟩ : ∃ g, g = w.heap.size := ⟨_, rfl⟩
  obtain ⟨gd, hgd⟩ : ∃ g, g = w.heap.size + 1 := ⟨_, rfl⟩
  obtain ⟨gt, hgt⟩ : ∃ g, g = w.heap.size + 1 + 1 := ⟨_, rfl⟩
  have HNE : Hid (¬ gc = gd ∧ ¬ gc = gt ∧ ¬ gd = gt ∧ ¬ gt = gd ∧ w.heap.size ≤ gc ∧ w.heap.size ≤ gd ∧ w.heap.size ≤ gt) := Lib.hid (by omega)
  have HW : Hid (At gc 23 (CC n true false false from_ ask onl st idle) W ∧ At gd 23 ZC W ∧ At gt 29 ZT W ∧ Below w.heap.size w W) := Lib.hid (by rw [hgc, hgd, hgt]; exact hW)
  rw [← hgt, ← hgd]
  rw [show (Value.pointer (some ⟨w.heap.size, 0, none⟩)) = .pointer (some ⟨gc, 0, none⟩) by rw [hgc], show (Value.pointer (some ⟨w.heap.size, 1, none⟩)) = .pointer (some ⟨gc, 1, none⟩) by rw [hgc], show (Value.pointer (some ⟨w.heap.size, 2, none⟩)) = .pointer (some ⟨gc, 2, none⟩) by rw [hgc], show (Value.pointer (some ⟨w.heap.size, 3, none⟩)) = .pointer (some ⟨gc, 3, none⟩) by rw [hgc]]
  clear hW HK hgc hgd hgt
  have q : ∀ (i : Nat) (v : Value), (CC n true false false from_ ask onl st idle)[i]? = some v → ∀ x : U.In (At gc 23 (CC n true false false from_ ask onl st idle)), x.w.cell? ⟨gc, i, none⟩ = some v := fun i v h x => At.cell x.h i v h
  have q0 := q 0 _ rfl
  have q1 := q 1 _ rfl
  have q2 := q 2 _ rfl
  have q3 := q 3 _ rfl
  have q4 := q 4 _ rfl
  have q5 := q 5 _ rfl
  have q6 := q 6 _ rfl
  have q7 := q 7 _ rfl
  have q8 := q 8 _ rfl
  haveI : Nonempty (U.In (At gc 23 (CC n true false false from_ ask onl st idle))) := ⟨⟨_, HW.out.1⟩⟩
  clear q
  refine U.wp_region_mixA (S := At gc 23 (CC n true false false from_ ask onl st idle)) [0, 1] [2, 3] [0, 1, 2, 3, 4] 3 #[true, true, true, true, false, false, false] (by kernel_rfl) (by kernel_rfl) (At.drewN HW.out.1 1) ?_
  simp only [List.filterMap_cons, List.filterMap_nil, List.getElem?_toArray, List.getElem?_cons_succ, List.getElem?_cons_zero]
  change wpQuiet _ _ _ _ [_, _] _
  repeat go_big_quiet_step (fail)
  refine wpQuiet_nil ?_
  clear q0 q1 q2 q3 q4 q5 q6 q7 q8 this
  unfold U.wpPartsA
  refine U.wpOp_step (o := _) rfl ?_
  go_wp2
  have HA1 : Hid (At gc 23 (CC n true false false from_ ask onl st idle) (W.alloc (.cells #[.string sS] 9)).drew ∧ At gd 23 ZC (W.alloc (.cells #[.string sS] 9)).drew ∧ At gt 29 ZT (W.alloc (.cells #[.string sS] 9)).drew ∧ Below w.heap.size w (W.alloc (.cells #[.string sS] 9)).drew ∧ Soft (W.alloc (.cells #[.string sS] 9)).drew W.heap.size (.slice (some ⟨W.heap.size, 0, none⟩) 1 1) 1 [.string sS]) := Lib.hid
    ⟨At.drewN (HW.out.1.alloc _) 1, At.drewN (HW.out.2.1.alloc _) 1, At.drewN (HW.out.2.2.1.alloc _) 1, U.below_drewN (HW.out.2.2.2.alloc HW.out.2.2.2.size _) 1, (soft_new W 9 [.string sS] (by decide)).drewN 1⟩
  refine ⟨⟨⟨_, HA1.out.1⟩, rfl⟩, ?_⟩
  have hsz : W.heap.size ≤ ((W.alloc (.cells #[.string sS] 9)).drew).heap.size := by simp [h_drew]
  obtain ⟨W1, hW1⟩ : ∃ W1, W1 = (W.alloc (.cells #[.string sS] 9)).drew := ⟨_, rfl⟩
  obtain ⟨gl, hgl⟩ : ∃ g, g = W.heap.size := ⟨_, rfl⟩
  have HGL : Hid (gd < gl ∧ gt < gl ∧ w.heap.size ≤ gl ∧ gc < gl) := Lib.hid (by have h1 := HW.out.2.1.lt; have h2 := HW.out.2.2.1.lt; have h3 := HW.out.1.lt; have h4 := HW.out.2.2.2.size; omega)
  rw [← hW1] at HA1 hsz ⊢
  rw [← hgl] at HA1 hsz ⊢
  clear hW1 hgl HW
  unfold U.wpPartsA
  refine U.wpOp_step (o := _) rfl ?_
  go_wp2_with fail
  refine (shown_any n true false false from_ ask onl st idle _ gl 1 [.string sS] W1 HA1.out.2.2.2.2 hsz (by omega)).mono ?_
  rintro e w5 ⟨p, rfl, hs5, hg5⟩
  have hb5 : Below W1.heap.size W1 w5 → True := fun _ => trivial
  have HA5 : Hid (At gc 23 (CC n true false false from_ ask onl st idle) w5 ∧ At gd 23 ZC w5 ∧ At gt 29 ZT w5 ∧ Below w.heap.size w w5 ∧ Soft w5 gl p (1 + (more onl).length) (.string sS :: more onl)) := Lib.hid (by
    have hk : ∀ g T cs, g < gl → At g T cs W1 → At g T cs w5 := fun g T cs hlt h => (hg5.block g h.lt (fun e => by injection e with e; have e' : g = gl := e; omega)).trans h
    have hh := HGL.out
    refine ⟨hk _ _ _ hh.2.2.2 HA1.out.1, hk _ _ _ hh.1 HA1.out.2.1, hk _ _ _ hh.2.1 HA1.out.2.2.1, ?_, hs5⟩
    exact HA1.out.2.2.2.1.grown hg5 HA1.out.2.2.2.1.size (fun b hb => by injection hb with hb; rw [← hb]; exact hh.2.2.1))
  clear hs5 hg5 hb5 hsz HA1
  go_wp2
  refine ⟨⟨⟨_, HA5.out.1⟩, rfl⟩, ?_⟩
  have HE : Hid (At gd 23 (CC n true false false from_ ask onl st idle) ((((((((((((w5.setCell ⟨gd, 0, none⟩ (.string n)).setCell ⟨gd, 1, none⟩ (.bool true)).setCell ⟨gd, 2, none⟩ (.bool false)).setCell ⟨gd, 3, none⟩ (.bool false)).setCell ⟨gd, 4, none⟩ (.bool from_)).setCell ⟨gd, 5, none⟩ (.bool ask)).setCell ⟨gd, 6, none⟩ (.bool onl)).setCell ⟨gd, 7, none⟩ (.int .i64 st)).setCell ⟨gd, 8, none⟩ (.int .i64 idle)).setCell ⟨gt, 0, none⟩ (p)).setCell ⟨gt, 1, none⟩ (.slice none 0 0)).setCell ⟨gt, 2, none⟩ (.slice none 0 0)) ∧ At gt 29 #[p, .slice none 0 0, .slice none 0 0] ((((((((((((w5.setCell ⟨gd, 0, none⟩ (.string n)).setCell ⟨gd, 1, none⟩ (.bool true)).setCell ⟨gd, 2, none⟩ (.bool false)).setCell ⟨gd, 3, none⟩ (.bool false)).setCell ⟨gd, 4, none⟩ (.bool from_)).setCell ⟨gd, 5, none⟩ (.bool ask)).setCell ⟨gd, 6, none⟩ (.bool onl)).setCell ⟨gd, 7, none⟩ (.int .i64 st)).setCell ⟨gd, 8, none⟩ (.int .i64 idle)).setCell ⟨gt, 0, none⟩ (p)).setCell ⟨gt, 1, none⟩ (.slice none 0 0)).setCell ⟨gt, 2, none⟩ (.slice none 0 0)) ∧ Soft ((((((((((((w5.setCell ⟨gd, 0, none⟩ (.string n)).setCell ⟨gd, 1, none⟩ (.bool true)).setCell ⟨gd, 2, none⟩ (.bool false)).setCell ⟨gd, 3, none⟩ (.bool false)).setCell ⟨gd, 4, none⟩ (.bool from_)).setCell ⟨gd, 5, none⟩ (.bool ask)).setCell ⟨gd, 6, none⟩ (.bool onl)).setCell ⟨gd, 7, none⟩ (.int .i64 st)).setCell ⟨gd, 8, none⟩ (.int .i64 idle)).setCell ⟨gt, 0, none⟩ (p)).setCell ⟨gt, 1, none⟩ (.slice none 0 0)).setCell ⟨gt, 2, none⟩ (.slice none 0 0)) w.heap.size p (1 + (more onl).length) (.string sS :: more onl) ∧ Below w.heap.size w ((((((((((((w5.setCell ⟨gd, 0, none⟩ (.string n)).setCell ⟨gd, 1, none⟩ (.bool true)).setCell ⟨gd, 2, none⟩ (.bool false)).setCell ⟨gd, 3, none⟩ (.bool false)).setCell ⟨gd, 4, none⟩ (.bool from_)).setCell ⟨gd, 5, none⟩ (.bool ask)).setCell ⟨gd, 6, none⟩ (.bool onl)).setCell ⟨gd, 7, none⟩ (.int .i64 st)).setCell ⟨gd, 8, none⟩ (.int .i64 idle)).setCell ⟨gt, 0, none⟩ (p)).setCell ⟨gt, 1, none⟩ (.slice none 0 0)).setCell ⟨gt, 2, none⟩ (.slice none 0 0))) := Lib.hid (by
    have hh := HGL.out
    have hn := HNE.out
    have hp : ∀ b, p.ownBlock = some b → gl ≤ b := fun b hb => by
      obtain ⟨g', cp', e1, e2, _⟩ := HA5.out.2.2.2.2.form (by omega)
      rw [e1] at hb; injection hb with hb; have hb' : g' = b := hb; omega
    have hpd : ∀ b, p.ownBlock = some b → some gd ≠ some b := fun b hb e => by injection e with e; have := hp b hb; omega
    have hpt : ∀ b, p.ownBlock = some b → some gt ≠ some b := fun b hb e => by injection e with e; have := hp b hb; omega
    refine ⟨?_, ?_, Soft.weaken ?_ hh.2.2.1, ?_⟩
    · exact at_other3 _ _ _ (at_set9 _ _ _ _ _ _ _ _ _ _ _ _ _ _ _ _ _ _ HA5.out.2.1) hn.2.2.1
    · exact at_set3 _ _ _ _ _ _ (at_other9 _ _ _ _ _ _ _ _ _ HA5.out.2.2.1 hn.2.2.2.1)
    · exact soft_set3 _ _ _ (soft_set9 _ _ _ _ _ _ _ _ _ HA5.out.2.2.2.2 hpd) hpt
    · exact low_set3 _ _ _ (low_set9 _ _ _ _ _ _ _ _ _ HA5.out.2.2.2.1 hn.2.2.2.2.2.1) hn.2.2.2.2.2.2)
  have d0 := HA5.out.2.1.free 0
  have dc0 := HA5.out.2.1.cell 0 _ rfl
  have d1 := HA5.out.2.1.free 1
  have dc1 := HA5.out.2.1.cell 1 _ rfl
  have d2 := HA5.out.2.1.free 2
  have dc2 := HA5.out.2.1.cell 2 _ rfl
  have d3 := HA5.out.2.1.free 3
  have dc3 := HA5.out.2.1.cell 3 _ rfl
  have d4 := HA5.out.2.1.free 4
  have dc4 := HA5.out.2.1.cell 4 _ rfl
  have d5 := HA5.out.2.1.free 5
  have dc5 := HA5.out.2.1.cell 5 _ rfl
  have d6 := HA5.out.2.1.free 6
  have dc6 := HA5.out.2.1.cell 6 _ rfl
  have d7 := HA5.out.2.1.free 7
  have dc7 := HA5.out.2.1.cell 7 _ rfl
  have d8 := HA5.out.2.1.free 8
  have dc8 := HA5.out.2.1.cell 8 _ rfl
  have t0 := HA5.out.2.2.1.free 0
  have tc0 := HA5.out.2.2.1.cell 0 _ rfl
  have t1 := HA5.out.2.2.1.free 1
  have tc1 := HA5.out.2.2.1.cell 1 _ rfl
  have t2 := HA5.out.2.2.1.free 2
  have tc2 := HA5.out.2.2.1.cell 2 _ rfl
  have ne1 : ¬ gd = gt := HNE.out.2.2.1
  have ne2 : ¬ gt = gd := HNE.out.2.2.2.1
  obtain ⟨g', cp', rfl, -⟩ := HA5.out.2.2.2.2.form (by omega)
  clear HA5
  unfold U.wpPartsA
  refine U.wpAnyM_two (i := 4) (j := 5) (L1 := #[true, true, true, true, true, false, false]) (L2 := #[true, true, true, true, false, true, false]) (by kernel_rfl) (by kernel_rfl) (by kernel_rfl) ?_ ?_
  · refine U.wpOp_step (o := _) rfl ?_
    go_wp2
    refine ⟨fun _ h => h, ?_⟩
    refine U.wpAnyM_one (i := 5) (L' := #[true, true, true, true, true, true, false]) (by kernel_rfl) (by kernel_rfl) ?_
    refine U.wpOp_step (o := _) rfl ?_
    go_wp2
    refine ⟨fun h => by first | cases h | exact fun h => h, ?_⟩
    refine U.wpAnyM_one (i := 6) (L' := #[true, true, true, true, true, true, true]) (by kernel_rfl) (by kernel_rfl) ?_
    refine U.wpOp_step (o := _) rfl ?_
    go_wp2
    refine ⟨fun h => by first | cases h | exact fun h => h, ?_⟩
    refine U.wpAnyM_end (by kernel_rfl) ?_
    unfold U.Ends
    go_wp2
    exact bodyPost_ret (res_ct rfl _ _ gd gt _ _ rfl rfl HE.out.1 HE.out.2.1 rfl rfl) rfl ⟨_, rfl, HE.out.2.2⟩
  · refine U.wpOp_step (o := _) rfl ?_
    go_wp2
    refine ⟨fun h => (by cases h), ?_⟩
    refine U.wpAnyM_one (i := 4) (L' := #[true, true, true, true, true, true, false]) (by kernel_rfl) (by kernel_rfl) ?_
    refine U.wpOp_step (o := _) rfl ?_
    go_wp2
    refine ⟨fun _ h => h, ?_⟩
    refine U.wpAnyM_one (i := 6) (L' := #[true, true, true, true, true, true, true]) (by kernel_rfl) (by kernel_rfl) ?_
    refine U.wpOp_step (o := _) rfl ?_
    go_wp2
    refine ⟨fun h => by first | cases h | exact fun h => h, ?_⟩
    refine U.wpAnyM_end (by kernel_rfl) ?_
    unfold U.Ends
    go_wp2
    exact bodyPost_ret (res_ct rfl _ _ gd gt _ _ rfl rfl HE.out.1 HE.out.2.1 rfl rfl) rfl ⟨_, rfl, HE.out.2.2⟩
end Go.Proofs.YtofdiilfedjhkaaDoor.Sub

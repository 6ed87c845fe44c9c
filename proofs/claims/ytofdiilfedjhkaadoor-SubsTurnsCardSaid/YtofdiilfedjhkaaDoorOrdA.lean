/- A region that draws its order: heads that read, then parts in one order, then the rest in whatever order is picked. -/
import Derived.Test.YtofdiilfedjhkaaDoorOrd
set_option linter.unusedVariables false
set_option linter.unusedSimpArgs false
namespace Go.Proofs.YtofdiilfedjhkaaDoor.U
open Go.RowKit
section
variable {P : Program} {md : Region.Mode} {ops : Array Oper} {Q : Exit → Act → World → Prop} {flag : Nat → Bool} {C : World → Prop}
theorem getD_set_keep (l : Array Bool) (i j : Nat) (h : l.getD j true = true) : (l.setIfInBounds i true).getD j true = true := by
  by_cases hij : i = j
  · subst hij
    by_cases hlt : i < l.size
    · simp [Array.getElem?_setIfInBounds, hlt]
    · simp [Array.getElem?_setIfInBounds, hlt]
  · rw [getD_set_ne true hij]; exact h
theorem wpAnyM_of_any : ∀ (n : Nat) (listed : Array Bool) (a : Act) (w : World), (∀ i, flag i = true → listed.getD i true = true) → wpAny P md ops Q n listed a w → wpAnyM P md ops Q flag C n listed a w
  | 0, _, _, _, _, h => h
  | n + 1, listed, a, w, hf, h => ⟨h.1, fun i hi => wpOp_mono (fun a' w' h' =>
      ⟨fun hfl => (by have h1 := hf i hfl; rw [(mem_ready.1 hi).1] at h1; cases h1), wpAnyM_of_any n _ a' w' (fun j hj => getD_set_keep _ _ _ (hf j hj)) h'⟩) (h.2 i hi)⟩
def ordMid (md : Region.Mode) (ops : Array Oper) (k : Array Bool → Bool) : List Nat → Array Bool → Bool
  | [], l => k l
  | i :: r, l => decide (Region.ready md ops l = [i]) && ordMid md ops k r (l.setIfInBounds i true)
/-- Each of t1 by itself, C shown anew behind it; then the rest in whatever order, C shown anew behind what is flagged. -/
def wpPartsA (P : Program) (md : Region.Mode) (ops : Array Oper) (Q : Exit → Act → World → Prop) (flag : Nat → Bool) (C : World → Prop) (n : Nat) (L : Array Bool) : List Nat → Act → World → Prop
  | [], a, w => wpAnyM P md ops Q flag C n L a w
  | i :: r, a, w => wpOp P ops Q i (fun a' w' => C w' ∧ wpPartsA P md ops Q flag C n L r a' w') a w
theorem wpAnyM_partsA {n : Nat} {L : Array Bool} : ∀ (tl : List Nat) (listed : Array Bool) (a : Act) (w : World), ordMid md ops (fun l => decide (l = L)) tl listed = true →
    wpPartsA P md ops Q flag C n L tl a w → wpAnyM P md ops Q flag C (tl.length + n) listed a w
  | [], listed, a, w, hB, h => by
    rw [List.length_nil, Nat.zero_add]
    have : listed = L := by simpa [ordMid] using hB
    rw [this]
    exact h
  | i :: r, listed, a, w, hB, h => by
    simp only [ordMid, Bool.and_eq_true, decide_eq_true_eq] at hB
    rw [show (i :: r).length + n = (r.length + n) + 1 by simp only [List.length_cons]; omega]
    refine ⟨fun h0 => (by rw [hB.1] at h0; cases h0), fun j hj => ?_⟩
    rw [hB.1, List.mem_singleton] at hj
    subst hj
    exact wpOp_mono (fun a' w' h' => ⟨fun _ _ => h'.1, wpAnyM_partsA r _ a' w' hB.2 h'.2⟩) h
def ordBA (md : Region.Mode) (ops : Array Oper) (hd t1 fl : List Nat) (n : Nat) (L : Array Bool) : Bool :=
  Region.noSelect ops && decide (hd.length + (t1.length + n) = ops.size) && ordHead md ops (fun l => ordMid md ops (fun l => decide (l = L)) t1 l) hd (Array.replicate ops.size false) &&
  (List.range ops.size).all (fun j => fl.contains j || hd.all fun i => kindAt ops plainOp i || waitsT md ops ops.size j i)
/-- The reads hd first, in whatever world holds S; then t1, S shown anew behind each; then the rest, in whatever order is picked, S shown anew behind what fl flags. -/
theorem wp_region_mixA {S : World → Prop} {id : Nat} {a : Act} {w : World} {l : List Oper} (hd t1 fl : List Nat) (n : Nat) (L : Array Bool) (hm : P.follows .mixedOrders = true) (hB : ordBA .any l.toArray hd t1 fl n L = true) (hS : S w.drew)
    (h : wpQuiet P l.toArray (fun w' => ∃ x : In S, w' = x.w) (fun a' => wpPartsA P .any l.toArray (Ends Q) (fun j => fl.contains j) (fun w' => ∃ x : In S, w' = x.w) n L t1 a' w.drew) (hd.filterMap (l.toArray[·]?)) a) : (Code.region id l.toArray true).wp P Q a w := by
  simp only [ordBA, Bool.and_eq_true, decide_eq_true_eq] at hB
  obtain ⟨⟨⟨h1, h2⟩, h3⟩, h6⟩ := hB
  refine wp_region_any hm (wpAny_le (ends_le Q) _ _ _ _ ?_)
  refine wpAny_of_mix (flag := fun j => fl.contains j) (C := fun w' => ∃ x : In S, w' = x.w) _ _ _ _ ?_
  rw [← h2]
  refine wpAnyM_head (Region.noSelect_spec h1) (fun _ _ _ _ _ h => h) ⟨⟨_, hS⟩, rfl⟩ (fun listed a hk _ hl => wpAnyM_partsA t1 listed a _ hk hl) hd _ _ (fun i hi => ?_) (by rw [h2]; exact h3) (fun j oj _ hl => (by rw [getD_replicate_false] at hl; cases hl)) h
  · cases hp : kindAt l.toArray plainOp i with
    | true => exact .inl rfl
    | false =>
      refine .inr fun listed inv hun j hj hne => ?_
      obtain ⟨_, oj, hoj, hall⟩ := mem_ready.1 hj
      have h7 := List.all_eq_true.1 h6 j (List.mem_range.2 (Array.getElem?_eq_some_iff.1 hoj).1)
      simp only [Bool.or_eq_true] at h7
      rcases h7 with h7 | h7
      · exact h7
      · have h9 := List.all_eq_true.1 h7 i hi
        rw [hp, Bool.false_or] at h9
        have h8 := waitsT_listed inv _ j (fun o ho e he hb => by
          have : o = oj := Option.some.inj (ho.symm.trans hoj)
          subst this
          exact hall e he hb) h9
        rw [getD_both hun] at h8
        cases h8
/-- One operation of such a region by itself. -/
theorem wpOp_step {K : Act → World → Prop} {i : Nat} {o : Oper} {a : Act} {w : World} (ho : ops[i]? = some o)
    (h : wpList P ops (Exit.then K (fun _ _ _ => False)) [o] a w) : wpOp P ops (Ends Q) i K a w := by
  have h1 : wpOp P ops (Ends (Exit.then K (Ends Q))) i K a w := by
    unfold wpOp
    simp only [ho]
    exact h
  have h2 := wpOp_le (ends_le _) h1
  unfold wpOp at *
  simp only [ho] at *
  split
  · rename_i hw
    simp only [hw, if_true] at h1
    rcases h1 with h1 | ⟨_, _, _, h1⟩
    · refine .inl ?_
      unfold Oper.wp at *
      generalize (execOp a.eval o).run P w = x at *
      cases x with
      | ok n w' =>
        cases n <;> simp only [Oper.upon] at h1 ⊢ <;> first
          | exact h1
          | exact Calls.mono h1 (fun e w'' he => by cases e <;> first | exact he | exact he.elim | exact (let ⟨_, _, h⟩ := he; h.elim))
      | halt x w' => cases x <;> simp only [Oper.upon] at h1 ⊢ <;> exact h1.elim
    · exact h1.elim
  · rename_i hw; simp only [hw] at h1; exact h1
theorem wpAnyM_one {n i : Nat} {listed L' : Array Bool} {a : Act} {w : World} (h : Region.ready md ops listed = [i]) (hL : listed.setIfInBounds i true = L') (k : wpOp P ops Q i (fun a' w' => (flag i = true → C w → C w') ∧ wpAnyM P md ops Q flag C n L' a' w') a w) : wpAnyM P md ops Q flag C (n + 1) listed a w :=
  ⟨fun h0 => (by rw [h] at h0; cases h0), fun j hj => by rw [h, List.mem_singleton] at hj; subst hj; rw [hL]; exact k⟩
theorem wpAnyM_two {n i j : Nat} {listed L1 L2 : Array Bool} {a : Act} {w : World} (h : Region.ready md ops listed = [i, j]) (h1 : listed.setIfInBounds i true = L1) (h2 : listed.setIfInBounds j true = L2)
    (k1 : wpOp P ops Q i (fun a' w' => (flag i = true → C w → C w') ∧ wpAnyM P md ops Q flag C n L1 a' w') a w) (k2 : wpOp P ops Q j (fun a' w' => (flag j = true → C w → C w') ∧ wpAnyM P md ops Q flag C n L2 a' w') a w) : wpAnyM P md ops Q flag C (n + 1) listed a w :=
  ⟨fun h0 => (by rw [h] at h0; cases h0), fun m hm => by
    rw [h] at hm
    simp only [List.mem_cons, List.not_mem_nil, or_false] at hm
    rcases hm with rfl | rfl
    · rw [h1]; exact k1
    · rw [h2]; exact k2⟩
theorem wpAnyM_end {listed : Array Bool} {a : Act} {w : World} (h : Region.ready md ops listed = []) (hq : Q .normal a w) : wpAnyM P md ops Q flag C 0 listed a w := ⟨h, hq⟩
end
end Go.Proofs.YtofdiilfedjhkaaDoor.U

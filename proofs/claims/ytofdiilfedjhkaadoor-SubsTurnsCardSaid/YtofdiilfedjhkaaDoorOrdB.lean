/- A region that draws its order: three at once; what looks at no world is walked as soon as it may come. -/
import Derived.Test.YtofdiilfedjhkaaDoorOrdA
set_option linter.unusedVariables false
set_option linter.unusedSimpArgs false
namespace Go.Proofs.YtofdiilfedjhkaaDoor.U
open Go.RowKit
/-- A cut behind a code: the ways that its order may go meet again; what hangs on the order are letters. -/
theorem wp_cut4 {P : Program} {c : Code} {Q : Exit → Act → World → Prop} {a : Act} {w : World} {A : Nat → Nat → Nat → Nat → Act} {F : Nat → Nat → Nat → Nat → World → Prop}
    (h : c.wp P (fun e a' w' => e = .normal ∧ ∃ i j k l, a' = A i j k l ∧ F i j k l w') a w) (hk : ∀ i j k l w', F i j k l w' → Q .normal (A i j k l) w') : c.wp P Q a w := by
  refine Code.wp_mono (fun e a' w' h => ?_) h
  obtain ⟨rfl, i, j, k, l, rfl, hF⟩ := h
  exact hk i j k l w' hF
section
variable {P : Program} {md : Region.Mode} {ops : Array Oper} {Q : Exit → Act → World → Prop} {flag : Nat → Bool} {C : World → Prop}
def pureOp : Op → Bool
  | .move _ | .assign _ | .extract _ _ => true
  | _ => false
theorem pure_all {o : Oper} (ho : pureOp o.op = true) {v : Value} {a : Act} {w : World} (hw : C w) (h : YieldsIf P ops C o v a) : YieldsIf P ops (fun _ => True) o v a := by
  rcases h with ⟨h1, h2⟩ | h
  · refine .inl ⟨h1, fun w2 _ => ?_⟩
    have h3 := h2 w hw
    obtain ⟨dst, op, ty, pos, after, guard⟩ := o
    cases op <;> simp only [pureOp, Bool.false_eq_true] at ho
    · simp only [execOp] at h3 ⊢; injection h3 with h4 _; rw [← h4]; rfl
    · simp only [execOp] at h3 ⊢; injection h3 with h4 _; rw [← h4]; rfl
    · rename_i t ix
      simp only [execOp, Instr.extract] at h3 ⊢
      generalize a.eval t = x at h3 ⊢
      cases x with
      | tuple vs =>
        dsimp only at h3 ⊢
        cases hv : vs[ix]? with
        | none => rw [hv] at h3; cases h3
        | some y => rw [hv] at h3; dsimp only at h3 ⊢; injection h3 with h4 _; rw [← h4]; rfl
      | _ => cases h3
  · exact .inr h
/-- Every edge that binds into what is listed comes of what is listed. -/
def closedB (md : Region.Mode) (ops : Array Oper) (listed : Array Bool) : Bool :=
  (List.range ops.size).all fun j => match ops[j]? with
    | some oj => !(listed.getD j false) || oj.after.all fun e => !Region.binds md e || listed.getD e.on false
    | none => true
theorem closed_of {listed : Array Bool} (h : closedB md ops listed = true) : Closed md ops listed := by
  intro j oj hj hl e he hb
  have h1 := List.all_eq_true.1 h j (List.mem_range.2 (Array.getElem?_eq_some_iff.1 hj).1)
  simp only [hj, hl, Bool.not_true, Bool.false_or, Array.all_eq_true_iff_forall_mem] at h1
  have h2 := h1 e he
  rw [hb] at h2
  simpa using h2
theorem wpAnyM_pure {n : Nat} {L : Array Bool} {w : World} (hsel : Region.noSelect ops = true) (hQ : ∀ c a d v w, Q (.panic c) (a.put d v) w → Q (.panic c) a w) (hC : C w) :
    ∀ (hd : List Nat) (listed : Array Bool) (a : Act), Closed md ops listed → ordHead md ops (fun l => decide (l = L)) hd listed = true → hd.all (kindAt ops pureOp) = true →
    wpQuiet P ops C (fun a' => wpAnyM P md ops Q flag C n L a' w) (hd.filterMap (ops[·]?)) a → wpAnyM P md ops Q flag C (hd.length + n) listed a w
  | [], listed, a, inv, hB, _, h => by
    rw [List.length_nil, Nat.zero_add]
    have : listed = L := by simpa [ordHead] using hB
    rw [this]
    exact h
  | i :: r, listed, a, inv, hB, hp, h => by
    simp only [ordHead, Bool.and_eq_true] at hB
    obtain ⟨⟨⟨hr, hf⟩, hh⟩, hB'⟩ := hB
    have hr' : i ∈ Region.ready md ops listed := by simpa using hr
    obtain ⟨_, o, ho, _⟩ := mem_ready.1 hr'
    have hpi := List.all_eq_true.1 hp i List.mem_cons_self
    simp only [kindAt, ho] at hh hpi
    rw [List.filterMap_cons_some ho] at h
    have hst : qOp P ops C i (wpQuiet P ops C (fun a' => wpAnyM P md ops Q flag C n L a' w) (r.filterMap (ops[·]?))) a := by unfold qOp; simp only [ho]; exact h
    obtain ⟨v, hy, hk⟩ := yieldsIn_of_qOp ho hst
    rw [show (i :: r).length + n = (r.length + n) + 1 by simp only [List.length_cons]; omega]
    have hnext := wpAnyM_pure hsel hQ hC r _ _ (inv.set hr') hB' (List.all_eq_true.2 fun j hj => List.all_eq_true.1 hp j (List.mem_cons_of_mem _ hj)) hk
    exact wpAnyM_first (C' := fun _ => True) ho (Region.noSelect_spec hsel) hQ (fun _ _ _ _ _ _ _ _ _ _ => trivial) _ listed a w inv (Region.free_spec ho hf) hr' (pure_all hpi hC (yieldsIf_of hh hy)) trivial hnext
theorem wpAnyM_three {n i j k : Nat} {listed L1 L2 L3 : Array Bool} {a : Act} {w : World} (h : Region.ready md ops listed = [i, j, k]) (h1 : listed.setIfInBounds i true = L1) (h2 : listed.setIfInBounds j true = L2) (h3 : listed.setIfInBounds k true = L3)
    (k1 : wpOp P ops Q i (fun a' w' => (flag i = true → C w → C w') ∧ wpAnyM P md ops Q flag C n L1 a' w') a w) (k2 : wpOp P ops Q j (fun a' w' => (flag j = true → C w → C w') ∧ wpAnyM P md ops Q flag C n L2 a' w') a w) (k3 : wpOp P ops Q k (fun a' w' => (flag k = true → C w → C w') ∧ wpAnyM P md ops Q flag C n L3 a' w') a w) : wpAnyM P md ops Q flag C (n + 1) listed a w :=
  ⟨fun h0 => (by rw [h] at h0; cases h0), fun m hm => by
    rw [h] at hm
    simp only [List.mem_cons, List.not_mem_nil, or_false] at hm
    rcases hm with rfl | rfl | rfl
    · rw [h1]; exact k1
    · rw [h2]; exact k2
    · rw [h3]; exact k3⟩
end
end Go.Proofs.YtofdiilfedjhkaaDoor.U

/- A slice of acts that comes in, opened; the numbers' bound too. -/
import Derived.Test.YthpkmcohcjpmhaaSlbO
set_option linter.unusedVariables false
set_option linter.unusedSimpArgs false
namespace Go.Proofs.Ythpkmcohcjpmhaa.Slb
open Go.RowKit U Go.ChangeShapes Go.WideShapes Go.Deep
section
variable {H : Type} {enc : TypeId × Value → H} {w : World} {base : Nat} {spare : Nat → Bool} {held : Bool}
theorem one_act2 {n : Nat} {ad : Addr} {i : Nat} {cs : List Value} {x : DataW H × List MemPlace} (hc : w.cells? base (ad.add (i * 5)) 5 = some cs) (h : DataW.trod enc Try.prog w base spare held n 34 cs = some x) :
    ∃ a : Act, ActAt w ad i a ∧ a.b.size ≤ 9223372036854775807 ∧ a.n ≤ 9223372036854775807 := by
  obtain ⟨ys, n', _, _, _, hyl, hf⟩ := DataW.trod_struct Try.underlying34 h
  obtain ⟨_, hcl, hat⟩ := World.cells?_some hc
  match cs, hcl with
  | [c0, c1, c2, c3, c4], _ =>
    match ys, hyl with
    | [y0, y1, y2, y3, y4], _ =>
      have h0 := hf 0 _ rfl
      have h1 := hf 1 _ rfl
      have h2 := hf 2 _ rfl
      have h3 := hf 3 _ rfl
      have h4 := hf 4 _ rfl
      simp only [cellsI, cellsS, cellsB, List.drop_zero, List.drop_succ_cons, List.take_succ_cons, List.take_zero, List.getElem?_cons_zero, List.getElem?_cons_succ] at h0 h1 h2 h3 h4
      obtain ⟨z0, e0, _, _⟩ := DataW.trod_int Try.underlying3 h0
      obtain ⟨z1, e1, _, f1⟩ := DataW.trod_int Try.underlying3 h1
      obtain ⟨z2, e2, _, _⟩ := DataW.trod_int Try.underlying3 h2
      obtain ⟨s3, e3, _, k3⟩ := DataW.trod_string Try.underlying9 h3
      obtain ⟨b4, e4, _⟩ := DataW.trod_bool Try.underlying4 h4
      injection e0 with e0 _; injection e1 with e1 _; injection e2 with e2 _; injection e3 with e3 _; injection e4 with e4 _
      subst e0; subst e1; subst e2; subst e3; subst e4
      have a0 := hat 0 (by decide)
      have a1 := hat 1 (by decide)
      have a2 := hat 2 (by decide)
      have a3 := hat 3 (by decide)
      have a4 := hat 4 (by decide)
      rw [show (ad.add (i * 5)).add 0 = ad.add (i * 5) from by unfold Addr.add; simp] at a0
      rw [add_pos _ _ (by decide)] at a1 a2 a3 a4
      refine ⟨⟨z0, z1, z2, s3, b4⟩, ⟨?_, a0, a1, a2, a3, a4⟩, ?_, ?_⟩
      · have := World.block_lt_of_cell? w _ a0
        rw [addB] at this; exact this
      · have : maxLen = 9223372036854775807 := by decide
        rw [← this]; exact k3
      · simp [Lit.wf] at f1; show z1 ≤ _; omega
theorem open_acts2 {r : Reach} {b0 : Nat} {v : Value} {d : DataW H} {ps : List MemPlace} (hv : Value.okWide Try.prog w r b0 22 v) (h : DataW.Trod enc Try.prog w base spare held 22 v d ps) :
    ∃ (A : Option Addr) (l : List Act) (cap : Nat), v = .slice A l.length cap ∧ Acts w A l ∧ (∀ a ∈ l, a.b.size ≤ 9223372036854775807 ∧ a.n ≤ 9223372036854775807) ∧ l.length ≤ 9223372036854775807 := by
  obtain ⟨fuel, hf⟩ := h
  obtain ⟨a, len, cap, rfl⟩ := okWide_slice Try.underlying22 hv
  rcases open_slice Try.underlying22 hf with ⟨hcs, _⟩ | ⟨a', len', cap', m, n, D, Pl, hcs, _, hl, hm, hmm, _, hi⟩
  · simp [Value.cells] at hcs
    obtain ⟨rfl, rfl, rfl⟩ := hcs
    exact ⟨none, [], 0, rfl, fun i hi => absurd hi (by simp), by simp, by simp⟩
  · simp [Value.cells] at hcs
    obtain ⟨rfl, rfl, rfl⟩ := hcs
    have hlm : len ≤ m := by rw [hmm]; split <;> omega
    have hact : ∀ i, i < len → ∃ ac : Act, ActAt w a' i ac ∧ ac.b.size ≤ 9223372036854775807 ∧ ac.n ≤ 9223372036854775807 := fun i hil => by
      obtain ⟨cs', hc, ht⟩ := hi i (by omega)
      rw [cellsA] at hc
      exact one_act2 hc ht
    let f : Fin len → Act := fun i => Classical.choose (hact i.1 i.2)
    have hfs : ∀ i : Fin len, ActAt w a' i.1 (f i) ∧ (f i).b.size ≤ 9223372036854775807 ∧ (f i).n ≤ 9223372036854775807 := fun i => Classical.choose_spec (hact i.1 i.2)
    have hmx : maxLen = 9223372036854775807 := by decide
    refine ⟨some a', List.ofFn f, cap, by rw [List.length_ofFn], ?_, ?_, by rw [List.length_ofFn]; omega⟩
    · intro i hi'
      refine ⟨a', rfl, ?_⟩
      rw [List.getElem_ofFn]
      exact (hfs ⟨i, by rw [List.length_ofFn] at hi'; exact hi'⟩).1
    · intro x hx
      rw [List.mem_ofFn] at hx
      obtain ⟨i, rfl⟩ := hx
      exact (hfs i).2
end
end Go.Proofs.Ythpkmcohcjpmhaa.Slb

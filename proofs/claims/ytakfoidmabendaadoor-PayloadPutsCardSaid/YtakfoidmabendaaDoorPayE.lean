/- api.Ask as an argument: its cells, what it reads as, bounds on its strings. (Printed by gen_open.py.) -/
import Derived.Test.YtakfoidmabendaaDoorPayD
import Derived.OpenShut
import Derived.ChangeOld
import Derived.Below
import Derived.Carry
import Derived.SizedLaws
import Derived.Lib.SmallJoins
set_option linter.unusedVariables false
set_option linter.unusedSimpArgs false
set_option maxRecDepth 100000
namespace Go.Proofs.YtakfoidmabendaaDoor.Pay
open Go.RowKit Go.ChangeShapes Go.WideShapes Go.ChangeAt
theorem ask_cells_i : Tryd.prog.cellsOf 3 = 1 := by kernel_rfl
theorem ask_cells_s : Tryd.prog.cellsOf 9 = 1 := by kernel_rfl
theorem ask_cells : Tryd.prog.cellsOf 23 = 4 := by kernel_rfl
theorem open_ask {H : Type} {enc : TypeId × Value → H} {w : World} {base b0 : Nat} {spare : Nat → Bool} {held : Bool} {r : Reach} {v : Value} {d : DataW H} {ps : List MemPlace} (hv : Value.okWide Tryd.prog w r b0 23 v) (h : DataW.Trod enc Tryd.prog w base spare held 23 v d ps) :
    ∃ (x0 : Int) (x1 : ByteArray) (x2 : ByteArray) (x3 : ByteArray), v = .agg #[.int .i64 x0, .string x1, .string x2, .string x3] ∧ d = .agg [.lit (.int .i64 x0), .lit (.string x1.data.toList), .lit (.string x2.data.toList), .lit (.string x3.data.toList)] ∧ x1.size ≤ maxLen ∧ x2.size ≤ maxLen ∧ x3.size ≤ maxLen := by
  obtain ⟨cs, rfl, hsz⟩ := okWide_struct Tryd.underlying23 hv
  rw [ask_cells] at hsz
  obtain ⟨fuel, hf⟩ := h
  obtain ⟨l⟩ := cs
  match l, hsz with
  | [c0, c1, c2, c3], _ =>
    obtain ⟨ys, n', _, hx, _, hyl, hg⟩ := DataW.trod_struct Tryd.underlying23 hf
    match ys, hyl with
    | [y0, y1, y2, y3], _ =>
      have h0 := hg 0 _ rfl
      have h1 := hg 1 _ rfl
      have h2 := hg 2 _ rfl
      have h3 := hg 3 _ rfl
      simp only [ask_cells_i, ask_cells_s, Value.cells, List.drop_zero, List.drop_succ_cons, List.take_succ_cons, List.take_zero, List.getElem?_cons_zero, List.getElem?_cons_succ] at h0 h1 h2 h3
      obtain ⟨x0, e0, g0, _⟩ := DataW.trod_int Tryd.underlying3 h0
      obtain ⟨x1, e1, g1, z1⟩ := DataW.trod_string Tryd.underlying9 h1
      obtain ⟨x2, e2, g2, z2⟩ := DataW.trod_string Tryd.underlying9 h2
      obtain ⟨x3, e3, g3, z3⟩ := DataW.trod_string Tryd.underlying9 h3
      injection e0 with e0 _; injection e1 with e1 _; injection e2 with e2 _; injection e3 with e3 _
      subst e0; subst e1; subst e2; subst e3
      subst g0; subst g1; subst g2; subst g3
      injection hx with hx _
      exact ⟨x0, x1, x2, x3, rfl, hx, z1, z2, z3⟩
theorem sized_ask {H : Type} {ts : List TypeId} {ds : List (DataW H)} (h : (DataW.weightsEach Tryd.prog ts ds).all (· ≤ reachBytes) = true) {j : Nat} {x0 : Int} {x1 : List UInt8} {x2 : List UInt8} {x3 : List UInt8} (ht : ts[j]? = some 23)
    (hd : ds[j]? = some (.agg [.lit (.int .i64 x0), .lit (.string x1), .lit (.string x2), .lit (.string x3)])) : x1.length ≤ reachBytes ∧ x2.length ≤ reachBytes ∧ x3.length ≤ reachBytes := by
  have hm := DataW.weights_mem_each (P := Tryd.prog) ht hd
  have ha := List.all_eq_true.1 h
  have w1 : x1.length ∈ (.agg [.lit (.int .i64 x0), .lit (.string x1), .lit (.string x2), .lit (.string x3)] : DataW H).weights Tryd.prog 23 := by
    simp [DataW.weights, DataW.weightsEach, Tryd.underlying23]
  have w2 : x2.length ∈ (.agg [.lit (.int .i64 x0), .lit (.string x1), .lit (.string x2), .lit (.string x3)] : DataW H).weights Tryd.prog 23 := by
    simp [DataW.weights, DataW.weightsEach, Tryd.underlying23]
  have w3 : x3.length ∈ (.agg [.lit (.int .i64 x0), .lit (.string x1), .lit (.string x2), .lit (.string x3)] : DataW H).weights Tryd.prog 23 := by
    simp [DataW.weights, DataW.weightsEach, Tryd.underlying23]
  exact ⟨of_decide_eq_true (ha _ (hm _ w1)), of_decide_eq_true (ha _ (hm _ w2)), of_decide_eq_true (ha _ (hm _ w3))⟩
end Go.Proofs.YtakfoidmabendaaDoor.Pay

/- Contracts of functions of this translation, and what they come to; what is not used is left out. -/
import Derived.OpenShut
import Derived.ChangeOld
import Derived.Below
import Derived.Carry
import Derived.SizedLaws
import Derived.Lib.SmallJoins
import Derived.Test.YtofdiilfedjhkaaDoorKSubV
import Derived.Test.YtofdiilfedjhkaaDoorKg3
import Derived.Test.YtofdiilfedjhkaaDoorKSubV2
import Derived.Test.YtofdiilfedjhkaaDoorKSubV1
import Derived.Test.YtofdiilfedjhkaaDoorKHanA
import Derived.Test.YtofdiilfedjhkaaDoorKGlyA
import Derived.Test.YtofdiilfedjhkaaDoorKGlyP
import Derived.Test.YtofdiilfedjhkaaDoorKUtil
import Derived.Test.YtofdiilfedjhkaaDoorKRep
import Derived.Test.YtofdiilfedjhkaaDoorKStrs
import Derived.Test.YtofdiilfedjhkaaDoorKShelf
import Derived.Test.YtofdiilfedjhkaaDoorKBld
import Derived.Test.YtofdiilfedjhkaaDoorKSubV0
import Derived.Test.YtofdiilfedjhkaaDoorKg7p1
import Derived.Test.YtofdiilfedjhkaaDoorKg7p0
import Derived.Test.YtofdiilfedjhkaaDoorKg4
import Derived.Test.YtofdiilfedjhkaaDoorKg6
import Derived.Test.YtofdiilfedjhkaaDoorKBox
import Derived.Test.YtofdiilfedjhkaaDoorKCls
import Derived.Test.YtofdiilfedjhkaaDoorKg5
import Derived.Test.YtofdiilfedjhkaaDoorKg2
import Derived.Test.YtofdiilfedjhkaaDoorKg1
import Derived.Test.YtofdiilfedjhkaaDoorKg0

section
/- api.Contact as an argument: its cells, what it reads as, bounds on its strings. (Printed by gen_open.py.) -/
set_option linter.unusedVariables false
set_option linter.unusedSimpArgs false
set_option maxRecDepth 100000
namespace Go.Proofs.YtofdiilfedjhkaaDoor.SubW
open Go.RowKit Go.ChangeShapes Go.WideShapes Go.ChangeAt
theorem contact_cells_b : Tryd.prog.cellsOf 4 = 1 := by kernel_rfl
theorem contact_cells_i : Tryd.prog.cellsOf 3 = 1 := by kernel_rfl
theorem contact_cells_l : Tryd.prog.cellsOf 2 = 1 := by kernel_rfl
theorem contact_cells_s : Tryd.prog.cellsOf 9 = 1 := by kernel_rfl
theorem contact_cells : Tryd.prog.cellsOf 23 = 9 := by kernel_rfl
theorem open_contact {H : Type} {enc : TypeId × Value → H} {w : World} {base b0 : Nat} {spare : Nat → Bool} {held : Bool} {r : Reach} {v : Value} {d : DataW H} {ps : List MemPlace} (hv : Value.okWide Tryd.prog w r b0 23 v) (h : DataW.Trod enc Tryd.prog w base spare held 23 v d ps) :
    ∃ (x0 : ByteArray) (x1 : Bool) (x2 : Bool) (x3 : Bool) (x4 : Bool) (x5 : Bool) (x6 : Bool) (x7 : Int) (x8 : Int), v = .agg #[.string x0, .bool x1, .bool x2, .bool x3, .bool x4, .bool x5, .bool x6, .int .i64 x7, .int .i64 x8] ∧ d = .agg [.lit (.string x0.data.toList), .lit (.bool x1), .lit (.bool x2), .lit (.bool x3), .lit (.bool x4), .lit (.bool x5), .lit (.bool x6), .lit (.int .i64 x7), .lit (.int .i64 x8)] ∧ x0.size ≤ maxLen := by
  obtain ⟨cs, rfl, hsz⟩ := okWide_struct Tryd.underlying23 hv
  rw [contact_cells] at hsz
  obtain ⟨fuel, hf⟩ := h
  obtain ⟨l⟩ := cs
  match l, hsz with
  | [c0, c1, c2, c3, c4, c5, c6, c7, c8], _ =>
    obtain ⟨ys, n', _, hx, _, hyl, hg⟩ := DataW.trod_struct Tryd.underlying23 hf
    match ys, hyl with
    | [y0, y1, y2, y3, y4, y5, y6, y7, y8], _ =>
      have h0 := hg 0 _ rfl
      have h1 := hg 1 _ rfl
      have h2 := hg 2 _ rfl
      have h3 := hg 3 _ rfl
      have h4 := hg 4 _ rfl
      have h5 := hg 5 _ rfl
      have h6 := hg 6 _ rfl
      have h7 := hg 7 _ rfl
      have h8 := hg 8 _ rfl
      simp only [contact_cells_b, contact_cells_i, contact_cells_l, contact_cells_s, Value.cells, List.drop_zero, List.drop_succ_cons, List.take_succ_cons, List.take_zero, List.getElem?_cons_zero, List.getElem?_cons_succ] at h0 h1 h2 h3 h4 h5 h6 h7 h8
      obtain ⟨x0, e0, g0, z0⟩ := DataW.trod_string Tryd.underlying9 h0
      obtain ⟨x1, e1, g1⟩ := DataW.trod_bool Tryd.underlying4 h1
      obtain ⟨x2, e2, g2⟩ := DataW.trod_bool Tryd.underlying4 h2
      obtain ⟨x3, e3, g3⟩ := DataW.trod_bool Tryd.underlying4 h3
      obtain ⟨x4, e4, g4⟩ := DataW.trod_bool Tryd.underlying4 h4
      obtain ⟨x5, e5, g5⟩ := DataW.trod_bool Tryd.underlying4 h5
      obtain ⟨x6, e6, g6⟩ := DataW.trod_bool Tryd.underlying4 h6
      obtain ⟨x7, e7, g7, _⟩ := DataW.trod_int Tryd.underlying3 h7
      obtain ⟨x8, e8, g8, _⟩ := DataW.trod_int Tryd.underlying2 h8
      injection e0 with e0 _; injection e1 with e1 _; injection e2 with e2 _; injection e3 with e3 _; injection e4 with e4 _; injection e5 with e5 _; injection e6 with e6 _; injection e7 with e7 _; injection e8 with e8 _
      subst e0; subst e1; subst e2; subst e3; subst e4; subst e5; subst e6; subst e7; subst e8
      subst g0; subst g1; subst g2; subst g3; subst g4; subst g5; subst g6; subst g7; subst g8
      injection hx with hx _
      exact ⟨x0, x1, x2, x3, x4, x5, x6, x7, x8, rfl, hx, z0⟩
theorem sized_contact {H : Type} {ts : List TypeId} {ds : List (DataW H)} (h : (DataW.weightsEach Tryd.prog ts ds).all (· ≤ reachBytes) = true) {j : Nat} {x0 : List UInt8} {x1 : Bool} {x2 : Bool} {x3 : Bool} {x4 : Bool} {x5 : Bool} {x6 : Bool} {x7 : Int} {x8 : Int} (ht : ts[j]? = some 23)
    (hd : ds[j]? = some (.agg [.lit (.string x0), .lit (.bool x1), .lit (.bool x2), .lit (.bool x3), .lit (.bool x4), .lit (.bool x5), .lit (.bool x6), .lit (.int .i64 x7), .lit (.int .i64 x8)])) : x0.length ≤ reachBytes := by
  have hm := DataW.weights_mem_each (P := Tryd.prog) ht hd
  have ha := List.all_eq_true.1 h
  have w0 : x0.length ∈ (.agg [.lit (.string x0), .lit (.bool x1), .lit (.bool x2), .lit (.bool x3), .lit (.bool x4), .lit (.bool x5), .lit (.bool x6), .lit (.int .i64 x7), .lit (.int .i64 x8)] : DataW H).weights Tryd.prog 23 := by
    simp [DataW.weights, DataW.weightsEach, Tryd.underlying23]
  exact of_decide_eq_true (ha _ (hm _ w0))
end Go.Proofs.YtofdiilfedjhkaaDoor.SubW
end

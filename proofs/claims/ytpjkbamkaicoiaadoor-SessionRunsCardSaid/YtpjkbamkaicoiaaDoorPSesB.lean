/- Contracts of functions of this translation, and what they come to; what is not used is left out. -/
import Derived.OpenShut
import Derived.ChangeOld
import Derived.Below
import Derived.Carry
import Derived.SizedLaws
import Derived.Lib.SmallJoins
import Derived.Test.YtpjkbamkaicoiaaDoorPg1
import Derived.Test.YtpjkbamkaicoiaaDoorPg5
import Derived.Test.YtpjkbamkaicoiaaDoorPCls
import Derived.Test.YtpjkbamkaicoiaaDoorPUtil
import Derived.Test.YtpjkbamkaicoiaaDoorPSoft
import Derived.Test.YtpjkbamkaicoiaaDoorPHanS
import Derived.Test.YtpjkbamkaicoiaaDoorPHanR
import Derived.Test.YtpjkbamkaicoiaaDoorPHanQ
import Derived.Test.YtpjkbamkaicoiaaDoorPRaQ
import Derived.Test.YtpjkbamkaicoiaaDoorPRefJ
import Derived.Test.YtpjkbamkaicoiaaDoorPRefF
import Derived.Test.YtpjkbamkaicoiaaDoorPGlyA
import Derived.Test.YtpjkbamkaicoiaaDoorPGlyP
import Derived.Test.YtpjkbamkaicoiaaDoorPJidP
import Derived.Test.YtpjkbamkaicoiaaDoorPStrs
import Derived.Test.YtpjkbamkaicoiaaDoorPShelf
import Derived.Test.YtpjkbamkaicoiaaDoorPRaP
import Derived.Test.YtpjkbamkaicoiaaDoorPRa2
import Derived.Test.YtpjkbamkaicoiaaDoorPRa1
import Derived.Test.YtpjkbamkaicoiaaDoorPRa0
import Derived.Test.YtpjkbamkaicoiaaDoorPg0
import Derived.Test.YtpjkbamkaicoiaaDoorPHanP
import Derived.Test.YtpjkbamkaicoiaaDoorPEscB
import Derived.Test.YtpjkbamkaicoiaaDoorPEscA
import Derived.Test.YtpjkbamkaicoiaaDoorPEscP
import Derived.Test.YtpjkbamkaicoiaaDoorPBld
import Derived.Test.YtpjkbamkaicoiaaDoorPHanA
import Derived.Test.YtpjkbamkaicoiaaDoorPRep
import Derived.Test.YtpjkbamkaicoiaaDoorPRc3
import Derived.Test.YtpjkbamkaicoiaaDoorPRc2
import Derived.Test.YtpjkbamkaicoiaaDoorPRc1
import Derived.Test.YtpjkbamkaicoiaaDoorPRc0
import Derived.Test.YtpjkbamkaicoiaaDoorPHanF
import Derived.Test.YtpjkbamkaicoiaaDoorPg4
import Derived.Test.YtpjkbamkaicoiaaDoorPg6
import Derived.Test.YtpjkbamkaicoiaaDoorPBox

section
/- wharflaw15.Begin as an argument: its cells, what it reads as, bounds on its strings. (Printed by gen_open.py.) -/
set_option linter.unusedVariables false
set_option linter.unusedSimpArgs false
set_option maxRecDepth 100000
namespace Go.Proofs.YtpjkbamkaicoiaaDoor.Ses
open Go.RowKit Go.ChangeShapes Go.WideShapes Go.ChangeAt
theorem begin_cells_i : Tryd.prog.cellsOf 3 = 1 := by kernel_rfl
theorem begin_cells_l : Tryd.prog.cellsOf 2 = 1 := by kernel_rfl
theorem begin_cells_s : Tryd.prog.cellsOf 9 = 1 := by kernel_rfl
theorem begin_cells : Tryd.prog.cellsOf 23 = 5 := by kernel_rfl
theorem open_begin {H : Type} {enc : TypeId × Value → H} {w : World} {base b0 : Nat} {spare : Nat → Bool} {held : Bool} {r : Reach} {v : Value} {d : DataW H} {ps : List MemPlace} (hv : Value.okWide Tryd.prog w r b0 23 v) (h : DataW.Trod enc Tryd.prog w base spare held 23 v d ps) :
    ∃ (x0 : ByteArray) (x1 : ByteArray) (x2 : Int) (x3 : Int) (x4 : Int), v = .agg #[.string x0, .string x1, .int .i64 x2, .int .i64 x3, .int .i64 x4] ∧ d = .agg [.lit (.string x0.data.toList), .lit (.string x1.data.toList), .lit (.int .i64 x2), .lit (.int .i64 x3), .lit (.int .i64 x4)] ∧ x0.size ≤ maxLen ∧ x1.size ≤ maxLen := by
  obtain ⟨cs, rfl, hsz⟩ := okWide_struct Tryd.underlying23 hv
  rw [begin_cells] at hsz
  obtain ⟨fuel, hf⟩ := h
  obtain ⟨l⟩ := cs
  match l, hsz with
  | [c0, c1, c2, c3, c4], _ =>
    obtain ⟨ys, n', _, hx, _, hyl, hg⟩ := DataW.trod_struct Tryd.underlying23 hf
    match ys, hyl with
    | [y0, y1, y2, y3, y4], _ =>
      have h0 := hg 0 _ rfl
      have h1 := hg 1 _ rfl
      have h2 := hg 2 _ rfl
      have h3 := hg 3 _ rfl
      have h4 := hg 4 _ rfl
      simp only [begin_cells_i, begin_cells_l, begin_cells_s, Value.cells, List.drop_zero, List.drop_succ_cons, List.take_succ_cons, List.take_zero, List.getElem?_cons_zero, List.getElem?_cons_succ] at h0 h1 h2 h3 h4
      obtain ⟨x0, e0, g0, z0⟩ := DataW.trod_string Tryd.underlying9 h0
      obtain ⟨x1, e1, g1, z1⟩ := DataW.trod_string Tryd.underlying9 h1
      obtain ⟨x2, e2, g2, _⟩ := DataW.trod_int Tryd.underlying3 h2
      obtain ⟨x3, e3, g3, _⟩ := DataW.trod_int Tryd.underlying2 h3
      obtain ⟨x4, e4, g4, _⟩ := DataW.trod_int Tryd.underlying3 h4
      injection e0 with e0 _; injection e1 with e1 _; injection e2 with e2 _; injection e3 with e3 _; injection e4 with e4 _
      subst e0; subst e1; subst e2; subst e3; subst e4
      subst g0; subst g1; subst g2; subst g3; subst g4
      injection hx with hx _
      exact ⟨x0, x1, x2, x3, x4, rfl, hx, z0, z1⟩
theorem sized_begin {H : Type} {ts : List TypeId} {ds : List (DataW H)} (h : (DataW.weightsEach Tryd.prog ts ds).all (· ≤ reachBytes) = true) {j : Nat} {x0 : List UInt8} {x1 : List UInt8} {x2 : Int} {x3 : Int} {x4 : Int} (ht : ts[j]? = some 23)
    (hd : ds[j]? = some (.agg [.lit (.string x0), .lit (.string x1), .lit (.int .i64 x2), .lit (.int .i64 x3), .lit (.int .i64 x4)])) : x0.length ≤ reachBytes ∧ x1.length ≤ reachBytes := by
  have hm := DataW.weights_mem_each (P := Tryd.prog) ht hd
  have ha := List.all_eq_true.1 h
  have w0 : x0.length ∈ (.agg [.lit (.string x0), .lit (.string x1), .lit (.int .i64 x2), .lit (.int .i64 x3), .lit (.int .i64 x4)] : DataW H).weights Tryd.prog 23 := by
    simp [DataW.weights, DataW.weightsEach, Tryd.underlying23]
  have w1 : x1.length ∈ (.agg [.lit (.string x0), .lit (.string x1), .lit (.int .i64 x2), .lit (.int .i64 x3), .lit (.int .i64 x4)] : DataW H).weights Tryd.prog 23 := by
    simp [DataW.weights, DataW.weightsEach, Tryd.underlying23]
  exact ⟨of_decide_eq_true (ha _ (hm _ w0)), of_decide_eq_true (ha _ (hm _ w1))⟩
end Go.Proofs.YtpjkbamkaicoiaaDoor.Ses
end

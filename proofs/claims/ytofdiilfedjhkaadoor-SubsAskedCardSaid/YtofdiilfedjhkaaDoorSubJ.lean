/- api.Contact as an argument: opened. -/
import Derived.Test.YtofdiilfedjhkaaDoorSubI
import Derived.OpenShut
import Derived.ChangeOld
import Derived.Below
import Derived.Carry
import Derived.Lib.SmallJoins
set_option linter.unusedVariables false
set_option linter.unusedSimpArgs false
namespace Go.Proofs.YtofdiilfedjhkaaDoor.Sub
open Go.RowKit Go.ChangeShapes Go.WideShapes Go.ChangeAt
theorem cells1 : Tryd.prog.cellsOf 9 = 1 := by kernel_rfl
theorem cells2 : Tryd.prog.cellsOf 4 = 1 := by kernel_rfl
theorem cells3 : Tryd.prog.cellsOf 3 = 1 := by kernel_rfl
theorem cells4 : Tryd.prog.cellsOf 2 = 1 := by kernel_rfl
theorem cells9 : Tryd.prog.cellsOf 23 = 9 := by kernel_rfl
theorem open_contact {H : Type} {enc : TypeId × Value → H} {w : World} {base b0 : Nat} {spare : Nat → Bool} {held : Bool} {r : Reach} {v : Value} {d : DataW H} {ps : List MemPlace} (hv : Value.okWide Tryd.prog w r b0 23 v) (h : DataW.Trod enc Tryd.prog w base spare held 23 v d ps) :
    ∃ (n : ByteArray) (b1 b2 b3 b4 b5 b6 : Bool) (st idle : Int), v = CV n b1 b2 b3 b4 b5 b6 st idle ∧ n.size ≤ maxLen := by
  obtain ⟨cs, rfl, hsz⟩ := okWide_struct Tryd.underlying23 hv
  rw [cells9] at hsz
  obtain ⟨fuel, hf⟩ := h
  obtain ⟨l⟩ := cs
  match l, hsz with
  | [c0, c1, c2, c3, c4, c5, c6, c7, c8], _ =>
    obtain ⟨ys, n', _, _, _, hyl, hg⟩ := DataW.trod_struct Tryd.underlying23 hf
    match ys, hyl with
    | [y0, y1, y2, y3, y4, y5, y6, y7, y8], _ =>
      have h0 := hg 0 _ rfl
      have h1 := hg 1 _ rfl
      have h2 := hg 2 _ rfl
      have h3 := hg 3 _ rfl
      have h4 := hg 4 _ rfl
      have h5 := hg 5 _ rfl
      have h6 := hg 6 _ rfl
      have h7 := hg 7 _ rfl
      have h8 := hg 8 _ rfl
      simp only [cells1, cells2, cells3, cells4, Value.cells, List.drop_zero, List.drop_succ_cons, List.take_succ_cons, List.take_zero, List.getElem?_cons_zero, List.getElem?_cons_succ] at h0 h1 h2 h3 h4 h5 h6 h7 h8
      obtain ⟨s0, e0, _, k0⟩ := DataW.trod_string Tryd.underlying9 h0
      obtain ⟨b1, e1, _⟩ := DataW.trod_bool Tryd.underlying4 h1
      obtain ⟨b2, e2, _⟩ := DataW.trod_bool Tryd.underlying4 h2
      obtain ⟨b3, e3, _⟩ := DataW.trod_bool Tryd.underlying4 h3
      obtain ⟨b4, e4, _⟩ := DataW.trod_bool Tryd.underlying4 h4
      obtain ⟨b5, e5, _⟩ := DataW.trod_bool Tryd.underlying4 h5
      obtain ⟨b6, e6, _⟩ := DataW.trod_bool Tryd.underlying4 h6
      obtain ⟨z7, e7, _, _⟩ := DataW.trod_int Tryd.underlying3 h7
      obtain ⟨z8, e8, _, _⟩ := DataW.trod_int Tryd.underlying2 h8
      injection e0 with e0 _; injection e1 with e1 _; injection e2 with e2 _; injection e3 with e3 _; injection e4 with e4 _; injection e5 with e5 _; injection e6 with e6 _; injection e7 with e7 _; injection e8 with e8 _
      subst e0; subst e1; subst e2; subst e3; subst e4; subst e5; subst e6; subst e7; subst e8
      exact ⟨s0, b1, b2, b3, b4, b5, b6, z7, z8, rfl, k0⟩
end Go.Proofs.YtofdiilfedjhkaaDoor.Sub

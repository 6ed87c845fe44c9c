/- What api.Contact reads as; a bound on its name's length. -/
import Derived.Test.YtofdiilfedjhkaaDoorSubJ
import Derived.SizedLaws
import Derived.OpenShut
import Derived.ChangeOld
import Derived.Below
import Derived.Carry
import Derived.Lib.SmallJoins
set_option linter.unusedVariables false
set_option linter.unusedSimpArgs false
namespace Go.Proofs.YtofdiilfedjhkaaDoor.Sub
open Go.RowKit Go.ChangeShapes Go.WideShapes Go.ChangeAt
theorem read_contact {H : Type} {enc : TypeId × Value → H} {w : World} {base b0 : Nat} {spare : Nat → Bool} {held : Bool} {r : Reach} {v : Value} {d : DataW H} {ps : List MemPlace} (hv : Value.okWide Tryd.prog w r b0 23 v) (h : DataW.Trod enc Tryd.prog w base spare held 23 v d ps) :
    ∃ (n : ByteArray) (b1 b2 b3 b4 b5 b6 : Bool) (st idle : Int), v = CV n b1 b2 b3 b4 b5 b6 st idle ∧ d = .agg [.lit (.string n.data.toList), .lit (.bool b1), .lit (.bool b2), .lit (.bool b3), .lit (.bool b4), .lit (.bool b5), .lit (.bool b6), .lit (.int .i64 st), .lit (.int .i64 idle)] ∧ n.size ≤ maxLen := by
  obtain ⟨cs, rfl, hsz⟩ := okWide_struct Tryd.underlying23 hv
  rw [cells9] at hsz
  obtain ⟨fuel, hf⟩ := h
  obtain ⟨l⟩ := cs
  match l, hsz with
  | [c0, c1, c2, c3, c4, c5, c6, c7, c8], _ =>
    obtain ⟨ys, n', _, hx, _, hyl, hg⟩ := DataW.trod_struct Tryd.underlying23 hf
    match ys, hyl with
    | [y0, y1, y2, y3, y4, y5, y6, y7, y8], _ =>
      have h0 := hg 0 _ rfl
      have h1 := hg 1 _ rfl
      have h2 := hg 2 _ rfl
      have h3 := hg 3 _ rfl
      have h4 := hg 4 _ rfl
      have h5 := hg 5 _ rfl
      have h6 := hg 6 _ rfl
      have h7 := hg 7 _ rfl
      have h8 := hg 8 _ rfl
      simp only [cells1, cells2, cells3, cells4, Value.cells, List.drop_zero, List.drop_succ_cons, List.take_succ_cons, List.take_zero, List.getElem?_cons_zero, List.getElem?_cons_succ] at h0 h1 h2 h3 h4 h5 h6 h7 h8
      obtain ⟨s0, e0, g0, k0⟩ := DataW.trod_string Tryd.underlying9 h0
      obtain ⟨b1, e1, g1⟩ := DataW.trod_bool Tryd.underlying4 h1
      obtain ⟨b2, e2, g2⟩ := DataW.trod_bool Tryd.underlying4 h2
      obtain ⟨b3, e3, g3⟩ := DataW.trod_bool Tryd.underlying4 h3
      obtain ⟨b4, e4, g4⟩ := DataW.trod_bool Tryd.underlying4 h4
      obtain ⟨b5, e5, g5⟩ := DataW.trod_bool Tryd.underlying4 h5
      obtain ⟨b6, e6, g6⟩ := DataW.trod_bool Tryd.underlying4 h6
      obtain ⟨z7, e7, g7, _⟩ := DataW.trod_int Tryd.underlying3 h7
      obtain ⟨z8, e8, g8, _⟩ := DataW.trod_int Tryd.underlying2 h8
      injection e0 with e0 _; injection e1 with e1 _; injection e2 with e2 _; injection e3 with e3 _; injection e4 with e4 _; injection e5 with e5 _; injection e6 with e6 _; injection e7 with e7 _; injection e8 with e8 _
      subst e0; subst e1; subst e2; subst e3; subst e4; subst e5; subst e6; subst e7; subst e8
      subst g0; subst g1; subst g2; subst g3; subst g4; subst g5; subst g6; subst g7; subst g8
      injection hx with hx _
      exact ⟨s0, b1, b2, b3, b4, b5, b6, z7, z8, rfl, hx, k0⟩
theorem sized_contact {H : Type} {ts : List TypeId} {ds : List (DataW H)} (h : (DataW.weightsEach Tryd.prog ts ds).all (· ≤ reachBytes) = true) {j : Nat} {x : List UInt8} {b1 b2 b3 b4 b5 b6 : Bool} {st idle : Int} (ht : ts[j]? = some 23)
    (hd : ds[j]? = some (.agg [.lit (.string x), .lit (.bool b1), .lit (.bool b2), .lit (.bool b3), .lit (.bool b4), .lit (.bool b5), .lit (.bool b6), .lit (.int .i64 st), .lit (.int .i64 idle)])) : x.length ≤ reachBytes := by
  have hm := DataW.weights_mem_each (P := Tryd.prog) ht hd
  have hw : x.length ∈ (DataW.agg [.lit (.string x), .lit (.bool b1), .lit (.bool b2), .lit (.bool b3), .lit (.bool b4), .lit (.bool b5), .lit (.bool b6), .lit (.int .i64 st), .lit (.int .i64 idle)] : DataW H).weights Tryd.prog 23 := by
    simp [DataW.weights, DataW.weightsEach, Tryd.underlying23]
  have ha := List.all_eq_true.1 h
  exact of_decide_eq_true (ha _ (hm _ hw))
end Go.Proofs.YtofdiilfedjhkaaDoor.Sub

/- The law's first line: somebody registers, a roster of one. -/
import Derived.Test.YtakfoidmabendaaDoorEvR
import Derived.Test.YtakfoidmabendaaDoorGlyA
import Derived.Test.YtakfoidmabendaaDoorPayA
set_option linter.unusedVariables false
set_option linter.unusedSimpArgs false
namespace Go.Proofs.YtakfoidmabendaaDoor.Pay
open Go.RowKit Go.Proofs.YtakfoidmabendaaDoor.E
def KL (f : FuncId) (a : Array Value) : Option Value := match Nat.beq f 84 with
  | true => match a.toList with
    | [.string s] => some (Gly.firstV (GlyP.first s.data.toList))
    | _ => none
  | false => none
theorem KL_ok (f : FuncId) (a : Array Value) (v : Value) (h : KL f a = some v) (w : World) : Calls Tryd.prog f a w fun e w' => e = .returned v ∧ Below w.heap.size w w' := by
  unfold KL at h
  split at h <;> try (cases h; done)
  rename_i hf
  have hf : f = 84 := Nat.eq_of_beq_eq_true hf
  subst hf
  split at h <;> try (cases h; done)
  rename_i s hs
  simp only [Option.some.injEq] at h
  subst h
  obtain rfl : a = #[.string s] := Array.ext' hs
  exact Gly.First_any s w
set_option maxRecDepth 100000 in
theorem live_any (w : World) : Calls Tryd.prog 7 #[] w fun e w' => e = .returned (.bool true) ∧ Below w.heap.size w w' :=
  calls_answer mixed KL_ok (G := 64) (cf := 100000) (n := 60) (fun Fr => by kernel_rfl) rfl rfl w
end Go.Proofs.YtakfoidmabendaaDoor.Pay

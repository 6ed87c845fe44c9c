/- wharfref01.Fold as the printed texts want it. -/
import Derived.Test.YthifpbaebbodoaaDoorRefF
set_option linter.unusedVariables false
namespace Go.Proofs.YthifpbaebbodoaaDoor.F
open Go.RowKit GlyP
/-- A bound on lengths. -/
def lim : Nat := 35184372088832
def wharfref01_Fold.f (a0 : ByteArray) : Option ByteArray := if a0.size ≤ lim then some ⟨(a0.data.toList.map Gly.low).toArray⟩ else none
theorem wharfref01_Fold.calls (a0 : ByteArray) (r : ByteArray) (w : World) (h : wharfref01_Fold.f a0 = some r) :
    Calls Tryd.prog 23 #[.string a0] w fun e w' => e = .returned (.string r) ∧ Below w.heap.size w w' := by
  unfold wharfref01_Fold.f at h
  by_cases hc : a0.size ≤ lim
  · rw [if_pos hc] at h
    obtain rfl := Option.some.inj h
    exact Gly.RFold_any a0 (by unfold lim at hc; omega) w
  · rw [if_neg hc] at h; cases h
end Go.Proofs.YthifpbaebbodoaaDoor.F

/- Contracts of functions of this translation, and what they come to; what is not used is left out. -/
import Derived.Test.YtpjkbamkaicoiaaDoorPRefF
import Derived.Test.YtpjkbamkaicoiaaDoorPGlyA
import Derived.Test.YtpjkbamkaicoiaaDoorPGlyP
import Derived.Test.YtpjkbamkaicoiaaDoorPUtil

section
/- wharfref01.Fold as the printed texts want it. -/
set_option linter.unusedVariables false
namespace Go.Proofs.YtpjkbamkaicoiaaDoor.F
open Go.RowKit GlyP
/-- A bound on lengths. -/
def rlim : Nat := 35184372088832
def wharfref01_Fold.f (a0 : ByteArray) : Option ByteArray := if a0.size ≤ rlim then some ⟨(a0.data.toList.map Gly.low).toArray⟩ else none
theorem wharfref01_Fold.calls (a0 : ByteArray) (r : ByteArray) (w : World) (h : wharfref01_Fold.f a0 = some r) :
    Calls Tryd.prog 69 #[.string a0] w fun e w' => e = .returned (.string r) ∧ Below w.heap.size w w' := by
  unfold wharfref01_Fold.f at h
  by_cases hc : a0.size ≤ rlim
  · rw [if_pos hc] at h
    obtain rfl := Option.some.inj h
    exact Gly.RFold_any a0 (by unfold rlim at hc; omega) w
  · rw [if_neg hc] at h; cases h
end Go.Proofs.YtpjkbamkaicoiaaDoor.F
end

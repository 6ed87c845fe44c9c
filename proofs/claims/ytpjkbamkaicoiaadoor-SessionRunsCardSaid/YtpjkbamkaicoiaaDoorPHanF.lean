/- Contracts of functions of this translation, and what they come to; what is not used is left out. -/
import Derived.Test.YtpjkbamkaicoiaaDoorPHanA
import Derived.Test.YtpjkbamkaicoiaaDoorPGlyA
import Derived.Test.YtpjkbamkaicoiaaDoorPGlyP
import Derived.Test.YtpjkbamkaicoiaaDoorPUtil
import Derived.Test.YtpjkbamkaicoiaaDoorPRep
import Derived.Test.YtpjkbamkaicoiaaDoorPStrs
import Derived.Test.YtpjkbamkaicoiaaDoorPShelf
import Derived.Test.YtpjkbamkaicoiaaDoorPBld

section
/- handle.Norm and handle.Same as the printed texts want them: what each returns, as a function that may fail past 2^36 bytes. -/
set_option linter.unusedVariables false
namespace Go.Proofs.YtpjkbamkaicoiaaDoor.F
open Go.RowKit
/-- A bound on lengths. -/
def hl : Nat := 68719476736
def handle_Norm.f (a : ByteArray) : Option ByteArray := if a.size ≤ hl then some (Han.normB a) else none
theorem handle_Norm.calls (a r : ByteArray) (w : World) (h : handle_Norm.f a = some r) :
    Calls Tryd.prog 43 #[.string a] w fun e w' => e = .returned (.string r) ∧ Below w.heap.size w w' := by
  unfold handle_Norm.f at h
  by_cases hc : a.size ≤ hl
  · rw [if_pos hc] at h
    obtain rfl := Option.some.inj h
    exact Han.Norm_any a hc w
  · rw [if_neg hc] at h; cases h
def handle_Same.f (a b : ByteArray) : Option Bool := if a.size ≤ hl ∧ b.size ≤ hl then some (Han.norm a.data.toList == Han.norm b.data.toList) else none
theorem handle_Same.calls (a b : ByteArray) (r : Bool) (w : World) (h : handle_Same.f a b = some r) :
    Calls Tryd.prog 28 #[.string a, .string b] w fun e w' => e = .returned (.bool r) ∧ Below w.heap.size w w' := by
  unfold handle_Same.f at h
  by_cases hc : a.size ≤ hl ∧ b.size ≤ hl
  · rw [if_pos hc] at h
    obtain rfl := Option.some.inj h
    exact Han.Same_any a b hc.1 hc.2 w
  · rw [if_neg hc] at h; cases h
end Go.Proofs.YtpjkbamkaicoiaaDoor.F
end

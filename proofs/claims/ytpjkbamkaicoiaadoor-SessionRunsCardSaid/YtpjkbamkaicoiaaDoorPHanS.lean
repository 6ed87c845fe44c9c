/- Contracts of functions of this translation, and what they come to; what is not used is left out. -/
import Derived.Test.YtpjkbamkaicoiaaDoorPHanR
import Derived.Test.YtpjkbamkaicoiaaDoorPHanQ
import Derived.Test.YtpjkbamkaicoiaaDoorPRaQ
import Derived.Test.YtpjkbamkaicoiaaDoorPRefJ
import Derived.Test.YtpjkbamkaicoiaaDoorPRefF
import Derived.Test.YtpjkbamkaicoiaaDoorPGlyA
import Derived.Test.YtpjkbamkaicoiaaDoorPGlyP
import Derived.Test.YtpjkbamkaicoiaaDoorPUtil
import Derived.Test.YtpjkbamkaicoiaaDoorPJidP
import Derived.Test.YtpjkbamkaicoiaaDoorPStrs
import Derived.Test.YtpjkbamkaicoiaaDoorPShelf
import Derived.Test.YtpjkbamkaicoiaaDoorPRaP
import Derived.Test.YtpjkbamkaicoiaaDoorPRa2
import Derived.Test.YtpjkbamkaicoiaaDoorPRa1
import Derived.Test.YtpjkbamkaicoiaaDoorPRa0
import Derived.Test.YtpjkbamkaicoiaaDoorPg0
import Derived.Test.YtpjkbamkaicoiaaDoorPHanP
import Derived.Test.YtpjkbamkaicoiaaDoorPEscB
import Derived.Test.YtpjkbamkaicoiaaDoorPEscA
import Derived.Test.YtpjkbamkaicoiaaDoorPEscP
import Derived.Test.YtpjkbamkaicoiaaDoorPBld
import Derived.Test.YtpjkbamkaicoiaaDoorPHanA
import Derived.Test.YtpjkbamkaicoiaaDoorPRep
import Derived.Test.YtpjkbamkaicoiaaDoorPRc3
import Derived.Test.YtpjkbamkaicoiaaDoorPRc2
import Derived.Test.YtpjkbamkaicoiaaDoorPRc1
import Derived.Test.YtpjkbamkaicoiaaDoorPRc0
import Derived.Test.YtpjkbamkaicoiaaDoorPHanF

section
/- Layer 4's functions as the printed laws want them: without rounds. -/
set_option linter.unusedVariables false
set_option linter.unusedSimpArgs false
namespace Go.Proofs.YtpjkbamkaicoiaaDoor.F
open Go.RowKit HanP HanQ Han
/-- A bound on lengths. -/
def hm : Nat := 1000000
theorem hm_hl {s : ByteArray} (h : s.size ≤ hm) : s.size ≤ hl := by unfold hm at h; unfold hl; omega
def handle_Check.f (s : ByteArray) : Option Int := if s.size ≤ hm then some (if isName s.data.toList then 0 else 40) else none
theorem handle_Check.calls (s : ByteArray) (r : Int) (w : World) (h : handle_Check.f s = some r) :
    Calls Tryd.prog 40 #[.string s] w fun e w' => e = .returned (.int .i64 r) ∧ Below w.heap.size w w' := by
  unfold handle_Check.f at h
  by_cases hc : s.size ≤ hm
  · rw [if_pos hc] at h
    obtain ⟨k, hk⟩ := (check_ev s (hm_hl hc)).rounds
    rw [Option.some.inj h] at hk
    exact Rc.handle_Check.calls k s r w hk
  · rw [if_neg hc] at h; cases h
def handle_ToJid.f (s d : ByteArray) : Option (ByteArray × ByteArray × ByteArray × Int) := if s.size ≤ hm ∧ d.size ≤ hm then some (toV s d) else none
def wharfref04_ToJid.f (s d : ByteArray) : Option (ByteArray × ByteArray × ByteArray × Int) := if s.size ≤ hm ∧ d.size ≤ hm then some (toV s d) else none
def handle_FromJid.f (n d r dom : ByteArray) : Option (ByteArray × Int) := if n.size ≤ hm then some (fromV n d dom) else none
def wharfref04_FromJid.f (n d r dom : ByteArray) : Option (ByteArray × Int) := if n.size ≤ hm then some (fromV n d dom) else none
def wharfref04_Is.f (s : ByteArray) : Option Bool := if s.size ≤ hm then some (isName s.data.toList) else none
theorem wharfref04_Is.calls (s : ByteArray) (r : Bool) (w : World) (h : wharfref04_Is.f s = some r) :
    Calls Tryd.prog 32 #[.string s] w fun e w' => e = .returned (.bool r) ∧ Below w.heap.size w w' := by
  unfold wharfref04_Is.f at h
  by_cases hc : s.size ≤ hm
  · rw [if_pos hc] at h
    obtain ⟨k, hk⟩ := (ris_ev s (hm_hl hc)).rounds
    rw [Option.some.inj h] at hk
    exact Rc.wharfref04_Is.calls k s r w hk
  · rw [if_neg hc] at h; cases h
def wharfref04_Norm.f (s : ByteArray) : Option ByteArray := if s.size ≤ hm then some (normB s) else none
theorem wharfref04_Norm.calls (s r : ByteArray) (w : World) (h : wharfref04_Norm.f s = some r) :
    Calls Tryd.prog 53 #[.string s] w fun e w' => e = .returned (.string r) ∧ Below w.heap.size w w' := by
  unfold wharfref04_Norm.f at h
  by_cases hc : s.size ≤ hm
  · rw [if_pos hc] at h
    obtain ⟨k, hk⟩ := (rnorm_ev s (hm_hl hc)).rounds
    rw [Option.some.inj h] at hk
    exact Rc.wharfref04_Norm.calls k s r w hk
  · rw [if_neg hc] at h; cases h
end Go.Proofs.YtpjkbamkaicoiaaDoor.F
end

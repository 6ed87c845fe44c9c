/- Contracts of functions of this translation, and what they come to; what is not used is left out. -/
import Derived.Test.YtpjkbamkaicoiaaDoorPg7p1
import Derived.Test.YtpjkbamkaicoiaaDoorPg7p0
import Derived.Test.YtpjkbamkaicoiaaDoorPSesE0
import Derived.Test.YtpjkbamkaicoiaaDoorPg1
import Derived.Test.YtpjkbamkaicoiaaDoorPg5
import Derived.Test.YtpjkbamkaicoiaaDoorPCls
import Derived.Test.YtpjkbamkaicoiaaDoorPUtil
import Derived.Test.YtpjkbamkaicoiaaDoorPSoft
import Derived.Test.YtpjkbamkaicoiaaDoorPHanS
import Derived.Test.YtpjkbamkaicoiaaDoorPHanR
import Derived.Test.YtpjkbamkaicoiaaDoorPHanQ
import Derived.Test.YtpjkbamkaicoiaaDoorPRaQ
import Derived.Test.YtpjkbamkaicoiaaDoorPRefJ
import Derived.Test.YtpjkbamkaicoiaaDoorPRefF
import Derived.Test.YtpjkbamkaicoiaaDoorPGlyA
import Derived.Test.YtpjkbamkaicoiaaDoorPGlyP
import Derived.Test.YtpjkbamkaicoiaaDoorPJidP
import Derived.Test.YtpjkbamkaicoiaaDoorPStrs
import Derived.Test.YtpjkbamkaicoiaaDoorPShelf
import Derived.Test.YtpjkbamkaicoiaaDoorPRaP
import Derived.Test.YtpjkbamkaicoiaaDoorPRa2
import Derived.Test.YtpjkbamkaicoiaaDoorPRa1
import Derived.Test.YtpjkbamkaicoiaaDoorPRa0
import Derived.Test.YtpjkbamkaicoiaaDoorPg0
import Derived.Test.YtpjkbamkaicoiaaDoorPHanP
import Derived.Test.YtpjkbamkaicoiaaDoorPEscB
import Derived.Test.YtpjkbamkaicoiaaDoorPEscA
import Derived.Test.YtpjkbamkaicoiaaDoorPEscP
import Derived.Test.YtpjkbamkaicoiaaDoorPBld
import Derived.Test.YtpjkbamkaicoiaaDoorPHanA
import Derived.Test.YtpjkbamkaicoiaaDoorPRep
import Derived.Test.YtpjkbamkaicoiaaDoorPRc3
import Derived.Test.YtpjkbamkaicoiaaDoorPRc2
import Derived.Test.YtpjkbamkaicoiaaDoorPRc1
import Derived.Test.YtpjkbamkaicoiaaDoorPRc0
import Derived.Test.YtpjkbamkaicoiaaDoorPHanF
import Derived.Test.YtpjkbamkaicoiaaDoorPg4
import Derived.Test.YtpjkbamkaicoiaaDoorPg6
import Derived.Test.YtpjkbamkaicoiaaDoorPBox

section
/- wharflaw15.live, by the machine. -/
set_option linter.unusedVariables false
set_option linter.unusedSimpArgs false
set_option maxRecDepth 100000
namespace Go.Proofs.YtpjkbamkaicoiaaDoor.Ses
open Go.RowKit Go.Proofs.YtpjkbamkaicoiaaDoor.E
theorem live_any (w : World) : Calls Tryd.prog 8 #[] w fun e w' => e = .returned (.bool true) ∧ Below w.heap.size w w' := by
  obtain ⟨D, _, hD, _⟩ := salteds ⟨#[107]⟩ ⟨#[112]⟩ (by decide) (by decide)
  have h1 : ∀ Fr, PureC Tryd.prog Fr 39 #[.string ⟨#[112]⟩] (.int .i64 0) := fun Fr => pureC_of (text_yes ⟨#[112]⟩ (by decide) (by kernel_rfl)) rfl (by rfl) Fr
  have h2 : ∀ Fr, PureC Tryd.prog Fr 40 #[.string ⟨#[106, 111, 101]⟩] (.int .i64 0) := fun Fr => pureC_of (check_yes ⟨#[106, 111, 101]⟩ (by decide) (by kernel_rfl)) rfl (by rfl) Fr
  have h3 : ∀ Fr, PureC Tryd.prog Fr 40 #[.string ⟨#[]⟩] (.int .i64 40) := fun Fr => pureC_of (check_no ⟨#[]⟩ (by decide) (by kernel_rfl)) rfl (by rfl) Fr
  have h4 : ∀ Fr, PureC Tryd.prog Fr 27 #[.string ⟨#[107]⟩, .string ⟨#[112]⟩, .string tailS] (.string D) := fun Fr => pureC_of hD rfl (by rfl) Fr
  have h5 : ∀ Fr, PureC Tryd.prog Fr 28 #[.string ⟨#[74, 111, 101]⟩, .string ⟨#[106, 111, 101]⟩] (.bool true) := fun Fr => pureC_of (same_yes ⟨#[74, 111, 101]⟩ ⟨#[106, 111, 101]⟩ (by decide) (by decide) (by kernel_rfl)) rfl (by rfl) Fr
  exact calls_out (P := Tryd.prog) (st := false) (K := fun _ _ => none) (by kernel_rfl) (fun _ _ _ h => by cases h) (G := 64) (cf := 100000) (n := 60) (f := 8) (v := .bool true) (ora := [(11, .val (.int .i64 0)), (3, .val (.int .i64 0)), (50, .val (.string D)), (15, .val (.bool true)), (49, .val (.int .i64 0)), (3, .val (.int .i64 40))]) (fun Fr => by kernel_rfl) (fun Fr => all_cons (h1 Fr) (all_cons (h2 Fr) (all_cons (h4 Fr) (all_cons (h5 Fr) (all_cons (h1 Fr) (all_cons (h3 Fr) all_nil)))))) rfl rfl w
end Go.Proofs.YtpjkbamkaicoiaaDoor.Ses
end

/- Contracts of functions of this translation, and what they come to; what is not used is left out. -/
import Derived.Test.YtpjkbamkaicoiaaDoorYUtil
import Derived.Test.YtpjkbamkaicoiaaDoorYGlyP
import Derived.Test.YtpjkbamkaicoiaaDoorYRa2
import Derived.Test.YtpjkbamkaicoiaaDoorYRa1
import Derived.Test.YtpjkbamkaicoiaaDoorYRa0
import Derived.Test.YtpjkbamkaicoiaaDoorYg0
import Derived.Test.YtpjkbamkaicoiaaDoorYRefJ
import Derived.Test.YtpjkbamkaicoiaaDoorYRefF
import Derived.Test.YtpjkbamkaicoiaaDoorYGlyA

section
/- wharfref01.First and Signs, as printed, against the signs of a text: plain. -/
set_option linter.unusedVariables false
set_option linter.unusedSimpArgs false
namespace Go.Proofs.YtpjkbamkaicoiaaDoor.RaP
open Go.RowKit GlyP Go.Proofs.YtpjkbamkaicoiaaDoorW.PrintWords Go.Proofs.YtpjkbamkaicoiaaDoorW.PrintLast Go.Proofs.YtpjkbamkaicoiaaDoorW.PrintMore Ra

theorem w64 (x : Int) (h0 : -9000000000000000000 ≤ x) (h1 : x ≤ 9000000000000000000) : wrap64 x = x := by simp only [wrap64]; omega
end Go.Proofs.YtpjkbamkaicoiaaDoor.RaP
end

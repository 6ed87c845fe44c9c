/- Contracts of functions of this translation, and what they come to; what is not used is left out. -/
import Derived.Test.YtpjkbamkaicoiaaDoorPg6
import Derived.Test.YtpjkbamkaicoiaaDoorPBox
import Derived.Test.YtpjkbamkaicoiaaDoorPCls
import Derived.Test.YtpjkbamkaicoiaaDoorPUtil
import Derived.Test.YtpjkbamkaicoiaaDoorPg5

section
/- session's functions. (Printed by gen_sesa.py.) -/
set_option linter.unusedVariables false
set_option linter.unusedSimpArgs false
set_option maxRecDepth 100000
namespace Go.Proofs.YtpjkbamkaicoiaaDoor.Ses
open Go.RowKit U
abbrev tailS : ByteArray := ⟨#[65, 79, 76, 32, 73, 110, 115, 116, 97, 110, 116, 32, 77, 101, 115, 115, 101, 110, 103, 101, 114, 32, 40, 83, 77, 41]⟩
end Go.Proofs.YtpjkbamkaicoiaaDoor.Ses
end

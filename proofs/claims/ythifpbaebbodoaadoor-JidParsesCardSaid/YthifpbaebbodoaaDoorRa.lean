/- What functions of this translation return, each a function of Lean and its contract; written by a program of the session. -/
import Derived.Test.YthifpbaebbodoaaDoorRa0
import Derived.Test.YthifpbaebbodoaaDoorRa1
import Derived.Test.YthifpbaebbodoaaDoorRa2
namespace Go.Proofs.YthifpbaebbodoaaDoor.Ra
open Go.RowKit Go.Proofs.YthifpbaebbodoaaDoor.F Go.Proofs.YthifpbaebbodoaaDoorW.PrintWords Go.Proofs.YthifpbaebbodoaaDoorW.PrintLast Go.Proofs.YthifpbaebbodoaaDoorW.PrintMore
attribute [local go_sem] max2_int min2_int max_two min_two max_three min_three max_four min_four   -- for this text's walks alone
set_option linter.unusedVariables false
set_option linter.unusedSimpArgs false

end Go.Proofs.YthifpbaebbodoaaDoor.Ra

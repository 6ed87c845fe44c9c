/- Contracts of functions of this translation, and what they come to; what is not used is left out. -/
import Derived.BigQuiet
import Derived.Test.YtofdiilfedjhkaaDoorKUtil

section
/- A region that draws its order, whose operations only read and whose callees keep S: walked once, in the order of the text. -/
set_option linter.unusedVariables false
set_option linter.unusedSimpArgs false
namespace Go.Proofs.YtofdiilfedjhkaaDoor.U
open Go.RowKit
/-- A world that holds S. -/
structure In (S : World → Prop) where
  w : World
  h : S w
end Go.Proofs.YtofdiilfedjhkaaDoor.U
end

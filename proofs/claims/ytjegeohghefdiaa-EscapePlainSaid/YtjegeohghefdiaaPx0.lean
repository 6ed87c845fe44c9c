/- What functions of this translation return, each a function of Lean and its contract; written by a program of the session. -/
import Derived.Test.YtjegeohghefdiaaProg
import Derived.Below
import Derived.Deep.Draws
import Derived.Deep.AppendLies
import Derived.Maps.AppendAt
import Derived.OwnWalk
import Derived.Laws.BytesArg
import Derived.Laws.MakeOwn
import Derived.Laws.OwnMore
import Derived.Deep.OwnRows
import Derived.Tactics
import Derived.Lib.ConvBytes
import Derived.Laws.Slices
import Derived.WalkKit
import Derived.KernelRfl
import Derived.RowKit3
import Derived.Deep.LoopGhost
import Derived.Deep.QuietTactic
import Derived.BigQuiet
import Derived.WideLaws
import Derived.Deep.DeepCutAuto
import Derived.Deep.CutBlock
import Derived.Deep.RegionHeld3
import Derived.Laws.Rows
import Derived.Lib.AppendStr
import Derived.ArgAppend
import Derived.Laws.IdiomCopy
import Derived.OrdersHeld
import Derived.Laws.BitsLemmas
import Derived.RowKit
import Derived.Test.YtjegeohghefdiaaEscF
import Derived.Test.YtjegeohghefdiaaWWords
import Derived.Test.YtjegeohghefdiaaWLast
import Derived.Test.YtjegeohghefdiaaWTab
import Derived.Test.YtjegeohghefdiaaWFour
import Derived.Test.YtjegeohghefdiaaWQPut
import Derived.Test.YtjegeohghefdiaaWApart
import Derived.Test.YtjegeohghefdiaaWArr
import Derived.Test.YtjegeohghefdiaaWZeros
import Derived.Test.YtjegeohghefdiaaWFoot
import Derived.Test.YtjegeohghefdiaaWKept
import Derived.Test.YtjegeohghefdiaaWShare
import Derived.Test.YtjegeohghefdiaaWN
import Derived.Test.YtjegeohghefdiaaWFootNe
import Derived.Test.YtjegeohghefdiaaWAt
import Derived.Test.YtjegeohghefdiaaWEqStruct
import Derived.Test.YtjegeohghefdiaaWRepsOne
import Derived.Test.YtjegeohghefdiaaWInv
import Derived.Test.YtjegeohghefdiaaWInvWords
import Derived.Test.YtjegeohghefdiaaWGuard
import Derived.Test.YtjegeohghefdiaaWNEv
import Derived.Test.YtjegeohghefdiaaWMore
namespace Go.Proofs.Ytjegeohghefdiaa.Px
open Go.RowKit Go.Proofs.Ytjegeohghefdiaa.F Go.Proofs.YtjegeohghefdiaaW.PrintWords Go.Proofs.YtjegeohghefdiaaW.PrintLast Go.Proofs.YtjegeohghefdiaaW.PrintMore
attribute [local go_sem] max2_int min2_int max_two min_two max_three min_three max_four min_four   -- for this text's walks alone
set_option linter.unusedVariables false
set_option linter.unusedSimpArgs false



def errW : Option Int → Value
  | none => .nilIface
  | some c => .iface 0 (.int .i64 c)
theorem errW_none : errW none = .nilIface := rfl
theorem errW_some (c : Int) : errW (some c) = .iface 0 (.int .i64 c) := rfl

-- the values' own types

end Go.Proofs.Ytjegeohghefdiaa.Px

/- What functions of this translation return, each a function of Lean and its contract; written by a program of the session. -/
import Derived.Test.YtnaimienfgpgmaaDoorProg
import Derived.Below
import Derived.Deep.Draws
import Derived.Deep.AppendLies
import Derived.Maps.AppendAt
import Derived.OwnWalk
import Derived.Laws.BytesArg
import Derived.Laws.MakeOwn
import Derived.Laws.OwnMore
import Derived.Deep.OwnRows
import Derived.Tactics
import Derived.Lib.ConvBytes
import Derived.Laws.Slices
import Derived.WalkKit
import Derived.KernelRfl
import Derived.RowKit3
import Derived.Deep.LoopGhost
import Derived.Deep.QuietTactic
import Derived.BigQuiet
import Derived.WideLaws
import Derived.Deep.DeepCutAuto
import Derived.Deep.CutBlock
import Derived.Deep.RegionHeld3
import Derived.Laws.Rows
import Derived.Lib.AppendStr
import Derived.ArgAppend
import Derived.Laws.IdiomCopy
import Derived.OrdersHeld
import Derived.Laws.BitsLemmas
import Derived.RowKit
import Derived.Test.YtnaimienfgpgmaaDoorZ0
import Derived.Test.YtnaimienfgpgmaaDoorZ1
import Derived.Test.YtnaimienfgpgmaaDoorZ2
import Derived.Test.YtnaimienfgpgmaaDoorZ3
import Derived.Test.YtnaimienfgpgmaaDoorWWords
import Derived.Test.YtnaimienfgpgmaaDoorWLast
import Derived.Test.YtnaimienfgpgmaaDoorWTab
import Derived.Test.YtnaimienfgpgmaaDoorWFour
import Derived.Test.YtnaimienfgpgmaaDoorWQPut
import Derived.Test.YtnaimienfgpgmaaDoorWApart
import Derived.Test.YtnaimienfgpgmaaDoorWArr
import Derived.Test.YtnaimienfgpgmaaDoorWZeros
import Derived.Test.YtnaimienfgpgmaaDoorWFoot
import Derived.Test.YtnaimienfgpgmaaDoorWKept
import Derived.Test.YtnaimienfgpgmaaDoorWShare
import Derived.Test.YtnaimienfgpgmaaDoorWN
import Derived.Test.YtnaimienfgpgmaaDoorWFootNe
import Derived.Test.YtnaimienfgpgmaaDoorWAt
import Derived.Test.YtnaimienfgpgmaaDoorWEqStruct
import Derived.Test.YtnaimienfgpgmaaDoorWRepsOne
import Derived.Test.YtnaimienfgpgmaaDoorWInv
import Derived.Test.YtnaimienfgpgmaaDoorWInvWords
import Derived.Test.YtnaimienfgpgmaaDoorWGuard
import Derived.Test.YtnaimienfgpgmaaDoorWNEv
import Derived.Test.YtnaimienfgpgmaaDoorWMore
namespace Go.Proofs.YtnaimienfgpgmaaDoor.Pj
open Go.RowKit Go.Proofs.YtnaimienfgpgmaaDoor.F Go.Proofs.YtnaimienfgpgmaaDoorW.PrintWords Go.Proofs.YtnaimienfgpgmaaDoorW.PrintLast Go.Proofs.YtnaimienfgpgmaaDoorW.PrintMore
attribute [local go_sem] max2_int min2_int max_two min_two max_three min_three max_four min_four   -- for this text's walks alone
set_option linter.unusedVariables false
set_option linter.unusedSimpArgs false



def errW : Option Int → Value
  | none => .nilIface
  | some c => .iface 0 (.int .i64 c)
theorem errW_none : errW none = .nilIface := rfl
theorem errW_some (c : Int) : errW (some c) = .iface 0 (.int .i64 c) := rfl

-- the values' own types

end Go.Proofs.YtnaimienfgpgmaaDoor.Pj

/- A text of this session, written by a program (wip/tools): Go functions as Lean functions, and proofs that the code comes to them. -/
import Derived.Test.YtddcfnhbedpbnaaProg
import Derived.Below
import Derived.Deep.Draws
import Derived.Deep.AppendLies
import Derived.Maps.AppendAt
import Derived.OwnWalk
import Derived.Laws.BytesArg
import Derived.Laws.MakeOwn
import Derived.Laws.OwnMore
import Derived.Deep.OwnRows
import Derived.Tactics
import Derived.Lib.ConvBytes
import Derived.Laws.Slices
import Derived.WalkKit
import Derived.KernelRfl
import Derived.RowKit3
import Derived.Deep.LoopGhost
import Derived.Deep.QuietTactic
import Derived.BigQuiet
import Derived.WideLaws
import Derived.Deep.DeepCutAuto
import Derived.Deep.CutBlock
import Derived.Deep.RegionHeld3
import Derived.Laws.Rows
import Derived.Lib.AppendStr
import Derived.ArgAppend
import Derived.Laws.IdiomCopy
import Derived.OrdersHeld
import Derived.Laws.BitsLemmas
import Derived.RowKit
import Derived.Test.YtddcfnhbedpbnaaWWords
import Derived.Test.YtddcfnhbedpbnaaWLast
import Derived.Test.YtddcfnhbedpbnaaWTab
import Derived.Test.YtddcfnhbedpbnaaWFour
import Derived.Test.YtddcfnhbedpbnaaWQPut
import Derived.Test.YtddcfnhbedpbnaaWApart
import Derived.Test.YtddcfnhbedpbnaaWArr
import Derived.Test.YtddcfnhbedpbnaaWZeros
import Derived.Test.YtddcfnhbedpbnaaWFoot
import Derived.Test.YtddcfnhbedpbnaaWKept
import Derived.Test.YtddcfnhbedpbnaaWShare
import Derived.Test.YtddcfnhbedpbnaaWN
import Derived.Test.YtddcfnhbedpbnaaWFootNe
import Derived.Test.YtddcfnhbedpbnaaWAt
import Derived.Test.YtddcfnhbedpbnaaWEqStruct
import Derived.Test.YtddcfnhbedpbnaaWRepsOne
import Derived.Test.YtddcfnhbedpbnaaWInv
import Derived.Test.YtddcfnhbedpbnaaWInvWords
import Derived.Test.YtddcfnhbedpbnaaWGuard
import Derived.Test.YtddcfnhbedpbnaaWNEv
import Derived.Test.YtddcfnhbedpbnaaWMore
namespace Go.Proofs.Ytddcfnhbedpbnaa.QTurnAsks
open Go.RowKit Go.Proofs.YtddcfnhbedpbnaaW.PrintWords Go.Proofs.YtddcfnhbedpbnaaW.PrintLast Go.Proofs.YtddcfnhbedpbnaaW.PrintMore
attribute [local go_sem] max2_int min2_int max_two min_two max_three min_three max_four min_four   -- for this text's walks alone
set_option linter.unusedVariables false
set_option linter.unusedSimpArgs false



def errW : Option Int → Value
  | none => .nilIface
  | some c => .iface 55 (.int .i64 c)
theorem errW_none : errW none = .nilIface := rfl
theorem errW_some (c : Int) : errW (some c) = .iface 55 (.int .i64 c) := rfl

-- the values' own types

end Go.Proofs.Ytddcfnhbedpbnaa.QTurnAsks

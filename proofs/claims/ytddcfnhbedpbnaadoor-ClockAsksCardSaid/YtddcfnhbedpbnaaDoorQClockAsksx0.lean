/- A text of this session, written by a program (wip/tools): Go functions as Lean functions, and proofs that the code comes to them. -/
import Derived.Test.YtddcfnhbedpbnaaDoorProg
import Derived.Below
import Derived.Deep.Draws
import Derived.Deep.AppendLies
import Derived.Maps.AppendAt
import Derived.OwnWalk
import Derived.Laws.BytesArg
import Derived.Laws.MakeOwn
import Derived.Laws.OwnMore
import Derived.Deep.OwnRows
import Derived.Tactics
import Derived.Lib.ConvBytes
import Derived.Laws.Slices
import Derived.WalkKit
import Derived.KernelRfl
import Derived.RowKit3
import Derived.Deep.LoopGhost
import Derived.Deep.QuietTactic
import Derived.BigQuiet
import Derived.WideLaws
import Derived.Deep.DeepCutAuto
import Derived.Deep.CutBlock
import Derived.Deep.RegionHeld3
import Derived.Laws.Rows
import Derived.Lib.AppendStr
import Derived.ArgAppend
import Derived.Laws.IdiomCopy
import Derived.OrdersHeld
import Derived.Laws.BitsLemmas
import Derived.RowKit
import Derived.Test.YtddcfnhbedpbnaaDoorAs
import Derived.Test.YtddcfnhbedpbnaaDoorWWords
import Derived.Test.YtddcfnhbedpbnaaDoorWLast
import Derived.Test.YtddcfnhbedpbnaaDoorWTab
import Derived.Test.YtddcfnhbedpbnaaDoorWFour
import Derived.Test.YtddcfnhbedpbnaaDoorWQPut
import Derived.Test.YtddcfnhbedpbnaaDoorWApart
import Derived.Test.YtddcfnhbedpbnaaDoorWArr
import Derived.Test.YtddcfnhbedpbnaaDoorWZeros
import Derived.Test.YtddcfnhbedpbnaaDoorWFoot
import Derived.Test.YtddcfnhbedpbnaaDoorWKept
import Derived.Test.YtddcfnhbedpbnaaDoorWShare
import Derived.Test.YtddcfnhbedpbnaaDoorWN
import Derived.Test.YtddcfnhbedpbnaaDoorWFootNe
import Derived.Test.YtddcfnhbedpbnaaDoorWAt
import Derived.Test.YtddcfnhbedpbnaaDoorWEqStruct
import Derived.Test.YtddcfnhbedpbnaaDoorWRepsOne
import Derived.Test.YtddcfnhbedpbnaaDoorWInv
import Derived.Test.YtddcfnhbedpbnaaDoorWInvWords
import Derived.Test.YtddcfnhbedpbnaaDoorWGuard
import Derived.Test.YtddcfnhbedpbnaaDoorWNEv
import Derived.Test.YtddcfnhbedpbnaaDoorWMore
namespace Go.Proofs.YtddcfnhbedpbnaaDoor.QClockAsks
open Go.RowKit Go.Proofs.YtddcfnhbedpbnaaDoorW.PrintWords Go.Proofs.YtddcfnhbedpbnaaDoorW.PrintLast Go.Proofs.YtddcfnhbedpbnaaDoorW.PrintMore
attribute [local go_sem] max2_int min2_int max_two min_two max_three min_three max_four min_four   -- for this text's walks alone
set_option linter.unusedVariables false
set_option linter.unusedSimpArgs false



def errW : Option Int → Value
  | none => .nilIface
  | some c => .iface 70 (.int .i64 c)
theorem errW_none : errW none = .nilIface := rfl
theorem errW_some (c : Int) : errW (some c) = .iface 70 (.int .i64 c) := rfl

-- the values' own types

end Go.Proofs.YtddcfnhbedpbnaaDoor.QClockAsks

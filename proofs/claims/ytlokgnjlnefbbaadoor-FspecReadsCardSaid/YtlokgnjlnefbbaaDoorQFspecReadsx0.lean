/- A text of this session, written by a program (wip/tools): Go functions as Lean functions, and proofs that the code comes to them. -/
import Derived.Test.YtlokgnjlnefbbaaDoorProg
import Derived.Below
import Derived.Deep.Draws
import Derived.Deep.AppendLies
import Derived.Maps.AppendAt
import Derived.OwnWalk
import Derived.Laws.BytesArg
import Derived.Laws.MakeOwn
import Derived.Laws.OwnMore
import Derived.Deep.OwnRows
import Derived.Tactics
import Derived.Lib.ConvBytes
import Derived.Laws.Slices
import Derived.WalkKit
import Derived.KernelRfl
import Derived.RowKit3
import Derived.Deep.LoopGhost
import Derived.Deep.QuietTactic
import Derived.BigQuiet
import Derived.WideLaws
import Derived.Deep.DeepCutAuto
import Derived.Deep.CutBlock
import Derived.Deep.RegionHeld3
import Derived.Laws.Rows
import Derived.Lib.AppendStr
import Derived.ArgAppend
import Derived.Laws.IdiomCopy
import Derived.OrdersHeld
import Derived.Laws.BitsLemmas
import Derived.RowKit
import Derived.Test.YtlokgnjlnefbbaaDoorAs
import Derived.Test.YtlokgnjlnefbbaaDoorMine
import Derived.Test.YtlokgnjlnefbbaaDoorWWords
import Derived.Test.YtlokgnjlnefbbaaDoorWLast
import Derived.Test.YtlokgnjlnefbbaaDoorWTab
import Derived.Test.YtlokgnjlnefbbaaDoorWFour
import Derived.Test.YtlokgnjlnefbbaaDoorWQPut
import Derived.Test.YtlokgnjlnefbbaaDoorWApart
import Derived.Test.YtlokgnjlnefbbaaDoorWArr
import Derived.Test.YtlokgnjlnefbbaaDoorWZeros
import Derived.Test.YtlokgnjlnefbbaaDoorWFoot
import Derived.Test.YtlokgnjlnefbbaaDoorWKept
import Derived.Test.YtlokgnjlnefbbaaDoorWShare
import Derived.Test.YtlokgnjlnefbbaaDoorWN
import Derived.Test.YtlokgnjlnefbbaaDoorWFootNe
import Derived.Test.YtlokgnjlnefbbaaDoorWAt
import Derived.Test.YtlokgnjlnefbbaaDoorWEqStruct
import Derived.Test.YtlokgnjlnefbbaaDoorWRepsOne
import Derived.Test.YtlokgnjlnefbbaaDoorWInv
import Derived.Test.YtlokgnjlnefbbaaDoorWInvWords
import Derived.Test.YtlokgnjlnefbbaaDoorWGuard
import Derived.Test.YtlokgnjlnefbbaaDoorWNEv
import Derived.Test.YtlokgnjlnefbbaaDoorWMore
namespace Go.Proofs.YtlokgnjlnefbbaaDoor.QFspecReads
open Go.RowKit Go.Proofs.YtlokgnjlnefbbaaDoorW.PrintWords Go.Proofs.YtlokgnjlnefbbaaDoorW.PrintLast Go.Proofs.YtlokgnjlnefbbaaDoorW.PrintMore
attribute [local go_sem] max2_int min2_int max_two min_two max_three min_three max_four min_four   -- for this text's walks alone
set_option linter.unusedVariables false
set_option linter.unusedSimpArgs false



def errW : Option Int → Value
  | none => .nilIface
  | some c => .iface 73 (.int .i64 c)
theorem errW_none : errW none = .nilIface := rfl
theorem errW_some (c : Int) : errW (some c) = .iface 73 (.int .i64 c) := rfl

theorem info3 : (Tryd.prog.info? 3).map (fun i => (i.zero, i.size, i.bytes)) = some (some (.int .i64 0), 1, 8) := by kernel_rfl
theorem info5 : (Tryd.prog.info? 5).map (fun i => (i.zero, i.size, i.bytes)) = some (some (.int .u8 0), 1, 1) := by kernel_rfl
-- the values' own types

end Go.Proofs.YtlokgnjlnefbbaaDoor.QFspecReads

/- A text of this session, written by a program (wip/k/gen.py): Go functions as Lean functions, and proofs that the code comes to them. -/
import Derived.Test.YtkccpkccdbfomaaGreatDoorGSLx5
namespace Go.Proofs.YtkccpkccdbfomaaGreatDoor.GSL
open Go Go.RowKit Go.Proofs.YtkccpkccdbfomaaGreatDoorK Go.Proofs.YtkccpkccdbfomaaGreatDoor
set_option linter.unusedVariables false
set_option linter.unusedSimpArgs false
def radomelaw34_SpanLast.Pure : Prop := ∀ (n : Int) (bits : Int), (Lit.int .i64 n).wf = true → (Lit.int .i64 bits).wf = true → ∃ k, radomelaw34_SpanLast.f k n bits = some true
end Go.Proofs.YtkccpkccdbfomaaGreatDoor.GSL

/- A text of this session, written by a program (wip/k/gen.py): Go functions as Lean functions, and proofs that the code comes to them. -/
import Derived.Test.YtoijknggnlbopaaDoorGCRx1
namespace Go.Proofs.YtoijknggnlbopaaDoor.GCR
open Go Go.RowKit Go.Proofs.YtoijknggnlbopaaDoorK Go.Proofs.YtoijknggnlbopaaDoor
set_option linter.unusedVariables false
set_option linter.unusedSimpArgs false
def radomelaw37_ClutterRuns.Pure : Prop := ∀ (of_ : T55) (wide : Int) (l : List radomelaw37_Act), ((Lit.int .i64 of_.e0).wf = true ∧ (Lit.int .i64 of_.e1).wf = true) → (Lit.int .i64 wide).wf = true → ((l.length ≤ maxLen ∧ l.length * 32 ≤ 140737488351232) ∧ ∀ x1_ ∈ l, ((Lit.int .i64 x1_.f_Kind).wf = true ∧ ((Lit.int .i64 x1_.f_P.f_Range).wf = true ∧ ((Lit.int .u16 x1_.f_P.f_Azimuth).wf = true ∧ (Lit.int .i64 x1_.f_P.f_Time).wf = true)))) → ∃ k, radomelaw37_ClutterRuns.f k of_ wide l = some true
end Go.Proofs.YtoijknggnlbopaaDoor.GCR

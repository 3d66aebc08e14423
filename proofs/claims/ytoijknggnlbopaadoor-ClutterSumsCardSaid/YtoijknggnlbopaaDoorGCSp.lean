/- A text of this session, written by a program (wip/k/gen.py): Go functions as Lean functions, and proofs that the code comes to them. -/
import Derived.Test.YtoijknggnlbopaaDoorGCSx1
namespace Go.Proofs.YtoijknggnlbopaaDoor.GCS
open Go Go.RowKit Go.Proofs.YtoijknggnlbopaaDoorK Go.Proofs.YtoijknggnlbopaaDoor
set_option linter.unusedVariables false
set_option linter.unusedSimpArgs false
def radomelaw37_ClutterSums.Pure : Prop := ∀ (of_ : T55) (l : List radomeref10_Plot), ((Lit.int .i64 of_.e0).wf = true ∧ (Lit.int .i64 of_.e1).wf = true) → ((l.length ≤ maxLen ∧ l.length * 24 ≤ 140737488351232) ∧ ∀ x1_ ∈ l, ((Lit.int .i64 x1_.f_Range).wf = true ∧ ((Lit.int .u16 x1_.f_Azimuth).wf = true ∧ (Lit.int .i64 x1_.f_Time).wf = true))) → ∃ k, radomelaw37_ClutterSums.f k of_ l = some true
end Go.Proofs.YtoijknggnlbopaaDoor.GCS

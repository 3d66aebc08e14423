/- A text of this session, written by a program (wip/k/gen.py): Go functions as Lean functions, and proofs that the code comes to them. -/
import Derived.Test.YtoijknggnlbopaaDoorGZWx1
namespace Go.Proofs.YtoijknggnlbopaaDoor.GZW
open Go Go.RowKit Go.Proofs.YtoijknggnlbopaaDoorK Go.Proofs.YtoijknggnlbopaaDoor
set_option linter.unusedVariables false
set_option linter.unusedSimpArgs false
def radomelaw39_ZoneWhere.Pure : Prop := ∀ (z : radomeref39_Zone) (p : radomeref39_Spot), (z.f_Name.size ≤ 140737488351232 ∧ ((z.f_Corners.length ≤ maxLen ∧ z.f_Corners.length * 8 ≤ 140737488351232) ∧ ∀ x1_ ∈ z.f_Corners, ((Lit.int .i32 x1_.f_X).wf = true ∧ (Lit.int .i32 x1_.f_Y).wf = true))) → ((Lit.int .i32 p.f_X).wf = true ∧ (Lit.int .i32 p.f_Y).wf = true) → ∃ k, radomelaw39_ZoneWhere.f k z p = some true
end Go.Proofs.YtoijknggnlbopaaDoor.GZW

/- A text of this session, written by a program (wip/k/gen.py): Go functions as Lean functions, and proofs that the code comes to them. -/
import Derived.Test.YtoijknggnlbopaaDoorGZHx1
namespace Go.Proofs.YtoijknggnlbopaaDoor.GZH
open Go Go.RowKit Go.Proofs.YtoijknggnlbopaaDoorK Go.Proofs.YtoijknggnlbopaaDoor
set_option linter.unusedVariables false
set_option linter.unusedSimpArgs false
def radomelaw39_ZoneHits.Pure : Prop := ∀ (l : List radomeref39_Zone) (p : radomeref39_Spot), ((l.length ≤ maxLen ∧ l.length * 40 ≤ 140737488351232) ∧ ∀ x1_ ∈ l, (x1_.f_Name.size ≤ 140737488351232 ∧ ((x1_.f_Corners.length ≤ maxLen ∧ x1_.f_Corners.length * 8 ≤ 140737488351232) ∧ ∀ x2_ ∈ x1_.f_Corners, ((Lit.int .i32 x2_.f_X).wf = true ∧ (Lit.int .i32 x2_.f_Y).wf = true)))) → ((Lit.int .i32 p.f_X).wf = true ∧ (Lit.int .i32 p.f_Y).wf = true) → ∃ k, radomelaw39_ZoneHits.f k l p = some true
end Go.Proofs.YtoijknggnlbopaaDoor.GZH

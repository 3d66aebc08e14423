/- A text of this session, written by a program (wip/k/gen.py): Go functions as Lean functions, and proofs that the code comes to them. -/
import Derived.Test.YtacbficpehmlnaaDoorGBSx3
namespace Go.Proofs.YtacbficpehmlnaaDoor.GBS
open Go Go.RowKit Go.Proofs.YtacbficpehmlnaaDoorK Go.Proofs.YtacbficpehmlnaaDoor
set_option linter.unusedVariables false
set_option linter.unusedSimpArgs false
def radomelaw22_BestShows.Pure : Prop := ∀ (c_ : radomeref20_Costs) (l : T46) (total : Int), (((c_.f_Rows.length ≤ maxLen ∧ c_.f_Rows.length * 24 ≤ 140737488351232) ∧ ∀ x1_ ∈ c_.f_Rows, ((x1_.length ≤ maxLen ∧ x1_.length * 8 ≤ 140737488351232) ∧ ∀ x2_ ∈ x1_, (Lit.int .i64 x2_).wf = true)) ∧ (Lit.int .i64 c_.f_Miss).wf = true) → (((l.e0.length ≤ maxLen ∧ l.e0.length * 8 ≤ 140737488351232) ∧ ∀ x3_ ∈ l.e0, (Lit.int .i64 x3_).wf = true) ∧ ((l.e1.length ≤ maxLen ∧ l.e1.length * 8 ≤ 140737488351232) ∧ ∀ x4_ ∈ l.e1, (Lit.int .i64 x4_).wf = true)) → (Lit.int .i64 total).wf = true → ∃ k, radomelaw22_BestShows.f k c_ l total = some true
end Go.Proofs.YtacbficpehmlnaaDoor.GBS

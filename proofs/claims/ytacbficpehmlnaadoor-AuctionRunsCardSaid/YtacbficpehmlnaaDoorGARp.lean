/- A text of this session, written by a program (wip/k/gen.py): Go functions as Lean functions, and proofs that the code comes to them. -/
import Derived.Test.YtacbficpehmlnaaDoorGARx1
namespace Go.Proofs.YtacbficpehmlnaaDoor.GAR
open Go Go.RowKit Go.Proofs.YtacbficpehmlnaaDoorK Go.Proofs.YtacbficpehmlnaaDoor
set_option linter.unusedVariables false
set_option linter.unusedSimpArgs false
def radomelaw21_AuctionRuns.Pure : Prop := ∀ (c_ : radomeref20_Costs) (of_ : T25), (((c_.f_Rows.length ≤ maxLen ∧ c_.f_Rows.length * 24 ≤ 140737488351232) ∧ ∀ x1_ ∈ c_.f_Rows, ((x1_.length ≤ maxLen ∧ x1_.length * 8 ≤ 140737488351232) ∧ ∀ x2_ ∈ x1_, (Lit.int .i64 x2_).wf = true)) ∧ (Lit.int .i64 c_.f_Miss).wf = true) → ((Lit.int .i64 of_.e0).wf = true ∧ (Lit.int .i64 of_.e1).wf = true) → ∃ k, radomelaw21_AuctionRuns.f k c_ of_ = some true
end Go.Proofs.YtacbficpehmlnaaDoor.GAR

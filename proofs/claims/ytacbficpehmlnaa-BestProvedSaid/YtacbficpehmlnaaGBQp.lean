/- A text of this session, written by a program (wip/k/gen.py): Go functions as Lean functions, and proofs that the code comes to them. -/
import Derived.Test.YtacbficpehmlnaaGBQx4
namespace Go.Proofs.Ytacbficpehmlnaa.GBQ
open Go Go.RowKit Go.Proofs.YtacbficpehmlnaaK Go.Proofs.Ytacbficpehmlnaa
set_option linter.unusedVariables false
set_option linter.unusedSimpArgs false
def radomelaw22_BestProved.Pure : Prop := ∀ (c_ : radomeref20_Costs) (at_ : List Int), (((c_.f_Rows.length ≤ maxLen ∧ c_.f_Rows.length * 24 ≤ 140737488351232) ∧ ∀ x1_ ∈ c_.f_Rows, ((x1_.length ≤ maxLen ∧ x1_.length * 8 ≤ 140737488351232) ∧ ∀ x2_ ∈ x1_, (Lit.int .i64 x2_).wf = true)) ∧ (Lit.int .i64 c_.f_Miss).wf = true) → ((at_.length ≤ maxLen ∧ at_.length * 8 ≤ 140737488351232) ∧ ∀ x3_ ∈ at_, (Lit.int .i64 x3_).wf = true) → ∃ k, radomelaw22_BestProved.f k c_ at_ = some true
end Go.Proofs.Ytacbficpehmlnaa.GBQ

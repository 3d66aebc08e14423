/- A text of this session, written by a program (wip/k/gen.py): Go functions as Lean functions, and proofs that the code comes to them. -/
import Derived.Test.YtoijknggnlbopaaDoorGCPx1
namespace Go.Proofs.YtoijknggnlbopaaDoor.GCP
open Go Go.RowKit Go.Proofs.YtoijknggnlbopaaDoorK Go.Proofs.YtoijknggnlbopaaDoor
set_option linter.unusedVariables false
set_option linter.unusedSimpArgs false
def radomelaw19_ClusterParts.Pure : Prop := ∀ (pairs : List (List Int)) (plots : Int), ((pairs.length ≤ maxLen ∧ pairs.length * 24 ≤ 140737488351232) ∧ ∀ x1_ ∈ pairs, ((x1_.length ≤ maxLen ∧ x1_.length * 8 ≤ 140737488351232) ∧ ∀ x2_ ∈ x1_, (Lit.int .i64 x2_).wf = true)) → (Lit.int .i64 plots).wf = true → ∃ k, radomelaw19_ClusterParts.f k pairs plots = some true
end Go.Proofs.YtoijknggnlbopaaDoor.GCP

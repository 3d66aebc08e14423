/- A text of this session, written by a program (wip/k/gen.py): Go functions as Lean functions, and proofs that the code comes to them. -/
import Derived.Test.YtjhpkkhcgpilfaaDoorGTAx5
namespace Go.Proofs.YtjhpkkhcgpilfaaDoor.GTA
open Go Go.RowKit Go.Proofs.YtjhpkkhcgpilfaaDoorK Go.Proofs.YtjhpkkhcgpilfaaDoor
set_option linter.unusedVariables false
set_option linter.unusedSimpArgs false
def radomelaw25_TableRuns.Pure : Prop := ∀ (r_ : radomeref23_Rule) (of_ : T86) (l : List radomelaw25_Act), ((Lit.int .i64 r_.f_Hits).wf = true ∧ ((Lit.int .i64 r_.f_Window).wf = true ∧ (Lit.int .i64 r_.f_Misses).wf = true)) → ((Lit.int .i64 of_.e0).wf = true ∧ (Lit.int .i64 of_.e1).wf = true) → ((l.length ≤ maxLen ∧ l.length * 32 ≤ 140737488351232) ∧ ∀ x1_ ∈ l, ((Lit.int .i64 x1_.f_Kind).wf = true ∧ ((Lit.int .i64 x1_.f_At).wf = true ∧ (True ∧ (Lit.int .i64 x1_.f_Time).wf = true)))) → ∃ k, radomelaw25_TableRuns.f k r_ of_ l = some true
end Go.Proofs.YtjhpkkhcgpilfaaDoor.GTA

/- A text of this session, written by a program (wip/k/gen.py): Go functions as Lean functions, and proofs that the code comes to them. -/
import Derived.Test.YtjhpkkhcgpilfaaDoorGCAx0
namespace Go.Proofs.YtjhpkkhcgpilfaaDoor.GCA
open Go Go.RowKit Go.Proofs.YtjhpkkhcgpilfaaDoorK Go.Proofs.YtjhpkkhcgpilfaaDoor
set_option linter.unusedVariables false
set_option linter.unusedSimpArgs false
def radomelaw32_CountAll.Pure : Prop := ∀ (l : List radomelaw32_Act), ((l.length ≤ maxLen ∧ l.length * 16 ≤ 140737488351232) ∧ ∀ x1_ ∈ l, ((Lit.int .i64 x1_.f_Kind).wf = true ∧ (Lit.int .i64 x1_.f_N).wf = true)) → ∃ k, radomelaw32_CountAll.f k l = some true
end Go.Proofs.YtjhpkkhcgpilfaaDoor.GCA

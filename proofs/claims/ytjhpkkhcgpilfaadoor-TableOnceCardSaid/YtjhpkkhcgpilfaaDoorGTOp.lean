/- A text of this session, written by a program (wip/k/gen.py): Go functions as Lean functions, and proofs that the code comes to them. -/
import Derived.Test.YtjhpkkhcgpilfaaDoorGTOx3
namespace Go.Proofs.YtjhpkkhcgpilfaaDoor.GTO
open Go Go.RowKit Go.Proofs.YtjhpkkhcgpilfaaDoorK Go.Proofs.YtjhpkkhcgpilfaaDoor
set_option linter.unusedVariables false
set_option linter.unusedSimpArgs false
def radomelaw25_TableOnce.Pure : Prop := ∀ (most : Int) (l : List radomelaw25_Act), (Lit.int .i64 most).wf = true → ((l.length ≤ maxLen ∧ l.length * 32 ≤ 140737488351232) ∧ ∀ x1_ ∈ l, ((Lit.int .i64 x1_.f_Kind).wf = true ∧ ((Lit.int .i64 x1_.f_At).wf = true ∧ (True ∧ (Lit.int .i64 x1_.f_Time).wf = true)))) → ∃ k, radomelaw25_TableOnce.f k most l = some true
end Go.Proofs.YtjhpkkhcgpilfaaDoor.GTO

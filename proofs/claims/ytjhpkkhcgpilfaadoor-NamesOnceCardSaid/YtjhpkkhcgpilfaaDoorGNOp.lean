/- A text of this session, written by a program (wip/k/gen.py): Go functions as Lean functions, and proofs that the code comes to them. -/
import Derived.Test.YtjhpkkhcgpilfaaDoorGNOx0
namespace Go.Proofs.YtjhpkkhcgpilfaaDoor.GNO
open Go Go.RowKit Go.Proofs.YtjhpkkhcgpilfaaDoorK Go.Proofs.YtjhpkkhcgpilfaaDoor
set_option linter.unusedVariables false
set_option linter.unusedSimpArgs false
def radomelaw24_NamesOnce.Pure : Prop := ∀ (from_ : Int) (many : Int), (Lit.int .i64 from_).wf = true → (Lit.int .i64 many).wf = true → ∃ k, radomelaw24_NamesOnce.f k from_ many = some true
end Go.Proofs.YtjhpkkhcgpilfaaDoor.GNO

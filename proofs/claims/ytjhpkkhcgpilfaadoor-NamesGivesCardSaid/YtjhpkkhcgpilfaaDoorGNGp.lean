/- A text of this session, written by a program (wip/k/gen.py): Go functions as Lean functions, and proofs that the code comes to them. -/
import Derived.Test.YtjhpkkhcgpilfaaDoorGNGx0
namespace Go.Proofs.YtjhpkkhcgpilfaaDoor.GNG
open Go Go.RowKit Go.Proofs.YtjhpkkhcgpilfaaDoorK Go.Proofs.YtjhpkkhcgpilfaaDoor
set_option linter.unusedVariables false
set_option linter.unusedSimpArgs false
def radomelaw24_NamesGives.Pure : Prop := ∀ (from_ : Int) (to_ : Int) (k_ : Int), (Lit.int .i64 from_).wf = true → (Lit.int .i64 to_).wf = true → (Lit.int .i64 k_).wf = true → ∃ k, radomelaw24_NamesGives.f k from_ to_ k_ = some true
end Go.Proofs.YtjhpkkhcgpilfaaDoor.GNG

/- A text of this session, written by a program (wip/k/gen.py): Go functions as Lean functions, and proofs that the code comes to them. -/
import Derived.Test.YtjhpkkhcgpilfaaDoorGCRx1
namespace Go.Proofs.YtjhpkkhcgpilfaaDoor.GCR
open Go Go.RowKit Go.Proofs.YtjhpkkhcgpilfaaDoorK Go.Proofs.YtjhpkkhcgpilfaaDoor
set_option linter.unusedVariables false
set_option linter.unusedSimpArgs false
def radomelaw32_CountRuns.Pure : Prop := ∀ (l : List radomelaw32_Act) (name : ByteArray), ((l.length ≤ maxLen ∧ l.length * 16 ≤ 140737488351232) ∧ ∀ x1_ ∈ l, ((Lit.int .i64 x1_.f_Kind).wf = true ∧ (Lit.int .i64 x1_.f_N).wf = true)) → name.size ≤ 140737488351232 → ∃ k, radomelaw32_CountRuns.f k l name = some true
end Go.Proofs.YtjhpkkhcgpilfaaDoor.GCR

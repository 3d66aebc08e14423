/- A text of this session, written by a program (wip/k/gen.py): Go functions as Lean functions, and proofs that the code comes to them. -/
import Derived.Test.YtfdedgoohjnhiaaDoorGCRx4
namespace Go.Proofs.YtfdedgoohjnhiaaDoor.GCR
open Go Go.RowKit Go.Proofs.YtfdedgoohjnhiaaDoorK Go.Proofs.YtfdedgoohjnhiaaDoor
set_option linter.unusedVariables false
set_option linter.unusedSimpArgs false
def radomelaw30_ConfigReads.Pure : Prop := ∀ (b : List Int), ((b.length ≤ maxLen ∧ b.length * 1 ≤ 140737488351232) ∧ ∀ x1_ ∈ b, (Lit.int .u8 x1_).wf = true) → ∃ k, radomelaw30_ConfigReads.f k b = some true
end Go.Proofs.YtfdedgoohjnhiaaDoor.GCR

/- A text of this session, written by a program (wip/k/gen.py): Go functions as Lean functions, and proofs that the code comes to them. -/
import Derived.Test.YtlokgnjlnefbbaaDoorGFSx1
namespace Go.Proofs.YtlokgnjlnefbbaaDoor.GFS
open Go Go.RowKit Go.Proofs.YtlokgnjlnefbbaaDoorK Go.Proofs.YtlokgnjlnefbbaaDoor
set_option linter.unusedVariables false
set_option linter.unusedSimpArgs false
def radomelaw27_FspecBack.Pure : Prop := ∀ (items : List Int) (b : List Int), ((items.length ≤ maxLen ∧ items.length * 8 ≤ 140737488351232) ∧ ∀ x1_ ∈ items, (Lit.int .i64 x1_).wf = true) → ((b.length ≤ maxLen ∧ b.length * 1 ≤ 140737488351232) ∧ ∀ x2_ ∈ b, (Lit.int .u8 x2_).wf = true) → ∃ k, radomelaw27_FspecBack.f k items b = some true
def radomelaw27_FspecReads.Pure : Prop := ∀ (b : List Int) (most : Int) (items : List Int), ((b.length ≤ maxLen ∧ b.length * 1 ≤ 140737488351232) ∧ ∀ x3_ ∈ b, (Lit.int .u8 x3_).wf = true) → (Lit.int .i64 most).wf = true → ((items.length ≤ maxLen ∧ items.length * 8 ≤ 140737488351232) ∧ ∀ x4_ ∈ items, (Lit.int .i64 x4_).wf = true) → ∃ k, radomelaw27_FspecReads.f k b most items = some true
end Go.Proofs.YtlokgnjlnefbbaaDoor.GFS

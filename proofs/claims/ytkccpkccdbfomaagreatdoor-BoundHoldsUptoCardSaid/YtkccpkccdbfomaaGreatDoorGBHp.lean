/- A text of this session, written by a program (wip/k/gen.py): Go functions as Lean functions, and proofs that the code comes to them. -/
import Derived.Test.YtkccpkccdbfomaaGreatDoorGBHx8
namespace Go.Proofs.YtkccpkccdbfomaaGreatDoor.GBH
open Go Go.RowKit Go.Proofs.YtkccpkccdbfomaaGreatDoorK Go.Proofs.YtkccpkccdbfomaaGreatDoor
set_option linter.unusedVariables false
set_option linter.unusedSimpArgs false
def radomelaw35_BoundHolds.Pure : Prop := ∀ (rows : List (List Int)) (a : List Int) (b : List Int), ((rows.length ≤ maxLen ∧ rows.length * 24 ≤ 140737488351232) ∧ ∀ x1_ ∈ rows, ((x1_.length ≤ maxLen ∧ x1_.length * 8 ≤ 140737488351232) ∧ ∀ x2_ ∈ x1_, (Lit.int .i64 x2_).wf = true)) → ((a.length ≤ maxLen ∧ a.length * 8 ≤ 140737488351232) ∧ ∀ x3_ ∈ a, (Lit.int .i64 x3_).wf = true) → ((b.length ≤ maxLen ∧ b.length * 8 ≤ 140737488351232) ∧ ∀ x4_ ∈ b, (Lit.int .i64 x4_).wf = true) → rows.length ≤ 1048576 → a.length ≤ 1048576 → b.length ≤ 1048576 → ∃ k, radomelaw35_BoundHolds.f k rows a b = some true
end Go.Proofs.YtkccpkccdbfomaaGreatDoor.GBH

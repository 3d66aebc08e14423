/- A text of this session, written by a program (wip/k/gen.py): Go functions as Lean functions, and proofs that the code comes to them. -/
import Derived.Test.YtkccpkccdbfomaaGreatDoorGBPx8
namespace Go.Proofs.YtkccpkccdbfomaaGreatDoor.GBP
open Go Go.RowKit Go.Proofs.YtkccpkccdbfomaaGreatDoorK Go.Proofs.YtkccpkccdbfomaaGreatDoor
set_option linter.unusedVariables false
set_option linter.unusedSimpArgs false
def radomelaw35_BoundSteps.Pure : Prop := ∀ (rows : List (List Int)) (v_ : List Int) (off : Int), ((rows.length ≤ maxLen ∧ rows.length * 24 ≤ 140737488351232) ∧ ∀ x1_ ∈ rows, ((x1_.length ≤ maxLen ∧ x1_.length * 8 ≤ 140737488351232) ∧ ∀ x2_ ∈ x1_, (Lit.int .i64 x2_).wf = true)) → ((v_.length ≤ maxLen ∧ v_.length * 8 ≤ 140737488351232) ∧ ∀ x3_ ∈ v_, (Lit.int .i64 x3_).wf = true) → (Lit.int .i64 off).wf = true → rows.length ≤ 1048576 → v_.length ≤ 1048576 → ∃ k, radomelaw35_BoundSteps.f k rows v_ off = some true
end Go.Proofs.YtkccpkccdbfomaaGreatDoor.GBP

/- A text of this session, written by a program (wip/k/gen.py): Go functions as Lean functions, and proofs that the code comes to them. -/
import Derived.Test.YtkccpkccdbfomaaGreatDoorGBAx7
namespace Go.Proofs.YtkccpkccdbfomaaGreatDoor.GBA
open Go Go.RowKit Go.Proofs.YtkccpkccdbfomaaGreatDoorK Go.Proofs.YtkccpkccdbfomaaGreatDoor
set_option linter.unusedVariables false
set_option linter.unusedSimpArgs false
def radomelaw35_BoundAfter.Pure : Prop := ∀ (of_ : T98) (n : Int) (l : T99), ((Lit.int .i64 of_.e0).wf = true ∧ (Lit.int .i64 of_.e1).wf = true) → (Lit.int .i64 n).wf = true → (((l.e0.length ≤ maxLen ∧ l.e0.length * 8 ≤ 140737488351232) ∧ ∀ x1_ ∈ l.e0, (Lit.int .i64 x1_).wf = true) ∧ ((l.e1.length ≤ maxLen ∧ l.e1.length * 8 ≤ 140737488351232) ∧ ∀ x2_ ∈ l.e1, (Lit.int .i64 x2_).wf = true)) → ∃ k, radomelaw35_BoundAfter.f k of_ n l = some true
end Go.Proofs.YtkccpkccdbfomaaGreatDoor.GBA

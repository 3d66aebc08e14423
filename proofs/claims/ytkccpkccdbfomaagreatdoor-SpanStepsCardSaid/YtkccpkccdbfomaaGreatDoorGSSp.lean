/- A text of this session, written by a program (wip/k/gen.py): Go functions as Lean functions, and proofs that the code comes to them. -/
import Derived.Test.YtkccpkccdbfomaaGreatDoorGSSx9
namespace Go.Proofs.YtkccpkccdbfomaaGreatDoor.GSS
open Go Go.RowKit Go.Proofs.YtkccpkccdbfomaaGreatDoorK Go.Proofs.YtkccpkccdbfomaaGreatDoor
set_option linter.unusedVariables false
set_option linter.unusedSimpArgs false
def radomelaw34_SpanSteps.Pure : Prop := ∀ (a : Yf) (b : Yf) (order : Bool), ((((a.f_L.e0.length ≤ maxLen ∧ a.f_L.e0.length * 1 ≤ 140737488351232) ∧ ∀ x1_ ∈ a.f_L.e0, (Lit.int .u8 x1_).wf = true) ∧ (((a.f_L.e1.length ≤ maxLen ∧ a.f_L.e1.length * 1 ≤ 140737488351232) ∧ ∀ x2_ ∈ a.f_L.e1, (Lit.int .u8 x2_).wf = true) ∧ (((a.f_L.e2.length ≤ maxLen ∧ a.f_L.e2.length * 1 ≤ 140737488351232) ∧ ∀ x3_ ∈ a.f_L.e2, (Lit.int .u8 x3_).wf = true) ∧ ((a.f_L.e3.length ≤ maxLen ∧ a.f_L.e3.length * 1 ≤ 140737488351232) ∧ ∀ x4_ ∈ a.f_L.e3, (Lit.int .u8 x4_).wf = true)))) ∧ (True ∧ True)) → ((((b.f_L.e0.length ≤ maxLen ∧ b.f_L.e0.length * 1 ≤ 140737488351232) ∧ ∀ x5_ ∈ b.f_L.e0, (Lit.int .u8 x5_).wf = true) ∧ (((b.f_L.e1.length ≤ maxLen ∧ b.f_L.e1.length * 1 ≤ 140737488351232) ∧ ∀ x6_ ∈ b.f_L.e1, (Lit.int .u8 x6_).wf = true) ∧ (((b.f_L.e2.length ≤ maxLen ∧ b.f_L.e2.length * 1 ≤ 140737488351232) ∧ ∀ x7_ ∈ b.f_L.e2, (Lit.int .u8 x7_).wf = true) ∧ ((b.f_L.e3.length ≤ maxLen ∧ b.f_L.e3.length * 1 ≤ 140737488351232) ∧ ∀ x8_ ∈ b.f_L.e3, (Lit.int .u8 x8_).wf = true)))) ∧ (True ∧ True)) → ∃ k, radomelaw34_SpanSteps.f k a b order = some true
end Go.Proofs.YtkccpkccdbfomaaGreatDoor.GSS

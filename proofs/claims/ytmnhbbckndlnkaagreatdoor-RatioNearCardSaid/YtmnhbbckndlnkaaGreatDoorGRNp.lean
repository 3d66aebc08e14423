/- A text of this session, written by a program (wip/k/gen.py): Go functions as Lean functions, and proofs that the code comes to them. -/
import Derived.Test.YtmnhbbckndlnkaaGreatDoorGRNx6
namespace Go.Proofs.YtmnhbbckndlnkaaGreatDoor.GRN
open Go Go.RowKit Go.Proofs.YtmnhbbckndlnkaaGreatDoorK Go.Proofs.YtmnhbbckndlnkaaGreatDoor
set_option linter.unusedVariables false
set_option linter.unusedSimpArgs false
def radomelaw02_RatioNear.Pure : Prop := ∀ (l : T23) (neg : Bool) (of_ : T24), (((l.e0.length ≤ maxLen ∧ l.e0.length * 1 ≤ 140737488351232) ∧ ∀ x1_ ∈ l.e0, (Lit.int .u8 x1_).wf = true) ∧ ((l.e1.length ≤ maxLen ∧ l.e1.length * 1 ≤ 140737488351232) ∧ ∀ x2_ ∈ l.e1, (Lit.int .u8 x2_).wf = true)) → ((Lit.int .i64 of_.e0).wf = true ∧ (Lit.int .i64 of_.e1).wf = true) → ∃ k, radomelaw02_RatioNear.f k l neg of_ = some true
end Go.Proofs.YtmnhbbckndlnkaaGreatDoor.GRN

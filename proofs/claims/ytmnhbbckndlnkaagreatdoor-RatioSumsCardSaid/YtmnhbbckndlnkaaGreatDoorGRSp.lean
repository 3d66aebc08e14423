/- A text of this session, written by a program (wip/k/gen.py): Go functions as Lean functions, and proofs that the code comes to them. -/
import Derived.Test.YtmnhbbckndlnkaaGreatDoorGRSx6
namespace Go.Proofs.YtmnhbbckndlnkaaGreatDoor.GRS
open Go Go.RowKit Go.Proofs.YtmnhbbckndlnkaaGreatDoorK Go.Proofs.YtmnhbbckndlnkaaGreatDoor
set_option linter.unusedVariables false
set_option linter.unusedSimpArgs false
def radomelaw02_RatioSums.Pure : Prop := ∀ (l : T55) (neg : T56), (((l.e0.length ≤ maxLen ∧ l.e0.length * 1 ≤ 140737488351232) ∧ ∀ x1_ ∈ l.e0, (Lit.int .u8 x1_).wf = true) ∧ (((l.e1.length ≤ maxLen ∧ l.e1.length * 1 ≤ 140737488351232) ∧ ∀ x2_ ∈ l.e1, (Lit.int .u8 x2_).wf = true) ∧ (((l.e2.length ≤ maxLen ∧ l.e2.length * 1 ≤ 140737488351232) ∧ ∀ x3_ ∈ l.e2, (Lit.int .u8 x3_).wf = true) ∧ ((l.e3.length ≤ maxLen ∧ l.e3.length * 1 ≤ 140737488351232) ∧ ∀ x4_ ∈ l.e3, (Lit.int .u8 x4_).wf = true)))) → (True ∧ True) → ∃ k, radomelaw02_RatioSums.f k l neg = some true
end Go.Proofs.YtmnhbbckndlnkaaGreatDoor.GRS

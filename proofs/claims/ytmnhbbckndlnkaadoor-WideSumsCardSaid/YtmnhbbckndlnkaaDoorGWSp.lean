/- A text of this session, written by a program (wip/k/gen.py): Go functions as Lean functions, and proofs that the code comes to them. -/
import Derived.Test.YtmnhbbckndlnkaaDoorGWSx4
namespace Go.Proofs.YtmnhbbckndlnkaaDoor.GWS
open Go Go.RowKit Go.Proofs.YtmnhbbckndlnkaaDoorK Go.Proofs.YtmnhbbckndlnkaaDoor
set_option linter.unusedVariables false
set_option linter.unusedSimpArgs false
def radomelaw01_WideSums.Pure : Prop := ∀ (a : List Int) (b : List Int) (neg : T23), ((a.length ≤ maxLen ∧ a.length * 1 ≤ 140737488351232) ∧ ∀ x1_ ∈ a, (Lit.int .u8 x1_).wf = true) → ((b.length ≤ maxLen ∧ b.length * 1 ≤ 140737488351232) ∧ ∀ x2_ ∈ b, (Lit.int .u8 x2_).wf = true) → (True ∧ True) → ∃ k, radomelaw01_WideSums.f k a b neg = some true
end Go.Proofs.YtmnhbbckndlnkaaDoor.GWS

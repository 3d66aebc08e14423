/- A text of this session, written by a program (wip/k/gen.py): Go functions as Lean functions, and proofs that the code comes to them. -/
import Derived.Test.YtmnhbbckndlnkaaDoorGWRx4
namespace Go.Proofs.YtmnhbbckndlnkaaDoor.GWR
open Go Go.RowKit Go.Proofs.YtmnhbbckndlnkaaDoorK Go.Proofs.YtmnhbbckndlnkaaDoor
set_option linter.unusedVariables false
set_option linter.unusedSimpArgs false
def radomelaw01_WideRoots.Pure : Prop := ∀ (a : List Int) (neg : Bool) (bits : Int), ((a.length ≤ maxLen ∧ a.length * 1 ≤ 140737488351232) ∧ ∀ x1_ ∈ a, (Lit.int .u8 x1_).wf = true) → (Lit.int .i64 bits).wf = true → ∃ k, radomelaw01_WideRoots.f k a neg bits = some true
end Go.Proofs.YtmnhbbckndlnkaaDoor.GWR

/- A text of this session, written by a program (wip/k/gen.py): Go functions as Lean functions, and proofs that the code comes to them. -/
import Derived.Test.YtmnhbbckndlnkaaDoorGWLx4
namespace Go.Proofs.YtmnhbbckndlnkaaDoor.GWL
open Go Go.RowKit Go.Proofs.YtmnhbbckndlnkaaDoorK Go.Proofs.YtmnhbbckndlnkaaDoor
set_option linter.unusedVariables false
set_option linter.unusedSimpArgs false
def radomelaw01_WideLaws.Pure : Prop := ∀ (l : T56) (of_ : T57), (((l.e0.length ≤ maxLen ∧ l.e0.length * 1 ≤ 140737488351232) ∧ ∀ x1_ ∈ l.e0, (Lit.int .u8 x1_).wf = true) ∧ (((l.e1.length ≤ maxLen ∧ l.e1.length * 1 ≤ 140737488351232) ∧ ∀ x2_ ∈ l.e1, (Lit.int .u8 x2_).wf = true) ∧ ((l.e2.length ≤ maxLen ∧ l.e2.length * 1 ≤ 140737488351232) ∧ ∀ x3_ ∈ l.e2, (Lit.int .u8 x3_).wf = true))) → ((Lit.int .i64 of_.e0).wf = true ∧ ((Lit.int .i64 of_.e1).wf = true ∧ (Lit.int .i64 of_.e2).wf = true)) → ∃ k, radomelaw01_WideLaws.f k l of_ = some true
end Go.Proofs.YtmnhbbckndlnkaaDoor.GWL

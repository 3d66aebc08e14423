/- A text of this session, written by a program (wip/k/gen.py): Go functions as Lean functions, and proofs that the code comes to them. -/
import Derived.Test.YtmnhbbckndlnkaaDoorGRLx6
namespace Go.Proofs.YtmnhbbckndlnkaaDoor.GRL
open Go Go.RowKit Go.Proofs.YtmnhbbckndlnkaaDoorK Go.Proofs.YtmnhbbckndlnkaaDoor
set_option linter.unusedVariables false
set_option linter.unusedSimpArgs false
def radomelaw02_RatioLaws.Pure : Prop := ∀ (l : T61) (neg : T62), (((l.e0.length ≤ maxLen ∧ l.e0.length * 1 ≤ 140737488351232) ∧ ∀ x1_ ∈ l.e0, (Lit.int .u8 x1_).wf = true) ∧ (((l.e1.length ≤ maxLen ∧ l.e1.length * 1 ≤ 140737488351232) ∧ ∀ x2_ ∈ l.e1, (Lit.int .u8 x2_).wf = true) ∧ (((l.e2.length ≤ maxLen ∧ l.e2.length * 1 ≤ 140737488351232) ∧ ∀ x3_ ∈ l.e2, (Lit.int .u8 x3_).wf = true) ∧ (((l.e3.length ≤ maxLen ∧ l.e3.length * 1 ≤ 140737488351232) ∧ ∀ x4_ ∈ l.e3, (Lit.int .u8 x4_).wf = true) ∧ (((l.e4.length ≤ maxLen ∧ l.e4.length * 1 ≤ 140737488351232) ∧ ∀ x5_ ∈ l.e4, (Lit.int .u8 x5_).wf = true) ∧ ((l.e5.length ≤ maxLen ∧ l.e5.length * 1 ≤ 140737488351232) ∧ ∀ x6_ ∈ l.e5, (Lit.int .u8 x6_).wf = true)))))) → (True ∧ (True ∧ True)) → ∃ k, radomelaw02_RatioLaws.f k l neg = some true
end Go.Proofs.YtmnhbbckndlnkaaDoor.GRL

/- A text of this session, written by a program (wip/k/gen.py): Go functions as Lean functions, and proofs that the code comes to them. -/
import Derived.Test.YtddcfnhbedpbnaaGLLx1
namespace Go.Proofs.Ytddcfnhbedpbnaa.GLL
open Go Go.RowKit Go.Proofs.YtddcfnhbedpbnaaK Go.Proofs.Ytddcfnhbedpbnaa
set_option linter.unusedVariables false
set_option linter.unusedSimpArgs false
def radomelaw23_LifeLaws.Pure : Prop := ∀ (r_ : radomeref23_Rule) (hits : List Bool), ((Lit.int .i64 r_.f_Hits).wf = true ∧ ((Lit.int .i64 r_.f_Window).wf = true ∧ (Lit.int .i64 r_.f_Misses).wf = true)) → ((hits.length ≤ maxLen ∧ hits.length * 1 ≤ 140737488351232) ∧ ∀ x1_ ∈ hits, True) → ∃ k, radomelaw23_LifeLaws.f k r_ hits = some true
end Go.Proofs.Ytddcfnhbedpbnaa.GLL

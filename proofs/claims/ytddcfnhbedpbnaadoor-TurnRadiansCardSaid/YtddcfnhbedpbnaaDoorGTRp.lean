/- A text of this session, written by a program (wip/k/gen.py): Go functions as Lean functions, and proofs that the code comes to them. -/
import Derived.Test.YtddcfnhbedpbnaaDoorGTRx3
namespace Go.Proofs.YtddcfnhbedpbnaaDoor.GTR
open Go Go.RowKit Go.Proofs.YtddcfnhbedpbnaaDoorK Go.Proofs.YtddcfnhbedpbnaaDoor
set_option linter.unusedVariables false
set_option linter.unusedSimpArgs false
def radomelaw04_TurnRadians.Pure : Prop := ∀ (t : Int) (bits : Int), (Lit.int .u32 t).wf = true → (Lit.int .i64 bits).wf = true → ∃ k, radomelaw04_TurnRadians.f k t bits = some true
def radomelaw23_LifeRuns.Pure : Prop := ∀ (r_ : radomeref23_Rule) (hits : List Bool), ((Lit.int .i64 r_.f_Hits).wf = true ∧ ((Lit.int .i64 r_.f_Window).wf = true ∧ (Lit.int .i64 r_.f_Misses).wf = true)) → ((hits.length ≤ maxLen ∧ hits.length * 1 ≤ 140737488351232) ∧ ∀ x1_ ∈ hits, True) → ∃ k, radomelaw23_LifeRuns.f k r_ hits = some true
def radomelaw23_LifeRaw.Pure : Prop := ∀ (r_ : radomeref23_Rule) (kind : Int) (of_ : T68), ((Lit.int .i64 r_.f_Hits).wf = true ∧ ((Lit.int .i64 r_.f_Window).wf = true ∧ (Lit.int .i64 r_.f_Misses).wf = true)) → (Lit.int .i64 kind).wf = true → ((Lit.int .i64 of_.e0).wf = true ∧ (Lit.int .i64 of_.e1).wf = true) → ∃ k, radomelaw23_LifeRaw.f k r_ kind of_ = some true
end Go.Proofs.YtddcfnhbedpbnaaDoor.GTR

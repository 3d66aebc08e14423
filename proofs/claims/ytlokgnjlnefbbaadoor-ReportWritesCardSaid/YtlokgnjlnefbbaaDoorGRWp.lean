/- A text of this session, written by a program (wip/k/gen.py): Go functions as Lean functions, and proofs that the code comes to them. -/
import Derived.Test.YtlokgnjlnefbbaaDoorGRWx3
namespace Go.Proofs.YtlokgnjlnefbbaaDoor.GRW
open Go Go.RowKit Go.Proofs.YtlokgnjlnefbbaaDoorK Go.Proofs.YtlokgnjlnefbbaaDoor
set_option linter.unusedVariables false
set_option linter.unusedSimpArgs false
def radomelaw29_ReportWrites.Pure : Prop := ∀ (source : Int) (l : List radomeref29_Report) (of_ : T24), (Lit.int .u16 source).wf = true → ((l.length ≤ maxLen ∧ l.length * 32 ≤ 140737488351232) ∧ ∀ x1_ ∈ l, ((Lit.int .u16 x1_.f_ID).wf = true ∧ ((Lit.int .i64 x1_.f_Time).wf = true ∧ ((Lit.int .i32 x1_.f_X).wf = true ∧ ((Lit.int .i32 x1_.f_Y).wf = true ∧ ((Lit.int .i16 x1_.f_VX).wf = true ∧ ((Lit.int .i16 x1_.f_VY).wf = true ∧ (Lit.int .u8 x1_.f_State).wf = true))))))) → ((Lit.int .i64 of_.e0).wf = true ∧ (Lit.int .i64 of_.e1).wf = true) → ∃ k, radomelaw29_ReportWrites.f k source l of_ = some true
end Go.Proofs.YtlokgnjlnefbbaaDoor.GRW

/- A text of this session, written by a program (wip/k/gen.py): Go functions as Lean functions, and proofs that the code comes to them. -/
import Derived.Test.YtlokgnjlnefbbaaDoorGCBx1
namespace Go.Proofs.YtlokgnjlnefbbaaDoor.GCB
open Go Go.RowKit Go.Proofs.YtlokgnjlnefbbaaDoorK Go.Proofs.YtlokgnjlnefbbaaDoor
set_option linter.unusedVariables false
set_option linter.unusedSimpArgs false
def radomelaw28_CatBack.Pure : Prop := ∀ (l : List radomeref28_Record) (b : List Int) (cut_ : Int), ((l.length ≤ maxLen ∧ l.length * 40 ≤ 140737488351232) ∧ ∀ x1_ ∈ l, ((Lit.int .u16 x1_.f_Source).wf = true ∧ (((Lit.int .i64 x1_.f_Plot.f_Range).wf = true ∧ ((Lit.int .u16 x1_.f_Plot.f_Azimuth).wf = true ∧ (Lit.int .i64 x1_.f_Plot.f_Time).wf = true)) ∧ True))) → ((b.length ≤ maxLen ∧ b.length * 1 ≤ 140737488351232) ∧ ∀ x2_ ∈ b, (Lit.int .u8 x2_).wf = true) → (Lit.int .i64 cut_).wf = true → ∃ k, radomelaw28_CatBack.f k l b cut_ = some true
end Go.Proofs.YtlokgnjlnefbbaaDoor.GCB

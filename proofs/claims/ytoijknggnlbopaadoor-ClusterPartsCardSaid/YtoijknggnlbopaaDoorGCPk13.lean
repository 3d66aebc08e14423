/- Numbers that are read and turned by sync/atomic, of one goroutine. -/
import Derived.Test.YtoijknggnlbopaaDoorGCPk12
import Derived.Laws.LoneSync
namespace Go.Proofs.YtoijknggnlbopaaDoorK
open Go Go.RowKit
set_option linter.unusedVariables false
set_option linter.unusedSimpArgs false
structure ExtOk (P : Program) (g : FuncId) (e : Array Value → Sem Value) : Prop where
  ok : ∃ fn, P.funcs[g]? = some fn ∧ (fn.name == "runtime.NumGoroutine") = false ∧ fn.body.isNone = true ∧ Extern.findNext fn = none ∧ Extern.find fn = some e
section
variable {P : Program} {f : FB} {n : Nat} {k : List Item} {σ : Nat → Value} {H : Hp} {L : Items} {R : Value → Hp → Items → Prop}
end
end Go.Proofs.YtoijknggnlbopaaDoorK

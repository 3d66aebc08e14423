/- Numbers that are read and turned by sync/atomic, of one goroutine. -/
import Derived.Test.YtlokgnjlnefbbaaDoorGRWk12
import Derived.Laws.LoneSync
namespace Go.Proofs.YtlokgnjlnefbbaaDoorK
open Go Go.RowKit
set_option linter.unusedVariables false
set_option linter.unusedSimpArgs false
structure ExtOk (P : Program) (g : FuncId) (e : Array Value → Sem Value) : Prop where
  ok : ∃ fn, P.funcs[g]? = some fn ∧ (fn.name == "runtime.NumGoroutine") = false ∧ fn.body.isNone = true ∧ Extern.findNext fn = none ∧ Extern.find fn = some e
section
variable {P : Program} {f : FuncId} {n : Nat} {k : List Item} {σ : Nat → Value} {H : Hp} {L : Items} {R : Value → Hp → Items → Prop}
theorem ct_own2 {α : Type} {kd : Kd α} {T : TypeId} {args : Array Value} {xs : List α} {L0 : Items} (h : Ct P f args H L0 (fun v H' L' => (∃ p it, L' = p ++ it :: L ∧ Sl kd H' T it v xs) ∧ H.le H')) : Ct P f args H L0 (fun v H' L' => ∃ it, L' = it :: L ∧ H.le H' ∧ Sl kd H' T it v xs) := by
  intro w hw cs
  obtain ⟨v, w', H', L', fr', a, b, c, d, ⟨p, it, rfl, hs⟩, e1⟩ := h w hw cs
  exact ⟨v, w', H', it :: L, fr', a, b, c, d.unapp, it, rfl, e1, hs⟩
theorem ct_att {α : Type} {kd : Kd α} {T : TypeId} {args : Array Value} {it : Item'} {ys : List α} {L0 : Items} {F : Item' → Items} (h : Ct P f args H (it :: L0) (fun v H' L' => ∃ it', L' = it' :: L0 ∧ H.le H' ∧ Sl kd H' T it' v ys)) (u : Upd L it none L0) (u' : ∀ it', Upd L0 none it' (F it')) : Ct P f args H L (fun v H' L' => ∃ it', L' = F it' ∧ H.le H' ∧ Sl kd H' T it' v ys) := by
  intro w hw cs
  obtain ⟨v, w', H', L', fr', a, b, c, d, it', rfl, e1, hs⟩ := h w (hw.pull u) cs
  exact ⟨v, w', H', F it', fr', a, b, c, d.put' (u' it'), it', rfl, e1, hs⟩
end
end Go.Proofs.YtlokgnjlnefbbaaDoorK

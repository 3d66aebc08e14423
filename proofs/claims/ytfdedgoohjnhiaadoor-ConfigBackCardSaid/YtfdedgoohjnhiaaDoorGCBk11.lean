/- Pointers that are lent, nil pointers, parts of own slices that stay own, maps. -/
import Derived.Test.YtfdedgoohjnhiaaDoorGCBk10
namespace Go.Proofs.YtfdedgoohjnhiaaDoorK
open Go Go.RowKit
set_option linter.unusedVariables false
set_option linter.unusedSimpArgs false
theorem Lies.mono {H H' : Hp} {L a cs} (h : Lies H L a cs) (hle : H.le H') : Lies H' L a cs := fun w hw => h w (hw.lower hle)
theorem Lies.th {H : Hp} {it : Item'} {L a cs} (h : Lies H L a cs) : Lies H (it :: L) a cs := fun w hw => h w hw.tail
section
variable {P : Program} {f : FB} {n : Nat} {k : List Item} {σ : Nat → Value} {H : Hp} {L : Items} {R : Value → Hp → Items → Prop}
end
/-! ### a choice by an option -/
end Go.Proofs.YtfdedgoohjnhiaaDoorK

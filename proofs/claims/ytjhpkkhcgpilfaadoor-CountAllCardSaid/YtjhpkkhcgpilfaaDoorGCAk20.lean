/- Drawn regions whose writes stand in one order, but for blocks that are made in any. -/
import Derived.Test.YtjhpkkhcgpilfaaDoorGCAk19
namespace Go.Proofs.YtjhpkkhcgpilfaaDoorK
open Go Go.RowKit
set_option linter.unusedVariables false
set_option linter.unusedSimpArgs false
structure FcM where
  p : Hp → Value → Option Items → (Nat → Option Items) → Prop
  deps : List Nat
  mono : ∀ H H' v it m m', H.le H' → (∀ j ∈ deps, m' j = m j) → p H v it m → p H' v it m'
def FcM.of (f : Fc) : FcM := ⟨fun H v it _ => f.p H v it, [], fun _ _ _ _ _ _ hle _ h => f.mono _ _ _ _ hle h⟩
section
variable {P : Program} {f : FB} {n : Nat} {k : List Item} {σ : Nat → Value} {H : Hp} {R : Value → Hp → Items → Prop}
variable {L L0 : Items} {al post pre : List Nat} {H' : Hp} {ops : Array Oper} {i : Nat} {op : Op} {m : Nat → Option Items} {Φ : Hp → Value → Option Items → (Nat → Option Items) → Prop}
end
end Go.Proofs.YtjhpkkhcgpilfaaDoorK

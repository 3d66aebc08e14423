/- Drawn regions whose writes stand in one order. -/
import Derived.Test.YtjhpkkhcgpilfaaDoorGCRk11
namespace Go.Proofs.YtjhpkkhcgpilfaaDoorK
open Go Go.RowKit
set_option linter.unusedVariables false
set_option linter.unusedSimpArgs false
structure Fc where
  p : Hp → Value → Option Items → Prop
  mono : ∀ H H' v it, H.le H' → p H v it → p H' v it
def Fc.is (v : Value) : Fc := ⟨fun _ v' it => v = v' ∧ it = none, fun _ _ _ _ _ h => h⟩
def Fc.of (P : Hp → Value → Prop) (hm : ∀ {H H' : Hp} {v : Value}, H.le H' → P H v → P H' v) : Fc := ⟨fun H v it => P H v ∧ it = none, fun _ _ _ _ hle h => ⟨hm hle h.1, h.2⟩⟩
def Fc.ro {α : Type} (k : Kd α) (xs : List α) : Fc := .of (fun H v => Ro k H v xs) fun hle h => h.mono hle
section
variable {P : Program} {f : FB} {n : Nat} {k : List Item} {σ : Nat → Value} {H : Hp} {R : Value → Hp → Items → Prop}
variable {L : Items}
end
end Go.Proofs.YtjhpkkhcgpilfaaDoorK

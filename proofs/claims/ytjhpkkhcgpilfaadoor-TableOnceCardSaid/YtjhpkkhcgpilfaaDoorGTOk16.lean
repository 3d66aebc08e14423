/- A range over a function: the loop's record, its rounds, the mark among the deferred calls. -/
import Derived.Test.YtjhpkkhcgpilfaaDoorGTOk15
import Derived.RangeFuncLeaves
namespace Go.Proofs.YtjhpkkhcgpilfaaDoorK
open Go Go.RowKit
set_option linter.unusedVariables false
set_option linter.unusedSimpArgs false
section
variable {P : Program} {f : FB} {n : Nat} {k : List Item} {σ : Nat → Value} {H : Hp} {L : Items} {R : Value → Hp → Items → Prop}
variable {g : FuncId} {t : Array Value} {ps : Array Tmp} {as_ bd : Code} {r l : Nat}
end
/-! ### what is lent, in a field -/
def Sf (A B : Items) : Prop := ∃ p, B = p ++ A
theorem Sf.refl (A : Items) : Sf A A := ⟨[], rfl⟩
theorem Sf.th {A B : Items} {it : Item'} (h : Sf A B) : Sf A (it :: B) := by obtain ⟨p, rfl⟩ := h; exact ⟨it :: p, rfl⟩
theorem Src.cells {α : Type} {k : Kd α} {H L v xs} (h : Src (α := α) k H L v xs) : v.cells = ⟨[v]⟩ := by obtain ⟨A, c, rfl, _⟩ := h; rfl
theorem Src.one {α : Type} {k : Kd α} {H L v xs} (h : Src (α := α) k H L v xs) : v.oneCell' = true := by obtain ⟨A, c, rfl, _⟩ := h; rfl
end Go.Proofs.YtjhpkkhcgpilfaaDoorK

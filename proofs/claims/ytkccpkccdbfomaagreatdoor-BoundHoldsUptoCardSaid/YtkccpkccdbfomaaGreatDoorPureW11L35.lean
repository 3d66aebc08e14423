/- What a law package makes of digits: a number, and the program's one of its text. -/
import Derived.Test.YtkccpkccdbfomaaGreatDoorPureW10
namespace Go.Proofs.YtkccpkccdbfomaaGreatDoor.Pure
open Go.RowKit Go.Proofs.YtkccpkccdbfomaaGreatDoorK Go.Proofs.YtkccpkccdbfomaaGreatDoor.GBH
set_option linter.unusedVariables false
set_option linter.unusedSimpArgs false
namespace L35
theorem G9 {x : Int} (hx : Fit x) (hl : Ln x < 1300) : Ev (fun k => XI.f k (Nb x)) (Wb x) := by
  unfold XI.f
  have eta : ∀ y : Int, (⟨(Nb y).f_Neg, (Nb y).f_D⟩ : Qg) = Nb y := fun _ => rfl
  (try simp only [eta])
  refine Ev.bind (VF (by omega)) (Ev.bind (V4 hl) ?_)
  rw [JC hx]; exact Ev.now
end L35
end Go.Proofs.YtkccpkccdbfomaaGreatDoor.Pure

/- The number nearest to a fraction, and fractions of powers of two. -/
import Derived.Test.YtkccpkccdbfomaaGreatDoorPureR2L35
namespace Go.Proofs.YtkccpkccdbfomaaGreatDoor.Pure
open Go.RowKit Go.Proofs.YtkccpkccdbfomaaGreatDoorK Go.Proofs.YtkccpkccdbfomaaGreatDoor.GBA
set_option linter.unusedVariables false
set_option linter.unusedSimpArgs false
def Sm (z : Int) : Prop := -9223372036854775808 ≤ z ∧ z ≤ 9223372036854775807
instance (z : Int) : Decidable (Sm z) := inferInstanceAs (Decidable (_ ∧ _))
end Go.Proofs.YtkccpkccdbfomaaGreatDoor.Pure

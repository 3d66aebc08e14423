/- Powers of two, and what is nearest. -/
import Derived.Test.YtkccpkccdbfomaaGreatDoorPureN5
namespace Go.Proofs.YtkccpkccdbfomaaGreatDoor.Pure
open Go.RowKit Go.Proofs.YtkccpkccdbfomaaGreatDoorK Go.Proofs.YtkccpkccdbfomaaGreatDoor.GBH
set_option linter.unusedVariables false
set_option linter.unusedSimpArgs false
end Go.Proofs.YtkccpkccdbfomaaGreatDoor.Pure

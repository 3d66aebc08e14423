/- What a law package makes of digits: a number, and the program's one of its text. -/
import Derived.Test.YtkccpkccdbfomaaGreatDoorPureW10
namespace Go.Proofs.YtkccpkccdbfomaaGreatDoor.Pure
open Go.RowKit Go.Proofs.YtkccpkccdbfomaaGreatDoorK Go.Proofs.YtkccpkccdbfomaaGreatDoor.GSL
set_option linter.unusedVariables false
set_option linter.unusedSimpArgs false
namespace L34
end L34
end Go.Proofs.YtkccpkccdbfomaaGreatDoor.Pure

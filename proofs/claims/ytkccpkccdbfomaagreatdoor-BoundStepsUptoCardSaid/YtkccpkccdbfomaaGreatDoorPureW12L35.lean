/- Numbers held against one another by their texts. -/
import Derived.Test.YtkccpkccdbfomaaGreatDoorPureW11L35
namespace Go.Proofs.YtkccpkccdbfomaaGreatDoor.Pure
open Go.RowKit Go.Proofs.YtkccpkccdbfomaaGreatDoorK Go.Proofs.YtkccpkccdbfomaaGreatDoor.GBP
set_option linter.unusedVariables false
set_option linter.unusedSimpArgs false
namespace L35
theorem sure_ev : Ev (fun k => X6.f k) true := Ev.of (X6.mono) (k := 400) (by decide +kernel)
end L35
end Go.Proofs.YtkccpkccdbfomaaGreatDoor.Pure

/- Numbers held against one another by their texts. -/
import Derived.Test.YtkccpkccdbfomaaGreatDoorPureW11L35
namespace Go.Proofs.YtkccpkccdbfomaaGreatDoor.Pure
open Go.RowKit Go.Proofs.YtkccpkccdbfomaaGreatDoorK Go.Proofs.YtkccpkccdbfomaaGreatDoor.GBH
set_option linter.unusedVariables false
set_option linter.unusedSimpArgs false
namespace L35
theorem sure_ev : Ev (fun k => Yc.f k) true := Ev.of (Yc.mono) (k := 400) (by decide +kernel)
end L35
end Go.Proofs.YtkccpkccdbfomaaGreatDoor.Pure

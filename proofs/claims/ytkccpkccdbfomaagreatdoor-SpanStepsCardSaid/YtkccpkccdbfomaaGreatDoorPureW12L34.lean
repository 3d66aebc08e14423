/- Numbers held against one another by their texts. -/
import Derived.Test.YtkccpkccdbfomaaGreatDoorPureW11L34
namespace Go.Proofs.YtkccpkccdbfomaaGreatDoor.Pure
open Go.RowKit Go.Proofs.YtkccpkccdbfomaaGreatDoorK Go.Proofs.YtkccpkccdbfomaaGreatDoor.GSS
set_option linter.unusedVariables false
set_option linter.unusedSimpArgs false
namespace L34
theorem sure_ev : Ev (fun k => X8.f k) true := Ev.of (X8.mono) (k := 400) (by decide +kernel)
end L34
end Go.Proofs.YtkccpkccdbfomaaGreatDoor.Pure

/- Powers of two, and what is nearest. -/
import Derived.Test.YtmnhbbckndlnkaaGreatDoorPureN5
namespace Go.Proofs.YtmnhbbckndlnkaaGreatDoor.Pure
open Go.RowKit Go.Proofs.YtmnhbbckndlnkaaGreatDoorK Go.Proofs.YtmnhbbckndlnkaaGreatDoor.GRS
set_option linter.unusedVariables false
set_option linter.unusedSimpArgs false
end Go.Proofs.YtmnhbbckndlnkaaGreatDoor.Pure

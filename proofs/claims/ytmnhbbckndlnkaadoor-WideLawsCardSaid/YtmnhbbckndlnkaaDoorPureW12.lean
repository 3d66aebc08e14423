/- Numbers held against one another by their texts. -/
import Derived.Test.YtmnhbbckndlnkaaDoorPureW11L01
namespace Go.Proofs.YtmnhbbckndlnkaaDoor.Pure
open Go.RowKit Go.Proofs.YtmnhbbckndlnkaaDoorK Go.Proofs.YtmnhbbckndlnkaaDoor.GWL
set_option linter.unusedVariables false
set_option linter.unusedSimpArgs false
theorem sure01_ev : Ev (fun k => radomelaw01_sure.f k) true := Ev.of (radomelaw01_sure.mono) (k := 400) (by decide +kernel)
end Go.Proofs.YtmnhbbckndlnkaaDoor.Pure

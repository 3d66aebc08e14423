/- Numbers held against one another by their texts. -/
import Derived.Test.YtmnhbbckndlnkaaDoorPureW11L02
namespace Go.Proofs.YtmnhbbckndlnkaaDoor.Pure
open Go.RowKit Go.Proofs.YtmnhbbckndlnkaaDoorK Go.Proofs.YtmnhbbckndlnkaaDoor.GRL
set_option linter.unusedVariables false
set_option linter.unusedSimpArgs false
namespace L02
theorem sure_ev : Ev (fun k => radomelaw02_sure.f k) true := Ev.of (radomelaw02_sure.mono) (k := 400) (by decide +kernel)
end L02
end Go.Proofs.YtmnhbbckndlnkaaDoor.Pure

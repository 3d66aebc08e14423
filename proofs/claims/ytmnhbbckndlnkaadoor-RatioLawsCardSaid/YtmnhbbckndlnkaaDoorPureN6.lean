/- Powers of two, and what is nearest. -/
import Derived.Test.YtmnhbbckndlnkaaDoorPureN5
namespace Go.Proofs.YtmnhbbckndlnkaaDoor.Pure
open Go.RowKit Go.Proofs.YtmnhbbckndlnkaaDoorK Go.Proofs.YtmnhbbckndlnkaaDoor.GRL
set_option linter.unusedVariables false
set_option linter.unusedSimpArgs false
end Go.Proofs.YtmnhbbckndlnkaaDoor.Pure

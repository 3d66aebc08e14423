/- Powers of two, and what is nearest. -/
import Derived.Test.YtmnhbbckndlnkaaDoorPureN4
namespace Go.Proofs.YtmnhbbckndlnkaaDoor.Pure
open Go.RowKit Go.Proofs.YtmnhbbckndlnkaaDoorK Go.Proofs.YtmnhbbckndlnkaaDoor.GRL
set_option linter.unusedVariables false
set_option linter.unusedSimpArgs false
theorem Ln_lt {x : Int} {m : Nat} (h : x.natAbs < 10 ^ m) : Ln x ≤ m := dg_len_le h
def rnd (x y : Int) : Int := if y < x % y + x % y ∨ (x % y + x % y = y ∧ (x / y) % 2 ≠ 0) then x / y + 1 else x / y
end Go.Proofs.YtmnhbbckndlnkaaDoor.Pure

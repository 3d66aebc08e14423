/- Powers of two, and what is nearest. -/
import Derived.Test.YtmnhbbckndlnkaaDoorPureN4
namespace Go.Proofs.YtmnhbbckndlnkaaDoor.Pure
open Go.RowKit Go.Proofs.YtmnhbbckndlnkaaDoorK Go.Proofs.YtmnhbbckndlnkaaDoor.GWS
set_option linter.unusedVariables false
set_option linter.unusedSimpArgs false
theorem Ln_lt {x : Int} {m : Nat} (h : x.natAbs < 10 ^ m) : Ln x ≤ m := dg_len_le h
theorem Ln_mul (x y : Int) : Ln (x * y) ≤ Ln x + Ln y := by
  unfold Ln; rw [Int.natAbs_mul]; exact dg_len_mul _ _
theorem Ln_add (x y : Int) : Ln (x + y) ≤ max (Ln x) (Ln y) + 1 := by
  unfold Ln; exact Nat.le_trans (dg_len_mono (Int.natAbs_add_le x y)) (dg_len_add _ _)
end Go.Proofs.YtmnhbbckndlnkaaDoor.Pure

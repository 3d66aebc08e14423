/- Quotients of the reference's whole numbers. -/
import Derived.Test.YtmnhbbckndlnkaaDoorPureN3
namespace Go.Proofs.YtmnhbbckndlnkaaDoor.Pure
open Go.RowKit Go.Proofs.YtmnhbbckndlnkaaDoorK Go.Proofs.YtmnhbbckndlnkaaDoor.GWL
set_option linter.unusedVariables false
set_option linter.unusedSimpArgs false

/-! ### quotients -/
theorem nat_split (m b : Nat) : (m : Int) = (b : Int) * ((m / b : Nat) : Int) + ((m % b : Nat) : Int) := by
  exact_mod_cast (Nat.div_add_mod m b).symm
/-- a whole number by one above nought: below nought with a rest it is one less -/
theorem euclid {m b : Nat} (hb : 0 < b) : ((m : Int) / (b : Int) = ((m / b : Nat) : Int) ∧ (m : Int) % (b : Int) = ((m % b : Nat) : Int)) ∧
    (m % b = 0 → (-(m : Int)) / (b : Int) = -((m / b : Nat) : Int) ∧ (-(m : Int)) % (b : Int) = 0) ∧
    (m % b ≠ 0 → (-(m : Int)) / (b : Int) = -((m / b : Nat) : Int) - 1 ∧ (-(m : Int)) % (b : Int) = (b : Int) - ((m % b : Nat) : Int)) := by
  have s := nat_split m b
  have lt : ((m % b : Nat) : Int) < b := by exact_mod_cast Nat.mod_lt m hb
  have hb' : (0 : Int) < b := by exact_mod_cast hb
  refine ⟨⟨rfl, rfl⟩, fun h => ?_, fun h => ?_⟩
  · rw [h] at s
    refine (Int.ediv_emod_unique hb').2 ⟨?_, Int.le_refl _, hb'⟩
    rw [Int.mul_neg, s]; simp
  · have p : (0 : Int) < ((m % b : Nat) : Int) := by exact_mod_cast Nat.pos_of_ne_zero h
    refine (Int.ediv_emod_unique hb').2 ⟨?_, by omega, by omega⟩
    rw [Int.mul_sub, Int.mul_neg, Int.mul_one]; omega
end Go.Proofs.YtmnhbbckndlnkaaDoor.Pure

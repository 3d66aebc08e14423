/- The number nearest to a fraction, and fractions of powers of two. -/
import Derived.Test.YtkccpkccdbfomaaGreatDoorPureR2L35
namespace Go.Proofs.YtkccpkccdbfomaaGreatDoor.Pure
open Go.RowKit Go.Proofs.YtkccpkccdbfomaaGreatDoorK Go.Proofs.YtkccpkccdbfomaaGreatDoor.GBH
set_option linter.unusedVariables false
set_option linter.unusedSimpArgs false
def Sm (z : Int) : Prop := -9223372036854775808 ≤ z ∧ z ≤ 9223372036854775807
instance (z : Int) : Decidable (Sm z) := inferInstanceAs (Decidable (_ ∧ _))
def S1024 : Nat := (2 ^ 32) ^ 32
theorem Vo : 18446744073709551616 * S1024 < LIM := by decide +kernel
theorem NN {n : Int} {bits : Nat} (hn : -9223372036854775808 ≤ n ∧ n ≤ 9223372036854775807) (hb : bits ≤ 1024) : Ev (fun k => Ye.f k n (bits : Int)) (Rb (mkRat n (2 ^ bits)), none) ∧ Rs (max 9223372036854775808 (2 ^ bits)) (mkRat n (2 ^ bits)) := by
  have hl := Vo
  have hp : 2 ^ bits ≤ S1024 := Qaz 32 32 (by omega)
  have p1 : 1 ≤ 2 ^ bits := Nat.pow_pos (by decide)
  have f1 : Fit 1 := by unfold Fit; omega
  have f2 : Fit ((2 : Int) ^ bits) := by unfold Fit; rw [JE, Int.natAbs_natCast]; omega
  have fn : Fit n := by unfold Fit; omega
  have M := VN (x := 1) (n := bits) (by have := ZN f1; omega) (by omega)
  rw [Int.one_mul, JC f2] at M
  have c : ((decide ((bits : Int) < 0)) || (decide (1024 < (bits : Int)))) = false := by rw [Bool.or_eq_false_iff, decide_eq_false_iff_not, decide_eq_false_iff_not]; omega
  refine ⟨?_, ZX (by omega) (by omega) (by omega)⟩
  unfold Ye.f
  simp only [c, Bool.false_eq_true, if_false]
  refine Ev.bind (Md (x := 1) (by decide)) ?_
  (try simp only [YB])
  refine Ev.bind M ?_
  simp only [Option.isSome_none, Bool.false_eq_true, if_false]
  refine Ev.bind (Md hn) ?_
  (try simp only [YB])
  refine Ev.bind (MC fn f2 (by have := ZR bits; omega)) ?_
  (try simp only [Y9])
  rw [JE, Rat.divInt_ofNat]
  exact Ev.now
end Go.Proofs.YtkccpkccdbfomaaGreatDoor.Pure

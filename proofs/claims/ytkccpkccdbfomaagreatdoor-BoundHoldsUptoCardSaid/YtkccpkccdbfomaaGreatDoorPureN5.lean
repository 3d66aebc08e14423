/- Powers of two, and what is nearest. -/
import Derived.Test.YtkccpkccdbfomaaGreatDoorPureN4
namespace Go.Proofs.YtkccpkccdbfomaaGreatDoor.Pure
open Go.RowKit Go.Proofs.YtkccpkccdbfomaaGreatDoorK Go.Proofs.YtkccpkccdbfomaaGreatDoor.GBH
set_option linter.unusedVariables false
set_option linter.unusedSimpArgs false
theorem OX {x : Int} {m : Nat} (h : x.natAbs < 10 ^ m) : Ln x ≤ m := Zw h
theorem QaB (x y : Int) : Ln (x * y) ≤ Ln x + Ln y := by
  unfold Ln; rw [Int.natAbs_mul]; exact Ug _ _
theorem Qar (x y : Int) : Ln (x + y) ≤ max (Ln x) (Ln y) + 1 := by
  unfold Ln; exact Nat.le_trans (Ze (Int.natAbs_add_le x y)) (O0 _ _)
theorem U2 {x0 : Int} : ∀ (n : Nat) (j : Nat) (x : Int), Int.tmod x0 30 = ((j + n : Nat) : Int) → j + n ≤ 30 → Ln x + n < 8796093022208 →
    Ev (fun k => (Qw.hs k).l1 x0 (Nb x).f_Neg (Nb x).f_D j) (Nb (x * 2 ^ n))
  | 0, j, x, h, _, hl => by
    refine Ev.step (fun k => rfl) ?_
    simp only [Qw.hs, Qw.b1, h, Nat.add_zero, Int.lt_irrefl, if_false, Int.pow_zero, Int.mul_one]
    exact Ev.now
  | n + 1, j, x, h, h30, hl => by
    refine Ev.step (fun k => rfl) ?_
    simp only [Qw.hs, Qw.b1]
    rw [h]
    simp only [if_pos (Zi (show j < j + (n + 1) by omega)), Z2 (show j + 1 < 9223372036854775808 by omega)]
    refine Ev.bind (NT (x := x) (y := x) (by omega) (by omega)) ?_
    have := U2 (x0 := x0) n (j + 1) (x + x) (by rw [h]; congr 1; omega) (by omega) (by have := Qar x x; rw [Nat.max_self] at this; omega)
    rwa [show (x + x) * 2 ^ n = x * 2 ^ (n + 1) by rw [Int.pow_succ, Int.add_mul, ← Int.mul_assoc]; omega] at this
theorem U4 {x0 : Int} (h0 : 0 ≤ x0) (hb : x0 < 100000000) : ∀ (n i : Nat) (x : Int), (i : Int) * 30 + n * 30 + x0 % 30 = x0 → Ln x + 10 * n + 100 < 8796093022208 →
    Ev (fun k => (Qw.hs k).l0 x0 (Nb x).f_Neg (Nb x).f_D ((i : Int) * 30)) (Nb (x * 2 ^ (30 * n + (x0 % 30).toNat)))
  | 0, i, x, h, hl => by
    refine Ev.step (fun k => rfl) ?_
    simp only [Qw.hs, Qw.b0, if_neg (show ¬ w64 ((i : Int) * 30 + 30) ≤ x0 by rw [XZ (by omega)]; omega)]
    have := U2 (x0 := x0) (x0 % 30).toNat 0 x (by rw [Int.tmod_eq_emod_of_nonneg h0]; omega) (by omega) (by omega)
    rw [Nat.mul_zero, Nat.zero_add]
    exact this
  | n + 1, i, x, h, hl => by
    refine Ev.step (fun k => rfl) ?_
    have w : w64 ((i : Int) * 30 + 30) = ((i + 1 : Nat) : Int) * 30 := by rw [XZ (by omega)]; omega
    simp only [Qw.hs, Qw.b0, w, if_pos (show ((i + 1 : Nat) : Int) * 30 ≤ x0 by omega)]
    refine Ev.bind (Mn (x := 1073741824) (by decide)) ?_
    have l1 : Ln 1073741824 ≤ 10 := OX (by decide)
    have l2 := QaB x 1073741824
    refine Ev.bind (Qaq (x := x) (y := 1073741824) (by omega) (by omega)) ?_
    have := U4 h0 hb n (i + 1) (x * 1073741824) (by omega) (by omega)
    rwa [show x * 1073741824 * 2 ^ (30 * n + (x0 % 30).toNat) = x * 2 ^ (30 * (n + 1) + (x0 % 30).toNat) by
      rw [Int.mul_assoc, show 30 * (n + 1) + (x0 % 30).toNat = 30 + (30 * n + (x0 % 30).toNat) by omega, Int.pow_add 2 30 (30 * n + (x0 % 30).toNat)]; rfl] at this
theorem Qap {n : Nat} (hb : n < 1000000) : Ev (fun k => Qw.f k (n : Int)) (Nb (2 ^ n)) := by
  simp only [Qw.f]
  refine Ev.bind (Mn (x := 1) (by decide)) ?_
  have l1 : Ln 1 ≤ 1 := OX (by decide)
  have := U4 (x0 := n) (by omega) (by omega) (n / 30) 0 1 (by omega) (by omega)
  rw [show 30 * (n / 30) + ((n : Int) % 30).toNat = n by omega, Int.one_mul] at this
  exact this
end Go.Proofs.YtkccpkccdbfomaaGreatDoor.Pure

/- Powers of two, and what is nearest. -/
import Derived.Test.YtkccpkccdbfomaaGreatDoorPureN4
namespace Go.Proofs.YtkccpkccdbfomaaGreatDoor.Pure
open Go.RowKit Go.Proofs.YtkccpkccdbfomaaGreatDoorK Go.Proofs.YtkccpkccdbfomaaGreatDoor.GBP
set_option linter.unusedVariables false
set_option linter.unusedSimpArgs false
theorem Up {x : Int} {m : Nat} (h : x.natAbs < 10 ^ m) : Ln x ≤ m := ZG h
theorem Qav (x y : Int) : Ln (x * y) ≤ Ln x + Ln y := by
  unfold Ln; rw [Int.natAbs_mul]; exact Uj _ _
theorem Qai (x y : Int) : Ln (x + y) ≤ max (Ln x) (Ln y) + 1 := by
  unfold Ln; exact Nat.le_trans (Zc (Int.natAbs_add_le x y)) (O5 _ _)
theorem Vk {x0 : Int} : ∀ (n : Nat) (j : Nat) (x : Int), Int.tmod x0 30 = ((j + n : Nat) : Int) → j + n ≤ 30 → Ln x + n < 8796093022208 →
    Ev (fun k => (Qq.hs k).l1 x0 (Nb x).f_Neg (Nb x).f_D j) (Nb (x * 2 ^ n))
  | 0, j, x, h, _, hl => by
    refine Ev.step (fun k => rfl) ?_
    simp only [Qq.hs, Qq.b1, h, Nat.add_zero, Int.lt_irrefl, if_false, Int.pow_zero, Int.mul_one]
    exact Ev.now
  | n + 1, j, x, h, h30, hl => by
    refine Ev.step (fun k => rfl) ?_
    simp only [Qq.hs, Qq.b1]
    rw [h]
    simp only [if_pos (Zk (show j < j + (n + 1) by omega)), Z7 (show j + 1 < 9223372036854775808 by omega)]
    refine Ev.bind (Gi (x := x) (y := x) (by omega) (by omega)) ?_
    have := Vk (x0 := x0) n (j + 1) (x + x) (by rw [h]; congr 1; omega) (by omega) (by have := Qai x x; rw [Nat.max_self] at this; omega)
    rwa [show (x + x) * 2 ^ n = x * 2 ^ (n + 1) by rw [Int.pow_succ, Int.add_mul, ← Int.mul_assoc]; omega] at this
theorem US {x0 : Int} (h0 : 0 ≤ x0) (hb : x0 < 100000000) : ∀ (n i : Nat) (x : Int), (i : Int) * 30 + n * 30 + x0 % 30 = x0 → Ln x + 10 * n + 100 < 8796093022208 →
    Ev (fun k => (Qq.hs k).l0 x0 (Nb x).f_Neg (Nb x).f_D ((i : Int) * 30)) (Nb (x * 2 ^ (30 * n + (x0 % 30).toNat)))
  | 0, i, x, h, hl => by
    refine Ev.step (fun k => rfl) ?_
    simp only [Qq.hs, Qq.b0, if_neg (show ¬ w64 ((i : Int) * 30 + 30) ≤ x0 by rw [XY (by omega)]; omega)]
    have := Vk (x0 := x0) (x0 % 30).toNat 0 x (by rw [Int.tmod_eq_emod_of_nonneg h0]; omega) (by omega) (by omega)
    rw [Nat.mul_zero, Nat.zero_add]
    exact this
  | n + 1, i, x, h, hl => by
    refine Ev.step (fun k => rfl) ?_
    have w : w64 ((i : Int) * 30 + 30) = ((i + 1 : Nat) : Int) * 30 := by rw [XY (by omega)]; omega
    simp only [Qq.hs, Qq.b0, w, if_pos (show ((i + 1 : Nat) : Int) * 30 ≤ x0 by omega)]
    refine Ev.bind (JA (x := 1073741824) (by decide)) ?_
    have l1 : Ln 1073741824 ≤ 10 := Up (by decide)
    have l2 := Qav x 1073741824
    refine Ev.bind (JT (x := x) (y := 1073741824) (by omega) (by omega)) ?_
    have := US h0 hb n (i + 1) (x * 1073741824) (by omega) (by omega)
    rwa [show x * 1073741824 * 2 ^ (30 * n + (x0 % 30).toNat) = x * 2 ^ (30 * (n + 1) + (x0 % 30).toNat) by
      rw [Int.mul_assoc, show 30 * (n + 1) + (x0 % 30).toNat = 30 + (30 * n + (x0 % 30).toNat) by omega, Int.pow_add 2 30 (30 * n + (x0 % 30).toNat)]; rfl] at this
theorem Mm {n : Nat} (hb : n < 1000000) : Ev (fun k => Qq.f k (n : Int)) (Nb (2 ^ n)) := by
  simp only [Qq.f]
  refine Ev.bind (JA (x := 1) (by decide)) ?_
  have l1 : Ln 1 ≤ 1 := Up (by decide)
  have := US (x0 := n) (by omega) (by omega) (n / 30) 0 1 (by omega) (by omega)
  rw [show 30 * (n / 30) + ((n : Int) % 30).toNat = n by omega, Int.one_mul] at this
  exact this
end Go.Proofs.YtkccpkccdbfomaaGreatDoor.Pure

/- Powers of two, and what is nearest. -/
import Derived.Test.YtlokgnjlnefbbaaDoorPureN4
namespace Go.Proofs.YtlokgnjlnefbbaaDoor.Pure
open Go.RowKit Go.Proofs.YtlokgnjlnefbbaaDoorK Go.Proofs.YtlokgnjlnefbbaaDoor.GRW
set_option linter.unusedVariables false
set_option linter.unusedSimpArgs false
theorem Ln_lt {x : Int} {m : Nat} (h : x.natAbs < 10 ^ m) : Ln x ≤ m := dg_len_le h
theorem Ln_mul (x y : Int) : Ln (x * y) ≤ Ln x + Ln y := by
  unfold Ln; rw [Int.natAbs_mul]; exact dg_len_mul _ _
theorem Ln_add (x y : Int) : Ln (x + y) ≤ max (Ln x) (Ln y) + 1 := by
  unfold Ln; exact Nat.le_trans (dg_len_mono (Int.natAbs_add_le x y)) (dg_len_add _ _)
theorem two_l1 {x0 : Int} : ∀ (n : Nat) (j : Nat) (x : Int), Int.tmod x0 30 = ((j + n : Nat) : Int) → j + n ≤ 30 → Ln x + n < 8796093022208 →
    Ev (fun k => (radomeref01_Two.hs k).l1 x0 (Nb x).f_Neg (Nb x).f_D j) (Nb (x * 2 ^ n))
  | 0, j, x, h, _, hl => by
    refine Ev.step (fun k => rfl) ?_
    simp only [radomeref01_Two.hs, radomeref01_Two.b1, h, Nat.add_zero, Int.lt_irrefl, if_false, Int.pow_zero, Int.mul_one]
    exact Ev.now
  | n + 1, j, x, h, h30, hl => by
    refine Ev.step (fun k => rfl) ?_
    simp only [radomeref01_Two.hs, radomeref01_Two.b1]
    rw [h]
    simp only [if_pos (lt_int (show j < j + (n + 1) by omega)), wrap_succ (show j + 1 < 9223372036854775808 by omega)]
    refine Ev.bind (Add_ev (x := x) (y := x) (by omega) (by omega)) ?_
    have := two_l1 (x0 := x0) n (j + 1) (x + x) (by rw [h]; congr 1; omega) (by omega) (by have := Ln_add x x; rw [Nat.max_self] at this; omega)
    rwa [show (x + x) * 2 ^ n = x * 2 ^ (n + 1) by rw [Int.pow_succ, Int.add_mul, ← Int.mul_assoc]; omega] at this
theorem two_l0 {x0 : Int} (h0 : 0 ≤ x0) (hb : x0 < 100000000) : ∀ (n i : Nat) (x : Int), (i : Int) * 30 + n * 30 + x0 % 30 = x0 → Ln x + 10 * n + 100 < 8796093022208 →
    Ev (fun k => (radomeref01_Two.hs k).l0 x0 (Nb x).f_Neg (Nb x).f_D ((i : Int) * 30)) (Nb (x * 2 ^ (30 * n + (x0 % 30).toNat)))
  | 0, i, x, h, hl => by
    refine Ev.step (fun k => rfl) ?_
    simp only [radomeref01_Two.hs, radomeref01_Two.b0, if_neg (show ¬ w64 ((i : Int) * 30 + 30) ≤ x0 by rw [w64_id (by omega)]; omega)]
    have := two_l1 (x0 := x0) (x0 % 30).toNat 0 x (by rw [Int.tmod_eq_emod_of_nonneg h0]; omega) (by omega) (by omega)
    rw [Nat.mul_zero, Nat.zero_add]
    exact this
  | n + 1, i, x, h, hl => by
    refine Ev.step (fun k => rfl) ?_
    have w : w64 ((i : Int) * 30 + 30) = ((i + 1 : Nat) : Int) * 30 := by rw [w64_id (by omega)]; omega
    simp only [radomeref01_Two.hs, radomeref01_Two.b0, w, if_pos (show ((i + 1 : Nat) : Int) * 30 ≤ x0 by omega)]
    refine Ev.bind (Of_ev (x := 1073741824) (by decide)) ?_
    have l1 : Ln 1073741824 ≤ 10 := Ln_lt (by decide)
    have l2 := Ln_mul x 1073741824
    refine Ev.bind (Mul_ev (x := x) (y := 1073741824) (by omega) (by omega)) ?_
    have := two_l0 h0 hb n (i + 1) (x * 1073741824) (by omega) (by omega)
    rwa [show x * 1073741824 * 2 ^ (30 * n + (x0 % 30).toNat) = x * 2 ^ (30 * (n + 1) + (x0 % 30).toNat) by
      rw [Int.mul_assoc, show 30 * (n + 1) + (x0 % 30).toNat = 30 + (30 * n + (x0 % 30).toNat) by omega, Int.pow_add 2 30 (30 * n + (x0 % 30).toNat)]; rfl] at this
theorem Two_ev {n : Nat} (hb : n < 1000000) : Ev (fun k => radomeref01_Two.f k (n : Int)) (Nb (2 ^ n)) := by
  simp only [radomeref01_Two.f]
  refine Ev.bind (Of_ev (x := 1) (by decide)) ?_
  have l1 : Ln 1 ≤ 1 := Ln_lt (by decide)
  have := two_l0 (x0 := n) (by omega) (by omega) (n / 30) 0 1 (by omega) (by omega)
  rw [show 30 * (n / 30) + ((n : Int) % 30).toNat = n by omega, Int.one_mul] at this
  exact this
def rnd (x y : Int) : Int := if y < x % y + x % y ∨ (x % y + x % y = y ∧ (x / y) % 2 ≠ 0) then x / y + 1 else x / y
theorem max_le2 {a b c : Nat} (h : b ≤ 1) (e : c ≤ max a b + 1) : c ≤ a + 2 := by omega
theorem Ln_div (x y : Int) : Ln (x / y) ≤ Ln x + 2 := by
  unfold Ln
  have h1 : (x / y).natAbs ≤ x.natAbs + 1 := by
    by_cases h : y = 0
    · subst h; simp
    · have := Int.natAbs_ediv_le_natAbs x y; omega
  exact max_le2 (dg_len_le (n := 1) (m := 1) (by decide)) (Nat.le_trans (dg_len_mono h1) (dg_len_add x.natAbs 1))
theorem Ln_mod {x y : Int} (h : 0 < y) : Ln (x % y) ≤ Ln y := by
  unfold Ln
  refine dg_len_mono ?_
  have a := Int.emod_nonneg x (Int.ne_of_gt h); have b := Int.emod_lt_of_pos x h
  omega
end Go.Proofs.YtlokgnjlnefbbaaDoor.Pure

/- The plain law of NamesOnce: of however many numbers that are asked for no two are the same; each that was given is told so, the next one not. -/
import Derived.Test.YtjhpkkhcgpilfaaDoorPureNM1
namespace Go.Proofs.YtjhpkkhcgpilfaaDoor.Pure
open Go.RowKit Go.Proofs.YtjhpkkhcgpilfaaDoorK Go.Proofs.YtjhpkkhcgpilfaaDoor.GNO
set_option linter.unusedVariables false
set_option linter.unusedSimpArgs false
theorem once_l0 {a m : Int} (h : NOk a (a + m) 0) (hm : 0 ≤ m ∧ m ≤ 200) : ∀ (n i : Nat) (last : Int), m + 1 = i + n → last < a + i → Ev (fun k => (radomelaw24_NamesOnce.hs k).l0 false m a (a + m) (i : Int) last (i : Int)) true
  | 0, i, last, e, hl => by
    have h1 := h.a1; have h3 := h.b1
    have hk : NOk a (a + m) (i : Int) := ⟨h1, h.ab, h3, by omega, by omega⟩
    refine Ev.step (fun k => rfl) ?_
    simp only [radomelaw24_NamesOnce.hs, radomelaw24_NamesOnce.b0, if_neg (show ¬ (i : Int) ≤ m by omega)]
    refine Ev.bind (next_full hk (by omega)) ?_
    simp only [show (decide (errN (some 10) = 10)) = true from rfl, gdt, left_eq _ hk, Option.bind_some, Bool.true_and, decide_eq_true (show a + m - a + 1 - (i : Int) = 0 by omega)]
    exact Ev.bind sure_ev24 Ev.now
  | n + 1, i, last, e, hl => by
    have h1 := h.a1; have h3 := h.b1
    have hk : NOk a (a + m) (i : Int) := ⟨h1, h.ab, h3, by omega, by omega⟩
    have hk2 : NOk a (a + m) ((i : Int) + 1) := ⟨h1, h.ab, h3, by omega, by omega⟩
    refine Ev.step (fun k => rfl) ?_
    simp only [radomelaw24_NamesOnce.hs, radomelaw24_NamesOnce.b0, if_pos (show (i : Int) ≤ m by omega)]
    refine Ev.bind (next_some hk (by omega)) ?_
    simp only [Option.isSome_none, decide_eq_false (show ¬ a + (i : Int) ≤ last by omega), Bool.or_self, Bool.not_false, gdt, was_eq _ hk2 (show -9223372036854775808 ≤ a + (i : Int) ∧ a + (i : Int) ≤ 9223372036854775807 by omega), Option.bind_some, decide_eq_true (show a ≤ a + (i : Int) ∧ a + (i : Int) - a < (i : Int) + 1 by omega), Bool.not_true, w64_id (show -9223372036854775808 ≤ a + (i : Int) + 1 ∧ a + (i : Int) + 1 ≤ 9223372036854775807 by omega), was_eq _ hk2 (show -9223372036854775808 ≤ a + (i : Int) + 1 ∧ a + (i : Int) + 1 ≤ 9223372036854775807 by omega), decide_eq_false (show ¬ (a ≤ a + (i : Int) + 1 ∧ a + (i : Int) + 1 - a < (i : Int) + 1) by omega), given_eq, left_eq _ hk2, w64_id (show -9223372036854775808 ≤ (i : Int) + 1 + (a + m - a + 1 - ((i : Int) + 1)) ∧ (i : Int) + 1 + (a + m - a + 1 - ((i : Int) + 1)) ≤ 9223372036854775807 by omega), w64_id (show -9223372036854775808 ≤ m + 1 ∧ m + 1 ≤ 9223372036854775807 by omega), decide_eq_true (show (i : Int) + 1 + (a + m - a + 1 - ((i : Int) + 1)) = m + 1 by omega), Bool.false_eq_true, if_false, w64_id (show -9223372036854775808 ≤ (i : Int) + 1 ∧ (i : Int) + 1 ≤ 9223372036854775807 by omega)]
    exact once_l0 h hm n (i + 1) (a + i) (by omega) (by omega)
theorem NamesOnce : radomelaw24_NamesOnce.Pure := by
  intro x y hx hy
  suffices h : Ev (fun k => radomelaw24_NamesOnce.f k x y) true from h.ex
  unfold radomelaw24_NamesOnce.f names_New.f
  have t1 : Int.tmod (x % 18446744073709551616) 1073741824 = (x % 18446744073709551616) % 1073741824 := Int.tmod_eq_emod_of_nonneg (by omega)
  have t2 : Int.tmod (y % 18446744073709551616) 200 = (y % 18446744073709551616) % 200 := Int.tmod_eq_emod_of_nonneg (by omega)
  rw [t1, t2]
  generalize ha : (x % 18446744073709551616) % 1073741824 = a0
  generalize hm : (y % 18446744073709551616) % 200 = m
  have ha0 : 0 ≤ a0 ∧ a0 < 1073741824 := by omega
  have hm0 : 0 ≤ m ∧ m < 200 := by omega
  rw [w64_id (show -9223372036854775808 ≤ a0 ∧ a0 ≤ 9223372036854775807 by omega), w64_id (show -9223372036854775808 ≤ m ∧ m ≤ 9223372036854775807 by omega), w64_id (show -9223372036854775808 ≤ 1 + a0 ∧ 1 + a0 ≤ 9223372036854775807 by omega), w64_id (show -9223372036854775808 ≤ 1 + a0 + m ∧ 1 + a0 + m ≤ 9223372036854775807 by omega)]
  have e1 : ((decide (1 + a0 < 1) || decide (1 + a0 + m < 1 + a0)) || decide (1099511627776 < 1 + a0 + m)) = false := by simp; omega
  simp only [e1, Bool.false_eq_true, if_false, Option.bind_some, oe, Option.isSome_none]
  exact once_l0 ⟨by omega, by omega, by omega, by omega, by omega⟩ (by omega) (m.toNat + 1) 0 0 (by omega) (by omega)
end Go.Proofs.YtjhpkkhcgpilfaaDoor.Pure

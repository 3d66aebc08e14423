/- The plain law of NamesGives: which numbers are given, one behind the other, how many are left, and which were, or the error. -/
import Derived.Test.YtjhpkkhcgpilfaaDoorPureNM1
namespace Go.Proofs.YtjhpkkhcgpilfaaDoor.Pure
open Go.RowKit Go.Proofs.YtjhpkkhcgpilfaaDoorK Go.Proofs.YtjhpkkhcgpilfaaDoor.GNG
set_option linter.unusedVariables false
set_option linter.unusedSimpArgs false
theorem gives_l0 {a b x : Int} (h : NOk a b 0) (hx : -9223372036854775808 ≤ x ∧ x ≤ 9223372036854775807) : ∀ (n i : Nat), 20 = i + n → Ev (fun k => (radomelaw24_NamesGives.hs k).l0 a b x false a b (min (i : Int) (b - a + 1)) (i : Int)) true
  | 0, i, e => by
    refine Ev.step (fun k => rfl) ?_
    simp only [radomelaw24_NamesGives.hs, radomelaw24_NamesGives.b0, if_neg (show ¬ (i : Int) < 20 by omega)]
    exact Ev.bind sure_ev24 Ev.now
  | n + 1, i, e => by
    have h1 := h.a1; have h2 := h.ab; have h3 := h.b1
    have hk : NOk a b (min (i : Int) (b - a + 1)) := ⟨h1, h2, h3, by omega, by omega⟩
    refine Ev.step (fun k => rfl) ?_
    have e1 : w64 (b - a) = b - a := w64_id (by omega)
    have e2 : w64 (b - a + 1) = b - a + 1 := w64_id (by omega)
    have e3 : w64 (b - a + 1 - min (i : Int) (b - a + 1)) = b - a + 1 - min (i : Int) (b - a + 1) := w64_id (by omega)
    simp only [radomelaw24_NamesGives.hs, radomelaw24_NamesGives.b0, if_pos (show (i : Int) < 20 by omega), given_eq, Option.bind_some, e1, e2, e3, decide_true, Bool.not_true, Bool.not_false, gdt, left_eq _ hk, Bool.or_self, Bool.false_or, was_eq _ hk hx]
    have e4 : (decide (a ≤ x ∧ x - a < min (i : Int) (b - a + 1)) == ((decide (a ≤ x) && decide (x ≤ b)) && decide (w64 (x - a) < (i : Int)))) = true := by
      rw [beq_iff_eq, ← Bool.decide_and, ← Bool.decide_and, decide_eq_decide]
      by_cases hh : a ≤ x
      · rw [w64_id (by omega)]; omega
      · constructor <;> (intro q; omega)
    simp only [e4, Bool.not_true, Bool.false_eq_true, if_false]
    by_cases hf : b - a < (i : Int)
    · have em : min (i : Int) (b - a + 1) = b - a + 1 := by omega
      refine Ev.bind (next_full hk (by omega)) ?_
      simp only [if_pos hf, show (decide (errN (some 10) = 10)) = true from rfl, decide_true, Bool.not_true, Bool.or_self, Bool.false_eq_true, if_false, w64_id (show -9223372036854775808 ≤ (i : Int) + 1 ∧ (i : Int) + 1 ≤ 9223372036854775807 by omega)]
      have := gives_l0 h hx n (i + 1) (by omega)
      rw [show min (((i + 1 : Nat)) : Int) (b - a + 1) = min (i : Int) (b - a + 1) by omega] at this
      exact this
    · have em : min (i : Int) (b - a + 1) = (i : Int) := by omega
      refine Ev.bind (next_some hk (by omega)) ?_
      simp only [if_neg hf, em, w64_id (show -9223372036854775808 ≤ a + (i : Int) ∧ a + (i : Int) ≤ 9223372036854775807 by omega), decide_true, Bool.not_true, Option.isSome_none, Bool.or_self, Bool.false_eq_true, if_false, w64_id (show -9223372036854775808 ≤ (i : Int) + 1 ∧ (i : Int) + 1 ≤ 9223372036854775807 by omega)]
      have := gives_l0 h hx n (i + 1) (by omega)
      rw [show min (((i + 1 : Nat)) : Int) (b - a + 1) = (i : Int) + 1 by omega] at this
      exact this
theorem NamesGives : radomelaw24_NamesGives.Pure := by
  intro a b x ha hb hx
  have ha := i64_wf ha; have hb := i64_wf hb; have hx := i64_wf hx
  suffices h : Ev (fun k => radomelaw24_NamesGives.f k a b x) true from h.ex
  unfold radomelaw24_NamesGives.f names_Names_Next_nil.f names_Names_Given_nil.f names_Names_Left_nil.f names_Names_Was_nil.f names_New.f radomeref24_May.f
  simp only [Option.bind_some, show (decide (errN (some 1) = 1)) = true from rfl, Bool.not_true, Bool.not_false, gdt, decide_true, Bool.or_self, Bool.false_eq_true, if_false]
  by_cases h : 1 ≤ a ∧ a ≤ b ∧ b ≤ 1099511627776
  · have e1 : ((decide (a < 1) || decide (b < a)) || decide (1099511627776 < b)) = false := by simp; omega
    have e2 : ((decide (1 ≤ a) && decide (a ≤ b)) && decide (b ≤ 1099511627776)) = true := by simp; omega
    simp only [e1, e2, Bool.false_eq_true, if_false, Option.bind_some, oe, Bool.not_true, Option.isSome_none]
    have := gives_l0 (x := x) ⟨h.1, h.2.1, by omega, by omega, by omega⟩ hx 20 0 rfl
    rw [show min (((0 : Nat)) : Int) (b - a + 1) = 0 by omega] at this
    exact this
  · have e1 : ((decide (a < 1) || decide (b < a)) || decide (1099511627776 < b)) = true := by
      refine Decidable.byContradiction fun hc => h ?_; rw [Bool.not_eq_true] at hc; simp at hc; omega
    have e2 : ((decide (1 ≤ a) && decide (a ≤ b)) && decide (b ≤ 1099511627776)) = false := by
      refine Decidable.byContradiction fun hc => h ?_; rw [Bool.not_eq_false] at hc; simp at hc; omega
    simp only [e1, e2, if_true, Option.bind_some, oe, Bool.not_false, show (decide (errN (some 1) = 1)) = true from rfl, gdt, Bool.true_and]
    exact Ev.bind sure_ev24 Ev.now
end Go.Proofs.YtjhpkkhcgpilfaaDoor.Pure

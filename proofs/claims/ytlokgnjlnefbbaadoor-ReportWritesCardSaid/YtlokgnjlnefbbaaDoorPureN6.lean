/- Powers of two, and what is nearest. -/
import Derived.Test.YtlokgnjlnefbbaaDoorPureN5
namespace Go.Proofs.YtlokgnjlnefbbaaDoor.Pure
open Go.RowKit Go.Proofs.YtlokgnjlnefbbaaDoorK Go.Proofs.YtlokgnjlnefbbaaDoor.GRW
set_option linter.unusedVariables false
set_option linter.unusedSimpArgs false
theorem Round_ev {x y : Int} (h : 0 < y) (hx : Ln x < 1000000000) (hy : Ln y < 1000000000) : Ev (fun k => radomeref02_Round.f k (Nb x) (Nb y)) (Nb (rnd x y)) := by
  have l1 := Ln_div x y; have l2 := Ln_mod (x := x) h; have l3 := Ln_add (x % y) (x % y)
  rw [Nat.max_self] at l3
  have l4 : Ln 2 ≤ 1 := Ln_lt (by decide)
  have l5 : Ln 1 ≤ 1 := Ln_lt (by decide)
  simp only [radomeref02_Round.f]
  refine Ev.bind (Div_ev (Int.ne_of_gt h) (by omega) (by omega)) ?_
  refine Ev.bind (Add_ev (x := x % y) (y := x % y) (by omega) (by omega)) ?_
  refine Ev.bind (Cmp_ev (x := x % y + x % y) (y := y) (by omega) (by omega)) ?_
  refine Ev.bind (Of_ev (x := 2) (by decide)) ?_
  refine Ev.bind (Div_ev (x := x / y) (y := 2) (by decide) (by omega) (by omega)) ?_
  have fin : ∀ b : Bool, b = decide (y < x % y + x % y ∨ (x % y + x % y = y ∧ (x / y) % 2 ≠ 0)) → Ev (fun k => if b = true then ((radomeref01_Of.f k 1).bind fun y68 => (radomeref01_Add.f k (⟨(Nb (x / y)).f_Neg, (Nb (x / y)).f_D⟩ : radomeref01_Num) (⟨y68.f_Neg, y68.f_D⟩ : radomeref01_Num)).bind fun y76 => some ((⟨y76.f_Neg, y76.f_D⟩ : radomeref01_Num))) else (some ((⟨(Nb (x / y)).f_Neg, (Nb (x / y)).f_D⟩ : radomeref01_Num)))) (Nb (rnd x y)) := by
    intro b hb
    unfold rnd
    by_cases g : y < x % y + x % y ∨ (x % y + x % y = y ∧ (x / y) % 2 ≠ 0)
    · rw [if_pos g, hb]; simp only [g, decide_true, if_true]
      refine Ev.bind (Of_ev (x := 1) (by decide)) ?_
      refine Ev.bind (Add_ev (x := x / y) (y := 1) (by omega) (by omega)) ?_
      exact Ev.now
    · rw [if_neg g, hb]; simp only [g, decide_false, Bool.false_eq_true, if_false]
      exact Ev.now
  generalize hs : x % y + x % y = s at *
  refine Ev.bind (r := if s = y then (if x / y % 2 = 0 then 0 else if x / y % 2 < 0 then -1 else 1) else 0) ?_ ?_
  · by_cases e : s = y
    · simp only [gd, e, if_true, Int.lt_irrefl, decide_false, decide_true, Bool.not_false, Bool.and_self]
      exact Ev_all fun k => Sign_eq k _
    · by_cases g : s < y <;> simp [gd, e, g] <;> exact Ev.now
  · refine fin _ ?_
    by_cases e : s = y
    · have : ¬ y < s := by omega
      by_cases o : x / y % 2 = 0
      · simp [e, o]
      · by_cases n : x / y % 2 < 0 <;> simp [e, o, n]
    · by_cases g : s < y
      · have : ¬ y < s := by omega
        simp [e, g, this]
      · have : y < s := by omega
        simp [e, g, this]

end Go.Proofs.YtlokgnjlnefbbaaDoor.Pure

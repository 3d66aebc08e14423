/- Costs that may be, as the document says it. -/
import Derived.Test.YtacbficpehmlnaaDoorPureAU1
namespace Go.Proofs.YtacbficpehmlnaaDoor.Pure
open Go.RowKit Go.Proofs.YtacbficpehmlnaaDoorK Go.Proofs.YtacbficpehmlnaaDoor.GBN
set_option linter.unusedVariables false
set_option linter.unusedSimpArgs false
set_option maxRecDepth 100000
theorem may_l1 {rows : List (List Int)} {miss : Int} {i : Nat} {r : Bool} (hi : i < rows.length) (hR : (rows[i]).length ≤ 64) (hn : rows.length ≤ 64)
    (h : ((rows[i]).all fun n => decide (-1 ≤ n ∧ n ≤ 4096)) = true → Ev (fun k => (radomeref20_May.hs k).l0 rows miss false ((i + 1 : Nat) : Int)) r) (hf : ((rows[i]).all fun n => decide (-1 ≤ n ∧ n ≤ 4096)) = false → r = false) :
    ∀ (n j : Nat), (rows[i]).length = j + n → (∀ q, (hq : q < (rows[i]).length) → q < j → -1 ≤ (rows[i])[q] ∧ (rows[i])[q] ≤ 4096) → Ev (fun k => (radomeref20_May.hs k).l1 rows miss false (i : Int) (j : Int)) r
  | 0, j, e, hq => by
    refine Ev.step (fun k => rfl) ?_
    simp only [radomeref20_May.hs, radomeref20_May.b1, if_pos (show (0 : Int) ≤ (i : Int) ∧ (i : Int) < (rows.length : Int) by omega), rd_get hi, if_neg (show ¬ (j : Int) < ((rows[i]).length : Int) by omega), wsucc (show i < 1000000000 by omega)]
    refine h (List.all_eq_true.2 fun x hx => ?_)
    obtain ⟨q, hq1, rfl⟩ := List.getElem_of_mem hx
    exact decide_eq_true (hq q hq1 (by omega))
  | n + 1, j, e, hq => by
    have hj : j < (rows[i]).length := by omega
    have hi' : (0 : Int) ≤ (i : Int) ∧ (i : Int) < (rows.length : Int) := by omega
    have hj' : (0 : Int) ≤ (j : Int) ∧ (j : Int) < ((rows[i]).length : Int) := by omega
    refine Ev.step (fun k => rfl) ?_
    simp only [radomeref20_May.hs, radomeref20_May.b1, if_pos hi', rd_get hi, if_pos (show (j : Int) < ((rows[i]).length : Int) by omega), if_pos hj', if_pos (show ((!(decide (rd rows[i] (j : Int) < -1))) = true → (0 : Int) ≤ (i : Int) ∧ (i : Int) < (rows.length : Int)) from fun _ => hi'), if_pos (show ((!(decide (rd rows[i] (j : Int) < -1))) = true → (0 : Int) ≤ (j : Int) ∧ (j : Int) < ((rows[i]).length : Int)) from fun _ => hj'), wsucc (show j < 1000000000 by omega)]
    rw [rd_get hj]
    by_cases hb : -1 ≤ (rows[i])[j] ∧ (rows[i])[j] ≤ 4096
    · have e1 : (decide ((rows[i])[j] < -1) || decide (4096 < (rows[i])[j])) = false := by simp; omega
      simp only [e1, Bool.false_eq_true, if_false]
      refine may_l1 hi hR hn h hf n (j + 1) (by omega) fun q hq1 hq2 => ?_
      by_cases e : q = j
      · subst e; exact hb
      · exact hq q hq1 (by omega)
    · have e1 : (decide ((rows[i])[j] < -1) || decide (4096 < (rows[i])[j])) = true := by
        refine Decidable.byContradiction fun hc => hb ?_; rw [Bool.not_eq_true] at hc; simp at hc; omega
      simp only [e1, if_true]
      rw [hf (by
        rw [Bool.eq_false_iff]; intro ha
        exact hb (of_decide_eq_true (List.all_eq_true.1 ha _ (List.getElem_mem hj))))]
      exact Ev.now
theorem may_l0 {rows : List (List Int)} {miss : Int} (hl : rows.length ≤ 64) : ∀ (n i : Nat), rows.length = i + n → Ev (fun k => (radomeref20_May.hs k).l0 rows miss false (i : Int)) ((rows.drop i).all (rowB (rd rows 0).length))
  | 0, i, e => by
    refine Ev.step (fun k => rfl) ?_
    simp only [radomeref20_May.hs, radomeref20_May.b0, if_neg (show ¬ (i : Int) < (rows.length : Int) by omega)]
    rw [List.drop_eq_nil_of_le (by omega)]; exact Ev.now
  | n + 1, i, e => by
    have hi : i < rows.length := by omega
    have ih := may_l0 hl (miss := miss) n (i + 1) (by omega)
    have hi' : (0 : Int) ≤ (i : Int) ∧ (i : Int) < (rows.length : Int) := by omega
    refine Ev.step (fun k => rfl) ?_
    simp only [radomeref20_May.hs, radomeref20_May.b0, if_pos (show (i : Int) < (rows.length : Int) by omega), if_pos hi', if_pos (show (0 : Int) ≤ 0 ∧ 0 < (rows.length : Int) by omega), if_pos (fun _ => hi' : _ → (0 : Int) ≤ (i : Int) ∧ (i : Int) < (rows.length : Int)), rd_get hi]
    rw [drop_cons hi, List.all_cons]
    by_cases hR : (rows[i]).length = (rd rows 0).length ∧ (rows[i]).length ≤ 64
    · have e1 : ((!decide (((rows[i]).length : Int) = ((rd rows 0).length : Int))) || decide (64 < ((rows[i]).length : Int))) = false := by simp; omega
      simp only [e1, Bool.false_eq_true, if_false]
      have e2 : rowB (rd rows 0).length rows[i] = (rows[i]).all fun n => decide (-1 ≤ n ∧ n ≤ 4096) := by
        unfold rowB; rw [decide_eq_true hR.1, decide_eq_true hR.2, Bool.true_and, Bool.true_and]
      rw [e2]
      exact may_l1 (miss := miss) hi hR.2 hl (fun h => by rw [h, Bool.true_and]; exact ih) (fun h => by rw [h, Bool.false_and]) (rows[i]).length 0 (by omega) (fun q _ h => by omega)
    · have e1 : ((!decide (((rows[i]).length : Int) = ((rd rows 0).length : Int))) || decide (64 < ((rows[i]).length : Int))) = true := by
        refine Decidable.byContradiction fun hc => hR ?_; rw [Bool.not_eq_true] at hc; simp at hc; omega
      simp only [e1, if_true]
      have e2 : rowB (rd rows 0).length rows[i] = false := by
        unfold rowB; rw [← Bool.decide_and, decide_eq_false hR, Bool.false_and]
      rw [e2, Bool.false_and]; exact Ev.now
theorem may_ev (rows : List (List Int)) (miss : Int) : Ev (fun k => radomeref20_May.f k ⟨rows, miss⟩) (chkB rows miss) := by
  unfold radomeref20_May.f chkB
  by_cases h : rows.length ≤ 64 ∧ 0 ≤ miss ∧ miss ≤ 4096
  · have e1 : ((decide (64 < (rows.length : Int)) || decide (miss < 0)) || decide (4096 < miss)) = false := by simp; omega
    simp only [e1, Bool.false_eq_true, if_false, decide_eq_true h, Bool.true_and]
    exact may_l0 h.1 rows.length 0 (by omega)
  · have e1 : ((decide (64 < (rows.length : Int)) || decide (miss < 0)) || decide (4096 < miss)) = true := by
      refine Decidable.byContradiction fun hc => h ?_; rw [Bool.not_eq_true] at hc; simp at hc; omega
    simp only [e1, if_true, decide_eq_false h, Bool.false_and]
    exact Ev.now
end Go.Proofs.YtacbficpehmlnaaDoor.Pure

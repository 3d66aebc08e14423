/- The plain law of BestRuns: the pairs of any costs (of few tracks and plots) are a matching that costs the least of all, or the error. -/
import Derived.Test.YtacbficpehmlnaaDoorPureHU5
namespace Go.Proofs.YtacbficpehmlnaaDoor.Pure
open Go.RowKit Go.Proofs.YtacbficpehmlnaaDoorK Go.Proofs.YtacbficpehmlnaaDoor.GBN
set_option linter.unusedVariables false
set_option linter.unusedSimpArgs false
set_option maxRecDepth 100000
theorem bsure22 : ∃ k, radomelaw22_sure.f k = some true := ⟨100, by decide +kernel⟩
theorem bsure_ev22 : Ev (fun k => radomelaw22_sure.f k) true := let ⟨k, h⟩ := bsure22; Ev.of (fun k => radomelaw22_sure.mono k) h
theorem bplots_ev (k : Nat) (rows : List (List Int)) (miss : Int) : radomeref22_plots.f k ⟨rows, miss⟩ = some (Pl rows : Int) := by
  unfold radomeref22_plots.f Pl
  by_cases h : rows.length = 0
  · simp only [h, if_true]; rfl
  · simp only [if_neg (show ¬ (rows.length : Int) = 0 by omega), if_pos (show (0 : Int) ≤ 0 ∧ 0 < (rows.length : Int) by omega), if_neg h]
theorem BestRuns : radomelaw22_BestRuns.Pure := by
  intro c _
  obtain ⟨rows, miss⟩ := c
  suffices h : Ev (fun k => radomelaw22_BestRuns.f k ⟨rows, miss⟩) true from h.ex
  have hm := may_ev rows miss
  unfold radomelaw22_BestRuns.f
  refine Ev.bind hm ?_
  generalize hy : (((chkB rows miss && decide (0 < (rows.length : Int))) && (decide (6 < (rows.length : Int)) || decide (6 < ((rd rows 0).length : Int))))) = big
  have hcond : ((chkB rows miss && decide (0 < (rows.length : Int))) && (!(decide (6 < (rows.length : Int))))) = true → (0 : Int) ≤ 0 ∧ 0 < (rows.length : Int) := fun hx => by
    simp only [Bool.and_eq_true, decide_eq_true_eq] at hx; omega
  simp only [if_pos hcond]
  cases big with
  | true => simp only [if_true]; exact Ev.bind bsure_ev22 Ev.now
  | false =>
    simp only [Bool.false_eq_true, if_false]
    cases hc : chkB rows miss with
    | false =>
      rw [hc] at hm
      refine Ev.bind (brun_bad hc) (Ev.bind hm ?_)
      simp only [Bool.not_false, if_true, show (decide (errN (some 1) = 1)) = true from rfl, show (decide (((([] : List Int).length : Nat) : Int) = 0)) = true from rfl, decide_true, Bool.and_self, gdt, Bool.true_and]
      exact Ev.bind bsure_ev22 Ev.now
    | true =>
      rw [hc] at hm
      have h := cok_pl hc
      have hp := h.p
      obtain ⟨at_, own, w, hal, o1, o2, _⟩ := best_all hc
      have hA : Agr (Pl rows) (List.replicate (Pl rows) false) [] := ⟨by simp, fun q hq => by rw [rd_repl]; rfl⟩
      obtain ⟨ps, p1, p2⟩ := lst_got (miss := miss) (P := Pl rows) rows (List.replicate (Pl rows) false) [] 0 h.row hA
      have q1 := o2 ps _ p1 p2
      have q2 := lst_le rows at_ (List.replicate (Pl rows) false) [] 0 own (by omega) h.row hA o1
      have hown : own = lst miss rows (List.replicate (Pl rows) false) := by omega
      refine Ev.bind w (Ev.bind hm ?_)
      simp only [Bool.not_true, Bool.false_eq_true, if_false]
      refine Ev.bind total_ev ?_
      simp only [if_pos hc, if_pos hal, o1, totR, Option.isNone_none, Bool.and_self, decide_true, Bool.true_and, gdt]
      have hL : Ev (fun k => radomeref22_Least.f k ⟨rows, miss⟩) own := by
        unfold radomeref22_Least.f
        simp only [bplots_ev, Option.bind_some, if_pos (show 0 ≤ (Pl rows : Int) ∧ (Pl rows : Int) ≤ 281474976710656 by omega), Int.toNat_natCast]
        rw [hown]
        exact Ev.bind (least_ev h (tk := List.replicate (Pl rows) false) (by simp)) Ev.now
      refine Ev.bind hL ?_
      simp only [decide_true, gdt, Bool.true_and]
      exact Ev.bind bsure_ev22 Ev.now
end Go.Proofs.YtacbficpehmlnaaDoor.Pure

/- The plain law of ConfigWrites: whether any config may be, and its bytes, as the document's, or the error. -/
import Derived.Test.YtfdedgoohjnhiaaDoorPureC2
namespace Go.Proofs.YtfdedgoohjnhiaaDoor.Pure
open Go.RowKit Go.Proofs.YtfdedgoohjnhiaaDoorK Go.Proofs.YtfdedgoohjnhiaaDoor.GCW
set_option linter.unusedVariables false
set_option linter.unusedSimpArgs false
theorem w_tail {c : radomeref30_Config} (hm : c.f_Imm.f_Models.length ≤ 10) (hr : c.f_Imm.f_Rows.length ≤ 10) (he : ∀ x ∈ c.f_Imm.f_Rows, x.length ≤ 10) (i : Nat) (hi : c.f_Imm.f_Rows.length ≤ i) :
    Ev (fun k => (radomelaw30_ConfigWrites.hs k).l0 c.f_Sensor.f_Range c.f_Sensor.f_Turn c.f_Imm.f_Models c.f_Imm.f_Rows c.f_Imm.f_Floor c.f_Rule.f_Hits c.f_Rule.f_Window c.f_Rule.f_Misses c.f_Gate c.f_Miss c.f_Merge c.f_Fast c.f_Push c.f_Tracks c.f_From c.f_Least c.f_Most c.f_Source false (i : Int)) true := by
  have hf : Few (gc c) := ⟨(by show (c.f_Imm.f_Models.map gm).length ≤ 10; rw [List.length_map]; omega), hr, he⟩
  refine Ev.step (fun k => rfl) ?_
  simp only [radomelaw30_ConfigWrites.hs, radomelaw30_ConfigWrites.b0, if_neg (show ¬ (i : Int) < (c.f_Imm.f_Rows.length : Int) by omega)]
  refine Ev.bind (give_ev hm) (Ev.bind (enc_ev hf) (Ev.bind (may_ev c) (Ev.bind (check_ev c) ?_)))
  cases h : cfgOk c with
  | true =>
    simp only [if_true, Option.isNone_none, Option.isSome_none, Bool.false_and, beq_self_eq_true, Bool.not_true, Bool.or_false, Bool.not_false, gdt]
    refine Ev.bind (same_ev hf hf) ?_
    simp only [decide_eq_true, Bool.not_true, Bool.false_or, Bool.false_eq_true, if_false]
    refine Ev.bind (rnum_ev hf) (Ev.bind (rbytes_ev (NM_len hf)) ?_)
    simp only [decide_eq_true, Bool.true_and, gdt]
    exact Ev.bind sure_ev30 Ev.now
  | false =>
    have e1 : (decide (errN (some 1) = 1)) = true := rfl
    have e2 : (decide (((([] : List Int).length : Nat) : Int) = 0)) = true := rfl
    simp only [Bool.false_eq_true, if_false, Option.isNone_some, Option.isSome_some, e1, e2, Bool.not_true, Bool.and_false, beq_self_eq_true, Bool.or_false, Bool.not_false, gdt, if_true, Bool.and_self]
    refine Ev.bind (same_ev hf hf) ?_
    simp only [decide_eq_true, Bool.not_true, Bool.false_eq_true, if_false, Bool.true_and]
    exact Ev.bind sure_ev30 Ev.now
theorem w_l0 {c : radomeref30_Config} (hm : c.f_Imm.f_Models.length ≤ 10) (hr : c.f_Imm.f_Rows.length ≤ 10) : ∀ (n i : Nat), c.f_Imm.f_Rows.length = i + n → (∀ x ∈ c.f_Imm.f_Rows.take i, x.length ≤ 10) →
    Ev (fun k => (radomelaw30_ConfigWrites.hs k).l0 c.f_Sensor.f_Range c.f_Sensor.f_Turn c.f_Imm.f_Models c.f_Imm.f_Rows c.f_Imm.f_Floor c.f_Rule.f_Hits c.f_Rule.f_Window c.f_Rule.f_Misses c.f_Gate c.f_Miss c.f_Merge c.f_Fast c.f_Push c.f_Tracks c.f_From c.f_Least c.f_Most c.f_Source false (i : Int)) true
  | 0, i, e, he => w_tail hm hr (by rwa [List.take_of_length_le (by omega)] at he) i (by omega)
  | n + 1, i, e, he => by
    have hi : i < c.f_Imm.f_Rows.length := by omega
    refine Ev.step (fun k => rfl) ?_
    simp only [radomelaw30_ConfigWrites.hs, radomelaw30_ConfigWrites.b0, if_pos (show (i : Int) < (c.f_Imm.f_Rows.length : Int) by omega), if_pos (show (0 : Int) ≤ (i : Int) ∧ (i : Int) < (c.f_Imm.f_Rows.length : Int) by omega), rd_get hi, wsucc (show i < 1000000000 by omega)]
    by_cases h : 10 < ((c.f_Imm.f_Rows[i]).length : Int)
    · simp only [if_pos h]; exact Ev.bind sure_ev30 Ev.now
    · simp only [if_neg h]
      refine w_l0 hm hr n (i + 1) (by omega) fun x hx => ?_
      rw [List.take_add_one, List.getElem?_eq_getElem hi] at hx
      rcases List.mem_append.1 hx with hx | hx
      · exact he x hx
      · simp at hx; subst hx; omega
theorem ConfigWrites : radomelaw30_ConfigWrites.Pure := by
  intro c _
  suffices h : Ev (fun k => radomelaw30_ConfigWrites.f k c) true from h.ex
  unfold radomelaw30_ConfigWrites.f
  by_cases h : c.f_Imm.f_Models.length ≤ 10 ∧ c.f_Imm.f_Rows.length ≤ 10
  · have e : ((decide (10 < (c.f_Imm.f_Models.length : Int))) || (decide (10 < (c.f_Imm.f_Rows.length : Int)))) = false := by simp; omega
    simp only [e, Bool.false_eq_true, if_false]
    exact w_l0 h.1 h.2 c.f_Imm.f_Rows.length 0 (by omega) (by simp)
  · have e : ((decide (10 < (c.f_Imm.f_Models.length : Int))) || (decide (10 < (c.f_Imm.f_Rows.length : Int)))) = true := by simp; omega
    simp only [e, if_true]
    exact Ev.bind sure_ev30 Ev.now
end Go.Proofs.YtfdedgoohjnhiaaDoor.Pure

/- CountRuns: the program's counts and the reference's answer alike. -/
import Derived.Test.YtjhpkkhcgpilfaaDoorPureCB1
namespace Go.Proofs.YtjhpkkhcgpilfaaDoor.Pure
open Go.RowKit Go.Proofs.YtjhpkkhcgpilfaaDoorK Go.Proofs.YtjhpkkhcgpilfaaDoor.GCR
set_option linter.unusedVariables false
set_option linter.unusedSimpArgs false
set_option maxRecDepth 100000
theorem rname_eq (k : Nat) (i : Int) : radomeref32_Name.f k i = some (nmx i) := by
  unfold radomeref32_Name.f nmx
  by_cases c : 0 ≤ i ∧ i < 8
  · have : i = 0 ∨ i = 1 ∨ i = 2 ∨ i = 3 ∨ i = 4 ∨ i = 5 ∨ i = 6 ∨ i = 7 := by omega
    rcases this with rfl | rfl | rfl | rfl | rfl | rfl | rfl | rfl <;> rfl
  · rw [if_neg c, if_neg (by omega), if_neg (by omega), if_neg (by omega), if_neg (by omega), if_neg (by omega), if_neg (by omega), if_neg (by omega), if_neg (by omega)]
theorem kind_l0 (a : ByteArray) : ∀ (j i : Nat), 8 = i + j → Ev (fun k => (radomeref32_Kind.hs k).l0 a 0 (i : Int)) (kdF (MK.drop i) a)
  | 0, i, e => by
    obtain rfl : i = 8 := by omega
    refine Ev.step (fun k => rfl) ?_
    simp only [radomeref32_Kind.hs, radomeref32_Kind.b0, if_neg (show ¬ ((8 : Nat) : Int) < 8 by decide)]; exact Ev.now
  | j + 1, i, e => by
    have ih := kind_l0 a j (i + 1) (by omega)
    refine Ev.step (fun k => rfl) ?_
    simp only [radomeref32_Kind.hs, radomeref32_Kind.b0, if_pos (show (i : Int) < 8 by omega), rname_eq, Option.bind_some, nmx, if_pos (show (0 : Int) ≤ (i : Int) ∧ (i : Int) < 8 by omega), wsucc (show i < 1000000000 by omega), mk_drop i (by omega), kdF]
    by_cases c : nm (i : Int) = a
    · simp only [if_pos c, if_pos c.symm]; exact Ev.now
    · simp only [if_neg c, if_neg (fun h => c (Eq.symm h))]; exact ih
theorem kind_ev (a : ByteArray) : Ev (fun k => radomeref32_Kind.f k a) (kd a) := kind_l0 a 8 0 rfl
theorem radd_eq (k : Nat) {X : List Int} (h : XOk X) (i n : Int) : radomeref32_Add.f k X i n = some ((addS X i n).2, errN (addS X i n).1) := by
  unfold radomeref32_Add.f addS
  have hl := h.len
  by_cases c : (0 ≤ i ∧ i < 8) ∧ 0 ≤ n ∧ n ≤ 1073741824
  · have hr := h.at c.1
    have hb : (0 : Int) ≤ i ∧ i < (X.length : Int) := by omega
    have c' : ¬ ((((decide (i < 0)) || (decide (7 < i))) || (decide (n < 0))) || (decide (1073741824 < n))) = true := by
      simp only [Bool.or_eq_true, decide_eq_true_eq]; omega
    rw [if_neg c', if_pos hb, if_pos c, w64_id (by omega)]
    by_cases c2 : 4611686018427387904 - rd X i < n
    · rw [if_pos c2, if_pos c2]; rfl
    · rw [if_neg c2, if_neg c2, if_pos (by omega), if_pos hb, if_pos hb, w64_id (by omega)]; rfl
  · have c' : ((((decide (i < 0)) || (decide (7 < i))) || (decide (n < 0))) || (decide (1073741824 < n))) = true := by
      simp only [Bool.or_eq_true, decide_eq_true_eq]; omega
    rw [if_pos c', if_neg c]; rfl
theorem runs_l0 (l : List radomelaw32_Act) (a : ByteArray) : ∀ (j i : Nat) (X : List Int) (d : Bool), 60 = i + j → XOk X →
    Ev (fun k => (radomelaw32_CountRuns.hs k).l0 l a false (kd a) (cc X d).f_l.e0.f_v (cc X d).f_l.e1.f_v (cc X d).f_l.e2.f_v (cc X d).f_l.e3.f_v (cc X d).f_l.e4.f_v (cc X d).f_l.e5.f_v (cc X d).f_l.e6.f_v (cc X d).f_l.e7.f_v (cc X d).f_once.f_done.f_v (cc X d).f_once.f_m.f_mu.f_state (cc X d).f_once.f_m.f_mu.f_sema (cc X d).f_kinds X (i : Int)) true
  | 0, i, X, d, e, h => by
    refine Ev.step (fun k => rfl) ?_
    simp only [radomelaw32_CountRuns.hs, radomelaw32_CountRuns.b0, decide_eq_false (show ¬ (i : Int) < 60 by omega), Bool.and_false, Bool.false_eq_true, if_false]
    exact Ev.bind sure_ev Ev.now
  | j + 1, i, X, d, e, h => by
    by_cases c : (i : Int) < (l.length : Int)
    · have hb : (0 : Int) ≤ (i : Int) ∧ (i : Int) < (l.length : Int) := by omega
      have h' := addS_ok h (rd l (i : Int)).f_Kind (rd l (i : Int)).f_N
      have ih := runs_l0 l a j (i + 1) (addS X (rd l (i : Int)).f_Kind (rd l (i : Int)).f_N).2 true (by omega) h'
      refine Ev.step (fun k => rfl) ?_
      simp only [radomelaw32_CountRuns.hs, radomelaw32_CountRuns.b0, decide_eq_true c, decide_eq_true (show (i : Int) < 60 by omega), Bool.and_self, if_true, if_pos hb]
      refine Ev.bind (add_ev h d _ _) ?_
      simp only [radd_eq _ h, Option.bind_some, of_eq _ h', decide_true, Bool.not_true, Bool.false_or, gdt, Bool.not_false]
      generalize hX : (addS X (rd l (i : Int)).f_Kind (rd l (i : Int)).f_N).2 = X' at h' ih ⊢
      have hl := h'.len
      refine Ev.bind (named_ev h' d a) ?_
      have hall := all_ev h' true
      have hnum := nums_ev (a := X') (by omega)
      by_cases ka : 0 ≤ kd a
      · have hm : (0 : Int) ≤ kd a ∧ kd a < (X'.length : Int) := ⟨ka, by have := kd_lt a; omega⟩
        simp only [if_pos ka, decide_eq_false (show ¬ kd a < 0 by omega), decide_eq_true ka, Option.isSome_none, Bool.false_and, Bool.not_false, Bool.and_self, Bool.false_or, hm, and_self, implies_true, if_true, decide_true, Bool.not_true, Bool.and_false, Bool.or_self, Bool.false_eq_true, if_false]
        refine Ev.bind hall ?_
        refine Ev.bind hnum ?_
        simp only [Bool.not_true, Bool.not_false, hb, and_self, implies_true, if_true, gdt, name_eq, rname_eq, Option.bind_some, decide_true, Bool.or_self, Bool.false_eq_true, if_false, wsucc (show i < 1000000000 by omega)]
        by_cases ck : 0 ≤ (rd l (i : Int)).f_Kind ∧ (rd l (i : Int)).f_Kind < 8
        · have hk : (0 : Int) ≤ (rd l (i : Int)).f_Kind ∧ (rd l (i : Int)).f_Kind < (X'.length : Int) := by omega
          simp only [if_pos ck]
          simp only [decide_eq_false (show ¬ (rd l (i : Int)).f_Kind < 0 by omega), decide_eq_false (show ¬ 7 < (rd l (i : Int)).f_Kind by omega), Bool.not_false, Bool.or_self, Bool.false_eq_true, if_false, Option.isSome_none, hk, and_self, implies_true, if_true, decide_true, Bool.not_true]
          exact ih
        · have ck' : (decide ((rd l (i : Int)).f_Kind < 0) || decide (7 < (rd l (i : Int)).f_Kind)) = true := by
            simp only [Bool.or_eq_true, decide_eq_true_eq]; omega
          simp only [if_neg ck, if_pos ck', show errN (some 1) = 1 from rfl, decide_true, Bool.not_true, Bool.or_self, Bool.false_eq_true, if_false, implies_true, if_true]
          exact ih
      · simp only [if_neg ka, decide_eq_true (show kd a < 0 by omega), decide_eq_false ka, show errN (some 8) = 8 from rfl, Option.isSome_some, decide_true, Bool.not_true, Bool.or_self, Bool.and_false, Bool.false_and, Bool.not_false, Bool.true_and, Bool.false_eq_true, false_implies, if_true, if_false]
        refine Ev.bind hall ?_
        refine Ev.bind hnum ?_
        simp only [Bool.not_true, Bool.not_false, hb, and_self, implies_true, if_true, gdt, name_eq, rname_eq, Option.bind_some, decide_true, Bool.or_self, Bool.false_eq_true, if_false, wsucc (show i < 1000000000 by omega)]
        by_cases ck : 0 ≤ (rd l (i : Int)).f_Kind ∧ (rd l (i : Int)).f_Kind < 8
        · have hk : (0 : Int) ≤ (rd l (i : Int)).f_Kind ∧ (rd l (i : Int)).f_Kind < (X'.length : Int) := by omega
          simp only [if_pos ck]
          simp only [decide_eq_false (show ¬ (rd l (i : Int)).f_Kind < 0 by omega), decide_eq_false (show ¬ 7 < (rd l (i : Int)).f_Kind by omega), Bool.not_false, Bool.or_self, Bool.false_eq_true, if_false, Option.isSome_none, hk, and_self, implies_true, if_true, decide_true, Bool.not_true]
          exact ih
        · have ck' : (decide ((rd l (i : Int)).f_Kind < 0) || decide (7 < (rd l (i : Int)).f_Kind)) = true := by
            simp only [Bool.or_eq_true, decide_eq_true_eq]; omega
          simp only [if_neg ck, if_pos ck', show errN (some 1) = 1 from rfl, decide_true, Bool.not_true, Bool.or_self, Bool.false_eq_true, if_false, implies_true, if_true]
          exact ih
    · refine Ev.step (fun k => rfl) ?_
      simp only [radomelaw32_CountRuns.hs, radomelaw32_CountRuns.b0, decide_eq_false c, Bool.false_and, Bool.false_eq_true, if_false]
      exact Ev.bind sure_ev Ev.now
theorem CountRuns : radomelaw32_CountRuns.Pure := by
  intro l a h1 h2
  refine Ev.ex ?_
  unfold radomelaw32_CountRuns.f
  simp only [count_Counts_Of_nil.f, count_Counts_Named_nil.f, count_Counts_Add_nil.f, count_Counts_All_nil.f, Option.bind_some, show errN (some 1) = 1 from rfl, decide_true, Bool.not_true, Bool.or_self, Bool.not_false, gdt, List.length_nil, show (((0 : Nat) : Int) = 0) = True from eq_true rfl, Bool.false_eq_true, if_false]
  refine Ev.bind (kind_ev a) ?_
  simp only [count_New.f, Option.bind_some, if_pos (show (0 : Int) ≤ 8 ∧ (8 : Int) ≤ 35184372088832 by decide)]
  exact runs_l0 l a 60 0 [0, 0, 0, 0, 0, 0, 0, 0] false rfl x0
end Go.Proofs.YtjhpkkhcgpilfaaDoor.Pure

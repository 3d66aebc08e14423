/- TableRuns: the program's table and the reference's answer alike. -/
import Derived.Test.YtjhpkkhcgpilfaaDoorPureTB2
namespace Go.Proofs.YtjhpkkhcgpilfaaDoor.Pure
open Go.RowKit Go.Proofs.YtjhpkkhcgpilfaaDoorK Go.Proofs.YtjhpkkhcgpilfaaDoor.GTA
set_option linter.unusedVariables false
set_option linter.unusedSimpArgs false
set_option maxRecDepth 100000
theorem tsure_fs : radomelaw25_sure.f 12 = some true := by decide +kernel
theorem tsure_ev : Ev (fun k => radomelaw25_sure.f k) true := Ev.of (fun k => radomelaw25_sure.mono k) tsure_fs
theorem TOk.s16 {h w m most fr g : Int} {A : List AT} (t : TOk h w m most fr g A) : ∀ a ∈ A, a.S.length ≤ 16 := fun a ha => ok16 (t.ok a ha).ok
theorem j2_ev {l : List radomelaw25_Act} {h w m most fr g : Int} {A : List AT} (t : TOk h w m most fr g A) {i : Nat} (hi : i < 30) (ih : Ev (fun k => (radomelaw25_TableRuns.hs k).l0 l most fr false h w m most fr (fr + 1073741824) g (A.map aP) h w m most fr g (A.map aQ) ((i + 1 : Nat) : Int)) true) :
    Ev (fun k => radomelaw25_TableRuns.j2 k (radomelaw25_TableRuns.hs k) l most fr false h w m most fr (fr + 1073741824) g (A.map aP) h w m most fr g (A.map aQ) (i : Int)) true := by
  have ht := Tracks_ev (h := h) (w := w) (m := m) (most := most) (fr := fr) (g := g) t.len100
  unfold Pt at ht
  unfold radomelaw25_TableRuns.j2
  refine Ev.bind ht ?_
  refine Ev.bind (areTracks_ev t.len100 t.s16) ?_
  simp only [Bool.not_true, Bool.not_false, gdt, table_Table_Given.f, names_Names_Given.f, Option.bind_some, decide_true, Bool.or_self, Bool.false_eq_true, if_false, wsucc (show i < 1000000000 by omega)]
  exact ih
theorem stop_ev {α : Type} : Ev (fun k => (radomelaw25_sure.f k).bind fun y => some y) true := Ev.bind tsure_ev Ev.now
theorem runs_l0 (l : List radomelaw25_Act) (h w m most fr : Int) : ∀ (d i : Nat) (g : Int) (A : List AT), i + d = 30 → g ≤ i → TOk h w m most fr g A →
    Ev (fun k => (radomelaw25_TableRuns.hs k).l0 l most fr false h w m most fr (fr + 1073741824) g (A.map aP) h w m most fr g (A.map aQ) (i : Int)) true
  | 0, i, g, A, e, hg, t => by
    refine Ev.step (fun k => rfl) ?_
    simp only [radomelaw25_TableRuns.hs, radomelaw25_TableRuns.b0, decide_eq_false (show ¬ (i : Int) < 30 by omega), Bool.and_false, Bool.false_eq_true, if_false]
    exact Ev.bind tsure_ev Ev.now
  | d + 1, i, g, A, e, hg, t => by
    by_cases c : (i : Int) < (l.length : Int)
    · have hb : (0 : Int) ≤ (i : Int) ∧ (i : Int) < (l.length : Int) := by omega
      have IH := fun g' A' (hg' : g' ≤ g + 1) (t' : TOk h w m most fr g' A') => j2_ev (l := l) (i := i) t' (by omega) (runs_l0 l h w m most fr d (i + 1) g' A' (by omega) (by omega) t')
      refine Ev.step (fun k => rfl) ?_
      simp only [radomelaw25_TableRuns.hs, radomelaw25_TableRuns.b0, decide_eq_true c, decide_eq_true (show (i : Int) < 30 by omega), Bool.and_self, if_true, if_pos hb]
      refine Ev.bind (one_ev _) ?_
      split
      · refine Ev.bind (gimm_ev _) ?_
        obtain ⟨id, er, A', g', e1, e2, e3, e4⟩ := begin_ev t (by omega) (rd l (i : Int)).f_Time (rd l (i : Int)).f_Time
        unfold Pt at e1; unfold Qt at e2
        refine Ev.bind e1 ?_
        refine Ev.bind e2 ?_
        simp only [decide_true, Bool.not_true, Bool.or_self, Bool.false_eq_true, if_false]
        exact IH g' A' e4 e3
      · split
        · refine Ev.bind (gimm_ev _) ?_
          obtain ⟨x, er, rx, A', e1, e2, e3, e4⟩ := scan_ev t (w64 (fr + Int.tmod (rd l (i : Int)).f_At 16)) (rd l (i : Int)).f_Hit (rd l (i : Int)).f_Time (rd l (i : Int)).f_Time
          unfold Pt at e1; unfold Qt at e2
          refine Ev.bind e1 ?_
          refine Ev.bind e2 ?_
          by_cases z : errN er = 0
          · simp only [z, decide_true, Bool.not_true, Bool.not_false, Bool.and_self, gdt]
            refine Ev.bind (e3 z) ?_
            simp only [Bool.not_true, Bool.and_false, Bool.or_self, Bool.false_eq_true, if_false]
            exact IH g A' (by omega) e4
          · simp only [decide_true, decide_eq_false z, Bool.not_true, Bool.not_false, Bool.and_false, gdf, Option.bind_some, Bool.false_and, Bool.or_self, Bool.false_eq_true, if_false]
            exact IH g A' (by omega) e4
        · split
          · obtain ⟨x, er, rx, A', e1, _, e2, e3, e4⟩ := drop_ev t (w64 (fr + Int.tmod (rd l (i : Int)).f_At 16))
            unfold Pt at e1; unfold Qt at e2
            refine Ev.bind e1 ?_
            refine Ev.bind e2 ?_
            by_cases z : errN er = 0
            · simp only [z, decide_true, Bool.not_true, Bool.not_false, Bool.and_self, gdt]
              refine Ev.bind (e3 z) ?_
              simp only [Bool.not_true, Bool.and_false, Bool.or_self, Bool.false_eq_true, if_false]
              exact IH g A' (by omega) e4
            · simp only [decide_true, decide_eq_false z, Bool.not_true, Bool.not_false, Bool.and_false, gdf, Option.bind_some, Bool.false_and, Bool.or_self, Bool.false_eq_true, if_false]
              exact IH g A' (by omega) e4
          · split
            · obtain ⟨x, er, rx, A', _, e1, e2, e3, e4⟩ := drop_ev t (w64 (fr + Int.tmod (rd l (i : Int)).f_At 16))
              unfold Pt at e1; unfold Qt at e2
              refine Ev.bind e1 ?_
              refine Ev.bind e2 ?_
              by_cases z : errN er = 0
              · simp only [z, decide_true, Bool.not_true, Bool.not_false, Bool.and_self, gdt]
                refine Ev.bind (e3 z) ?_
                simp only [Bool.not_true, Bool.and_false, Bool.or_self, Bool.false_eq_true, if_false]
                exact IH g A (by omega) t
              · simp only [decide_true, decide_eq_false z, Bool.not_true, Bool.not_false, Bool.and_false, gdf, Option.bind_some, Bool.false_and, Bool.or_self, Bool.false_eq_true, if_false]
                exact IH g A (by omega) t
            · have ht := Tracks_ev (h := h) (w := w) (m := m) (most := most) (fr := fr) (g := g) t.len100
              have hc : Ev (fun k => table_Table_Clear.f k (Pt h w m most fr g A)) (A.map aP, Pt h w m most fr g []) := by
                unfold table_Table_Clear.f
                refine Ev.bind ht ?_
                exact Ev.now
              unfold Pt at hc
              refine Ev.bind hc ?_
              refine Ev.bind (areTracks_ev t.len100 t.s16) ?_
              simp only [Bool.not_true, Bool.false_eq_true, if_false]
              exact IH g [] (by omega) ⟨t.rl, t.mo, t.f1, t.g1, by have := t.mo; simp only [List.length_nil]; omega, fun a ha => (List.not_mem_nil ha).elim, .nil, fun a ha => (List.not_mem_nil ha).elim⟩
    · refine Ev.step (fun k => rfl) ?_
      simp only [radomelaw25_TableRuns.hs, radomelaw25_TableRuns.b0, decide_eq_false c, Bool.false_and, Bool.false_eq_true, if_false]
      exact Ev.bind tsure_ev Ev.now
def Good (h w m most fr : Int) : Prop := Rl h w m ∧ 1 ≤ most ∧ most ≤ 64 ∧ 1 ≤ fr ∧ fr ≤ 1073741824
instance (h w m most fr : Int) : Decidable (Good h w m most fr) := by unfold Good; infer_instance
theorem good_iff (h w m most fr : Int) : Good h w m most fr ↔ Rl h w m ∧ 1 ≤ most ∧ most ≤ 64 ∧ 1 ≤ fr ∧ fr ≤ 1073741824 := Iff.rfl
theorem new_eq (k : Nat) (h w m most fr : Int) : table_New.f k ⟨h, w, m⟩ most fr = some (if Good h w m most fr then (some (Pt h w m most fr 0 []), none) else (none, some 1)) := by
  unfold table_New.f
  simp only [check_eq, Option.bind_some]
  by_cases c : Good h w m most fr
  · have c' := c; rw [good_iff] at c'
    rw [if_pos c, if_pos c'.1]
    simp only [Option.isSome_none, Bool.false_or, decide_eq_false (show ¬ most < 1 by omega), decide_eq_false (show ¬ 64 < most by omega), decide_eq_false (show ¬ fr < 1 by omega), decide_eq_false (show ¬ 1073741824 < fr by omega), Bool.false_eq_true, if_false, names_New.f, w64_id (show -9223372036854775808 ≤ fr + 1073741824 ∧ fr + 1073741824 ≤ 9223372036854775807 by omega), decide_eq_false (show ¬ fr + 1073741824 < fr by omega), decide_eq_false (show ¬ 1099511627776 < fr + 1073741824 by omega), Option.bind_some]
    rfl
  · have c' := c; rw [good_iff] at c'
    rw [if_neg c]
    by_cases r : Rl h w m
    · rw [if_pos r, if_pos]
      simp only [Option.isSome_none, Bool.false_or, Bool.or_eq_true, decide_eq_true_eq]
      have : ¬ (1 ≤ most ∧ most ≤ 64 ∧ 1 ≤ fr ∧ fr ≤ 1073741824) := fun x => c' ⟨r, x⟩
      omega
    · rw [if_neg r, if_pos]
      simp only [Option.isSome_some, Bool.true_or]
theorem rmay_eq (k : Nat) (h w m most fr : Int) : radomeref25_May.f k ⟨h, w, m⟩ most fr = some (decide (Good h w m most fr)) := by
  unfold radomeref25_May.f
  rw [rcheck_eq, Option.bind_some]
  refine congrArg some ?_
  rw [Bool.eq_iff_iff]
  simp only [Bool.and_eq_true, decide_eq_true_eq, good_iff, and_assoc]
theorem TableRuns : radomelaw25_TableRuns.Pure := by
  rintro ⟨h, w, m⟩ ⟨most, fr⟩ l h1 h2 h3
  refine Ev.ex ?_
  unfold radomelaw25_TableRuns.f
  simp only [table_Table_Begin_nil.f, table_Table_Scan_nil.f, table_Table_Drop_nil.f, table_Table_Find_nil.f, table_Table_Tracks_nil.f, table_Table_Clear_nil.f, table_Table_Given_nil.f, Option.bind_some, Option.isSome_some, if_true, show errN (some 1) = 1 from rfl, decide_true, Bool.not_true, Bool.or_self, Bool.not_false, gdt, List.length_nil, show (((0 : Nat) : Int) = 0) = True from eq_true rfl, Bool.false_eq_true, if_false, new_eq, rmay_eq]
  by_cases c : Good h w m most fr
  · have c' := c; rw [good_iff] at c'
    simp only [if_pos c, oe, decide_eq_true c, Bool.not_true, Bool.false_eq_true, if_false, Option.isSome_none]
    exact runs_l0 l h w m most fr 30 0 0 [] (by omega) (by omega) ⟨c'.1, by omega, by omega, by omega, by simp only [List.length_nil]; omega, fun a ha => (List.not_mem_nil ha).elim, .nil, fun a ha => (List.not_mem_nil ha).elim⟩
  · simp only [if_neg c, oe, decide_eq_false c, Bool.not_false, if_true, show errN (some 1) = 1 from rfl, decide_true, gdt, Bool.true_and]
    exact Ev.bind tsure_ev Ev.now
end Go.Proofs.YtjhpkkhcgpilfaaDoor.Pure

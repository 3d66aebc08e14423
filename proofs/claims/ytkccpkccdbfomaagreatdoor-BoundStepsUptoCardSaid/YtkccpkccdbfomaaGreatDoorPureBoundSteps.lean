/- The plain law of BoundSteps. -/
import Derived.Test.YtkccpkccdbfomaaGreatDoorPureBD4
namespace Go.Proofs.YtkccpkccdbfomaaGreatDoor.Pure
open Go.RowKit Go.Proofs.YtkccpkccdbfomaaGreatDoorK Go.Proofs.YtkccpkccdbfomaaGreatDoor.GBP
set_option linter.unusedVariables false
set_option linter.unusedSimpArgs false
set_option maxRecDepth 100000
theorem z8 : str_8 = rtxt 0 := by rw [MU]; decide +kernel
theorem GR {x : Int} (h : (Lit.int .i64 x).wf = true) : -9223372036854775808 ≤ x ∧ x ≤ 9223372036854775807 := by
  simpa [Lit.wf, IntKind.min, IntKind.max, IntKind.signed, IntKind.bits] using h
theorem Wd {L : List Rat} (hL : ∀ r ∈ L, Rs (dB 6) r) (hn : L.length ≤ 1000) : ∀ (d i : Nat), L.length = i + d → Ev (fun k => (radomelaw35_BoundSteps.hs k).l0 false (L.map Rb) (L.map Fb) (i : Int)) true
  | 0, i, e => by
    refine Ev.step (fun k => rfl) ?_
    simp only [radomelaw35_BoundSteps.hs, radomelaw35_BoundSteps.b0, List.length_map, if_neg (show ¬ (i : Int) < (L.length : Int) by omega)]
    exact Ev.bind L35.sure_ev Ev.now
  | d + 1, i, e => by
    have hi : i < L.length := by omega
    have hr := hL _ (List.getElem_mem hi)
    have ih := Wd hL hn d (i + 1) (by omega)
    refine Ev.step (fun k => rfl) ?_
    simp only [radomelaw35_BoundSteps.hs, radomelaw35_BoundSteps.b0, List.length_map, if_pos (show (i : Int) < (L.length : Int) by omega), if_pos (show (0 : Int) ≤ (i : Int) ∧ (i : Int) < (L.length : Int) by omega), rdm hi, rdf hi, wsucc (show i < 1000000000 by omega)]
    refine Ev.bind (JZ hr OQ) ?_
    refine Ev.bind (GV hr OQ) ?_
    simp only [if_true]
    exact ih
theorem QaA {rows : List (List Int)} (h : MOk rows) (hI : ∀ r ∈ rows, I64 r) {v : List Int} (hv : I64 v) (hn : v.length ≤ 1048576) {x : List Qf} {g : Option Int} (h1 : v.length = Cn rows → x = (ee rows v).map Rb ∧ g = none) (h2 : v.length ≠ Cn rows → x = [] ∧ g = some 1) :
    Ev (fun k => radomelaw35_BoundSteps.j1 k (radomelaw35_BoundSteps.hs k) rows v false x g) true := by
  unfold radomelaw35_BoundSteps.j1
  have hR := h.1
  simp only [if_pos (show (0 : Int) ≤ 0 ∧ (0 : Int) < (rows.length : Int) by omega)]
  by_cases c : v.length = Cn rows
  · obtain ⟨rfl, rfl⟩ := h1 c
    have c' : (v.length : Int) = ((rd rows 0).length : Int) := by unfold Cn at c; omega
    simp only [if_pos c']
    refine Ev.bind (NU hv (by omega)) ?_
    refine Ev.bind (Vp h hI hv c) ?_
    simp only [Option.isSome_none, List.length_map, decide_true, Bool.not_true, Bool.or_self, Bool.false_eq_true, if_false]
    have hl : (ee rows v).length = rows.length := by unfold ee; rw [List.length_map]
    refine Wd (fun r hr => ?_) (by omega) (ee rows v).length 0 (by omega)
    unfold ee at hr
    obtain ⟨s, hs, rfl⟩ := List.mem_map.1 hr
    exact U9 (n := 0) (hI s hs) hv GI (by have := h.2.2 s hs; have := h.2.1; omega)
  · obtain ⟨rfl, rfl⟩ := h2 c
    have c' : ¬ (v.length : Int) = ((rd rows 0).length : Int) := by unfold Cn at c; omega
    simp only [if_neg c', show errN (some 1) = 1 from rfl, decide_true, List.length_nil, show (((0 : Nat) : Int) = 0) = True from eq_true rfl, Bool.and_self, gdt, Bool.true_and]
    exact Ev.bind L35.sure_ev Ev.now
theorem BoundSteps : radomelaw35_BoundSteps.Pure := by
  intro rows v off hrows hv0 ho0 _ hn
  have hI : ∀ r ∈ rows, I64 r := fun r hr x hx => GR ((hrows.2 r hr).2 x hx)
  have hv : I64 v := fun x hx => GR (hv0.2 x hx)
  have ho := GR ho0
  show ∃ k, (fun k => radomelaw35_BoundSteps.f k rows v off) k = some true
  refine Ev.ex ?_
  have hm := O7 rows
  have hp := NU hv (show v.length ≤ 2000000 by omega)
  have hg := Vq hv (show v.length ≤ 2000000 by omega)
  unfold radomelaw35_BoundSteps.f
  refine Ev.bind hm ?_
  by_cases c : MOk rows
  · simp only [if_pos c]
    obtain ⟨a, ha, hN⟩ := OZ c hI
    have hNo := MC c hI
    refine Ev.bind hN ?_
    refine Ev.bind (JJ ho) ?_
    refine Ev.bind (L35.giveRatio_ev (Y5 ho) GT) ?_
    refine Ev.bind (WK c hI ho) ?_
    refine Ev.bind hp ?_
    refine Ev.bind hg ?_
    have tail : ∀ x g, (v.length = Cn rows → x = (ee rows v).map Rb ∧ g = none) → (v.length ≠ Cn rows → x = [] ∧ g = some 1) → Ev (fun k => Q7.f k (mm rows) (rr v)) (x, g) →
        Ev (fun k => (Q7.f k (mm rows) (rr v))) (x, g) ∧ Ev (fun k => radomelaw35_BoundSteps.j1 k (radomelaw35_BoundSteps.hs k) rows v false x g) true := fun x g h1 h2 h3 => ⟨h3, QaA c hI hv hn h1 h2⟩
    obtain ⟨x, g, hx, hj⟩ : ∃ x g, Ev (fun k => Q7.f k (mm rows) (rr v)) (x, g) ∧ Ev (fun k => radomelaw35_BoundSteps.j1 k (radomelaw35_BoundSteps.hs k) rows v false x g) true := by
      by_cases q : v.length = Cn rows
      · exact ⟨_, _, tail _ _ (fun _ => ⟨rfl, rfl⟩) (fun h => absurd q h) (V7 c hI hv q)⟩
      · exact ⟨_, _, tail _ _ (fun h => absurd h q) (fun _ => ⟨rfl, rfl⟩) (Uz c q)⟩
    refine Ev.bind (g := fun k => Q7.f k (mm rows) (rr v)) hx ?_
    refine Ev.bind (Nr rows) ?_
    simp only [decide_eq_true c, Bool.not_true, Bool.false_eq_true, if_false, Option.isSome_none, Bool.not_false, gdt]
    refine Ev.bind (GP ha (Ji hNo) (by decide +kernel)) ?_
    refine Ev.bind (N9 c hI) ?_
    refine Ev.bind (GV (Ji hNo) (by decide +kernel)) ?_
    simp only [decide_true, Bool.not_true, Bool.or_self, Bool.false_eq_true, if_false]
    by_cases o : off < 0
    · simp only [if_pos o, show errN (some 1) = 1 from rfl, decide_true, Bool.not_true, Bool.not_false, gdt]
      refine Ev.bind (GP lk_z Gv (by decide +kernel)) ?_
      simp only [z8, decide_true, Bool.not_true, Bool.or_self, Bool.false_eq_true, if_false]
      exact hj
    · simp only [if_neg o, Option.isSome_none, Bool.not_false, gdt]
      refine Ev.bind (JZ (OJ hNo ho) U4) ?_
      refine Ev.bind (JJ ho) ?_
      refine Ev.bind (VF c hI ho) ?_
      refine Ev.bind (GV (OJ hNo ho) U4) ?_
      simp only [decide_true, Bool.not_true, Bool.or_self, Bool.false_eq_true, if_false]
      exact hj
  · simp only [if_neg c]
    refine Ev.bind Nq ?_
    refine Ev.bind (JJ ho) ?_
    refine Ev.bind (L35.giveRatio_ev (Y5 ho) GT) ?_
    refine Ev.bind (VG _) ?_
    refine Ev.bind hp ?_
    refine Ev.bind hg ?_
    refine Ev.bind (Vr _) ?_
    refine Ev.bind (Nr rows) ?_
    simp only [decide_eq_false c, Bool.not_false, if_true, show errN (some 1) = 1 from rfl, decide_true, Bool.and_self, gdt]
    refine Ev.bind (GP lk_z Gv (by decide +kernel)) ?_
    simp only [z8, decide_true, List.length_nil, show (((0 : Nat) : Int) = 0) = True from eq_true rfl, Bool.and_self, gdt, Bool.true_and]
    exact Ev.bind L35.sure_ev Ev.now
end Go.Proofs.YtkccpkccdbfomaaGreatDoor.Pure

/- The plain law of BoundHolds. -/
import Derived.Test.YtkccpkccdbfomaaGreatDoorPureQN3
namespace Go.Proofs.YtkccpkccdbfomaaGreatDoor.Pure
open Go.RowKit Go.Proofs.YtkccpkccdbfomaaGreatDoorK Go.Proofs.YtkccpkccdbfomaaGreatDoor.GBH
set_option linter.unusedVariables false
set_option linter.unusedSimpArgs false
set_option maxRecDepth 100000
theorem G5 {x : Int} (h : (Lit.int .i64 x).wf = true) : -9223372036854775808 ≤ x ∧ x ≤ 9223372036854775807 := by
  simpa [Lit.wf, IntKind.min, IntKind.max, IntKind.signed, IntKind.bits] using h
theorem mapR (l : List Int) : (l.map fun x => Rb (pr x)) = (l.map pr).map Rb := by rw [List.map_map]; rfl
theorem J3 {l : List Int} (h : I64 l) : ∀ r ∈ l.map pr, Rs M63 r := fun r hr => by
  obtain ⟨x, hx, rfl⟩ := List.mem_map.1 hr; exact Jl (h x hx)
/-- What the law says of two errors. -/
theorem errs {e f : Option Int} (he : e = none ∨ e = some 1) (hf : f = none ∨ f = some 1) : ((e.isNone || (decide (errN e = 1))) && (f.isNone || (decide (errN f = 1)))) = true := by
  rcases he with rfl | rfl <;> rcases hf with rfl | rfl <;> rfl
/-- The whole of it, of vectors of the right length. -/
theorem Qak {rows : List (List Int)} (h : MOk rows) {a b xs : List Int} (la : a.length = Cn rows) (lb : b.length = Cn rows) (lx : xs.length = rows.length) (hn : ∀ q (h1 : q < xs.length) (h2 : q < rows.length), Near xs[q] (dotZ rows[q] a 0)) :
    offR ((xs.map pr).zip (ee rows b)) 0 ≤ offR ((a.map pr).zip (b.map pr)) 0 * pr (imax rows 0) + half := by
  have t0 := (GD (l := (a.map pr).zip (b.map pr)) (m := 0)).1
  have hp := (GD (l := (a.map pr).zip (b.map pr)) (m := 0)).2
  generalize offR ((a.map pr).zip (b.map pr)) 0 = t at *
  refine OV (fun p hp' => ?_) ?_
  · obtain ⟨q, hq, rfl⟩ := List.getElem_of_mem hp'
    have le : (ee rows b).length = rows.length := by unfold ee; rw [List.length_map]
    have q1 : q < xs.length := by rw [List.length_zip, List.length_map, le] at hq; omega
    have q2 : q < rows.length := by omega
    rw [List.getElem_zip]
    have e1 : (xs.map pr)[q]'(by rw [List.length_map]; exact q1) = pr xs[q] := List.getElem_map ..
    have e2 : (ee rows b)[q]'(by rw [le]; exact q2) = dotR rows[q] b 0 := List.getElem_map ..
    simp only [e1, e2]
    have hm := List.getElem_mem q2
    exact WK (by rw [h.2.2 _ hm]; exact la) (by rw [h.2.2 _ hm]; exact lb) hp t0 (MT.2 _ hm) (hn q q1 q2)
  · have h1 : 0 ≤ pr (imax rows 0) := by have := Wj (MT (L := rows) (m := 0)).1; rw [J2] at this; exact this
    have h2 := Rat.mul_nonneg t0 h1
    have h3 : 0 ≤ half := by decide +kernel
    grind
theorem BoundHolds : radomelaw35_BoundHolds.Pure := by
  intro rows a b hrows ha0 hb0 _ hna hnb
  have hI : ∀ r ∈ rows, I64 r := fun r hr x hx => G5 ((hrows.2 r hr).2 x hx)
  have ha : I64 a := fun x hx => G5 (ha0.2 x hx)
  have hb : I64 b := fun x hx => G5 (hb0.2 x hx)
  show ∃ k, (fun k => radomelaw35_BoundHolds.f k rows a b) k = some true
  refine Ev.ex ?_
  have hpb := GV hb (show b.length ≤ 2000000 by omega)
  have hgb := Gw hb (show b.length ≤ 2000000 by omega)
  unfold radomelaw35_BoundHolds.f
  refine Ev.bind (O3 rows) ?_
  by_cases c : MOk rows
  · simp only [if_pos c]
    have hX : ∃ y e, Ev (fun k => Q5.f k (mm rows) (rr b)) (y, e) ∧ (e = none ∨ e = some 1) ∧ (b.length = Cn rows → y = (ee rows b).map Rb ∧ e = none) ∧ (b.length ≠ Cn rows → e = some 1) := by
      by_cases q : b.length = Cn rows
      · exact ⟨_, _, VP c hI hb q, .inl rfl, fun _ => ⟨rfl, rfl⟩, fun h => absurd q h⟩
      · exact ⟨_, _, Uu c q, .inr rfl, fun h => absurd h q, fun _ => rfl⟩
    obtain ⟨y, e, hx, he, h1, h2⟩ := hX
    by_cases qa : a.length = Cn rows
    · obtain ⟨xs, over, hA, lx, bx, hn⟩ := Vy c hI ha qa
      refine Ev.bind hA ?_
      refine Ev.bind hpb ?_
      refine Ev.bind hgb ?_
      refine Ev.bind (g := fun k => Q5.f k (mm rows) (rr b)) hx ?_
      by_cases bad : e.isSome = true ∨ over = true
      · have cb : ((none : Option Int).isSome || e.isSome || over) = true := by
          rcases bad with g | g <;> simp [g]
        simp only [cb, if_true, errs (.inl rfl) he, gdt, Bool.true_and]
        exact Ev.bind L35.sure_ev Ev.now
      · have eb : e = none := by
          rcases he with rfl | rfl
          · rfl
          · exact absurd (Or.inl rfl) bad
        have ov : over = false := by
          cases over with
          | false => rfl
          | true => exact absurd (Or.inr rfl) bad
        subst eb
        subst ov
        have qb : b.length = Cn rows := Decidable.byContradiction fun g => by have := h2 g; cases this
        obtain ⟨rfl, _⟩ := h1 qb
        have hC := c.2.1
        have hR := c.1
        have ix : I64 xs := fun z hz => by have := bx z hz; omega
        have hpa := GV ha (show a.length ≤ 2000000 by omega)
        have hga := Gw ha (show a.length ≤ 2000000 by omega)
        have hpx := GV ix (show xs.length ≤ 2000000 by omega)
        have hgx := Gw ix (show xs.length ≤ 2000000 by omega)
        have le : (ee rows b).length = rows.length := by unfold ee; rw [List.length_map]
        have eR : ∀ r ∈ ee rows b, Rs (dB 6) r := fun r hr => by
          unfold ee at hr
          obtain ⟨s, hs, rfl⟩ := List.mem_map.1 hr
          exact US (n := 0) (hI s hs) hb ND (by have := c.2.2 s hs; omega)
        obtain ⟨o, ho, eo⟩ := Qae (a := a.map pr) (b := b.map pr) (by rw [List.length_map, List.length_map]; omega) (by rw [List.length_map]; omega) (J3 ha) (J3 hb)
        obtain ⟨z, hz, ez⟩ := Wo (a := xs.map pr) (b := ee rows b) (by rw [List.length_map]; omega) (by rw [List.length_map]; omega) (J3 ix) eR
        have t0 := (GD (l := (a.map pr).zip (b.map pr)) (m := 0)).1
        have tR : Rs OM (offR ((a.map pr).zip (b.map pr)) 0) := Oh (fun p hp => ⟨J3 ha _ (List.of_mem_zip hp).1, J3 hb _ (List.of_mem_zip hp).2⟩) (Jv.mono (by decide +kernel))
        have zR : Rs O2 (offR ((xs.map pr).zip (ee rows b)) 0) := Of (fun p hp => ⟨J3 ix _ (List.of_mem_zip hp).1, eR _ (List.of_mem_zip hp).2⟩) (Jv.mono (by decide +kernel))
        have hS := Vv c hI ho tR t0
        have sR := Uq (Mr tR (GJ (OG c hI))) OO
        have hC2 := MQ hz zR sR (by decide +kernel)
        have hle := Qak c qa qb lx (hn rfl)
        have hle' : rcmp (offR ((xs.map pr).zip (ee rows b)) 0) (offR ((a.map pr).zip (b.map pr)) 0 * pr (imax rows 0) + half) ≤ 0 := by
          apply Int.not_lt.1
          intro g
          exact absurd (WR.1 g) (Rat.not_lt.2 hle)
        simp only [Option.isSome_none, Bool.or_self, Bool.false_eq_true, if_false]
        refine Ev.bind hpa ?_
        refine Ev.bind hga ?_
        refine Ev.bind hpb ?_
        refine Ev.bind hgb ?_
        simp only [mapR]
        refine Ev.bind eo ?_
        refine Ev.bind hS ?_
        refine Ev.bind hpx ?_
        refine Ev.bind hgx ?_
        simp only [mapR]
        refine Ev.bind ez ?_
        refine Ev.bind hC2 ?_
        simp only [Option.isNone_none, decide_eq_true hle', Bool.and_self, gdt, Bool.true_and]
        exact Ev.bind L35.sure_ev Ev.now
    · refine Ev.bind (U5 c qa) ?_
      refine Ev.bind hpb ?_
      refine Ev.bind hgb ?_
      refine Ev.bind (g := fun k => Q5.f k (mm rows) (rr b)) hx ?_
      simp only [Option.isSome_some, Bool.true_or, if_true, errs (.inr rfl) he, gdt, Bool.true_and]
      exact Ev.bind L35.sure_ev Ev.now
  · simp only [if_neg c]
    refine Ev.bind (UN a) ?_
    refine Ev.bind hpb ?_
    refine Ev.bind hgb ?_
    refine Ev.bind (UM _) ?_
    simp only [Option.isSome_some, Bool.true_or, if_true, errs (.inr rfl) (.inr rfl), gdt, Bool.true_and]
    exact Ev.bind L35.sure_ev Ev.now
end Go.Proofs.YtkccpkccdbfomaaGreatDoor.Pure

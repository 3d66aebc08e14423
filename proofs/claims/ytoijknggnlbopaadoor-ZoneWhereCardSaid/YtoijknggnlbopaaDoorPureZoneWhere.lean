/- The plain law of ZoneWhere. -/
import Derived.Test.YtoijknggnlbopaaDoorPureZ4
namespace Go.Proofs.YtoijknggnlbopaaDoor.Pure
open Go.RowKit Go.Proofs.YtoijknggnlbopaaDoorK Go.Proofs.YtoijknggnlbopaaDoor.GZW
set_option linter.unusedVariables false
set_option linter.unusedSimpArgs false
set_option maxRecDepth 100000
theorem zw_l1 {nm : ByteArray} {L : List radomeref39_Spot} {p0 p1 w a lx ly hx hy : Int} (hl : L.length ≤ 32) (hw : Ev (fun k => radomeref39_Where.f k ⟨nm, L⟩ ⟨p0, p1⟩) w) (ha : Ev (fun k => radomeref39_Area.f k ⟨nm, L⟩) a) : ∀ (n i : Nat) (l r d u : Bool), L.length = i + n →
    (l = true ∨ ∃ s ∈ L.drop i, s.f_X = lx) → (r = true ∨ ∃ s ∈ L.drop i, s.f_X = hx) → (d = true ∨ ∃ s ∈ L.drop i, s.f_Y = ly) → (u = true ∨ ∃ s ∈ L.drop i, s.f_Y = hy) →
    Ev (fun k => (radomelaw39_ZoneWhere.hs k).l1 nm L p0 p1 false w none a none lx ly hx hy none none l r d u (i : Int)) true
  | 0, i, l, r, d, u, e, h1, h2, h3, h4 => by
    rw [List.drop_eq_nil_of_le (by omega)] at h1 h2 h3 h4
    have h1 := h1.resolve_right (by rintro ⟨_, h, _⟩; cases h)
    have h2 := h2.resolve_right (by rintro ⟨_, h, _⟩; cases h)
    have h3 := h3.resolve_right (by rintro ⟨_, h, _⟩; cases h)
    have h4 := h4.resolve_right (by rintro ⟨_, h, _⟩; cases h)
    subst h1; subst h2; subst h3; subst h4
    refine Ev.step (fun k => rfl) ?_
    simp only [radomelaw39_ZoneWhere.hs, radomelaw39_ZoneWhere.b1, if_neg (show ¬ (i : Int) < (L.length : Int) by omega), Option.isNone_none, Bool.and_self, Bool.true_and, gdt]
    refine Ev.bind hw ?_
    simp only [decide_true, Bool.and_self, gdt]
    refine Ev.bind ha ?_
    simp only [decide_true, Bool.and_self, gdt]
    exact Ev.bind sure_ev39 Ev.now
  | n + 1, i, l, r, d, u, e, h1, h2, h3, h4 => by
    have hi : i < L.length := by omega
    rw [drop_cons hi] at h1 h2 h3 h4
    have go : ∀ {f : radomeref39_Spot → Int} {v : Int} {b : Bool}, (b = true ∨ ∃ s ∈ L[i] :: L.drop (i + 1), f s = v) → ((b || decide (f L[i] = v)) = true ∨ ∃ s ∈ L.drop (i + 1), f s = v) := by
      intro f v b h
      rcases h with h | ⟨s, hs, h⟩
      · left; rw [h]; rfl
      · rcases List.mem_cons.1 hs with rfl | hs
        · left; rw [decide_eq_true h]; simp
        · exact .inr ⟨s, hs, h⟩
    refine Ev.step (fun k => rfl) ?_
    simp only [radomelaw39_ZoneWhere.hs, radomelaw39_ZoneWhere.b1, if_pos (show (i : Int) < (L.length : Int) by omega), if_pos (show (0 : Int) ≤ (i : Int) ∧ (i : Int) < (L.length : Int) by omega), rd_get hi, wsucc (show i < 1000000000 by omega)]
    exact zw_l1 hl hw ha n (i + 1) _ _ _ _ (by omega) (go h1) (go h2) (go h3) (go h4)
theorem zw_l0 {nm : ByteArray} {L : List radomeref39_Spot} {p0 p1 w a lx ly hx hy : Int} (hl : L.length ≤ 32) (hb : ∀ s ∈ L, lx ≤ s.f_X ∧ ly ≤ s.f_Y ∧ s.f_X ≤ hx ∧ s.f_Y ≤ hy)
    (h1 : Ev (fun k => (radomelaw39_ZoneWhere.hs k).l1 nm L p0 p1 false w none a none lx ly hx hy none none false false false false 0) true) : ∀ (n i : Nat), L.length = i + n →
    Ev (fun k => (radomelaw39_ZoneWhere.hs k).l0 nm L p0 p1 false w none a none lx ly hx hy none none (i : Int)) true
  | 0, i, e => by
    refine Ev.step (fun k => rfl) ?_
    simp only [radomelaw39_ZoneWhere.hs, radomelaw39_ZoneWhere.b0, if_neg (show ¬ (i : Int) < (L.length : Int) by omega)]; exact h1
  | n + 1, i, e => by
    have hi : i < L.length := by omega
    have := hb _ (List.getElem_mem hi)
    have e1 : ((((decide ((L[i]).f_X < lx)) || (decide ((L[i]).f_Y < ly))) || (decide (hx < (L[i]).f_X))) || (decide (hy < (L[i]).f_Y))) = false := by simp; omega
    refine Ev.step (fun k => rfl) ?_
    simp only [radomelaw39_ZoneWhere.hs, radomelaw39_ZoneWhere.b0, if_pos (show (i : Int) < (L.length : Int) by omega), if_pos (show (0 : Int) ≤ (i : Int) ∧ (i : Int) < (L.length : Int) by omega), rd_get hi, wsucc (show i < 1000000000 by omega), e1, Bool.false_eq_true, if_false]
    exact zw_l0 hl hb h1 n (i + 1) (by omega)
theorem ZoneWhere : radomelaw39_ZoneWhere.Pure := by
  intro z p hz hp
  have hp1 := i32_wf hp.1
  have hp2 := i32_wf hp.2
  have hpl : Pl (pt ⟨p.f_X, p.f_Y⟩) := ⟨hp1, hp2⟩
  suffices h : Ev (fun k => radomelaw39_ZoneWhere.f k z p) true from h.ex
  unfold radomelaw39_ZoneWhere.f
  by_cases hbig : 100 < z.f_Corners.length ∨ 1000 < z.f_Name.size
  · have e1 : ((decide (100 < (z.f_Corners.length : Int))) || (decide (1000 < (z.f_Name.size : Int)))) = true := by simp; omega
    simp only [e1, if_true]; exact Ev.bind sure_ev39 Ev.now
  · have e1 : ((decide (100 < (z.f_Corners.length : Int))) || (decide (1000 < (z.f_Name.size : Int)))) = false := by simp; omega
    simp only [e1, Bool.false_eq_true, if_false]
    refine Ev.bind (give_ev (by omega)) ?_
    refine Ev.bind (Where_ev (gz z) hpl) ?_
    refine Ev.bind (Area_ev (gz z)).1 ?_
    cases hm : mayZ (gz z) with
    | false =>
      refine Ev.bind (Box_bad hm) ?_
      refine Ev.bind (Check_ev (gz z)) ?_
      rw [hm]
      refine Ev.bind (by have := rmay_ev z; rw [hm] at this; exact this) ?_
      simp only [Bool.false_eq_true, if_false, Bool.not_false, if_true, show (decide (errN (some 1) = 1)) = true from rfl, decide_true, Bool.and_self, gdt]
      exact Ev.bind sure_ev39 Ev.now
    | true =>
      obtain ⟨r, hr, hbox, b1, b2, b3, b4⟩ := Box_ev hm
      refine Ev.bind hr ?_
      refine Ev.bind (Check_ev (gz z)) ?_
      rw [hm]
      refine Ev.bind (by have := rmay_ev z; rw [hm] at this; exact this) ?_
      simp only [Bool.not_true, Bool.false_eq_true, if_false, if_true]
      obtain ⟨hn, hc⟩ := may_of hm
      have hll : (gz z).f_Corners.length = z.f_Corners.length := by unfold gz; simp
      have mem : ∀ {P : zone_Spot → Prop}, (∃ s ∈ (gz z).f_Corners, P s) → ∃ s ∈ z.f_Corners, P (cs s) := fun ⟨s, hs, h⟩ => by
        obtain ⟨x, hx, rfl⟩ := List.mem_map.1 hs; exact ⟨x, hx, h⟩
      refine zw_l0 (by omega) (fun s hs => hbox (cs s) (List.mem_map.2 ⟨s, hs, rfl⟩)) (zw_l1 (by omega) (rwhere_ev (p := ⟨p.f_X, p.f_Y⟩) hm hpl) (rarea_ev hm) z.f_Corners.length 0 false false false false (by omega) (.inr ?_) (.inr ?_) (.inr ?_) (.inr ?_)) z.f_Corners.length 0 (by omega)
      · exact mem b1
      · exact mem b3
      · exact mem b2
      · exact mem b4
end Go.Proofs.YtoijknggnlbopaaDoor.Pure

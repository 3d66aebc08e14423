/- Tables: begin, scan, drop, find. -/
import Derived.Test.YtjhpkkhcgpilfaaDoorPureTB1
namespace Go.Proofs.YtjhpkkhcgpilfaaDoor.Pure
open Go.RowKit Go.Proofs.YtjhpkkhcgpilfaaDoorK Go.Proofs.YtjhpkkhcgpilfaaDoor.GTA
set_option linter.unusedVariables false
set_option linter.unusedSimpArgs false
set_option maxRecDepth 100000
def bk (h : Int) : Int := if h = 1 then 1 else 0
theorem bk_ne (h : Int) : ¬ (bk h = 3 ∨ bk h = 4) := by unfold bk; split <;> omega
theorem born_eq (k : Nat) {h w m : Int} (r : Rl h w m) : life_Born.f k ⟨h, w, m⟩ = some (⟨bk h, 1, 1, 0⟩, none) := by
  have r' := r; unfold Rl at r'
  unfold life_Born.f bk
  simp only [check_eq, if_pos r, Option.bind_some, Option.isSome_none, Bool.false_eq_true, if_false]
  by_cases c : h = 1
  · rw [if_pos c, if_pos c]
  · rw [if_neg c, if_neg c, if_neg (show ¬ w = 1 by omega)]
theorem rborn_eq (k : Nat) {h w m : Int} (r : Rl h w m) : radomeref23_Born.f k ⟨h, w, m⟩ = some ⟨bk h, [true], 0⟩ := by
  have r' := r; unfold Rl at r'
  unfold radomeref23_Born.f bk
  by_cases c : h = 1
  · rw [if_pos c, if_pos c]
  · rw [if_neg c, if_neg c, if_neg (show ¬ w = 1 by omega)]
theorem TOk.snoc {h w m most fr g : Int} {A : List AT} (t : TOk h w m most fr g A) (gB : g ≤ 900) (hl : ¬ most ≤ (A.length : Int)) (n tm : Int) : TOk h w m most fr (g + 1) (A ++ [⟨fr + g, bk h, [true], 0, n, tm⟩]) := by
  have r' := t.rl; unfold Rl at r'
  have g1 := t.g1
  refine ⟨t.rl, t.mo, t.f1, by omega, by rw [List.length_append]; simp only [List.length_cons, List.length_nil]; omega, fun a ha => ?_, ?_, fun a ha => ?_⟩
  · rcases List.mem_append.1 ha with ha | ha
    · exact t.ok a ha
    · rw [List.mem_singleton.1 ha]
      have bn := bk_ne h
      refine ⟨⟨t.rl, ⟨Nat.le_refl 1, show ((1 : Nat) : Int) ≤ w by omega⟩, ?_⟩, ?_⟩
      · show Ms (bk h) 0 m
        unfold Ms bk; split <;> omega
      · show bk h ≠ 3 ∧ bk h ≠ 4
        omega
  · rw [List.pairwise_append]
    refine ⟨t.asc, List.pairwise_singleton .., fun a ha b hb => ?_⟩
    rw [List.mem_singleton.1 hb]; exact (t.lt a ha).2
  · rcases List.mem_append.1 ha with ha | ha
    · have := t.lt a ha; omega
    · rw [List.mem_singleton.1 ha]; simp only; omega
theorem begin_ev {h w m most fr g : Int} {A : List AT} (t : TOk h w m most fr g A) (gB : g ≤ 900) (n time : Int) : ∃ id e A' g', Ev (fun k => table_Table_Begin.f k (Pt h w m most fr g A) (PI n) time) (id, e, Pt h w m most fr g' A') ∧ Ev (fun k => radomeref25_Begin.f k (Qt h w m most fr g A) (RI n) time) (Qt h w m most fr g' A', id, errN e) ∧ TOk h w m most fr g' A' ∧ g' ≤ g + 1 := by
  have g1 := t.g1
  have mo := t.mo
  have f1 := t.f1
  by_cases c0 : time < 0
  · refine ⟨0, some 1, A, g, ?_, ?_, t, by omega⟩
    · unfold table_Table_Begin.f; simp only [if_pos c0]; exact Ev.now
    · unfold radomeref25_Begin.f; simp only [if_pos c0]; exact Ev.now
  · by_cases c1 : most ≤ (A.length : Int)
    · refine ⟨0, some 10, A, g, ?_, ?_, t, by omega⟩
      · unfold table_Table_Begin.f; simp only [if_neg c0, Pt, List.length_map, if_pos c1]; exact Ev.now
      · unfold radomeref25_Begin.f; simp only [if_neg c0, Qt, List.length_map, decide_eq_true c1, Bool.true_or, if_true]; exact Ev.now
    · refine ⟨fr + g, none, A ++ [⟨fr + g, bk h, [true], 0, n, time⟩], g + 1, ?_, ?_, t.snoc gB c1 n time, by omega⟩
      · unfold table_Table_Begin.f
        simp only [if_neg c0, Pt, List.length_map, if_neg c1, born_eq _ t.rl, Option.bind_some, Option.isSome_none, Bool.false_eq_true, if_false]
        refine Ev.bind (next_some (a := fr) (b := fr + 1073741824) (c := g) ⟨by omega, by omega, by omega, by omega, by omega⟩ (by omega)) ?_
        simp only [Option.isSome_none, Bool.false_eq_true, if_false, gone_eq, Option.bind_some, decide_eq_false (bk_ne h), Bool.not_false, if_true, own_ev, List.length_cons, List.length_nil, if_pos (show A.length + (0 + 1) ≤ 1466015503573 by omega)]
        rw [show (A ++ [(⟨fr + g, bk h, [true], 0, n, time⟩ : AT)]).map aP = A.map aP ++ [⟨fr + g, ⟨bk h, 1, 1, 0⟩, PI n, time⟩] by rw [List.map_append]; rfl]
        exact Ev.now
      · have e3 : decide (1073741824 < g) = false := decide_eq_false (by omega)
        unfold radomeref25_Begin.f Qt
        simp only [if_neg c0, List.length_map, decide_eq_false c1, e3, Bool.false_or, Bool.false_eq_true, if_false, rborn_eq _ t.rl, Option.bind_some, rgone_eq, decide_eq_false (bk_ne h), Bool.not_false, if_true, List.length_cons, List.length_nil, if_pos (show 0 + A.length ≤ 1353245080211 by omega), if_pos (show A.length + (0 + 1) ≤ 1353245080211 by omega), w64_id (show -9223372036854775808 ≤ fr + g ∧ fr + g ≤ 9223372036854775807 by omega), w64_id (show -9223372036854775808 ≤ g + 1 ∧ g + 1 ≤ 9223372036854775807 by omega)]
        rw [show (A ++ [(⟨fr + g, bk h, [true], 0, n, time⟩ : AT)]).map aQ = A.map aQ ++ [⟨fr + g, ⟨bk h, [true], 0⟩, RI n, time⟩] by rw [List.map_append]; rfl]
        exact Ev.now
/-! ### a track goes, or stays -/
theorem TOk.len100 {h w m most fr g : Int} {A : List AT} (t : TOk h w m most fr g A) : A.length ≤ 100 := by have := t.len; have := t.mo; omega
theorem TOk.out {h w m most fr g : Int} {A : List AT} (t : TOk h w m most fr g A) (p : Nat) : TOk h w m most fr g (A.take p ++ A.drop (p + 1)) := by
  rw [← List.eraseIdx_eq_take_drop_succ]
  have sub := List.eraseIdx_sublist (l := A) (k := p)
  exact ⟨t.rl, t.mo, t.f1, t.g1, by have := sub.length_le; have := t.len; omega, fun a ha => t.ok a (sub.mem ha), t.asc.sublist sub, fun a ha => t.lt a (sub.mem ha)⟩
theorem TOk.at {h w m most fr g : Int} {A : List AT} (t : TOk h w m most fr g A) {p : Nat} (hp : p < A.length) {a : AT} (e : a.id = A[p].id) (ok : AOk h w m a) : TOk h w m most fr g (A.set p a) := by
  refine ⟨t.rl, t.mo, t.f1, t.g1, by rw [List.length_set]; exact t.len, fun b hb => ?_, ?_, fun b hb => ?_⟩
  · rcases List.mem_or_eq_of_mem_set hb with hb | hb
    · exact t.ok b hb
    · rw [hb]; exact ok
  · have asc := t.asc
    rw [List.pairwise_iff_getElem] at asc ⊢
    intro i j hi hj hij
    simp only [List.length_set] at hi hj
    have := asc i j hi hj hij
    rw [List.getElem_set, List.getElem_set]
    by_cases c1 : p = i
    · subst c1
      rw [if_pos rfl, if_neg (show ¬ p = j by omega), e]; exact this
    · rw [if_neg c1]
      by_cases c2 : p = j
      · subst c2; rw [if_pos rfl, e]; exact this
      · rw [if_neg c2]; exact this
  · rcases List.mem_or_eq_of_mem_set hb with hb | hb
    · exact t.lt b hb
    · rw [hb, e]; exact t.lt _ (List.getElem_mem hp)
theorem rd_set {α : Type} [Inhabited α] {L : List α} {i : Nat} {x : α} (h : i < L.length) : rd (L.set i x) (i : Int) = x := by
  rw [rd_at (by rw [List.length_set]; exact h), List.getElem_set_self]
theorem setP {A : List AT} {p : Nat} (a : AT) : (A.map aP).set p (aP a) = (A.set p a).map aP := by rw [List.map_set]
/-! ### scan -/
def nx (h w m : Int) (a : AT) (hit : Bool) (n time : Int) : AT := ⟨a.id, kin h w m a.kind (keep w a.S hit) (miss m a.ms hit), keep w a.S hit, miss m a.ms hit, n, if hit then time else a.tm⟩
def after (h w m : Int) (A : List AT) (p : Nat) (b : AT) : List AT := if b.kind = 3 ∨ b.kind = 4 then A.take p ++ A.drop (p + 1) else A.set p b
theorem pj1 (k : Nat) {h w m most fr g : Int} {A : List AT} (hA : A.length ≤ 100) {p : Nat} (hp : p < A.length) (b : AT) : table_Table_Scan.j1 k h w m most fr (fr + 1073741824) g ((A.set p b).map aP) (p : Int) b.kind (B b.S) b.S.length b.ms = some (⟨b.kind, B b.S, b.S.length, b.ms⟩, none, Pt h w m most fr g (after h w m A p b)) := by
  unfold table_Table_Scan.j1 after
  simp only [gone_eq, Option.bind_some, decide_eq_true_eq]
  by_cases c : b.kind = 3 ∨ b.kind = 4
  · rw [if_pos c, if_pos c, wsucc (show p < 1000000000 by omega), Delete_eq k (by rw [List.length_map, List.length_set]; exact hp), Option.bind_some]
    rw [← List.map_take, ← List.map_drop, ← List.map_append, List.take_set_of_le (Nat.le_refl p), List.drop_set_of_lt (Nat.lt_succ_self p)]; rfl
  · rw [if_neg c, if_neg c]; rfl
theorem qj1 (k : Nat) {h w m most fr g : Int} {A : List AT} (hA : A.length ≤ 100) {p : Nat} (hp : p < A.length) (b : AT) : radomeref25_Scan.j1 k h w m most fr g (A.map aQ) (p : Int) b.id b.kind b.S b.ms (RI b.n).f_States (RI b.n).f_Chances b.tm = some (Qt h w m most fr g (after h w m A p b), ⟨b.kind, b.S, b.ms⟩, 0) := by
  unfold radomeref25_Scan.j1 after
  simp only [rgone_eq, Option.bind_some, decide_eq_true_eq]
  by_cases c : b.kind = 3 ∨ b.kind = 4
  · rw [if_pos c, if_pos c]
    have := without_eq k (h := h) (w := w) (m := m) (most := most) (fr := fr) (g := g) hA hp
    unfold Qt at this
    rw [this]; rfl
  · rw [if_neg c, if_neg c, wsucc (show p < 1000000000 by omega), cut0, cut1]
    have e : (A.map aQ).take p ++ [(⟨b.id, ⟨b.kind, b.S, b.ms⟩, ⟨(RI b.n).f_States, (RI b.n).f_Chances⟩, b.tm⟩ : radomeref25_Track)] ++ (A.map aQ).drop (p + 1) = (A.set p b).map aQ := by
      rw [List.map_set, List.set_eq_take_append_cons_drop, if_pos (by rw [List.length_map]; exact hp), List.append_assoc]; rfl
    have l1 : (A.map aQ).length = A.length := List.length_map ..
    rw [if_pos (by omega), if_pos (by simp; omega), if_pos (by simp; omega), if_pos (by omega), if_pos (by simp; omega), e]; rfl
theorem scan_ev {h w m most fr g : Int} {A : List AT} (t : TOk h w m most fr g A) (id : Int) (hit : Bool) (n time : Int) : ∃ l e rl A', Ev (fun k => table_Table_Scan.f k (Pt h w m most fr g A) id hit (PI n) time) (l, e, Pt h w m most fr g A') ∧ Ev (fun k => radomeref25_Scan.f k (Qt h w m most fr g A) id hit (RI n) time) (Qt h w m most fr g A', rl, errN e) ∧ (errN e = 0 → Ev (fun k => radomelaw25_isLife.f k l rl) true) ∧ TOk h w m most fr g A' := by
  have hA := t.len100
  by_cases c0 : time < 0
  · refine ⟨⟨0, 0, 0, 0⟩, some 1, ⟨0, [], 0⟩, A, ?_, ?_, fun h => absurd h (by decide), t⟩
    · unfold table_Table_Scan.f; simp only [if_pos c0]; exact Ev.now
    · unfold radomeref25_Scan.f; simp only [if_pos c0]; exact Ev.now
  obtain ⟨p, b, h1, h0, he⟩ := at_ev (h := h) (w := w) (m := m) (most := most) (fr := fr) (g := g) (id := id) hA t.asc
  have hr := rat_ev (h := h) (w := w) (m := m) (most := most) (fr := fr) (g := g) (id := id) hA
  cases b with
  | false =>
    rw [find_none (h0 rfl)] at hr
    refine ⟨⟨0, 0, 0, 0⟩, some 8, ⟨0, [], 0⟩, A, ?_, ?_, fun h => absurd h (by decide), t⟩
    · unfold table_Table_Scan.f; simp only [if_neg c0]
      refine Ev.bind he ?_
      simp only [Bool.not_false, if_true]; exact Ev.now
    · unfold radomeref25_Scan.f; simp only [if_neg c0]
      refine Ev.bind hr ?_
      simp only [if_pos (show (-1 : Int) < 0 by decide)]; exact Ev.now
  | true =>
    obtain ⟨hp, e⟩ := h1 rfl
    rw [find_some t.asc hp e] at hr
    have ao := t.ok _ (List.getElem_mem hp)
    have hn := ao.ok.next hit
    have r' := t.rl; unfold Rl at r'
    have hms : A[p].ms ≤ m := by have := ao.ok.ms; unfold Ms at this; omega
    refine ⟨⟨(nx h w m A[p] hit n time).kind, B (nx h w m A[p] hit n time).S, (nx h w m A[p] hit n time).S.length, (nx h w m A[p] hit n time).ms⟩, none, ⟨(nx h w m A[p] hit n time).kind, (nx h w m A[p] hit n time).S, (nx h w m A[p] hit n time).ms⟩, after h w m A p (nx h w m A[p] hit n time), ?_, ?_, fun _ => islife_ev (ok16 hn), ?_⟩
    · unfold table_Table_Scan.f; simp only [if_neg c0]
      refine Ev.bind he ?_
      have l1 : p < (A.map aP).length := by rw [List.length_map]; exact hp
      have pl : ∀ x, rd ((A.map aP).set p x) (p : Int) = x := fun x => rd_set l1
      simp only [Bool.not_true, Bool.false_eq_true, if_false, Pt, List.length_map, if_pos (show (0 : Int) ≤ (p : Int) ∧ (p : Int) < (A.length : Int) by omega), rdP hp, Int.toNat_natCast, pl, List.set_set, own_ev, Option.bind_some]
      simp only [show (aP A[p]).f_Life = ⟨A[p].kind, B A[p].S, A[p].S.length, A[p].ms⟩ from rfl, next_eq _ ao.ok ao.k3 hit (by omega), Option.bind_some, Option.isSome_none, Bool.false_eq_true, if_false]
      have key := fun k => pj1 k (h := h) (w := w) (m := m) (most := most) (fr := fr) (g := g) hA hp (nx h w m A[p] hit n time)
      rw [← setP] at key
      simp only [Pt] at key
      cases hit
      · simp only [Bool.false_eq_true, if_false]
        exact ⟨0, fun k _ => key k⟩
      · simp only [if_true]
        exact ⟨0, fun k _ => key k⟩
    · unfold radomeref25_Scan.f; simp only [if_neg c0]
      refine Ev.bind hr ?_
      simp only [if_neg (show ¬ (p : Int) < 0 by omega), Qt, List.length_map, if_pos (show (0 : Int) ≤ (p : Int) ∧ (p : Int) < (A.length : Int) by omega), rdQ hp]
      refine Ev.bind (rnext_ev ao.ok hit) ?_
      have key := fun k => qj1 k (h := h) (w := w) (m := m) (most := most) (fr := fr) (g := g) hA hp (nx h w m A[p] hit n time)
      simp only [Qt] at key
      cases hit
      · simp only [Bool.false_eq_true, if_false]
        exact ⟨0, fun k _ => key k⟩
      · simp only [if_true]
        exact ⟨0, fun k _ => key k⟩
    · unfold after
      split
      · exact t.out p
      · rename_i c
        exact t.at hp rfl ⟨hn, by omega⟩
/-! ### find and drop -/
def p0 : table_Track := ⟨0, ⟨0, 0, 0, 0⟩, ⟨[], []⟩, 0⟩
def q0 : radomeref25_Track := ⟨0, ⟨0, [], 0⟩, ⟨[], []⟩, 0⟩
theorem drop_ev {h w m most fr g : Int} {A : List AT} (t : TOk h w m most fr g A) (id : Int) : ∃ x e rx A', Ev (fun k => table_Table_Drop.f k (Pt h w m most fr g A) id) (x, e, Pt h w m most fr g A') ∧ Ev (fun k => table_Table_Find.f k (Pt h w m most fr g A) id) (x, e) ∧ Ev (fun k => radomeref25_Drop.f k (Qt h w m most fr g A) id) (Qt h w m most fr g A', rx, errN e) ∧ (errN e = 0 → Ev (fun k => radomelaw25_isTrack.f k x rx) true) ∧ TOk h w m most fr g A' := by
  have hA := t.len100
  obtain ⟨p, b, h1, h0, he⟩ := at_ev (h := h) (w := w) (m := m) (most := most) (fr := fr) (g := g) (id := id) hA t.asc
  have hr := rat_ev (h := h) (w := w) (m := m) (most := most) (fr := fr) (g := g) (id := id) hA
  cases b with
  | false =>
    rw [find_none (h0 rfl)] at hr
    have hf : Ev (fun k => table_Table_Find.f k (Pt h w m most fr g A) id) (p0, some 8) := by
      unfold table_Table_Find.f
      refine Ev.bind he ?_
      simp only [Bool.not_false, if_true]; exact Ev.now
    refine ⟨p0, some 8, q0, A, ?_, hf, ?_, fun h => absurd h (by decide), t⟩
    · unfold table_Table_Drop.f
      refine Ev.bind hf ?_
      simp only [Option.isSome_some, if_true]; exact Ev.now
    · unfold radomeref25_Drop.f
      refine Ev.bind hr ?_
      simp only [if_pos (show (-1 : Int) < 0 by decide)]; exact Ev.now
  | true =>
    obtain ⟨hp, e⟩ := h1 rfl
    rw [find_some t.asc hp e] at hr
    have ao := t.ok _ (List.getElem_mem hp)
    have hf : Ev (fun k => table_Table_Find.f k (Pt h w m most fr g A) id) (aP A[p], none) := by
      unfold table_Table_Find.f
      refine Ev.bind he ?_
      simp only [Bool.not_true, Bool.false_eq_true, if_false, Pt, List.length_map, if_pos (show (0 : Int) ≤ (p : Int) ∧ (p : Int) < (A.length : Int) by omega), rdP hp, town_ev, Option.bind_some]; exact Ev.now
    refine ⟨aP A[p], none, aQ A[p], A.take p ++ A.drop (p + 1), ?_, hf, ?_, fun _ => istrack_ev (ok16 ao.ok), t.out p⟩
    · unfold table_Table_Drop.f
      refine Ev.bind hf ?_
      simp only [Option.isSome_none, Bool.false_eq_true, if_false]
      refine Ev.bind he ?_
      simp only [Pt, wsucc (show p < 1000000000 by omega), Delete_eq _ (show p < (A.map aP).length by rw [List.length_map]; exact hp), Option.bind_some, List.map_append, List.map_take, List.map_drop]
      exact Ev.now
    · unfold radomeref25_Drop.f
      refine Ev.bind hr ?_
      simp only [if_neg (show ¬ (p : Int) < 0 by omega), without_eq _ hA hp, Option.bind_some]
      simp only [Qt, List.length_map, if_pos (show (0 : Int) ≤ (p : Int) ∧ (p : Int) < (A.length : Int) by omega), rdQ hp]
      exact Ev.now
end Go.Proofs.YtjhpkkhcgpilfaaDoor.Pure

/- Tables: the program's begin, scan and find alone. -/
import Derived.Test.YtjhpkkhcgpilfaaDoorPureTB2
namespace Go.Proofs.YtjhpkkhcgpilfaaDoor.Pure
open Go.RowKit Go.Proofs.YtjhpkkhcgpilfaaDoorK Go.Proofs.YtjhpkkhcgpilfaaDoor.GTO
set_option linter.unusedVariables false
set_option linter.unusedSimpArgs false
set_option maxRecDepth 100000
theorem begin_p {h w m most fr g : Int} {A : List AT} (t : TOk h w m most fr g A) (gB : g ≤ 900) (n : Int) :
    (most ≤ (A.length : Int) → Ev (fun k => table_Table_Begin.f k (Pt h w m most fr g A) (PI n) 0) (0, some 10, Pt h w m most fr g A)) ∧
    (¬ most ≤ (A.length : Int) → Ev (fun k => table_Table_Begin.f k (Pt h w m most fr g A) (PI n) 0) (fr + g, none, Pt h w m most fr (g + 1) (A ++ [⟨fr + g, bk h, [true], 0, n, 0⟩]))) := by
  have g1 := t.g1
  have mo := t.mo
  have f1 := t.f1
  have c0 : ¬ (0 : Int) < 0 := by decide
  refine ⟨fun c1 => ?_, fun c1 => ?_⟩
  · unfold table_Table_Begin.f; simp only [if_neg c0, Pt, List.length_map, if_pos c1]; exact Ev.now
  · unfold table_Table_Begin.f
    simp only [if_neg c0, Pt, List.length_map, if_neg c1, born_eq _ t.rl, Option.bind_some, Option.isSome_none, Bool.false_eq_true, if_false]
    refine Ev.bind (next_some (a := fr) (b := fr + 1073741824) (c := g) ⟨by omega, by omega, by omega, by omega, by omega⟩ (by omega)) ?_
    simp only [Option.isSome_none, Bool.false_eq_true, if_false, gone_eq, Option.bind_some, decide_eq_false (bk_ne h), Bool.not_false, if_true, own_ev, List.length_cons, List.length_nil, if_pos (show A.length + (0 + 1) ≤ 1466015503573 by have := t.len; omega)]
    rw [show (A ++ [(⟨fr + g, bk h, [true], 0, n, 0⟩ : AT)]).map aP = A.map aP ++ [⟨fr + g, ⟨bk h, 1, 1, 0⟩, PI n, 0⟩] by rw [List.map_append]; rfl]
    exact Ev.now
theorem find_p {h w m most fr g : Int} {A : List AT} (t : TOk h w m most fr g A) (id : Int) :
    ((∀ a ∈ A, a.id ≠ id) ∧ Ev (fun k => table_Table_Find.f k (Pt h w m most fr g A) id) (p0, some 8) ∧ ∀ hit n, Ev (fun k => table_Table_Scan.f k (Pt h w m most fr g A) id hit (PI n) 1) (⟨0, 0, 0, 0⟩, some 8, Pt h w m most fr g A)) ∨
    ∃ (p : Nat) (hp : p < A.length), A[p].id = id ∧ Ev (fun k => table_Table_Find.f k (Pt h w m most fr g A) id) (aP A[p], none) ∧
      ∀ hit n, Ev (fun k => table_Table_Scan.f k (Pt h w m most fr g A) id hit (PI n) 1) (⟨(nx h w m A[p] hit n 1).kind, B (nx h w m A[p] hit n 1).S, (nx h w m A[p] hit n 1).S.length, (nx h w m A[p] hit n 1).ms⟩, none, Pt h w m most fr g (after h w m A p (nx h w m A[p] hit n 1))) ∧ TOk h w m most fr g (after h w m A p (nx h w m A[p] hit n 1)) := by
  have hA := t.len100
  have c0 : ¬ (1 : Int) < 0 := by decide
  obtain ⟨p, b, h1, h0, he⟩ := at_ev (h := h) (w := w) (m := m) (most := most) (fr := fr) (g := g) (id := id) hA t.asc
  cases b with
  | false =>
    refine .inl ⟨h0 rfl, ?_, fun hit n => ?_⟩
    · unfold table_Table_Find.f
      refine Ev.bind he ?_
      simp only [Bool.not_false, if_true]; exact Ev.now
    · unfold table_Table_Scan.f; simp only [if_neg c0]
      refine Ev.bind he ?_
      simp only [Bool.not_false, if_true]; exact Ev.now
  | true =>
    obtain ⟨hp, e⟩ := h1 rfl
    refine .inr ⟨p, hp, e, ?_, fun hit n => ?_⟩
    · unfold table_Table_Find.f
      refine Ev.bind he ?_
      simp only [Bool.not_true, Bool.false_eq_true, if_false, Pt, List.length_map, if_pos (show (0 : Int) ≤ (p : Int) ∧ (p : Int) < (A.length : Int) by omega), rdP hp, town_ev, Option.bind_some]; exact Ev.now
    · have ao := t.ok _ (List.getElem_mem hp)
      have hn := ao.ok.next hit
      have r' := t.rl; unfold Rl at r'
      have hms : A[p].ms ≤ m := by have := ao.ok.ms; unfold Ms at this; omega
      refine ⟨?_, ?_⟩
      · unfold table_Table_Scan.f; simp only [if_neg c0]
        refine Ev.bind he ?_
        have l1 : p < (A.map aP).length := by rw [List.length_map]; exact hp
        have pl : ∀ x, rd ((A.map aP).set p x) (p : Int) = x := fun x => rd_set l1
        simp only [Bool.not_true, Bool.false_eq_true, if_false, Pt, List.length_map, if_pos (show (0 : Int) ≤ (p : Int) ∧ (p : Int) < (A.length : Int) by omega), rdP hp, Int.toNat_natCast, pl, List.set_set, own_ev, Option.bind_some]
        simp only [show (aP A[p]).f_Life = ⟨A[p].kind, B A[p].S, A[p].S.length, A[p].ms⟩ from rfl, next_eq _ ao.ok ao.k3 hit (by omega), Option.bind_some, Option.isSome_none, Bool.false_eq_true, if_false]
        have key := fun k => pj1 k (h := h) (w := w) (m := m) (most := most) (fr := fr) (g := g) hA hp (nx h w m A[p] hit n 1)
        rw [← setP] at key
        simp only [Pt] at key
        cases hit
        · simp only [Bool.false_eq_true, if_false]
          exact ⟨0, fun k _ => key k⟩
        · simp only [if_true]
          exact ⟨0, fun k _ => key k⟩
      · unfold after
        split
        · exact t.out p
        · rename_i c
          exact t.at hp rfl ⟨hn, by omega⟩
end Go.Proofs.YtjhpkkhcgpilfaaDoor.Pure

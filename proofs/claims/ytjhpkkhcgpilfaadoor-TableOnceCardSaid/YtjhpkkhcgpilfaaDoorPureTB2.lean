/- Tables: begin, scan, drop, find. -/
import Derived.Test.YtjhpkkhcgpilfaaDoorPureTB1
namespace Go.Proofs.YtjhpkkhcgpilfaaDoor.Pure
open Go.RowKit Go.Proofs.YtjhpkkhcgpilfaaDoorK Go.Proofs.YtjhpkkhcgpilfaaDoor.GTO
set_option linter.unusedVariables false
set_option linter.unusedSimpArgs false
set_option maxRecDepth 100000
def bk (h : Int) : Int := if h = 1 then 1 else 0
theorem bk_ne (h : Int) : ¬ (bk h = 3 ∨ bk h = 4) := by unfold bk; split <;> omega
theorem born_eq (k : Nat) {h w m : Int} (r : Rl h w m) : life_Born.f k ⟨h, w, m⟩ = some (⟨bk h, 1, 1, 0⟩, none) := by
  have r' := r; unfold Rl at r'
  unfold life_Born.f bk
  simp only [check_eq, if_pos r, Option.bind_some, Option.isSome_none, Bool.false_eq_true, if_false]
  by_cases c : h = 1
  · rw [if_pos c, if_pos c]
  · rw [if_neg c, if_neg c, if_neg (show ¬ w = 1 by omega)]
theorem TOk.snoc {h w m most fr g : Int} {A : List AT} (t : TOk h w m most fr g A) (gB : g ≤ 900) (hl : ¬ most ≤ (A.length : Int)) (n tm : Int) : TOk h w m most fr (g + 1) (A ++ [⟨fr + g, bk h, [true], 0, n, tm⟩]) := by
  have r' := t.rl; unfold Rl at r'
  have g1 := t.g1
  refine ⟨t.rl, t.mo, t.f1, by omega, by rw [List.length_append]; simp only [List.length_cons, List.length_nil]; omega, fun a ha => ?_, ?_, fun a ha => ?_⟩
  · rcases List.mem_append.1 ha with ha | ha
    · exact t.ok a ha
    · rw [List.mem_singleton.1 ha]
      have bn := bk_ne h
      refine ⟨⟨t.rl, ⟨Nat.le_refl 1, show ((1 : Nat) : Int) ≤ w by omega⟩, ?_⟩, ?_⟩
      · show Ms (bk h) 0 m
        unfold Ms bk; split <;> omega
      · show bk h ≠ 3 ∧ bk h ≠ 4
        omega
  · rw [List.pairwise_append]
    refine ⟨t.asc, List.pairwise_singleton .., fun a ha b hb => ?_⟩
    rw [List.mem_singleton.1 hb]; exact (t.lt a ha).2
  · rcases List.mem_append.1 ha with ha | ha
    · have := t.lt a ha; omega
    · rw [List.mem_singleton.1 ha]; simp only; omega
/-! ### a track goes, or stays -/
theorem TOk.len100 {h w m most fr g : Int} {A : List AT} (t : TOk h w m most fr g A) : A.length ≤ 100 := by have := t.len; have := t.mo; omega
theorem TOk.out {h w m most fr g : Int} {A : List AT} (t : TOk h w m most fr g A) (p : Nat) : TOk h w m most fr g (A.take p ++ A.drop (p + 1)) := by
  rw [← List.eraseIdx_eq_take_drop_succ]
  have sub := List.eraseIdx_sublist (l := A) (k := p)
  exact ⟨t.rl, t.mo, t.f1, t.g1, by have := sub.length_le; have := t.len; omega, fun a ha => t.ok a (sub.mem ha), t.asc.sublist sub, fun a ha => t.lt a (sub.mem ha)⟩
theorem TOk.at {h w m most fr g : Int} {A : List AT} (t : TOk h w m most fr g A) {p : Nat} (hp : p < A.length) {a : AT} (e : a.id = A[p].id) (ok : AOk h w m a) : TOk h w m most fr g (A.set p a) := by
  refine ⟨t.rl, t.mo, t.f1, t.g1, by rw [List.length_set]; exact t.len, fun b hb => ?_, ?_, fun b hb => ?_⟩
  · rcases List.mem_or_eq_of_mem_set hb with hb | hb
    · exact t.ok b hb
    · rw [hb]; exact ok
  · have asc := t.asc
    rw [List.pairwise_iff_getElem] at asc ⊢
    intro i j hi hj hij
    simp only [List.length_set] at hi hj
    have := asc i j hi hj hij
    rw [List.getElem_set, List.getElem_set]
    by_cases c1 : p = i
    · subst c1
      rw [if_pos rfl, if_neg (show ¬ p = j by omega), e]; exact this
    · rw [if_neg c1]
      by_cases c2 : p = j
      · subst c2; rw [if_pos rfl, e]; exact this
      · rw [if_neg c2]; exact this
  · rcases List.mem_or_eq_of_mem_set hb with hb | hb
    · exact t.lt b hb
    · rw [hb, e]; exact t.lt _ (List.getElem_mem hp)
theorem rd_set {α : Type} [Inhabited α] {L : List α} {i : Nat} {x : α} (h : i < L.length) : rd (L.set i x) (i : Int) = x := by
  rw [rd_at (by rw [List.length_set]; exact h), List.getElem_set_self]
theorem setP {A : List AT} {p : Nat} (a : AT) : (A.map aP).set p (aP a) = (A.set p a).map aP := by rw [List.map_set]
/-! ### scan -/
def nx (h w m : Int) (a : AT) (hit : Bool) (n time : Int) : AT := ⟨a.id, kin h w m a.kind (keep w a.S hit) (miss m a.ms hit), keep w a.S hit, miss m a.ms hit, n, if hit then time else a.tm⟩
def after (h w m : Int) (A : List AT) (p : Nat) (b : AT) : List AT := if b.kind = 3 ∨ b.kind = 4 then A.take p ++ A.drop (p + 1) else A.set p b
theorem pj1 (k : Nat) {h w m most fr g : Int} {A : List AT} (hA : A.length ≤ 100) {p : Nat} (hp : p < A.length) (b : AT) : table_Table_Scan.j1 k h w m most fr (fr + 1073741824) g ((A.set p b).map aP) (p : Int) b.kind (B b.S) b.S.length b.ms = some (⟨b.kind, B b.S, b.S.length, b.ms⟩, none, Pt h w m most fr g (after h w m A p b)) := by
  unfold table_Table_Scan.j1 after
  simp only [gone_eq, Option.bind_some, decide_eq_true_eq]
  by_cases c : b.kind = 3 ∨ b.kind = 4
  · rw [if_pos c, if_pos c, wsucc (show p < 1000000000 by omega), Delete_eq k (by rw [List.length_map, List.length_set]; exact hp), Option.bind_some]
    rw [← List.map_take, ← List.map_drop, ← List.map_append, List.take_set_of_le (Nat.le_refl p), List.drop_set_of_lt (Nat.lt_succ_self p)]; rfl
  · rw [if_neg c, if_neg c]; rfl
/-! ### find and drop -/
def p0 : table_Track := ⟨0, ⟨0, 0, 0, 0⟩, ⟨[], []⟩, 0⟩
end Go.Proofs.YtjhpkkhcgpilfaaDoor.Pure

/- Pairs by bids: costs that may be; what is best for a track; a bid; the program's auction. -/
import Derived.Test.YtacbficpehmlnaaDoorGBNp
namespace Go.Proofs.YtacbficpehmlnaaDoor.Pure
open Go.RowKit Go.Proofs.YtacbficpehmlnaaDoorK Go.Proofs.YtacbficpehmlnaaDoor.GBN
set_option linter.unusedVariables false
set_option linter.unusedSimpArgs false
set_option maxRecDepth 100000
theorem w64_id {x : Int} (h : -9223372036854775808 ≤ x ∧ x ≤ 9223372036854775807) : w64 x = x := by
  simp only [w64, IntKind.wrap, IntKind.bits, IntKind.signed]; simp; omega
theorem wsucc {i : Nat} (h : i < 1000000000) : w64 ((i : Int) + 1) = ((i + 1 : Nat) : Int) := w64_id (by omega)
theorem gdt {α : Type} (x : Option α) (d : α) : gd true x d = x := rfl
theorem rd_get {α : Type} [Inhabited α] {L : List α} {i : Nat} (h : i < L.length) : rd L (i : Int) = L[i] := by
  unfold rd; rw [Int.toNat_natCast, List.getD_eq_getElem?_getD, List.getElem?_eq_getElem h]; rfl
theorem rd_nat {α : Type} {cs : List α} {x : Int} (h : 0 ≤ x ∧ x < (cs.length : Int)) : ∃ i : Nat, (i : Int) = x ∧ i < cs.length := ⟨x.toNat, by omega, by omega⟩
theorem rd_mem {α : Type} [Inhabited α] {L : List α} {x : Int} (h : 0 ≤ x ∧ x < (L.length : Int)) : rd L x ∈ L := by
  obtain ⟨i, rfl, hi⟩ := rd_nat h
  rw [rd_get hi]; exact List.getElem_mem hi
theorem rd_set {α : Type} [Inhabited α] {l : List α} {i j : Int} {v : α} (hi : 0 ≤ i ∧ i < (l.length : Int)) (hj : 0 ≤ j ∧ j < (l.length : Int)) : rd (l.set i.toNat v) j = if i = j then v else rd l j := by
  obtain ⟨p, rfl, hp⟩ := rd_nat hi
  obtain ⟨q, rfl, hq⟩ := rd_nat hj
  rw [rd_get (by rw [List.length_set]; exact hq), rd_get hq, Int.toNat_natCast, List.getElem_set]
  by_cases h : p = q
  · subst h; simp
  · rw [if_neg h, if_neg (by omega)]
/-! ### costs that may be -/
def rowB (L : Nat) (r : List Int) : Bool := (decide (r.length = L) && decide (r.length ≤ 64)) && r.all fun n => decide (-1 ≤ n ∧ n ≤ 4096)
def chkB (rows : List (List Int)) (miss : Int) : Bool := decide (rows.length ≤ 64 ∧ 0 ≤ miss ∧ miss ≤ 4096) && rows.all (rowB (rd rows 0).length)
theorem chk_l1 {rows : List (List Int)} {miss : Int} {i : Nat} {R : List Int} {r : Option Int} (hR : R.length ≤ 64) (hi : i < 1000)
    (h : (R.all fun n => decide (-1 ≤ n ∧ n ≤ 4096)) = true → Ev (fun k => (cost_Check.hs k).l0 rows miss none rows (rows.length : Int) ((i + 1 : Nat) : Int)) r) (hf : (R.all fun n => decide (-1 ≤ n ∧ n ≤ 4096)) = false → r = some 1) :
    ∀ (n j : Nat), R.length = j + n → (∀ q, (hq : q < R.length) → q < j → -1 ≤ R[q] ∧ R[q] ≤ 4096) → Ev (fun k => (cost_Check.hs k).l1 rows miss none rows (rows.length : Int) (i : Int) R (R.length : Int) (j : Int)) r
  | 0, j, e, hq => by
    refine Ev.step (fun k => rfl) ?_
    simp only [cost_Check.hs, cost_Check.b1, if_neg (show ¬ (j : Int) < (R.length : Int) by omega), wsucc (show i < 1000000000 by omega)]
    refine h (List.all_eq_true.2 fun x hx => ?_)
    obtain ⟨q, hq1, rfl⟩ := List.getElem_of_mem hx
    exact decide_eq_true (hq q hq1 (by omega))
  | n + 1, j, e, hq => by
    have hj : j < R.length := by omega
    refine Ev.step (fun k => rfl) ?_
    simp only [cost_Check.hs, cost_Check.b1, if_pos (show (j : Int) < (R.length : Int) by omega), if_pos (show (0 : Int) ≤ (j : Int) ∧ (j : Int) < (R.length : Int) by omega), rd_get hj, wsucc (show j < 1000000000 by omega)]
    by_cases hb : -1 ≤ R[j] ∧ R[j] ≤ 4096
    · have e1 : (decide (R[j] < -1) || decide (4096 < R[j])) = false := by simp; omega
      simp only [e1, Bool.false_eq_true, if_false]
      refine chk_l1 hR hi h hf n (j + 1) (by omega) fun q hq1 hq2 => ?_
      by_cases e : q = j
      · subst e; exact hb
      · exact hq q hq1 (by omega)
    · have e1 : (decide (R[j] < -1) || decide (4096 < R[j])) = true := by
        refine Decidable.byContradiction fun hc => hb ?_; rw [Bool.not_eq_true] at hc; simp at hc; omega
      simp only [e1, if_true]
      rw [hf (by
        rw [Bool.eq_false_iff]; intro ha
        exact hb (of_decide_eq_true (List.all_eq_true.1 ha _ (List.getElem_mem hj))))]
      exact Ev.now
theorem drop_cons {α : Type} {L : List α} {i : Nat} (h : i < L.length) : L.drop i = L[i] :: L.drop (i + 1) := List.drop_eq_getElem_cons h
theorem chk_l0 {rows : List (List Int)} {miss : Int} (hl : rows.length ≤ 64) : ∀ (n i : Nat), rows.length = i + n → Ev (fun k => (cost_Check.hs k).l0 rows miss none rows (rows.length : Int) (i : Int)) (if (rows.drop i).all (rowB (rd rows 0).length) = true then none else some 1)
  | 0, i, e => by
    refine Ev.step (fun k => rfl) ?_
    simp only [cost_Check.hs, cost_Check.b0, if_neg (show ¬ (i : Int) < (rows.length : Int) by omega)]
    rw [List.drop_eq_nil_of_le (by omega)]; exact Ev.now
  | n + 1, i, e => by
    have hi : i < rows.length := by omega
    have ih := chk_l0 hl (miss := miss) n (i + 1) (by omega)
    refine Ev.step (fun k => rfl) ?_
    simp only [cost_Check.hs, cost_Check.b0, if_pos (show (i : Int) < (rows.length : Int) by omega), if_pos (show (0 : Int) ≤ (i : Int) ∧ (i : Int) < (rows.length : Int) by omega), if_pos (show (0 : Int) ≤ 0 ∧ 0 < (rows.length : Int) by omega), rd_get hi]
    rw [drop_cons hi, List.all_cons]
    by_cases hR : (rows[i]).length = (rd rows 0).length ∧ (rows[i]).length ≤ 64
    · have e1 : ((!decide (((rows[i]).length : Int) = ((rd rows 0).length : Int))) || decide (64 < ((rows[i]).length : Int))) = false := by simp; omega
      simp only [e1, Bool.false_eq_true, if_false]
      have e2 : rowB (rd rows 0).length rows[i] = (rows[i]).all fun n => decide (-1 ≤ n ∧ n ≤ 4096) := by
        unfold rowB; rw [decide_eq_true hR.1, decide_eq_true hR.2, Bool.true_and, Bool.true_and]
      rw [e2]
      exact chk_l1 (miss := miss) hR.2 (by omega) (fun h => by rw [h, Bool.true_and]; exact ih) (fun h => by rw [h, Bool.false_and]; rfl) (rows[i]).length 0 (by omega) (fun q _ h => by omega)
    · have e1 : ((!decide (((rows[i]).length : Int) = ((rd rows 0).length : Int))) || decide (64 < ((rows[i]).length : Int))) = true := by
        refine Decidable.byContradiction fun hc => hR ?_; rw [Bool.not_eq_true] at hc; simp at hc; omega
      simp only [e1, if_true]
      have e2 : rowB (rd rows 0).length rows[i] = false := by
        unfold rowB; rw [← Bool.decide_and, decide_eq_false hR, Bool.false_and]
      rw [e2, Bool.false_and]; exact Ev.now
theorem chk_ev (rows : List (List Int)) (miss : Int) : Ev (fun k => cost_Check.f k ⟨rows, miss⟩) (if chkB rows miss = true then none else some 1) := by
  unfold cost_Check.f chkB
  by_cases h : rows.length ≤ 64 ∧ 0 ≤ miss ∧ miss ≤ 4096
  · have e1 : ((decide (64 < (rows.length : Int)) || decide (miss < 0)) || decide (4096 < miss)) = false := by simp; omega
    simp only [e1, Bool.false_eq_true, if_false, decide_eq_true h, Bool.true_and]
    exact chk_l0 h.1 rows.length 0 (by omega)
  · have e1 : ((decide (64 < (rows.length : Int)) || decide (miss < 0)) || decide (4096 < miss)) = true := by
      refine Decidable.byContradiction fun hc => h ?_; rw [Bool.not_eq_true] at hc; simp at hc; omega
    simp only [e1, if_true, decide_eq_false h, Bool.false_and, Bool.false_eq_true, if_false]
    exact Ev.now
/-- What is known of costs that may be. -/
structure COk (rows : List (List Int)) (miss : Int) (P : Nat) : Prop where
  n : rows.length ≤ 64
  m : 0 ≤ miss ∧ miss ≤ 4096
  p : P ≤ 64
  row : ∀ r ∈ rows, r.length = P
  ent : ∀ r ∈ rows, ∀ x ∈ r, -1 ≤ x ∧ x ≤ 4096
theorem cok_of {rows : List (List Int)} {miss : Int} (h : chkB rows miss = true) : COk rows miss (rd rows 0).length := by
  simp only [chkB, Bool.and_eq_true, decide_eq_true_eq] at h
  have hr : ∀ r ∈ rows, r.length = (rd rows 0).length ∧ r.length ≤ 64 ∧ ∀ x ∈ r, -1 ≤ x ∧ x ≤ 4096 := fun r hr => by
    have := List.all_eq_true.1 h.2 r hr
    simp only [rowB, Bool.and_eq_true, decide_eq_true_eq] at this
    exact ⟨this.1.1, this.1.2, fun x hx => of_decide_eq_true (List.all_eq_true.1 this.2 x hx)⟩
  refine ⟨h.1.1, h.1.2, ?_, fun r q => (hr r q).1, fun r q => (hr r q).2.2⟩
  cases hrows : rows with
  | nil => simp [rd]; decide
  | cons a l =>
    have := hr a (by rw [hrows]; exact List.mem_cons_self ..)
    rw [hrows] at this
    exact this.1 ▸ this.2.1
/-! ### what is best -/
/-! ### the auction's state -/
/-- How many more bids there may be. -/
def sm : List Int → Int
  | [] => 0
  | x :: l => x + sm l
theorem sm_set : ∀ {l : List Int} {i : Nat} (h : i < l.length) (v : Int), sm (l.set i v) = sm l - l[i] + v
  | x :: l, 0, h, v => by simp only [List.set_cons_zero, sm, List.getElem_cons_zero]; omega
  | x :: l, i + 1, h, v => by
    have := sm_set (l := l) (i := i) (by simpa using h) v
    simp only [List.set_cons_succ, sm, List.getElem_cons_succ, this]; omega
/-- The numbers of an auction: n tracks, P plots. -/
structure Nm (rows : List (List Int)) (miss : Int) (n P : Nat) (S M D : Int) : Prop where
  c : COk rows miss P
  hn : rows.length = n
  hS : S = n + 1
  hM : M = -S * miss
  hD : D = S * miss + 1
section
variable {rows : List (List Int)} {miss : Int} {n P : Nat} {S M D : Int}
theorem Nm.row (h : Nm rows miss n P S M D) {t : Int} (ht : 0 ≤ t ∧ t < n) : (rd rows t).length = P ∧ ∀ x ∈ rd rows t, -1 ≤ x ∧ x ≤ 4096 := by
  have hm : rd rows t ∈ rows := rd_mem (by have := h.hn; omega)
  exact ⟨h.c.row _ hm, h.c.ent _ hm⟩
end
end Go.Proofs.YtacbficpehmlnaaDoor.Pure

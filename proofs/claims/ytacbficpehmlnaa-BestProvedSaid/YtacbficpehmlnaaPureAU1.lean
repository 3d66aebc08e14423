/- Pairs by bids: costs that may be; what is best for a track; a bid; the program's auction. -/
import Derived.Test.YtacbficpehmlnaaPureN3
namespace Go.Proofs.Ytacbficpehmlnaa.Pure
open Go.RowKit Go.Proofs.YtacbficpehmlnaaK Go.Proofs.Ytacbficpehmlnaa.GBQ
set_option linter.unusedVariables false
set_option linter.unusedSimpArgs false
set_option maxRecDepth 100000
theorem wsucc {i : Nat} (h : i < 1000000000) : w64 ((i : Int) + 1) = ((i + 1 : Nat) : Int) := w64_id (by omega)
theorem gdt {α : Type} (x : Option α) (d : α) : gd true x d = x := rfl
theorem gdf {α : Type} (x : Option α) (d : α) : gd false x d = some d := rfl
theorem rd_get {α : Type} [Inhabited α] {L : List α} {i : Nat} (h : i < L.length) : rd L (i : Int) = L[i] := by
  unfold rd; rw [Int.toNat_natCast, List.getD_eq_getElem?_getD, List.getElem?_eq_getElem h]; rfl
theorem rd_nat {α : Type} {cs : List α} {x : Int} (h : 0 ≤ x ∧ x < (cs.length : Int)) : ∃ i : Nat, (i : Int) = x ∧ i < cs.length := ⟨x.toNat, by omega, by omega⟩
theorem rd_mem {α : Type} [Inhabited α] {L : List α} {x : Int} (h : 0 ≤ x ∧ x < (L.length : Int)) : rd L x ∈ L := by
  obtain ⟨i, rfl, hi⟩ := rd_nat h
  rw [rd_get hi]; exact List.getElem_mem hi
theorem rd_set {α : Type} [Inhabited α] {l : List α} {i j : Int} {v : α} (hi : 0 ≤ i ∧ i < (l.length : Int)) (hj : 0 ≤ j ∧ j < (l.length : Int)) : rd (l.set i.toNat v) j = if i = j then v else rd l j := by
  obtain ⟨p, rfl, hp⟩ := rd_nat hi
  obtain ⟨q, rfl, hq⟩ := rd_nat hj
  rw [rd_get (by rw [List.length_set]; exact hq), rd_get hq, Int.toNat_natCast, List.getElem_set]
  by_cases h : p = q
  · subst h; simp
  · rw [if_neg h, if_neg (by omega)]
/-! ### costs that may be -/
def rowB (L : Nat) (r : List Int) : Bool := (decide (r.length = L) && decide (r.length ≤ 64)) && r.all fun n => decide (-1 ≤ n ∧ n ≤ 4096)
def chkB (rows : List (List Int)) (miss : Int) : Bool := decide (rows.length ≤ 64 ∧ 0 ≤ miss ∧ miss ≤ 4096) && rows.all (rowB (rd rows 0).length)
theorem chk_l1 {rows : List (List Int)} {miss : Int} {i : Nat} {R : List Int} {r : Option Int} (hR : R.length ≤ 64) (hi : i < 1000)
    (h : (R.all fun n => decide (-1 ≤ n ∧ n ≤ 4096)) = true → Ev (fun k => (cost_Check.hs k).l0 rows miss none rows (rows.length : Int) ((i + 1 : Nat) : Int)) r) (hf : (R.all fun n => decide (-1 ≤ n ∧ n ≤ 4096)) = false → r = some 1) :
    ∀ (n j : Nat), R.length = j + n → (∀ q, (hq : q < R.length) → q < j → -1 ≤ R[q] ∧ R[q] ≤ 4096) → Ev (fun k => (cost_Check.hs k).l1 rows miss none rows (rows.length : Int) (i : Int) R (R.length : Int) (j : Int)) r
  | 0, j, e, hq => by
    refine Ev.step (fun k => rfl) ?_
    simp only [cost_Check.hs, cost_Check.b1, if_neg (show ¬ (j : Int) < (R.length : Int) by omega), wsucc (show i < 1000000000 by omega)]
    refine h (List.all_eq_true.2 fun x hx => ?_)
    obtain ⟨q, hq1, rfl⟩ := List.getElem_of_mem hx
    exact decide_eq_true (hq q hq1 (by omega))
  | n + 1, j, e, hq => by
    have hj : j < R.length := by omega
    refine Ev.step (fun k => rfl) ?_
    simp only [cost_Check.hs, cost_Check.b1, if_pos (show (j : Int) < (R.length : Int) by omega), if_pos (show (0 : Int) ≤ (j : Int) ∧ (j : Int) < (R.length : Int) by omega), rd_get hj, wsucc (show j < 1000000000 by omega)]
    by_cases hb : -1 ≤ R[j] ∧ R[j] ≤ 4096
    · have e1 : (decide (R[j] < -1) || decide (4096 < R[j])) = false := by simp; omega
      simp only [e1, Bool.false_eq_true, if_false]
      refine chk_l1 hR hi h hf n (j + 1) (by omega) fun q hq1 hq2 => ?_
      by_cases e : q = j
      · subst e; exact hb
      · exact hq q hq1 (by omega)
    · have e1 : (decide (R[j] < -1) || decide (4096 < R[j])) = true := by
        refine Decidable.byContradiction fun hc => hb ?_; rw [Bool.not_eq_true] at hc; simp at hc; omega
      simp only [e1, if_true]
      rw [hf (by
        rw [Bool.eq_false_iff]; intro ha
        exact hb (of_decide_eq_true (List.all_eq_true.1 ha _ (List.getElem_mem hj))))]
      exact Ev.now
theorem drop_cons {α : Type} {L : List α} {i : Nat} (h : i < L.length) : L.drop i = L[i] :: L.drop (i + 1) := List.drop_eq_getElem_cons h
theorem chk_l0 {rows : List (List Int)} {miss : Int} (hl : rows.length ≤ 64) : ∀ (n i : Nat), rows.length = i + n → Ev (fun k => (cost_Check.hs k).l0 rows miss none rows (rows.length : Int) (i : Int)) (if (rows.drop i).all (rowB (rd rows 0).length) = true then none else some 1)
  | 0, i, e => by
    refine Ev.step (fun k => rfl) ?_
    simp only [cost_Check.hs, cost_Check.b0, if_neg (show ¬ (i : Int) < (rows.length : Int) by omega)]
    rw [List.drop_eq_nil_of_le (by omega)]; exact Ev.now
  | n + 1, i, e => by
    have hi : i < rows.length := by omega
    have ih := chk_l0 hl (miss := miss) n (i + 1) (by omega)
    refine Ev.step (fun k => rfl) ?_
    simp only [cost_Check.hs, cost_Check.b0, if_pos (show (i : Int) < (rows.length : Int) by omega), if_pos (show (0 : Int) ≤ (i : Int) ∧ (i : Int) < (rows.length : Int) by omega), if_pos (show (0 : Int) ≤ 0 ∧ 0 < (rows.length : Int) by omega), rd_get hi]
    rw [drop_cons hi, List.all_cons]
    by_cases hR : (rows[i]).length = (rd rows 0).length ∧ (rows[i]).length ≤ 64
    · have e1 : ((!decide (((rows[i]).length : Int) = ((rd rows 0).length : Int))) || decide (64 < ((rows[i]).length : Int))) = false := by simp; omega
      simp only [e1, Bool.false_eq_true, if_false]
      have e2 : rowB (rd rows 0).length rows[i] = (rows[i]).all fun n => decide (-1 ≤ n ∧ n ≤ 4096) := by
        unfold rowB; rw [decide_eq_true hR.1, decide_eq_true hR.2, Bool.true_and, Bool.true_and]
      rw [e2]
      exact chk_l1 (miss := miss) hR.2 (by omega) (fun h => by rw [h, Bool.true_and]; exact ih) (fun h => by rw [h, Bool.false_and]; rfl) (rows[i]).length 0 (by omega) (fun q _ h => by omega)
    · have e1 : ((!decide (((rows[i]).length : Int) = ((rd rows 0).length : Int))) || decide (64 < ((rows[i]).length : Int))) = true := by
        refine Decidable.byContradiction fun hc => hR ?_; rw [Bool.not_eq_true] at hc; simp at hc; omega
      simp only [e1, if_true]
      have e2 : rowB (rd rows 0).length rows[i] = false := by
        unfold rowB; rw [← Bool.decide_and, decide_eq_false hR, Bool.false_and]
      rw [e2, Bool.false_and]; exact Ev.now
theorem chk_ev (rows : List (List Int)) (miss : Int) : Ev (fun k => cost_Check.f k ⟨rows, miss⟩) (if chkB rows miss = true then none else some 1) := by
  unfold cost_Check.f chkB
  by_cases h : rows.length ≤ 64 ∧ 0 ≤ miss ∧ miss ≤ 4096
  · have e1 : ((decide (64 < (rows.length : Int)) || decide (miss < 0)) || decide (4096 < miss)) = false := by simp; omega
    simp only [e1, Bool.false_eq_true, if_false, decide_eq_true h, Bool.true_and]
    exact chk_l0 h.1 rows.length 0 (by omega)
  · have e1 : ((decide (64 < (rows.length : Int)) || decide (miss < 0)) || decide (4096 < miss)) = true := by
      refine Decidable.byContradiction fun hc => h ?_; rw [Bool.not_eq_true] at hc; simp at hc; omega
    simp only [e1, if_true, decide_eq_false h, Bool.false_and, Bool.false_eq_true, if_false]
    exact Ev.now
/-- What is known of costs that may be. -/
structure COk (rows : List (List Int)) (miss : Int) (P : Nat) : Prop where
  n : rows.length ≤ 64
  m : 0 ≤ miss ∧ miss ≤ 4096
  p : P ≤ 64
  row : ∀ r ∈ rows, r.length = P
  ent : ∀ r ∈ rows, ∀ x ∈ r, -1 ≤ x ∧ x ≤ 4096
theorem cok_of {rows : List (List Int)} {miss : Int} (h : chkB rows miss = true) : COk rows miss (rd rows 0).length := by
  simp only [chkB, Bool.and_eq_true, decide_eq_true_eq] at h
  have hr : ∀ r ∈ rows, r.length = (rd rows 0).length ∧ r.length ≤ 64 ∧ ∀ x ∈ r, -1 ≤ x ∧ x ≤ 4096 := fun r hr => by
    have := List.all_eq_true.1 h.2 r hr
    simp only [rowB, Bool.and_eq_true, decide_eq_true_eq] at this
    exact ⟨this.1.1, this.1.2, fun x hx => of_decide_eq_true (List.all_eq_true.1 this.2 x hx)⟩
  refine ⟨h.1.1, h.1.2, ?_, fun r q => (hr r q).1, fun r q => (hr r q).2.2⟩
  cases hrows : rows with
  | nil => simp [rd]; decide
  | cons a l =>
    have := hr a (by rw [hrows]; exact List.mem_cons_self ..)
    rw [hrows] at this
    exact this.1 ▸ this.2.1
/-! ### what is best -/
def bs (S : Int) (pr : List Int) : List Int → Nat → Int → Int → Int → Int × Int × Int
  | [], _, a, m, x => (a, m, x)
  | k :: r, p, a, m, x => if k < 0 then bs S pr r (p + 1) a m x else
      if m < -S * k - rd pr (p : Int) ∨ (-S * k - rd pr (p : Int) = m ∧ a = -1) then bs S pr r (p + 1) (p : Int) (-S * k - rd pr (p : Int)) m else
      if x < -S * k - rd pr (p : Int) then bs S pr r (p + 1) a m (-S * k - rd pr (p : Int)) else bs S pr r (p + 1) a m x
/-- What the search has found. -/
structure BOk (S M : Int) (pr row : List Int) (p : Nat) (a m x : Int) : Prop where
  mx : x ≤ m
  xM : M ≤ x
  none_ : a = -1 → m = M ∧ ∀ q, (h : q < row.length) → q < p → 0 ≤ row[q] → -S * row[q] - rd pr (q : Int) < M
  some_ : a ≠ -1 → ∃ q, ∃ h : q < row.length, q < p ∧ a = (q : Int) ∧ 0 ≤ row[q] ∧ m = -S * row[q] - rd pr (q : Int)
  rest : ∀ q, (h : q < row.length) → q < p → 0 ≤ row[q] → (q : Int) ≠ a → -S * row[q] - rd pr (q : Int) ≤ x
theorem bok_zero {S M : Int} {pr row : List Int} : BOk S M pr row 0 (-1) M M := ⟨by omega, by omega, fun _ => ⟨rfl, fun _ _ h => by omega⟩, fun h => absurd rfl h, fun _ _ h => by omega⟩
theorem bok_step {S M : Int} {pr row : List Int} {p : Nat} {a m x : Int} (h : BOk S M pr row p a m x) (hp : p < row.length) (hk : 0 ≤ row[p]) :
    (m < -S * row[p] - rd pr (p : Int) ∨ (-S * row[p] - rd pr (p : Int) = m ∧ a = -1) → BOk S M pr row (p + 1) (p : Int) (-S * row[p] - rd pr (p : Int)) m) ∧
    (¬ (m < -S * row[p] - rd pr (p : Int) ∨ (-S * row[p] - rd pr (p : Int) = m ∧ a = -1)) → BOk S M pr row (p + 1) a m (if x < -S * row[p] - rd pr (p : Int) then -S * row[p] - rd pr (p : Int) else x)) := by
  generalize hw : -S * row[p] - rd pr (p : Int) = w
  have h1 := h.mx; have h2 := h.xM
  constructor
  · intro hc
    refine ⟨by omega, by omega, fun e => by omega, fun _ => ⟨p, hp, by omega, rfl, hk, hw.symm⟩, fun q hq hqp hk' hne => ?_⟩
    have hq' : q < p := by omega
    by_cases ea : (q : Int) = a
    · obtain ⟨q', hq1, hq2, e1, e2, e3⟩ := h.some_ (by omega)
      have : q = q' := by omega
      subst this; omega
    · have := h.rest q hq hq' hk' ea; omega
  · intro hc
    have hx : x ≤ (if x < w then w else x) := by split <;> omega
    have hwx : w ≤ (if x < w then w else x) := by split <;> omega
    refine ⟨by split <;> omega, by omega, fun e => ?_, fun e => ?_, fun q hq hqp hk' hne => ?_⟩
    · obtain ⟨e1, e2⟩ := h.none_ e
      refine ⟨e1, fun q hq hqp hk' => ?_⟩
      by_cases eq : q = p
      · subst eq; omega
      · exact e2 q hq (by omega) hk'
    · obtain ⟨q', hq1, hq2, e1, e2, e3⟩ := h.some_ e
      exact ⟨q', hq1, by omega, e1, e2, e3⟩
    · by_cases eq : q = p
      · subst eq; omega
      · have := h.rest q hq (by omega) hk' hne; omega
theorem bok_skip {S M : Int} {pr row : List Int} {p : Nat} {a m x : Int} (h : BOk S M pr row p a m x) (hp : p < row.length) (hk : row[p] < 0) : BOk S M pr row (p + 1) a m x := by
  refine ⟨h.mx, h.xM, fun e => ⟨(h.none_ e).1, fun q hq hqp hk' => ?_⟩, fun e => ?_, fun q hq hqp hk' hne => ?_⟩
  · by_cases eq : q = p
    · subst eq; omega
    · exact (h.none_ e).2 q hq (by omega) hk'
  · obtain ⟨q', hq1, hq2, e1, e2, e3⟩ := h.some_ e
    exact ⟨q', hq1, by omega, e1, e2, e3⟩
  · by_cases eq : q = p
    · subst eq; omega
    · exact h.rest q hq (by omega) hk' hne
theorem bs_ok {S M : Int} {pr row : List Int} : ∀ (n p : Nat) (a m x : Int), row.length = p + n → BOk S M pr row p a m x → BOk S M pr row row.length (bs S pr (row.drop p) p a m x).1 (bs S pr (row.drop p) p a m x).2.1 (bs S pr (row.drop p) p a m x).2.2
  | 0, p, a, m, x, e, h => by
    rw [List.drop_eq_nil_of_le (by omega), bs]
    have : p = row.length := by omega
    subst this; exact h
  | n + 1, p, a, m, x, e, h => by
    have hp : p < row.length := by omega
    rw [drop_cons hp, bs]
    by_cases hk : row[p] < 0
    · simp only [if_pos hk]; exact bs_ok n (p + 1) a m x (by omega) (bok_skip h hp hk)
    · have hs := bok_step h hp (by omega)
      simp only [if_neg hk]
      by_cases hc : m < -S * row[p] - rd pr (p : Int) ∨ (-S * row[p] - rd pr (p : Int) = m ∧ a = -1)
      · simp only [if_pos hc]; exact bs_ok n (p + 1) _ _ _ (by omega) (hs.1 hc)
      · simp only [if_neg hc]
        have := hs.2 hc
        by_cases hx : x < -S * row[p] - rd pr (p : Int)
        · simp only [if_pos hx] at this ⊢; exact bs_ok n (p + 1) _ _ _ (by omega) this
        · simp only [if_neg hx] at this ⊢; exact bs_ok n (p + 1) _ _ _ (by omega) this
/-! ### the auction's state -/
structure AS where
  pr : List Int
  ow : List Int
  ha : List Int
  wa : List Int
/-- A track's bid. -/
def bid (S M : Int) (rows : List (List Int)) (s : AS) (t : Int) : AS :=
  let b := bs S s.pr (rd rows t) 0 (-1) M M
  if b.1 = -1 then s else
    if rd s.ow b.1 = -1 then ⟨s.pr.set b.1.toNat (rd s.pr b.1 + (b.2.1 - b.2.2 + 1)), s.ow.set b.1.toNat t, s.ha.set t.toNat b.1, s.wa⟩
    else ⟨s.pr.set b.1.toNat (rd s.pr b.1 + (b.2.1 - b.2.2 + 1)), s.ow.set b.1.toNat t, (s.ha.set (rd s.ow b.1).toNat (-1)).set t.toNat b.1, s.wa ++ [rd s.ow b.1]⟩
/-- What holds all the time: n tracks, P plots, prices up to D. -/
structure AI (n P : Nat) (D : Int) (s : AS) : Prop where
  lp : s.pr.length = P
  lo : s.ow.length = P
  lh : s.ha.length = n
  lw : s.wa.length ≤ n
  pr : ∀ x ∈ s.pr, 0 ≤ x ∧ x ≤ D
  ow : ∀ x ∈ s.ow, x = -1 ∨ (0 ≤ x ∧ x < n)
  ha : ∀ x ∈ s.ha, x = -1 ∨ (0 ≤ x ∧ x < P)
  mt : ∀ p t : Int, 0 ≤ p ∧ p < P → 0 ≤ t ∧ t < n → (rd s.ow p = t ↔ rd s.ha t = p)
  wt : ∀ t ∈ s.wa, (0 ≤ t ∧ t < n) ∧ rd s.ha t = -1
  wn : s.wa.Nodup
/-- How many more bids there may be. -/
def sm : List Int → Int
  | [] => 0
  | x :: l => x + sm l
def oc : List Int → Int
  | [] => 0
  | x :: l => (if x = -1 then 0 else 1) + oc l
def pot (D : Int) (s : AS) : Int := D * (s.pr.length : Int) - sm s.pr + (s.wa.length : Int) + oc s.ow
theorem sm_set : ∀ {l : List Int} {i : Nat} (h : i < l.length) (v : Int), sm (l.set i v) = sm l - l[i] + v
  | x :: l, 0, h, v => by simp only [List.set_cons_zero, sm, List.getElem_cons_zero]; omega
  | x :: l, i + 1, h, v => by
    have := sm_set (l := l) (i := i) (by simpa using h) v
    simp only [List.set_cons_succ, sm, List.getElem_cons_succ, this]; omega
theorem oc_set : ∀ {l : List Int} {i : Nat} (h : i < l.length) (v : Int), oc (l.set i v) = oc l - (if l[i] = -1 then 0 else 1) + (if v = -1 then 0 else 1)
  | x :: l, 0, h, v => by simp only [List.set_cons_zero, oc, List.getElem_cons_zero]; omega
  | x :: l, i + 1, h, v => by
    have := oc_set (l := l) (i := i) (by simpa using h) v
    simp only [List.set_cons_succ, oc, List.getElem_cons_succ, this]; omega
theorem oc_nonneg : ∀ l, 0 ≤ oc l
  | [] => by simp [oc]
  | x :: l => by have := oc_nonneg l; simp only [oc]; split <;> omega
theorem sm_le {D : Int} : ∀ {l : List Int}, (∀ x ∈ l, 0 ≤ x ∧ x ≤ D) → 0 ≤ sm l ∧ sm l ≤ D * (l.length : Int)
  | [], _ => by simp [sm]
  | x :: l, h => by
    have h1 := h x (List.mem_cons_self ..)
    have h2 := sm_le (l := l) fun y hy => h y (List.mem_cons_of_mem _ hy)
    simp only [sm, List.length_cons]
    rw [show ((l.length + 1 : Nat) : Int) = (l.length : Int) + 1 by omega, Int.mul_add]
    omega
theorem pot_wa {n P : Nat} {D : Int} {s : AS} (h : AI n P D s) : (s.wa.length : Int) ≤ pot D s := by
  have h1 := sm_le h.pr; have h2 := oc_nonneg s.ow
  unfold pot; omega
/-- The numbers of an auction: n tracks, P plots. -/
structure Nm (rows : List (List Int)) (miss : Int) (n P : Nat) (S M D : Int) : Prop where
  c : COk rows miss P
  hn : rows.length = n
  hS : S = n + 1
  hM : M = -S * miss
  hD : D = S * miss + 1
theorem Nm.bnd {rows : List (List Int)} {miss : Int} {n P : Nat} {S M D : Int} (h : Nm rows miss n P S M D) : (1 ≤ S ∧ S ≤ 65) ∧ (0 ≤ -M ∧ -M ≤ 266240) ∧ D = -M + 1 := by
  have h1 := h.c.n; have h2 := h.hn; have h3 := h.hS; have h4 := h.c.m
  have h5 : 0 ≤ S * miss := Int.mul_nonneg (by omega) (by omega)
  have h6 : S * miss ≤ 65 * 4096 := Int.mul_le_mul (by omega) (by omega) (by omega) (by omega)
  have h7 := h.hM; rw [Int.neg_mul] at h7
  have h8 := h.hD
  omega
theorem Nm.prod {rows : List (List Int)} {miss : Int} {n P : Nat} {S M D : Int} (h : Nm rows miss n P S M D) {k : Int} (hk : -1 ≤ k ∧ k ≤ 4096) : -65 ≤ S * k ∧ S * k ≤ 266240 := by
  have h1 := h.bnd.1
  constructor
  · have h5 : S * (-1) ≤ S * k := Int.mul_le_mul_of_nonneg_left hk.1 (by omega); omega
  · have h5 : S * k ≤ S * 4096 := Int.mul_le_mul_of_nonneg_left hk.2 (by omega); omega
section
variable {rows : List (List Int)} {miss : Int} {n P : Nat} {S M D : Int}
theorem Nm.row (h : Nm rows miss n P S M D) {t : Int} (ht : 0 ≤ t ∧ t < n) : (rd rows t).length = P ∧ ∀ x ∈ rd rows t, -1 ≤ x ∧ x ≤ 4096 := by
  have hm : rd rows t ∈ rows := rd_mem (by have := h.hn; omega)
  exact ⟨h.c.row _ hm, h.c.ent _ hm⟩
/-- What a bid has found. -/
theorem bs_all (h : Nm rows miss n P S M D) {s : AS} (ha : AI n P D s) {t : Int} (ht : 0 ≤ t ∧ t < n) : BOk S M s.pr (rd rows t) P (bs S s.pr (rd rows t) 0 (-1) M M).1 (bs S s.pr (rd rows t) 0 (-1) M M).2.1 (bs S s.pr (rd rows t) 0 (-1) M M).2.2 := by
  have := bs_ok (S := S) (M := M) (pr := s.pr) (row := rd rows t) (rd rows t).length 0 (-1) M M (by omega) bok_zero
  rw [List.drop_zero, (h.row ht).1] at this
  exact this
theorem set_mem {l : List Int} {i : Nat} {v x : Int} (h : x ∈ l.set i v) : x ∈ l ∨ x = v := List.mem_or_eq_of_mem_set h
theorem bid_ai (h : Nm rows miss n P S M D) {s : AS} (hs : AI n P D s) {t : Int} (ht : 0 ≤ t ∧ t < n) (hh : rd s.ha t = -1) (hw : t ∉ s.wa) (hl : s.wa.length + 1 ≤ n) : AI n P D (bid S M rows s t) ∧ pot D (bid S M rows s t) ≤ pot D s ∧ s.wa.length ≤ (bid S M rows s t).wa.length := by
  have hb := bs_all h hs ht
  have hn := h.bnd
  unfold bid
  generalize bs S s.pr (rd rows t) 0 (-1) M M = b at hb
  obtain ⟨a, m, x⟩ := b
  simp only at hb ⊢
  by_cases ha : a = -1
  · rw [if_pos ha]; exact ⟨hs, Int.le_refl _, Nat.le_refl _⟩
  · rw [if_neg ha]
    obtain ⟨q, hq, hqP, rfl, hk, hm⟩ := hb.some_ ha
    have hrow := h.row ht
    have hent := hrow.2 _ (List.getElem_mem hq)
    have hprod := h.prod hent
    have hprod0 : 0 ≤ S * (rd rows t)[q] := Int.mul_nonneg (by omega) hk
    rw [Int.neg_mul] at hm
    have hmx := hb.mx; have hxM := hb.xM
    have hap : 0 ≤ (q : Int) ∧ (q : Int) < (s.pr.length : Int) := by have := hs.lp; omega
    have hao : 0 ≤ (q : Int) ∧ (q : Int) < (s.ow.length : Int) := by have := hs.lo; omega
    have hth : 0 ≤ t ∧ t < (s.ha.length : Int) := by have := hs.lh; omega
    have hpr := hs.pr _ (rd_mem hap)
    have hP : 0 ≤ (q : Int) ∧ (q : Int) < P := by omega
    have hpr' : ∀ y ∈ s.pr.set (q : Int).toNat (rd s.pr (q : Int) + (m - x + 1)), 0 ≤ y ∧ y ≤ D := fun y hy => by
      rcases set_mem hy with hy | rfl
      · exact hs.pr y hy
      · omega
    have hsm : sm (s.pr.set (q : Int).toNat (rd s.pr (q : Int) + (m - x + 1))) = sm s.pr + (m - x + 1) := by
      rw [Int.toNat_natCast, sm_set (by omega), rd_get (by omega)]; omega
    have hoc : oc (s.ow.set (q : Int).toNat t) = oc s.ow - (if rd s.ow (q : Int) = -1 then 0 else 1) + 1 := by
      rw [Int.toNat_natCast, oc_set (by omega), rd_get (by omega), if_neg (show ¬ t = -1 by omega)]
    have howm : ∀ y ∈ s.ow.set (q : Int).toNat t, y = -1 ∨ (0 ≤ y ∧ y < n) := fun y hy => by
      rcases set_mem hy with hy | rfl
      · exact hs.ow y hy
      · exact .inr ht
    by_cases ho : rd s.ow (q : Int) = -1
    · rw [if_pos ho]
      refine ⟨⟨by simpa using hs.lp, by simpa using hs.lo, by simpa using hs.lh, hs.lw, hpr', howm, fun y hy => ?_, fun p t' hp ht' => ?_, fun t' ht' => ?_, hs.wn⟩, ?_, Nat.le_refl _⟩
      · rcases set_mem hy with hy | rfl
        · exact hs.ha y hy
        · exact .inr hP
      · have hp2 : 0 ≤ p ∧ p < (s.ow.length : Int) := by have := hs.lo; omega
        have ht2 : 0 ≤ t' ∧ t' < (s.ha.length : Int) := by have := hs.lh; omega
        have hmt := hs.mt p t' hp ht'
        rw [rd_set hao hp2, rd_set hth ht2]
        by_cases e1 : (q : Int) = p
        · rw [if_pos e1]
          by_cases e2 : t = t'
          · rw [if_pos e2]; exact ⟨fun _ => e1, fun _ => e2⟩
          · rw [if_neg e2]
            refine ⟨fun z => absurd z e2, fun z => ?_⟩
            have := hmt.2 z; rw [← e1] at this; omega
        · rw [if_neg e1]
          by_cases e2 : t = t'
          · rw [if_pos e2]
            refine ⟨fun z => ?_, fun z => absurd z e1⟩
            have := hmt.1 z; rw [← e2] at this; omega
          · rw [if_neg e2]; exact hmt
      · have := hs.wt t' ht'
        refine ⟨this.1, ?_⟩
        rw [rd_set hth (by have := hs.lh; omega), if_neg (fun (e : t = t') => hw (e ▸ ht'))]; exact this.2
      · unfold pot
        simp only [List.length_set, hsm, hoc, ho, if_true]; omega
    · rw [if_neg ho]
      have how := (hs.ow _ (rd_mem hao)).resolve_left ho
      generalize hold : rd s.ow (q : Int) = o at *
      have hoh : 0 ≤ o ∧ o < (s.ha.length : Int) := by have := hs.lh; omega
      have hot : o ≠ t := fun e => by
        have := (hs.mt _ _ hP how).1 hold; rw [e, hh] at this; omega
      have hha1 : rd s.ha o = (q : Int) := (hs.mt _ _ hP how).1 hold
      have hlen1 : (s.ha.set o.toNat (-1)).length = s.ha.length := List.length_set ..
      refine ⟨⟨by simpa using hs.lp, by simpa using hs.lo, by simpa using hs.lh, by simp; omega, hpr', howm, fun y hy => ?_, fun p t' hp ht' => ?_, fun t' ht' => ?_, ?_⟩, ?_, by simp⟩
      · rcases set_mem hy with hy | rfl
        · rcases set_mem hy with hy | rfl
          · exact hs.ha y hy
          · exact .inl rfl
        · exact .inr hP
      · have hp2 : 0 ≤ p ∧ p < (s.ow.length : Int) := by have := hs.lo; omega
        have ht2 : 0 ≤ t' ∧ t' < (s.ha.length : Int) := by have := hs.lh; omega
        have hmt := hs.mt p t' hp ht'
        rw [rd_set hao hp2, rd_set (by rw [hlen1]; exact hth) (by rw [hlen1]; exact ht2), rd_set hoh ht2]
        by_cases e1 : (q : Int) = p
        · rw [if_pos e1]
          by_cases e2 : t = t'
          · rw [if_pos e2]; exact ⟨fun _ => e1, fun _ => e2⟩
          · rw [if_neg e2]
            refine ⟨fun z => absurd z e2, fun z => ?_⟩
            by_cases e3 : o = t'
            · rw [if_pos e3] at z; omega
            · rw [if_neg e3] at z
              have := hmt.2 z; rw [← e1, hold] at this; exact absurd this e3
        · rw [if_neg e1]
          by_cases e2 : t = t'
          · rw [if_pos e2]
            refine ⟨fun z => ?_, fun z => absurd z e1⟩
            have := hmt.1 z; rw [← e2] at this; omega
          · rw [if_neg e2]
            by_cases e3 : o = t'
            · rw [if_pos e3]
              refine ⟨fun z => ?_, fun z => by omega⟩
              have := hmt.1 z; rw [← e3, hha1] at this; exact absurd this e1
            · rw [if_neg e3]; exact hmt
      · have hcases : (0 ≤ t' ∧ t' < (n : Int)) ∧ t' ≠ t ∧ (t' = o ∨ rd s.ha t' = -1) := by
          rcases List.mem_append.1 ht' with hq' | hq'
          · have := hs.wt t' hq'
            exact ⟨this.1, fun (e : t' = t) => hw (e ▸ hq'), .inr this.2⟩
          · simp at hq'; subst hq'; exact ⟨how, hot, .inl rfl⟩
        refine ⟨hcases.1, ?_⟩
        have ht2 : 0 ≤ t' ∧ t' < (s.ha.length : Int) := by have := hs.lh; omega
        rw [rd_set (by rw [hlen1]; exact hth) (by rw [hlen1]; exact ht2), if_neg (fun e => hcases.2.1 e.symm), rd_set hoh ht2]
        rcases hcases.2.2 with e | e
        · rw [if_pos e.symm]
        · split
          · rfl
          · exact e
      · rw [List.nodup_append]
        refine ⟨hs.wn, by simp, fun y hy z hz => ?_⟩
        simp at hz; subst hz
        intro e; subst e
        have := (hs.wt y hy).2
        rw [hha1] at this; omega
      · unfold pot
        simp only [List.length_set, List.length_append, List.length_singleton, hsm, hoc, if_neg ho]; omega
end
end Go.Proofs.Ytacbficpehmlnaa.Pure

/- Pairs by bids: the program's auction, bid by bid, and that it ends. -/
import Derived.Test.YtacbficpehmlnaaPureAU1
namespace Go.Proofs.Ytacbficpehmlnaa.Pure
open Go.RowKit Go.Proofs.YtacbficpehmlnaaK Go.Proofs.Ytacbficpehmlnaa.GBQ
set_option linter.unusedVariables false
set_option linter.unusedSimpArgs false
set_option maxRecDepth 100000
section
variable {rows : List (List Int)} {miss : Int} {n P : Nat} {S M D : Int}
theorem val_eq (h : Nm rows miss n P S M D) {k q : Int} (hk : -1 ≤ k ∧ k ≤ 4096) (hq : 0 ≤ q ∧ q ≤ D) : w64 (w64 (w64 (0 - S) * k) - q) = -S * k - q ∧ -1000000 ≤ -S * k - q ∧ -S * k - q ≤ 65 := by
  have h1 := h.bnd; have h2 := h.prod hk
  have e : -S * k = -(S * k) := Int.neg_mul ..
  rw [show (0 : Int) - S = -S by omega, w64_id (x := -S) (by omega), e, w64_id (x := -(S * k)) (by omega), w64_id (by omega)]
  exact ⟨rfl, by omega, by omega⟩
theorem best_l0 (h : Nm rows miss n P S M D) {pr ow ha wa row : List Int} {bids : Int} (hp : pr.length = P) (hr : row.length = P) (hpr : ∀ x ∈ pr, 0 ≤ x ∧ x ≤ D) (hrow : ∀ x ∈ row, -1 ≤ x ∧ x ≤ 4096) :
    ∀ (m p : Nat) (a w x : Int), row.length = p + m → Ev (fun k => (auction_sale_best.hs k).l0 rows miss S pr ow ha wa bids a w x row (row.length : Int) (p : Int)) (bs S pr (row.drop p) p a w x)
  | 0, p, a, w, x, e => by
    refine Ev.step (fun k => rfl) ?_
    simp only [auction_sale_best.hs, auction_sale_best.b0, if_neg (show ¬ (p : Int) < (row.length : Int) by omega)]
    rw [List.drop_eq_nil_of_le (by omega), bs]; exact Ev.now
  | m + 1, p, a, w, x, e => by
    have hi : p < row.length := by omega
    have h64 := h.c.p
    have hv := val_eq h (hrow _ (List.getElem_mem hi)) (hpr _ (rd_mem (x := (p : Int)) (show 0 ≤ (p : Int) ∧ (p : Int) < (pr.length : Int) by omega)))
    refine Ev.step (fun k => rfl) ?_
    simp only [auction_sale_best.hs, auction_sale_best.b0, if_pos (show (p : Int) < (row.length : Int) by omega), if_pos (show (0 : Int) ≤ (p : Int) ∧ (p : Int) < (row.length : Int) by omega), rd_get hi, wsucc (show p < 1000000000 by omega), if_pos (show (0 : Int) ≤ (p : Int) ∧ (p : Int) < (pr.length : Int) by omega), hv.1]
    rw [drop_cons hi, bs]
    by_cases hk : row[p] < 0
    · simp only [if_pos hk]; exact best_l0 h hp hr hpr hrow m (p + 1) _ _ _ (by omega)
    · simp only [if_neg hk]
      by_cases hc : w < -S * row[p] - rd pr (p : Int) ∨ (-S * row[p] - rd pr (p : Int) = w ∧ a = -1)
      · have e1 : (decide (w < -S * row[p] - rd pr (p : Int)) || (decide (-S * row[p] - rd pr (p : Int) = w) && decide (a = -1))) = true := by simpa using hc
        simp only [e1, if_true, if_pos hc]; exact best_l0 h hp hr hpr hrow m (p + 1) _ _ _ (by omega)
      · have e1 : (decide (w < -S * row[p] - rd pr (p : Int)) || (decide (-S * row[p] - rd pr (p : Int) = w) && decide (a = -1))) = false := by rw [Bool.eq_false_iff]; intro hx; exact hc (by simpa using hx)
        simp only [e1, Bool.false_eq_true, if_false, if_neg hc]
        by_cases hx : x < -S * row[p] - rd pr (p : Int)
        · simp only [if_pos hx]; exact best_l0 h hp hr hpr hrow m (p + 1) _ _ _ (by omega)
        · simp only [if_neg hx]; exact best_l0 h hp hr hpr hrow m (p + 1) _ _ _ (by omega)
theorem best_ev (h : Nm rows miss n P S M D) {s : AS} (hs : AI n P D s) {t bids : Int} (ht : 0 ≤ t ∧ t < n) : Ev (fun k => auction_sale_best.f k ⟨⟨rows, miss⟩, S, s.pr, s.ow, s.ha, s.wa, bids⟩ t) (bs S s.pr (rd rows t) 0 (-1) M M) := by
  have hb := h.bnd; have hpr := h.prod (k := miss) (by have := h.c.m; omega); have hn := h.hn
  have e : w64 (w64 (0 - S) * miss) = M := by
    rw [show (0 : Int) - S = -S by omega, w64_id (x := -S) (by omega), ← h.hM, w64_id (by omega)]
  unfold auction_sale_best.f
  simp only [if_pos (show (0 : Int) ≤ t ∧ t < (rows.length : Int) by omega), e]
  have := best_l0 h (ow := s.ow) (ha := s.ha) (wa := s.wa) (bids := bids) hs.lp (h.row ht).1 hs.pr (h.row ht).2 (rd rows t).length 0 (-1) M M (by omega)
  rw [List.drop_zero] at this
  exact this
/-- A bid of the program's. -/
theorem bid_ev (h : Nm rows miss n P S M D) {s : AS} (hs : AI n P D s) {t bids : Int} (ht : 0 ≤ t ∧ t < n) (hb : 0 ≤ bids ∧ bids ≤ 1000000000) (hl : s.wa.length + 1 ≤ n) :
    Ev (fun k => auction_sale_bid.f k ⟨⟨rows, miss⟩, S, s.pr, s.ow, s.ha, s.wa, bids⟩ t) ⟨⟨rows, miss⟩, S, (bid S M rows s t).pr, (bid S M rows s t).ow, (bid S M rows s t).ha, (bid S M rows s t).wa, bids + 1⟩ := by
  have hbo := bs_all h hs ht
  have hn := h.bnd; have hnn := h.hn; have h64 := h.c.n
  unfold auction_sale_bid.f bid
  simp only [w64_id (show -9223372036854775808 ≤ bids + 1 ∧ bids + 1 ≤ 9223372036854775807 by omega)]
  refine Ev.bind (best_ev h hs ht) ?_
  generalize bs S s.pr (rd rows t) 0 (-1) M M = b at hbo
  obtain ⟨a, m, x⟩ := b
  simp only at hbo ⊢
  by_cases ha : a = -1
  · simp only [if_pos ha]; exact Ev.now
  · simp only [if_neg ha]
    obtain ⟨q, hq, hqP, rfl, hk, hm⟩ := hbo.some_ ha
    have hent := (h.row ht).2 _ (List.getElem_mem hq)
    have hprod := h.prod hent
    rw [Int.neg_mul] at hm
    have hmx := hbo.mx; have hxM := hbo.xM
    have hap : 0 ≤ (q : Int) ∧ (q : Int) < (s.pr.length : Int) := by have := hs.lp; omega
    have hao : 0 ≤ (q : Int) ∧ (q : Int) < (s.ow.length : Int) := by have := hs.lo; omega
    have hth : 0 ≤ t ∧ t < (s.ha.length : Int) := by have := hs.lh; omega
    have hpr := hs.pr _ (rd_mem hap)
    have e1 : w64 (rd s.pr (q : Int) + w64 (w64 (m - x) + 1)) = rd s.pr (q : Int) + (m - x + 1) := by rw [w64_id (x := m - x) (by omega), w64_id (x := m - x + 1) (by omega), w64_id (by omega)]
    simp only [if_pos hao]
    by_cases ho : rd s.ow (q : Int) = -1
    · simp only [if_pos ho, auction_sale_bid.j1, if_pos hap, if_pos hao, if_pos hth, e1]; exact Ev.now
    · have how := (hs.ow _ (rd_mem hao)).resolve_left ho
      have hoh : 0 ≤ rd s.ow (q : Int) ∧ rd s.ow (q : Int) < (s.ha.length : Int) := by have := hs.lh; omega
      simp only [if_neg ho, if_pos hoh, if_pos (show s.wa.length + 1 ≤ 17592186044288 by omega), auction_sale_bid.j1, if_pos hap, if_pos hao, List.length_set, if_pos hth, e1]; exact Ev.now
/-- The head of who waits is taken off. -/
def AS.pop (s : AS) : AS := ⟨s.pr, s.ow, s.ha, s.wa.tail⟩
theorem pop_ai {s : AS} (hs : AI n P D s) {t : Int} {w : List Int} (hw : s.wa = t :: w) : AI n P D s.pop ∧ (0 ≤ t ∧ t < n) ∧ rd s.ha t = -1 ∧ t ∉ s.pop.wa ∧ s.pop.wa.length + 1 ≤ n ∧ pot D s = pot D s.pop + 1 := by
  have h1 := hs.wt t (by rw [hw]; exact List.mem_cons_self ..)
  have h2 := hs.wn; rw [hw, List.nodup_cons] at h2
  have h3 := hs.lw; rw [hw] at h3
  have e : s.pop.wa = w := by show s.wa.tail = w; rw [hw]; rfl
  refine ⟨⟨hs.lp, hs.lo, hs.lh, by rw [e]; simp at h3; omega, hs.pr, hs.ow, hs.ha, hs.mt, fun t' ht' => hs.wt t' (by rw [hw]; rw [e] at ht'; exact List.mem_cons_of_mem _ ht'), by rw [e]; exact h2.2⟩, h1.1, h1.2, by rw [e]; exact h2.1, by rw [e]; simpa using h3, ?_⟩
  unfold pot; rw [e, hw]; simp only [List.length_cons]; show _ = D * (s.pr.length : Int) - sm s.pr + (w.length : Int) + oc s.ow + 1; omega
/-- All bids, one behind the other. -/
def sale (S M : Int) (rows : List (List Int)) : Nat → AS → AS × Nat
  | 0, s => (s, 0)
  | f + 1, s => match s.wa with
    | [] => (s, 0)
    | t :: _ => ((sale S M rows f (bid S M rows s.pop t)).1, (sale S M rows f (bid S M rows s.pop t)).2 + 1)
theorem cut1 {w : List Int} {t : Int} : cut (t :: w) 1 (((t :: w).length : Nat) : Int) = w := by
  unfold cut; rw [Int.toNat_natCast, List.take_length]; rfl
theorem run_l0 (h : Nm rows miss n P S M D) : ∀ (f : Nat) (s : AS) (b : Nat), AI n P D s → pot D s ≤ (f : Int) → b + f ≤ 1000000000 →
    Ev (fun k => (auction_Run.hs k).l0 rows miss S s.pr s.ow s.ha s.wa (b : Int)) ((sale S M rows f s).1.ha, ((b + (sale S M rows f s).2 : Nat) : Int), none) ∧
    AI n P D (sale S M rows f s).1 ∧ (sale S M rows f s).1.wa = [] ∧ ((sale S M rows f s).2 : Int) ≤ pot D s ∧ s.wa.length ≤ (sale S M rows f s).2 := by
  intro f
  induction f with
  | zero =>
    intro s b hs hp hb
    have := pot_wa hs
    have hw : s.wa = [] := List.eq_nil_of_length_eq_zero (by omega)
    refine ⟨?_, hs, hw, by show (0 : Int) ≤ _; omega, by rw [hw]; simp⟩
    refine Ev.step (fun k => rfl) ?_
    simp only [auction_Run.hs, auction_Run.b0, hw, List.length_nil, if_neg (show ¬ (0 : Int) < ((0 : Nat) : Int) by omega)]
    exact Ev.now
  | succ f ih =>
    intro s b hs hp hb
    cases hw : s.wa with
    | nil =>
      have e : sale S M rows (f + 1) s = (s, 0) := by rw [sale, hw]
      have := pot_wa hs
      rw [e]
      refine ⟨?_, hs, hw, by show (0 : Int) ≤ _; omega, by simp⟩
      refine Ev.step (fun k => rfl) ?_
      simp only [auction_Run.hs, auction_Run.b0, List.length_nil, if_neg (show ¬ (0 : Int) < ((0 : Nat) : Int) by omega)]
      exact Ev.now
    | cons t w =>
      obtain ⟨h1, ht, hh, hnw, hl, hpp⟩ := pop_ai hs hw
      obtain ⟨h2, h3, h5⟩ := bid_ai h h1 ht hh hnw hl
      obtain ⟨i1, i2, i3, i4, i5⟩ := ih (bid S M rows s.pop t) (b + 1) h2 (by omega) (by omega)
      have e : sale S M rows (f + 1) s = ((sale S M rows f (bid S M rows s.pop t)).1, (sale S M rows f (bid S M rows s.pop t)).2 + 1) := by rw [sale, hw]
      have hpw : s.pop.wa = w := by show s.wa.tail = w; rw [hw]; rfl
      rw [e]
      refine ⟨?_, i2, i3, by show ((_ + 1 : Nat) : Int) ≤ _; omega, by rw [hpw] at h5; simp only [List.length_cons]; omega⟩
      refine Ev.step (fun k => rfl) ?_
      have hlen : (0 : Int) < (((t :: w).length : Nat) : Int) := by simp only [List.length_cons]; omega
      have e0 : rd (t :: w) 0 = t := rfl
      simp only [auction_Run.hs, auction_Run.b0, if_pos hlen, if_pos (show (0 : Int) ≤ 0 ∧ (0 : Int) < (((t :: w).length : Nat) : Int) from ⟨by omega, hlen⟩), if_pos (show (0 : Int) ≤ 1 ∧ (1 : Int) ≤ (((t :: w).length : Nat) : Int) ∧ (((t :: w).length : Nat) : Int) ≤ (((t :: w).length : Nat) : Int) by omega), cut1, e0]
      have hbe := bid_ev h h1 ht (show 0 ≤ (b : Int) ∧ (b : Int) ≤ 1000000000 by omega) hl
      rw [hpw] at hbe
      refine Ev.bind hbe ?_
      rw [show ((b + ((sale S M rows f (bid S M rows s.pop t)).2 + 1) : Nat) : Int) = ((b + 1 + (sale S M rows f (bid S M rows s.pop t)).2 : Nat) : Int) by omega]
      exact i1
/-! ### the begin -/
theorem opened_l1 (h : Nm rows miss n P S M D) {pr ow : List Int} : ∀ (m i : Nat), rows.length = i + m → Ev (fun k => (auction_opened.hs k).l1 rows miss S pr ow (List.replicate i (-1)) ((List.range i).map fun (x : Nat) => (x : Int)) 0 (rows.length : Int) (i : Int)) ⟨⟨rows, miss⟩, S, pr, ow, List.replicate rows.length (-1), (List.range rows.length).map fun (x : Nat) => (x : Int), 0⟩
  | 0, i, e => by
    refine Ev.step (fun k => rfl) ?_
    simp only [auction_opened.hs, auction_opened.b1, if_neg (show ¬ (i : Int) < (rows.length : Int) by omega)]
    rw [show i = rows.length by omega]; exact Ev.now
  | m + 1, i, e => by
    have h64 := h.c.n
    refine Ev.step (fun k => rfl) ?_
    simp only [auction_opened.hs, auction_opened.b1, if_pos (show (i : Int) < (rows.length : Int) by omega), List.length_replicate, List.length_map, List.length_range, if_pos (show i + 1 ≤ 17592186044288 by omega), wsucc (show i < 1000000000 by omega)]
    have := opened_l1 h (pr := pr) (ow := ow) m (i + 1) (by omega)
    rw [List.replicate_succ', List.range_succ, List.map_append] at this
    exact this
theorem opened_l0 (h : Nm rows miss n P S M D) {pr : List Int} (hp : pr.length ≤ 64) : ∀ (m i : Nat), pr.length = i + m → Ev (fun k => (auction_opened.hs k).l0 rows miss rows miss S pr (List.replicate i (-1)) [] [] 0 (pr.length : Int) (i : Int)) ⟨⟨rows, miss⟩, S, pr, List.replicate pr.length (-1), List.replicate rows.length (-1), (List.range rows.length).map fun (x : Nat) => (x : Int), 0⟩
  | 0, i, e => by
    refine Ev.step (fun k => rfl) ?_
    simp only [auction_opened.hs, auction_opened.b0, if_neg (show ¬ (i : Int) < (pr.length : Int) by omega)]
    rw [show i = pr.length by omega]
    exact opened_l1 h rows.length 0 (by omega)
  | m + 1, i, e => by
    refine Ev.step (fun k => rfl) ?_
    simp only [auction_opened.hs, auction_opened.b0, if_pos (show (i : Int) < (pr.length : Int) by omega), List.length_replicate, if_pos (show i + 1 ≤ 17592186044288 by omega), wsucc (show i < 1000000000 by omega)]
    have := opened_l0 h hp m (i + 1) (by omega)
    rw [List.replicate_succ'] at this
    exact this
def AS.zero (n P : Nat) : AS := ⟨List.replicate P 0, List.replicate P (-1), List.replicate n (-1), (List.range n).map fun (x : Nat) => (x : Int)⟩
theorem opened_ev (h : Nm rows miss n P S M D) (hP : P = if rows.length = 0 then 0 else (rd rows 0).length) : Ev (fun k => auction_opened.f k ⟨rows, miss⟩) ⟨⟨rows, miss⟩, S, (AS.zero n P).pr, (AS.zero n P).ow, (AS.zero n P).ha, (AS.zero n P).wa, 0⟩ := by
  have h64 := h.c.n; have hn := h.hn; have hp := h.c.p
  have e : w64 ((rows.length : Int) + 1) = S := by rw [h.hS, hn, w64_id (by omega)]
  unfold auction_opened.f AS.zero
  simp only [e]
  by_cases h0 : rows.length = 0
  · rw [if_pos h0] at hP
    subst hP
    simp only [h0, if_neg (show ¬ (0 : Int) < ((0 : Nat) : Int) by omega), auction_opened.j1]
    have := opened_l0 h (pr := []) (by simp) 0 0 rfl
    rw [hn] at this
    exact this
  · rw [if_neg h0] at hP
    simp only [if_pos (show (0 : Int) < (rows.length : Int) by omega), if_pos (show (0 : Int) ≤ 0 ∧ 0 < (rows.length : Int) by omega), ← hP, if_pos (show 0 ≤ (P : Int) ∧ (P : Int) ≤ 35184372088832 by omega), Int.toNat_natCast, auction_opened.j1]
    have := opened_l0 h (pr := List.replicate P 0) (by simp; omega) P 0 (by simp)
    simp only [List.length_replicate] at this
    rw [hn] at this
    rw [List.length_replicate]
    exact this
theorem zero_ai (h : Nm rows miss n P S M D) : AI n P D (AS.zero n P) := by
  have hb := h.bnd
  refine ⟨by simp [AS.zero], by simp [AS.zero], by simp [AS.zero], by simp [AS.zero], fun x hx => ?_, fun x hx => .inl (List.mem_replicate.1 hx).2, fun x hx => .inl (List.mem_replicate.1 hx).2, fun p t hp ht => ?_, fun t ht => ?_, ?_⟩
  · have := (List.mem_replicate.1 hx).2; subst this; omega
  · have e1 : rd (List.replicate P (-1 : Int)) p = -1 := (List.mem_replicate.1 (rd_mem (L := List.replicate P (-1 : Int)) (x := p) (by simpa using hp))).2
    have e2 : rd (List.replicate n (-1 : Int)) t = -1 := (List.mem_replicate.1 (rd_mem (L := List.replicate n (-1 : Int)) (x := t) (by simpa using ht))).2
    show rd (List.replicate P (-1 : Int)) p = t ↔ rd (List.replicate n (-1 : Int)) t = p
    rw [e1, e2]; omega
  · obtain ⟨q, hq, rfl⟩ := List.mem_map.1 ht
    have := List.mem_range.1 hq
    exact ⟨by omega, (List.mem_replicate.1 (rd_mem (L := List.replicate n (-1 : Int)) (x := (q : Int)) (by simp; omega))).2⟩
  · exact List.Pairwise.map _ (fun a b hab e => hab (by omega)) List.nodup_range
theorem oc_zero (n : Nat) : oc (List.replicate n (-1)) = 0 := by
  induction n with
  | zero => rfl
  | succ n ih => rw [List.replicate_succ, oc, ih]; rfl
theorem sm_zero (n : Nat) : sm (List.replicate n 0) = 0 := by
  induction n with
  | zero => rfl
  | succ n ih => rw [List.replicate_succ, sm, ih]; rfl
theorem zero_pot : pot D (AS.zero n P) = D * P + n := by
  show D * ((List.replicate P (0 : Int)).length : Int) - sm (List.replicate P 0) + (((List.range n).map fun (x : Nat) => (x : Int)).length : Int) + oc (List.replicate P (-1)) = _
  rw [sm_zero, oc_zero]; simp
theorem pot_small (h : Nm rows miss n P S M D) : 0 ≤ D * (P : Int) + n ∧ D * (P : Int) + n ≤ 100000000 := by
  have h1 := h.bnd; have h2 := h.c.p; have h3 := h.c.n; have h4 := h.hn
  have h5 : 0 ≤ D * (P : Int) := Int.mul_nonneg (by omega) (by omega)
  have h6 : D * (P : Int) ≤ 266241 * 64 := Int.mul_le_mul (by omega) (by omega) (by omega) (by omega)
  omega
end
theorem nm_of {rows : List (List Int)} {miss : Int} (h : chkB rows miss = true) : Nm rows miss rows.length (if rows.length = 0 then 0 else (rd rows 0).length) ((rows.length : Int) + 1) (-((rows.length : Int) + 1) * miss) (((rows.length : Int) + 1) * miss + 1) := by
  have hc := cok_of h
  refine ⟨?_, rfl, rfl, rfl, rfl⟩
  by_cases h0 : rows.length = 0
  · have : rows = [] := List.eq_nil_of_length_eq_zero h0
    subst this
    exact ⟨hc.n, hc.m, by simp, (fun r hr => by cases hr), hc.ent⟩
  · rw [if_neg h0]; exact hc
end Go.Proofs.Ytacbficpehmlnaa.Pure

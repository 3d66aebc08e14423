/- Pairs by bids: the document's auction comes to the same, bid by bid. -/
import Derived.Test.YtacbficpehmlnaaDoorPureAU2
namespace Go.Proofs.YtacbficpehmlnaaDoor.Pure
open Go.RowKit Go.Proofs.YtacbficpehmlnaaDoorK Go.Proofs.YtacbficpehmlnaaDoor.GAR
set_option linter.unusedVariables false
set_option linter.unusedSimpArgs false
set_option maxRecDepth 100000
section
variable {rows : List (List Int)} {miss : Int} {n P : Nat} {S M D : Int}
theorem rval_eq (h : Nm rows miss n P S M D) {k q : Int} (hk : -1 ≤ k ∧ k ≤ 4096) (hq : 0 ≤ q ∧ q ≤ D) : w64 (w64 (0 - w64 (w64 ((n : Int) + 1) * k)) - q) = -S * k - q := by
  have h1 := h.bnd; have h2 := h.prod hk; have h3 := h.hS
  have e : -S * k = -(S * k) := Int.neg_mul ..
  rw [← h3, w64_id (x := S) (by omega), w64_id (x := S * k) (by omega), show (0 : Int) - S * k = -(S * k) by omega, e, w64_id (x := -(S * k)) (by omega), w64_id (by omega)]
theorem rbest_l2 (h : Nm rows miss n P S M D) {pr ha wa : List Int} {bids most t : Int} {r : List Int × Int} (ht : 0 ≤ t ∧ t < n) (hp : pr.length = P) (hpr : ∀ x ∈ pr, 0 ≤ x ∧ x ≤ D)
    (hr : ∀ b, b = bs S pr (rd rows t) 0 (-1) M M → Ev (fun k => if b.1 < 0 then (radomeref21_Run.hs k).l1 rows miss n P pr ha wa bids (w64 (most - 1)) else (radomeref21_Run.hs k).l3 rows miss n P pr ha wa bids most t b.1 b.2.1 b.2.2 0) r) :
    ∀ (m p : Nat) (a w x : Int), P = p + m → -1 ≤ a → bs S pr ((rd rows t).drop p) p a w x = bs S pr (rd rows t) 0 (-1) M M → Ev (fun k => (radomeref21_Run.hs k).l2 rows miss n P pr ha wa bids most t a w x (p : Int)) r
  | 0, p, a, w, x, e, ha, hb => by
    have hrow := h.row ht
    refine Ev.step (fun k => rfl) ?_
    simp only [radomeref21_Run.hs, radomeref21_Run.b2, if_neg (show ¬ (p : Int) < (P : Int) by omega)]
    rw [List.drop_eq_nil_of_le (by omega), bs] at hb
    exact hr _ hb
  | m + 1, p, a, w, x, e, ha, hb => by
    have hrow := h.row ht
    have hi : p < (rd rows t).length := by omega
    have h64 := h.c.p; have hn := h.hn
    have hv := rval_eq h (hrow.2 _ (List.getElem_mem hi)) (hpr _ (rd_mem (x := (p : Int)) (show 0 ≤ (p : Int) ∧ (p : Int) < (pr.length : Int) by omega)))
    refine Ev.step (fun k => rfl) ?_
    simp only [radomeref21_Run.hs, radomeref21_Run.b2, if_pos (show (p : Int) < (P : Int) by omega), if_pos (show (0 : Int) ≤ t ∧ t < (rows.length : Int) by omega), if_pos (show (0 : Int) ≤ (p : Int) ∧ (p : Int) < ((rd rows t).length : Int) by omega), rd_get hi, wsucc (show p < 1000000000 by omega), if_pos (show (0 : Int) ≤ (p : Int) ∧ (p : Int) < (pr.length : Int) by omega), hv]
    rw [drop_cons hi, bs] at hb
    by_cases hk : (rd rows t)[p] < 0
    · simp only [if_pos hk] at hb ⊢; exact rbest_l2 h ht hp hpr hr m (p + 1) _ _ _ (by omega) ha hb
    · simp only [if_neg hk] at hb ⊢
      by_cases hc : w < -S * (rd rows t)[p] - rd pr (p : Int) ∨ (-S * (rd rows t)[p] - rd pr (p : Int) = w ∧ a = -1)
      · have e1 : ((decide (a < 0) && decide (w ≤ -S * (rd rows t)[p] - rd pr (p : Int))) || decide (w < -S * (rd rows t)[p] - rd pr (p : Int))) = true := by
          simp only [Bool.or_eq_true, Bool.and_eq_true, decide_eq_true_eq]; omega
        simp only [if_pos hc] at hb
        simp only [e1, if_true]; exact rbest_l2 h ht hp hpr hr m (p + 1) _ _ _ (by omega) (by omega) hb
      · have e1 : ((decide (a < 0) && decide (w ≤ -S * (rd rows t)[p] - rd pr (p : Int))) || decide (w < -S * (rd rows t)[p] - rd pr (p : Int))) = false := by
          rw [Bool.eq_false_iff]; intro hx; simp only [Bool.or_eq_true, Bool.and_eq_true, decide_eq_true_eq] at hx; omega
        simp only [if_neg hc] at hb
        simp only [e1, Bool.false_eq_true, if_false]
        by_cases hx : x < -S * (rd rows t)[p] - rd pr (p : Int)
        · simp only [if_pos hx] at hb ⊢; exact rbest_l2 h ht hp hpr hr m (p + 1) _ _ _ (by omega) ha hb
        · simp only [if_neg hx] at hb ⊢; exact rbest_l2 h ht hp hpr hr m (p + 1) _ _ _ (by omega) ha hb
/-- The row and the queue, when tracks below k have been looked at. -/
def hk_ (ha : List Int) (o : Int) (k : Nat) : List Int := if o ≠ -1 ∧ o < (k : Int) then ha.set o.toNat (-1) else ha
def wk_ (wa : List Int) (o : Int) (k : Nat) : List Int := if o ≠ -1 ∧ o < (k : Int) then wa ++ [o] else wa
theorem rscan_l3 (h : Nm rows miss n P S M D) {s : AS} (hs : AI n P D s) {q : Int} (hq : 0 ≤ q ∧ q < P) {bids most t w x : Int} {r : List Int × Int} (hl : s.wa.length + 1 ≤ n) (ht : 0 ≤ t ∧ t < n)
    (hr : Ev (fun k => (radomeref21_Run.hs k).l1 rows miss n P (s.pr.set q.toNat (w64 (w64 (w64 (rd s.pr q + w) - x) + 1))) ((hk_ s.ha (rd s.ow q) n).set t.toNat q) (wk_ s.wa (rd s.ow q) n) bids (w64 (most - 1))) r) :
    ∀ (m k : Nat), n = k + m → Ev (fun k' => (radomeref21_Run.hs k').l3 rows miss n P s.pr (hk_ s.ha (rd s.ow q) k) (wk_ s.wa (rd s.ow q) k) bids most t q w x (k : Int)) r
  | 0, k, e => by
    have hlen : (hk_ s.ha (rd s.ow q) n).length = n := by unfold hk_; split <;> simp [hs.lh]
    refine Ev.step (fun k => rfl) ?_
    have hkn : k = n := by omega
    subst hkn
    simp only [radomeref21_Run.hs, radomeref21_Run.b3, if_neg (show ¬ (k : Int) < (k : Int) by omega), if_pos (show (0 : Int) ≤ t ∧ t < ((hk_ s.ha (rd s.ow q) k).length : Int) by omega), if_pos (show (0 : Int) ≤ q ∧ q < (s.pr.length : Int) by have := hs.lp; omega)]
    exact hr
  | m + 1, k, e => by
    have hkl : (hk_ s.ha (rd s.ow q) k).length = n := by unfold hk_; split <;> simp [hs.lh]
    have h64 := h.c.n; have hnn := h.hn
    have hao : 0 ≤ q ∧ q < (s.ow.length : Int) := by have := hs.lo; omega
    have hmt := hs.mt q (k : Int) hq (by omega)
    have ih := rscan_l3 h hs hq (bids := bids) (most := most) (t := t) (w := w) (x := x) hl ht hr m (k + 1) (by omega)
    refine Ev.step (fun k => rfl) ?_
    simp only [radomeref21_Run.hs, radomeref21_Run.b3, if_pos (show (k : Int) < (n : Int) by omega), if_pos (show (0 : Int) ≤ (k : Int) ∧ (k : Int) < ((hk_ s.ha (rd s.ow q) k).length : Int) by omega), wsucc (show k < 1000000000 by omega)]
    have hrk : rd (hk_ s.ha (rd s.ow q) k) (k : Int) = rd s.ha (k : Int) := by
      unfold hk_
      split
      · rename_i hc
        have how := (hs.ow _ (rd_mem hao)).resolve_left hc.1
        rw [rd_set (by have := hs.lh; omega) (by have := hs.lh; omega), if_neg (by omega)]
      · rfl
    rw [hrk]
    by_cases e1 : rd s.ha (k : Int) = q
    · have e2 : rd s.ow q = (k : Int) := hmt.2 e1
      have e3 : hk_ s.ha (rd s.ow q) k = s.ha := by unfold hk_; rw [if_neg (by omega)]
      have e4 : wk_ s.wa (rd s.ow q) k = s.wa := by unfold wk_; rw [if_neg (by omega)]
      have e5 : hk_ s.ha (rd s.ow q) (k + 1) = s.ha.set (k : Int).toNat (-1) := by unfold hk_; rw [if_pos (by omega), e2]
      have e6 : wk_ s.wa (rd s.ow q) (k + 1) = s.wa ++ [(k : Int)] := by unfold wk_; rw [if_pos (by omega), e2]
      rw [e5, e6] at ih
      simp only [if_pos e1, e3, e4, if_pos (show s.wa.length + 1 ≤ 17592186044288 by omega)]
      exact ih
    · have e2 : rd s.ow q ≠ (k : Int) := fun z => e1 (hmt.1 z)
      have e5 : hk_ s.ha (rd s.ow q) (k + 1) = hk_ s.ha (rd s.ow q) k := by unfold hk_; simp only [show (rd s.ow q ≠ -1 ∧ rd s.ow q < ((k + 1 : Nat) : Int)) ↔ (rd s.ow q ≠ -1 ∧ rd s.ow q < (k : Int)) by omega]
      have e6 : wk_ s.wa (rd s.ow q) (k + 1) = wk_ s.wa (rd s.ow q) k := by unfold wk_; simp only [show (rd s.ow q ≠ -1 ∧ rd s.ow q < ((k + 1 : Nat) : Int)) ↔ (rd s.ow q ≠ -1 ∧ rd s.ow q < (k : Int)) by omega]
      rw [e5, e6] at ih
      simp only [if_neg e1]
      exact ih
theorem rrun_l1 (h : Nm rows miss n P S M D) : ∀ (f : Nat) (s : AS) (b most : Nat), AI n P D s → pot D s ≤ (f : Int) → pot D s ≤ (most : Int) → b + f ≤ 1000000000 → most ≤ 1000000000 →
    Ev (fun k => (radomeref21_Run.hs k).l1 rows miss n P s.pr s.ha s.wa (b : Int) (most : Int)) ((sale S M rows f s).1.ha, ((b + (sale S M rows f s).2 : Nat) : Int)) := by
  intro f
  induction f with
  | zero =>
    intro s b most hs hp hp2 hb hm
    have := pot_wa hs
    have hw : s.wa = [] := List.eq_nil_of_length_eq_zero (by omega)
    refine Ev.step (fun k => rfl) ?_
    simp only [radomeref21_Run.hs, radomeref21_Run.b1, hw, List.length_nil, decide_eq_false (show ¬ (0 : Int) < ((0 : Nat) : Int) by omega), Bool.and_false, Bool.false_eq_true, if_false]
    exact Ev.now
  | succ f ih =>
    intro s b most hs hp hp2 hb hm
    cases hw : s.wa with
    | nil =>
      have e : sale S M rows (f + 1) s = (s, 0) := by rw [sale, hw]
      rw [e]
      refine Ev.step (fun k => rfl) ?_
      simp only [radomeref21_Run.hs, radomeref21_Run.b1, List.length_nil, decide_eq_false (show ¬ (0 : Int) < ((0 : Nat) : Int) by omega), Bool.and_false, Bool.false_eq_true, if_false]
      exact Ev.now
    | cons t w =>
      obtain ⟨h1, ht, hh, hnw, hl, hpp⟩ := pop_ai hs hw
      obtain ⟨h2, h3, h5⟩ := bid_ai h h1 ht hh hnw hl
      have hpw : s.pop.wa = w := by show s.wa.tail = w; rw [hw]; rfl
      have hpot := pot_wa h1
      have e : sale S M rows (f + 1) s = ((sale S M rows f (bid S M rows s.pop t)).1, (sale S M rows f (bid S M rows s.pop t)).2 + 1) := by rw [sale, hw]
      have i1 := ih (bid S M rows s.pop t) (b + 1) (most - 1) h2 (by omega) (by omega) (by omega) (by omega)
      rw [e]
      rw [show ((b + ((sale S M rows f (bid S M rows s.pop t)).2 + 1) : Nat) : Int) = ((b + 1 + (sale S M rows f (bid S M rows s.pop t)).2 : Nat) : Int) by omega]
      have hlen : (0 : Int) < (((t :: w).length : Nat) : Int) := by simp only [List.length_cons]; omega
      have e0 : rd (t :: w) 0 = t := rfl
      have hb1 := h.bnd
      have hpm := h.prod (k := miss) (by have := h.c.m; omega)
      have eM : w64 (0 - w64 (w64 ((n : Int) + 1) * miss)) = M := by
        rw [← h.hS, w64_id (x := S) (by omega), w64_id (x := S * miss) (by omega), h.hM, Int.neg_mul, w64_id (by omega)]; omega
      refine Ev.step (fun k => rfl) ?_
      simp only [radomeref21_Run.hs, radomeref21_Run.b1, decide_eq_true hlen, decide_eq_true (show (0 : Int) < (most : Int) by omega), Bool.and_self, if_true, if_pos (show (0 : Int) ≤ 0 ∧ (0 : Int) < (((t :: w).length : Nat) : Int) from ⟨by omega, hlen⟩), if_pos (show (0 : Int) ≤ 1 ∧ (1 : Int) ≤ (((t :: w).length : Nat) : Int) ∧ (((t :: w).length : Nat) : Int) ≤ (((t :: w).length : Nat) : Int) by omega), cut1, e0, wsucc (show b < 1000000000 by omega), eM]
      have em : w64 ((most : Int) - 1) = ((most - 1 : Nat) : Int) := by rw [w64_id (by omega)]; omega
      refine rbest_l2 h ht hs.lp hs.pr (fun bb hbb => ?_) P 0 (-1) M M (by omega) (by omega) (by rw [List.drop_zero])
      rw [em]
      have hbo := bs_all h h1 ht
      change BOk S M s.pr (rd rows t) P (bs S s.pr (rd rows t) 0 (-1) M M).1 (bs S s.pr (rd rows t) 0 (-1) M M).2.1 (bs S s.pr (rd rows t) 0 (-1) M M).2.2 at hbo
      have hbid : bid S M rows s.pop t = if bb.1 = -1 then s.pop else
          if rd s.ow bb.1 = -1 then ⟨s.pr.set bb.1.toNat (rd s.pr bb.1 + (bb.2.1 - bb.2.2 + 1)), s.ow.set bb.1.toNat t, s.ha.set t.toNat bb.1, s.pop.wa⟩
          else ⟨s.pr.set bb.1.toNat (rd s.pr bb.1 + (bb.2.1 - bb.2.2 + 1)), s.ow.set bb.1.toNat t, (s.ha.set (rd s.ow bb.1).toNat (-1)).set t.toNat bb.1, s.pop.wa ++ [rd s.ow bb.1]⟩ := by subst hbb; rfl
      rw [hbid] at i1
      rw [← hbb] at hbo
      obtain ⟨a, m, x⟩ := bb
      simp only at hbo i1 hbid ⊢
      by_cases ha : a = -1
      · simp only [if_pos ha] at i1 hbid
        simp only [if_pos (show a < 0 by omega)]
        rw [hbid]
        show Ev (fun k => (radomeref21_Run.hs k).l1 rows miss n P s.pr s.ha w ((b + 1 : Nat) : Int) ((most - 1 : Nat) : Int)) _
        rw [← hpw]
        exact i1
      · obtain ⟨q, hq, hqP, rfl, hk, hm'⟩ := hbo.some_ ha
        have hent := (h.row ht).2 _ (List.getElem_mem hq)
        have hprod := h.prod hent
        rw [Int.neg_mul] at hm'
        have hmx := hbo.mx; have hxM := hbo.xM
        have hap : 0 ≤ (q : Int) ∧ (q : Int) < (s.pr.length : Int) := by have := hs.lp; omega
        have hao : 0 ≤ (q : Int) ∧ (q : Int) < (s.ow.length : Int) := by have := hs.lo; omega
        have hpr := hs.pr _ (rd_mem hap)
        simp only [if_neg ha] at i1 hbid
        simp only [if_neg (show ¬ (q : Int) < 0 by omega)]
        rw [hbid]
        have ew : w64 (w64 (w64 (rd s.pr (q : Int) + m) - x) + 1) = rd s.pr (q : Int) + (m - x + 1) := by
          rw [w64_id (x := rd s.pr (q : Int) + m) (by omega), w64_id (x := rd s.pr (q : Int) + m - x) (by omega), w64_id (by omega)]; omega
        have hz : hk_ s.ha (rd s.ow (q : Int)) 0 = s.ha ∧ wk_ s.pop.wa (rd s.ow (q : Int)) 0 = s.pop.wa := by
          have := hs.ow _ (rd_mem hao)
          unfold hk_ wk_; rw [if_neg (by omega), if_neg (by omega)]; exact ⟨rfl, rfl⟩
        have := rscan_l3 h h1 (q := (q : Int)) (by omega) (bids := ((b + 1 : Nat) : Int)) (most := (most : Int)) (t := t) (w := m) (x := x) (r := (fun X : AS => ((sale S M rows f X).1.ha, ((b + 1 + (sale S M rows f X).2 : Nat) : Int))) (if rd s.ow (q : Int) = -1 then ⟨s.pr.set (q : Int).toNat (rd s.pr (q : Int) + (m - x + 1)), s.ow.set (q : Int).toNat t, s.ha.set t.toNat (q : Int), s.pop.wa⟩ else ⟨s.pr.set (q : Int).toNat (rd s.pr (q : Int) + (m - x + 1)), s.ow.set (q : Int).toNat t, (s.ha.set (rd s.ow (q : Int)).toNat (-1)).set t.toNat (q : Int), s.pop.wa ++ [rd s.ow (q : Int)]⟩)) hl ht (by
          rw [em, show s.pop.pr = s.pr from rfl, show s.pop.ow = s.ow from rfl, show s.pop.ha = s.ha from rfl, ew]
          by_cases ho : rd s.ow (q : Int) = -1
          · simp only [if_pos ho] at i1 ⊢
            unfold hk_ wk_
            rw [if_neg (fun z => z.1 ho), if_neg (fun z => z.1 ho)]
            exact i1
          · have how := (hs.ow _ (rd_mem hao)).resolve_left ho
            simp only [if_neg ho] at i1 ⊢
            unfold hk_ wk_
            rw [if_pos ⟨ho, how.2⟩, if_pos ⟨ho, how.2⟩]
            exact i1) n 0 (by omega)
        rw [show s.pop.ha = s.ha from rfl, show s.pop.ow = s.ow from rfl, show s.pop.pr = s.pr from rfl, hz.1, hz.2] at this
        rw [← hpw]
        exact this
/-! ### the begin -/
theorem rbegin_l0 (h : Nm rows miss n P S M D) {pr : List Int} {r : List Int × Int} (hr : Ev (fun k => (radomeref21_Run.hs k).l1 rows miss n P pr (List.replicate n (-1)) ((List.range n).map fun (x : Nat) => (x : Int)) 0 (w64 (w64 ((P : Int) * w64 (w64 (w64 ((n : Int) + 1) * miss) + 1)) + n))) r) :
    ∀ (m i : Nat), n = i + m → Ev (fun k => (radomeref21_Run.hs k).l0 rows miss n P pr (List.replicate i (-1) ++ List.replicate m 0) ((List.range i).map fun (x : Nat) => (x : Int)) (i : Int)) r
  | 0, i, e => by
    have hin : i = n := by omega
    subst hin
    refine Ev.step (fun k => rfl) ?_
    simp only [radomeref21_Run.hs, radomeref21_Run.b0, if_neg (show ¬ (i : Int) < (i : Int) by omega), List.replicate_zero, List.append_nil]
    exact hr
  | m + 1, i, e => by
    have h64 := h.c.n; have hn := h.hn
    refine Ev.step (fun k => rfl) ?_
    have hs : (List.replicate i (-1 : Int) ++ List.replicate (m + 1) 0).set (i : Int).toNat (-1) = List.replicate (i + 1) (-1) ++ List.replicate m 0 := by
      rw [Int.toNat_natCast, List.set_append_right (h := by simp), List.length_replicate, Nat.sub_self, List.replicate_succ, List.set_cons_zero, List.replicate_succ', List.append_assoc]; rfl
    simp only [radomeref21_Run.hs, radomeref21_Run.b0, if_pos (show (i : Int) < (n : Int) by omega), List.length_append, List.length_replicate, if_pos (show (0 : Int) ≤ (i : Int) ∧ (i : Int) < ((i + (m + 1) : Nat) : Int) by omega), List.length_map, List.length_range, if_pos (show i + 1 ≤ 17592186044288 by omega), wsucc (show i < 1000000000 by omega), hs]
    have := rbegin_l0 h hr m (i + 1) (by omega)
    rw [List.range_succ, List.map_append] at this
    exact this
theorem rrun_ev (h : Nm rows miss n P S M D) (hP : P = if rows.length = 0 then 0 else (rd rows 0).length) {f : Nat} (hf : pot D (AS.zero n P) ≤ (f : Int)) (hf2 : f ≤ 100000000) : Ev (fun k => radomeref21_Run.f k ⟨rows, miss⟩) ((sale S M rows f (AS.zero n P)).1.ha, ((sale S M rows f (AS.zero n P)).2 : Int)) := by
  have h64 := h.c.n; have hn := h.hn; have hp := h.c.p; have hb := h.bnd; have hsm := pot_small h; have hz := zero_pot (n := n) (P := P) (D := D)
  have hpm := h.prod (k := miss) (by have := h.c.m; omega)
  have eD : w64 (w64 (w64 ((n : Int) + 1) * miss) + 1) = D := by rw [← h.hS, w64_id (x := S) (by omega), w64_id (x := S * miss) (by omega), h.hD, w64_id (by omega)]
  have eq : w64 (w64 ((P : Int) * w64 (w64 (w64 ((n : Int) + 1) * miss) + 1)) + n) = ((D * (P : Int) + n).toNat : Int) := by
    rw [eD, Int.mul_comm]
    have h5 : 0 ≤ D * (P : Int) := Int.mul_nonneg (by omega) (by omega)
    rw [w64_id (x := D * (P : Int)) (by omega), w64_id (by omega)]; omega
  have main := rrun_l1 h f (AS.zero n P) 0 (D * (P : Int) + n).toNat (zero_ai h) hf (by rw [hz]; omega) (by omega) (by omega)
  rw [Nat.zero_add] at main
  have beg : ∀ pr, pr = List.replicate P 0 → Ev (fun k => (radomeref21_Run.hs k).l0 rows miss (rows.length : Int) (P : Int) pr (List.replicate ((rows.length : Int)).toNat 0) [] 0) ((sale S M rows f (AS.zero n P)).1.ha, ((sale S M rows f (AS.zero n P)).2 : Int)) := by
    intro pr hpr
    subst hpr
    rw [hn]
    have := rbegin_l0 h (pr := List.replicate P 0) (r := ((sale S M rows f (AS.zero n P)).1.ha, ((sale S M rows f (AS.zero n P)).2 : Int))) (by rw [eq]; exact main) n 0 (by omega)
    exact this
  unfold radomeref21_Run.f
  by_cases h0 : rows.length = 0
  · rw [if_pos h0] at hP
    have := beg (List.replicate P 0) rfl
    subst hP
    simp only [h0, if_neg (show ¬ (0 : Int) < ((0 : Nat) : Int) by omega), radomeref21_Run.j1] at this ⊢
    exact this
  · rw [if_neg h0] at hP
    simp only [if_pos (show (0 : Int) < (rows.length : Int) by omega), if_pos (show (0 : Int) ≤ 0 ∧ 0 < (rows.length : Int) by omega), ← hP, radomeref21_Run.j1, if_pos (show 0 ≤ (P : Int) ∧ (P : Int) ≤ 35184372088832 by omega), if_pos (show 0 ≤ (rows.length : Int) ∧ (rows.length : Int) ≤ 35184372088832 by omega), Int.toNat_natCast]
    have := beg (List.replicate P 0) rfl
    rw [Int.toNat_natCast] at this
    exact this
end
end Go.Proofs.YtacbficpehmlnaaDoor.Pure

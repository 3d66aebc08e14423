/- Pairs by bids: no matching costs less. -/
import Derived.Test.YtacbficpehmlnaaPureAU2
namespace Go.Proofs.Ytacbficpehmlnaa.Pure
open Go.RowKit Go.Proofs.YtacbficpehmlnaaK Go.Proofs.Ytacbficpehmlnaa.GBQ
set_option linter.unusedVariables false
set_option linter.unusedSimpArgs false
set_option maxRecDepth 100000
section
variable {rows : List (List Int)} {miss : Int} {n P : Nat} {S M D : Int}
/-- What a track has of a plot. -/
def vl (S : Int) (rows : List (List Int)) (pr : List Int) (t q : Int) : Int := -S * rd (rd rows t) q - rd pr q
/-- Each is content but for one. e: who bids now. -/
structure CS (rows : List (List Int)) (S M : Int) (n P : Nat) (e : Int) (s : AS) : Prop where
  asg : ∀ t : Int, 0 ≤ t ∧ t < (n : Int) → rd s.ha t ≠ -1 → 0 ≤ rd (rd rows t) (rd s.ha t) ∧ M ≤ vl S rows s.pr t (rd s.ha t) + 1 ∧ ∀ q : Int, 0 ≤ q ∧ q < (P : Int) → 0 ≤ rd (rd rows t) q → vl S rows s.pr t q ≤ vl S rows s.pr t (rd s.ha t) + 1
  drp : ∀ t : Int, 0 ≤ t ∧ t < (n : Int) → rd s.ha t = -1 → t ∉ s.wa → t ≠ e → ∀ q : Int, 0 ≤ q ∧ q < (P : Int) → 0 ≤ rd (rd rows t) q → vl S rows s.pr t q ≤ M
  una : ∀ p : Int, 0 ≤ p ∧ p < (P : Int) → rd s.ow p = -1 → rd s.pr p = 0
theorem bid_cs (h : Nm rows miss n P S M D) {s : AS} (hs : AI n P D s) {t : Int} (ht : 0 ≤ t ∧ t < n) (hh : rd s.ha t = -1) (hw : t ∉ s.wa) (hc : CS rows S M n P t s) : CS rows S M n P (-1) (bid S M rows s t) := by
  have hb := bs_all h hs ht
  have hrow := h.row ht
  unfold bid
  generalize bs S s.pr (rd rows t) 0 (-1) M M = b at hb
  obtain ⟨a, m, x⟩ := b
  simp only at hb ⊢
  by_cases ha : a = -1
  · rw [if_pos ha]
    refine ⟨hc.asg, fun t' ht' h1 h2 h3 q hq hk => ?_, hc.una⟩
    by_cases e : t' = t
    · subst e
      obtain ⟨q', rfl⟩ : ∃ q' : Nat, (q' : Int) = q := ⟨q.toNat, by omega⟩
      have hq' : q' < (rd rows t').length := by omega
      have := (hb.none_ ha).2 q' hq' (by omega) (by rw [← rd_get hq']; exact hk)
      unfold vl; rw [rd_get hq']; omega
    · exact hc.drp t' ht' h1 h2 e q hq hk
  · rw [if_neg ha]
    obtain ⟨q, hq, hqP, rfl, hk, hm⟩ := hb.some_ ha
    have hmx := hb.mx; have hxM := hb.xM
    have hap : 0 ≤ (q : Int) ∧ (q : Int) < (s.pr.length : Int) := by have := hs.lp; omega
    have hao : 0 ≤ (q : Int) ∧ (q : Int) < (s.ow.length : Int) := by have := hs.lo; omega
    have hth : 0 ≤ t ∧ t < (s.ha.length : Int) := by have := hs.lh; omega
    have hP : 0 ≤ (q : Int) ∧ (q : Int) < P := by omega
    generalize hv : rd s.pr (q : Int) + (m - x + 1) = v
    have hpr : ∀ p, 0 ≤ p ∧ p < (P : Int) → rd (s.pr.set (q : Int).toNat v) p = if (q : Int) = p then v else rd s.pr p := fun p hp => rd_set hap (by have := hs.lp; omega)
    have hup : ∀ t' p, 0 ≤ p ∧ p < (P : Int) → vl S rows (s.pr.set (q : Int).toNat v) t' p ≤ vl S rows s.pr t' p := fun t' p hp => by
      unfold vl; rw [hpr p hp]
      by_cases e : (q : Int) = p
      · rw [if_pos e, ← e]; omega
      · rw [if_neg e]; omega
    have hsame : ∀ t' p, 0 ≤ p ∧ p < (P : Int) → (q : Int) ≠ p → vl S rows (s.pr.set (q : Int).toNat v) t' p = vl S rows s.pr t' p := fun t' p hp e => by
      unfold vl; rw [hpr p hp, if_neg e]
    -- the one who has bid
    have mine : 0 ≤ rd (rd rows t) (q : Int) ∧ M ≤ vl S rows (s.pr.set (q : Int).toNat v) t (q : Int) + 1 ∧ ∀ q', 0 ≤ q' ∧ q' < (P : Int) → 0 ≤ rd (rd rows t) q' → vl S rows (s.pr.set (q : Int).toNat v) t q' ≤ vl S rows (s.pr.set (q : Int).toNat v) t (q : Int) + 1 := by
      have e1 : vl S rows (s.pr.set (q : Int).toNat v) t (q : Int) = x - 1 := by
        unfold vl; rw [hpr _ hP, if_pos rfl, rd_get hq]; omega
      refine ⟨by rw [rd_get hq]; exact hk, by omega, fun q' hq' hk' => ?_⟩
      rw [e1]
      by_cases e : (q : Int) = q'
      · rw [← e, e1]; omega
      · rw [hsame t q' hq' e]
        obtain ⟨q2, rfl⟩ : ∃ q2 : Nat, (q2 : Int) = q' := ⟨q'.toNat, by omega⟩
        have hq2 : q2 < (rd rows t).length := by have := hrow.1; omega
        have := hb.rest q2 hq2 (by omega) (by rw [← rd_get hq2]; exact hk') (by omega)
        unfold vl; rw [rd_get hq2]; omega
    -- another one, who keeps his plot
    have other : ∀ t', 0 ≤ t' ∧ t' < (n : Int) → rd s.ha t' ≠ -1 → rd s.ha t' ≠ (q : Int) → 0 ≤ rd (rd rows t') (rd s.ha t') ∧ M ≤ vl S rows (s.pr.set (q : Int).toNat v) t' (rd s.ha t') + 1 ∧ ∀ q', 0 ≤ q' ∧ q' < (P : Int) → 0 ≤ rd (rd rows t') q' → vl S rows (s.pr.set (q : Int).toNat v) t' q' ≤ vl S rows (s.pr.set (q : Int).toNat v) t' (rd s.ha t') + 1 := fun t' ht' h1 h2 => by
      obtain ⟨a1, a2, a3⟩ := hc.asg t' ht' h1
      have hp := (hs.ha _ (rd_mem (L := s.ha) (x := t') (by have := hs.lh; omega))).resolve_left h1
      rw [hsame t' _ hp (fun e => h2 e.symm)]
      refine ⟨a1, a2, fun q' hq' hk' => ?_⟩
      have := hup t' q' hq'; have := a3 q' hq' hk'; omega
    have una : ∀ p, 0 ≤ p ∧ p < (P : Int) → rd (s.ow.set (q : Int).toNat t) p = -1 → rd (s.pr.set (q : Int).toNat v) p = 0 := fun p hp h1 => by
      rw [rd_set hao (by have := hs.lo; omega)] at h1
      by_cases e : (q : Int) = p
      · rw [if_pos e] at h1; omega
      · rw [if_neg e] at h1
        rw [hpr p hp, if_neg e]; exact hc.una p hp h1
    by_cases ho : rd s.ow (q : Int) = -1
    · rw [if_pos ho]
      refine ⟨fun t' ht' h1 => ?_, fun t' ht' h1 h2 _ q' hq' hk' => ?_, una⟩
      · simp only at h1 ⊢
        have ht2 : 0 ≤ t' ∧ t' < (s.ha.length : Int) := by have := hs.lh; omega
        rw [rd_set hth ht2] at h1 ⊢
        by_cases e : t = t'
        · rw [if_pos e]; rw [← e]; exact mine
        · rw [if_neg e] at h1 ⊢
          refine other t' ht' h1 fun e2 => ?_
          have := (hs.mt _ _ hP ht').2 e2; omega
      · simp only at h1 h2 ⊢
        have ht2 : 0 ≤ t' ∧ t' < (s.ha.length : Int) := by have := hs.lh; omega
        rw [rd_set hth ht2] at h1
        by_cases e : t = t'
        · rw [if_pos e] at h1; omega
        · rw [if_neg e] at h1
          have := hc.drp t' ht' h1 h2 (fun z => e z.symm) q' hq' hk'
          have := hup t' q' hq'; omega
    · rw [if_neg ho]
      have how := (hs.ow _ (rd_mem hao)).resolve_left ho
      generalize hold : rd s.ow (q : Int) = o at *
      have hoh : 0 ≤ o ∧ o < (s.ha.length : Int) := by have := hs.lh; omega
      have hlen1 : (s.ha.set o.toNat (-1)).length = s.ha.length := List.length_set ..
      refine ⟨fun t' ht' h1 => ?_, fun t' ht' h1 h2 _ q' hq' hk' => ?_, una⟩
      · simp only at h1 ⊢
        have ht2 : 0 ≤ t' ∧ t' < (s.ha.length : Int) := by have := hs.lh; omega
        rw [rd_set (by rw [hlen1]; exact hth) (by rw [hlen1]; exact ht2)] at h1 ⊢
        by_cases e : t = t'
        · rw [if_pos e]; rw [← e]; exact mine
        · rw [if_neg e] at h1 ⊢
          rw [rd_set hoh ht2] at h1 ⊢
          by_cases e3 : o = t'
          · rw [if_pos e3] at h1; exact absurd rfl h1
          · rw [if_neg e3] at h1 ⊢
            refine other t' ht' h1 fun e2 => ?_
            have := (hs.mt _ _ hP ht').2 e2; omega
      · simp only at h1 h2 ⊢
        have ht2 : 0 ≤ t' ∧ t' < (s.ha.length : Int) := by have := hs.lh; omega
        rw [rd_set (by rw [hlen1]; exact hth) (by rw [hlen1]; exact ht2)] at h1
        by_cases e : t = t'
        · rw [if_pos e] at h1; omega
        · rw [if_neg e, rd_set hoh ht2] at h1
          have e3 : o ≠ t' := fun e3 => h2 (by rw [e3]; simp)
          rw [if_neg e3] at h1
          have := hc.drp t' ht' h1 (fun z => h2 (List.mem_append_left _ z)) (fun z => e z.symm) q' hq' hk'
          have := hup t' q' hq'; omega
theorem pop_cs {s : AS} (hc : CS rows S M n P (-1) s) {t : Int} {w : List Int} (hw : s.wa = t :: w) : CS rows S M n P t s.pop := by
  have e : s.pop.wa = w := by show s.wa.tail = w; rw [hw]; rfl
  exact ⟨hc.asg, fun t' ht' h1 h2 h3 q hq hk => hc.drp t' ht' h1 (by rw [hw]; rw [e] at h2; simp; exact ⟨h3, h2⟩) (by omega) q hq hk, hc.una⟩
theorem sale_cs (h : Nm rows miss n P S M D) : ∀ (f : Nat) (s : AS), AI n P D s → CS rows S M n P (-1) s → CS rows S M n P (-1) (sale S M rows f s).1
  | 0, s, _, hc => hc
  | f + 1, s, hs, hc => by
    cases hw : s.wa with
    | nil => rw [show sale S M rows (f + 1) s = (s, 0) by rw [sale, hw]]; exact hc
    | cons t w =>
      obtain ⟨h1, ht, hh, hnw, hl, hpp⟩ := pop_ai hs hw
      have h2 := (bid_ai h h1 ht hh hnw hl).1
      rw [show sale S M rows (f + 1) s = ((sale S M rows f (bid S M rows s.pop t)).1, (sale S M rows f (bid S M rows s.pop t)).2 + 1) by rw [sale, hw]]
      exact sale_cs h f _ h2 (bid_cs h h1 ht hh hnw (pop_cs hc hw))
theorem zero_cs : CS rows S M n P (-1) (AS.zero n P) := by
  have e2 : ∀ t, 0 ≤ t ∧ t < (n : Int) → rd (AS.zero n P).ha t = -1 := fun t ht => (List.mem_replicate.1 (rd_mem (L := List.replicate n (-1 : Int)) (x := t) (by simpa using ht))).2
  refine ⟨fun t ht h1 => absurd (e2 t ht) h1, fun t ht _ h2 => ?_, fun p hp _ => (List.mem_replicate.1 (rd_mem (L := List.replicate P (0 : Int)) (x := p) (by simpa using hp))).2⟩
  exact absurd (List.mem_map.2 ⟨t.toNat, List.mem_range.2 (by omega), by omega⟩) h2
end
/-! ### what pairs cost -/
theorem mget_mput (q p : Int) : ∀ m : List (Int × Bool), mget (mput m p true) q false = if q = p then true else mget m q false
  | [] => by simp [mput, mget]
  | x :: m => by
    have ih := mget_mput q p m
    unfold mput
    by_cases e : p = x.1
    · rw [if_pos e]; simp only [mget]
      by_cases e2 : q = x.1
      · rw [if_pos e2, if_pos (by omega)]
      · rw [if_neg e2, if_neg (by omega), if_neg e2]
    · rw [if_neg e]; simp only [mget, ih]
      by_cases e2 : q = x.1
      · rw [if_pos e2, if_neg (by omega), if_pos e2]
      · rw [if_neg e2, if_neg e2]
def tot (miss : Int) : List (List Int) → List Int → List (Int × Bool) → Int → Option Int
  | r :: rs, p :: ps, tk, s => if p = -1 then tot miss rs ps tk (s + miss) else if p < 0 ∨ (r.length : Int) ≤ p ∨ rd r p < 0 ∨ mget tk p false = true then none else tot miss rs ps (mput tk p true) (s + rd r p)
  | _, _, _, s => some s
/-- A track's part. -/
def pi_ (S M : Int) (pr : List Int) (r : List Int) (x : Int) : Int := if x = -1 then M else -S * rd r x - rd pr x
def PI (S M : Int) (pr : List Int) : List (List Int) → List Int → Int
  | r :: rs, x :: xs => pi_ S M pr r x + PI S M pr rs xs
  | _, _ => 0
def psum (pr : List Int) : List Int → Int
  | [] => 0
  | x :: l => (if x = -1 then 0 else rd pr x) + psum pr l
theorem psum_le {pr pr' : List Int} : ∀ {l : List Int}, (∀ x ∈ l, x = -1 ∨ rd pr x ≤ rd pr' x) → psum pr l ≤ psum pr' l
  | [], _ => Int.le_refl _
  | x :: l, h => by
    have h1 := h x (by simp); have h2 := psum_le (l := l) fun y hy => h y (by simp [hy])
    simp only [psum]
    by_cases e : x = -1
    · rw [if_pos e, if_pos e]; omega
    · rw [if_neg e, if_neg e]; rcases h1 with h1 | h1 <;> omega
/-- Prices are paid, but what nobody has is free. -/
theorem psum_ge {P : Nat} : ∀ {l pr : List Int}, pr.length = P → (∀ x ∈ pr, 0 ≤ x) → (∀ x ∈ l, x = -1 ∨ (0 ≤ x ∧ x < (P : Int))) → (∀ p, 0 ≤ p ∧ p < (P : Int) → rd pr p ≠ 0 → p ∈ l) → sm pr ≤ psum pr l
  | [], pr, hP, h0, hl, hp => by
    have : ∀ pr : List Int, (∀ x ∈ pr, x = 0) → sm pr = 0 := fun pr => by
      induction pr with
      | nil => intro _; rfl
      | cons x l ih => intro h; rw [sm, h x (by simp), ih fun y hy => h y (by simp [hy])]; rfl
    rw [this pr fun x hx => ?_]; · exact Int.le_refl _
    obtain ⟨i, hi, rfl⟩ := List.getElem_of_mem hx
    refine Decidable.byContradiction fun hne => ?_
    have := hp (i : Int) (by omega) (by rw [rd_get hi]; exact hne)
    simp at this
  | x :: l, pr, hP, h0, hl, hp => by
    have hx := hl x (by simp)
    simp only [psum]
    rcases hx with rfl | hx
    · rw [if_pos rfl, Int.zero_add]
      exact psum_ge hP h0 (fun y hy => hl y (by simp [hy])) fun p h1 h2 => by
        have := hp p h1 h2
        simp at this; rcases this with rfl | this
        · omega
        · exact this
    · rw [if_neg (by omega)]
      obtain ⟨i, rfl⟩ : ∃ i : Nat, (i : Int) = x := ⟨x.toNat, by omega⟩
      have hi : i < pr.length := by omega
      have hset : ∀ p, 0 ≤ p ∧ p < (P : Int) → rd (pr.set i 0) p = if (i : Int) = p then 0 else rd pr p := fun p h1 => by
        have := rd_set (l := pr) (i := (i : Int)) (j := p) (v := 0) (by omega) (by omega)
        rwa [Int.toNat_natCast] at this
      have ih := psum_ge (l := l) (pr := pr.set i 0) (by simpa using hP) (fun y hy => by rcases List.mem_or_eq_of_mem_set hy with hy | rfl; exact h0 y hy; exact Int.le_refl _) (fun y hy => hl y (by simp [hy])) (fun p h1 h2 => by
        rw [hset p h1] at h2
        by_cases e : (i : Int) = p
        · rw [if_pos e] at h2; exact absurd rfl h2
        · rw [if_neg e] at h2
          have := hp p h1 h2
          simp at this; rcases this with h | h
          · exact absurd h.symm e
          · exact h)
      have hle : psum (pr.set i 0) l ≤ psum pr l := psum_le fun y hy => by
        rcases hl y (by simp [hy]) with h | h
        · exact .inl h
        · right; rw [hset y h]
          by_cases e : (i : Int) = y
          · rw [if_pos e]; exact h0 _ (rd_mem (by omega))
          · rw [if_neg e]; exact Int.le_refl _
      rw [sm_set hi] at ih
      rw [rd_get hi]; omega
theorem sm_nonneg : ∀ {l : List Int}, (∀ x ∈ l, 0 ≤ x) → 0 ≤ sm l
  | [], _ => by simp [sm]
  | x :: l, h => by have := h x (by simp); have := sm_nonneg (l := l) fun y hy => h y (by simp [hy]); simp only [sm]; omega
theorem tot_ge {S M miss : Int} {P : Nat} {pr : List Int} (hM : M = -S * miss) : ∀ (rs : List (List Int)) (hs ps : List Int) (tk : List (Int × Bool)) (s s' : Int) (pr' : List Int), rs.length = hs.length → rs.length = ps.length → pr'.length = P → (∀ x ∈ pr', 0 ≤ x) →
    (∀ q, 0 ≤ q ∧ q < (P : Int) → mget tk q false = false → rd pr' q = rd pr q) →
    (∀ x ∈ rs.zip hs, x.1.length = P ∧ M ≤ pi_ S M pr x.1 x.2 + 1 ∧ ∀ q, 0 ≤ q ∧ q < (P : Int) → 0 ≤ rd x.1 q → -S * rd x.1 q - rd pr q ≤ pi_ S M pr x.1 x.2 + 1) →
    tot miss rs ps tk s = some s' → -(S * s') ≤ -(S * s) + PI S M pr rs hs + rs.length + sm pr'
  | [], [], [], tk, s, s', pr', _, _, hP, h0, _, _, ht => by
    have h1 := sm_nonneg h0
    simp [tot] at ht; subst ht; simp [PI]; omega
  | r :: rs, x :: hs, p :: ps, tk, s, s', pr', e1, e2, hP, h0, htk, hr, ht => by
    have hx := hr (r, x) (by simp)
    obtain ⟨hrl, hx1, hx2⟩ := hx
    simp only at hrl hx1 hx2
    have hr' : ∀ y ∈ rs.zip hs, y.1.length = P ∧ M ≤ pi_ S M pr y.1 y.2 + 1 ∧ ∀ q, 0 ≤ q ∧ q < (P : Int) → 0 ≤ rd y.1 q → -S * rd y.1 q - rd pr q ≤ pi_ S M pr y.1 y.2 + 1 := fun y hy => hr y (by simp [hy])
    simp only [tot] at ht
    simp only [PI, List.length_cons]
    by_cases hp : p = -1
    · rw [if_pos hp] at ht
      have ih := tot_ge hM rs hs ps tk _ s' pr' (by simpa using e1) (by simpa using e2) hP h0 htk hr' ht
      rw [Int.mul_add] at ih
      have hM' : M = -(S * miss) := by rw [hM, Int.neg_mul]
      push_cast; omega
    · rw [if_neg hp] at ht
      by_cases hb : p < 0 ∨ (r.length : Int) ≤ p ∨ rd r p < 0 ∨ mget tk p false = true
      · rw [if_pos hb] at ht; cases ht
      · rw [if_neg hb] at ht
        have hb1 : 0 ≤ p ∧ p < (P : Int) := by omega
        have hb2 : 0 ≤ rd r p := by omega
        have hb3 : mget tk p false = false := by cases hg : mget tk p false with
          | false => rfl
          | true => exact absurd (Or.inr (Or.inr (Or.inr hg))) hb
        obtain ⟨i, rfl⟩ : ∃ i : Nat, (i : Int) = p := ⟨p.toNat, by omega⟩
        have hi : i < pr'.length := by omega
        have hset : ∀ q, 0 ≤ q ∧ q < (P : Int) → rd (pr'.set i 0) q = if (i : Int) = q then 0 else rd pr' q := fun q h1 => by
          have := rd_set (l := pr') (i := (i : Int)) (j := q) (v := 0) (by omega) (by omega)
          rwa [Int.toNat_natCast] at this
        have ih := tot_ge hM rs hs ps _ _ s' (pr'.set i 0) (by simpa using e1) (by simpa using e2) (by simpa using hP) (fun y hy => by rcases List.mem_or_eq_of_mem_set hy with hy | rfl; exact h0 y hy; exact Int.le_refl _)
          (fun q hq hg => by
            rw [mget_mput] at hg
            rw [hset q hq]
            by_cases e : (i : Int) = q
            · rw [if_pos e.symm] at hg; cases hg
            · rw [if_neg (fun z => e z.symm)] at hg
              rw [if_neg e]; exact htk q hq hg) hr' ht
        rw [Int.mul_add, sm_set hi] at ih
        have hv := hx2 _ hb1 hb2
        rw [← htk _ hb1 hb3, rd_get hi, Int.neg_mul] at hv
        push_cast; omega
  | [], _ :: _, _, _, _, _, _, e, _, _, _, _, _, _ => by simp at e
  | [], [], _ :: _, _, _, _, _, _, e, _, _, _, _, _ => by simp at e
  | _ :: _, [], _, _, _, _, _, e, _, _, _, _, _, _ => by simp at e
  | _ :: _, _ :: _, [], _, _, _, _, _, e, _, _, _, _, _ => by simp at e
theorem tot_own {S M miss : Int} {P : Nat} {pr : List Int} (hM : M = -S * miss) : ∀ (rs : List (List Int)) (hs : List Int) (tk : List (Int × Bool)) (s : Int), rs.length = hs.length → (∀ x ∈ rs.zip hs, x.1.length = P ∧ (x.2 = -1 ∨ (0 ≤ x.2 ∧ x.2 < (P : Int) ∧ 0 ≤ rd x.1 x.2))) →
    hs.Pairwise (fun a b => a ≠ -1 → a ≠ b) → (∀ x ∈ hs, x ≠ -1 → mget tk x false = false) → ∃ s', tot miss rs hs tk s = some s' ∧ -(S * s') = -(S * s) + PI S M pr rs hs + psum pr hs
  | [], [], tk, s, _, _, _, _ => ⟨s, rfl, by simp [PI, psum]⟩
  | r :: rs, x :: hs, tk, s, e, hr, hd, ht => by
    obtain ⟨hrl, hx⟩ := hr (r, x) (by simp)
    simp only at hrl hx
    have hr' : ∀ y ∈ rs.zip hs, y.1.length = P ∧ (y.2 = -1 ∨ (0 ≤ y.2 ∧ y.2 < (P : Int) ∧ 0 ≤ rd y.1 y.2)) := fun y hy => hr y (by simp [hy])
    rw [List.pairwise_cons] at hd
    simp only [tot, PI, psum, pi_]
    rcases hx with rfl | ⟨h1, h2, h3⟩
    · rw [if_pos rfl, if_pos rfl, if_pos rfl]
      obtain ⟨s', a1, a2⟩ := tot_own (S := S) (M := M) (pr := pr) hM rs hs tk (s + miss) (by simpa using e) hr' hd.2 (fun y hy => ht y (by simp [hy]))
      refine ⟨s', a1, ?_⟩
      have hM' : M = -(S * miss) := by rw [hM, Int.neg_mul]
      rw [a2, Int.mul_add]; omega
    · have hne : x ≠ -1 := by omega
      rw [if_neg hne, if_neg hne, if_neg hne, if_neg (by have := ht x (by simp) hne; rw [this]; simp; omega)]
      obtain ⟨s', a1, a2⟩ := tot_own (S := S) (M := M) (pr := pr) hM rs hs (mput tk x true) (s + rd r x) (by simpa using e) hr' hd.2 (fun y hy hy1 => by
        rw [mget_mput, if_neg (fun z => hd.1 y hy hne z.symm)]; exact ht y (by simp [hy]) hy1)
      refine ⟨s', a1, ?_⟩
      rw [a2, Int.mul_add, Int.neg_mul]; omega
  | [], _ :: _, _, _, e, _, _, _ => by simp at e
  | _ :: _, [], _, _, e, _, _, _ => by simp at e
/-- The pairs of the auction are a matching, and none costs less. -/
theorem own_best {rows : List (List Int)} {miss : Int} {n P : Nat} {S M D : Int} (h : Nm rows miss n P S M D) {s : AS} (hs : AI n P D s) (hw : s.wa = []) (hc : CS rows S M n P (-1) s) : ∃ own, tot miss rows s.ha [] 0 = some own ∧ ∀ ps m, rows.length = ps.length → tot miss rows ps [] 0 = some m → own ≤ m := by
  have hn := h.hn; have hlh := hs.lh
  have hz : ∀ x ∈ rows.zip s.ha, ∃ i : Nat, i < n ∧ x.1 = rd rows (i : Int) ∧ x.2 = rd s.ha (i : Int) := fun x hx => by
    obtain ⟨i, hi, rfl⟩ := List.getElem_of_mem hx
    rw [List.length_zip] at hi
    refine ⟨i, by omega, ?_, ?_⟩
    · rw [List.getElem_zip, rd_get (by omega)]
    · rw [List.getElem_zip, rd_get (by omega)]
  have hp : s.ha.Pairwise (fun a b => a ≠ -1 → a ≠ b) := by
    rw [List.pairwise_iff_getElem]
    intro i j hi hj hij hne e
    have hm := (hs.ha _ (List.getElem_mem hi)).resolve_left hne
    have hti : 0 ≤ (i : Int) ∧ (i : Int) < (n : Int) := by omega
    have htj : 0 ≤ (j : Int) ∧ (j : Int) < (n : Int) := by omega
    have h1 := (hs.mt _ _ hm hti).2 (rd_get hi)
    have h2 := (hs.mt _ _ hm htj).2 (by rw [rd_get hj, e])
    omega
  obtain ⟨own, o1, o2⟩ := tot_own (S := S) (M := M) (pr := s.pr) (P := P) h.hM rows s.ha [] 0 (by omega) (fun x hx => by
    obtain ⟨i, hi, e1, e2⟩ := hz x hx
    have hti : 0 ≤ (i : Int) ∧ (i : Int) < (n : Int) := by omega
    rw [e1, e2]
    refine ⟨(h.row hti).1, ?_⟩
    by_cases e : rd s.ha (i : Int) = -1
    · exact .inl e
    · have hm := (hs.ha _ (rd_mem (L := s.ha) (x := (i : Int)) (by omega))).resolve_left e
      exact .inr ⟨hm.1, hm.2, (hc.asg _ hti e).1⟩) hp (fun _ _ _ => rfl)
  refine ⟨own, o1, fun ps m hps hm => ?_⟩
  have g := tot_ge (S := S) (M := M) (pr := s.pr) (P := P) h.hM rows s.ha ps [] 0 m s.pr (by omega) hps hs.lp (fun x hx => (hs.pr x hx).1) (fun _ _ _ => rfl) (fun x hx => by
    obtain ⟨i, hi, e1, e2⟩ := hz x hx
    have hti : 0 ≤ (i : Int) ∧ (i : Int) < (n : Int) := by omega
    rw [e1, e2]
    refine ⟨(h.row hti).1, ?_⟩
    unfold pi_
    by_cases e : rd s.ha (i : Int) = -1
    · rw [if_pos e]
      refine ⟨by omega, fun q hq hk => ?_⟩
      have := hc.drp _ hti e (by rw [hw]; simp) (by omega) q hq hk
      unfold vl at this; omega
    · rw [if_neg e]
      obtain ⟨a1, a2, a3⟩ := hc.asg _ hti e
      exact ⟨a2, fun q hq hk => a3 q hq hk⟩) hm
  have f := psum_ge (P := P) (l := s.ha) (pr := s.pr) hs.lp (fun x hx => (hs.pr x hx).1) (fun x hx => hs.ha x hx) (fun p hp hne => by
    have ho : rd s.ow p ≠ -1 := fun e => hne (hc.una p hp e)
    have how := (hs.ow _ (rd_mem (L := s.ow) (x := p) (by have := hs.lo; omega))).resolve_left ho
    have := (hs.mt _ _ hp how).1 rfl
    rw [← this]; exact rd_mem (by omega))
  refine Decidable.byContradiction fun hlt => ?_
  have k1 : S * (m + 1) ≤ S * own := Int.mul_le_mul_of_nonneg_left (by omega) (by have := h.bnd; omega)
  have hS := h.hS
  rw [Int.mul_add] at k1
  omega
end Go.Proofs.Ytacbficpehmlnaa.Pure

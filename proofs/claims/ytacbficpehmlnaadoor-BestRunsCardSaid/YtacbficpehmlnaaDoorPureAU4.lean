/- Pairs by bids: no matching costs less. -/
import Derived.Test.YtacbficpehmlnaaDoorPureAU2
namespace Go.Proofs.YtacbficpehmlnaaDoor.Pure
open Go.RowKit Go.Proofs.YtacbficpehmlnaaDoorK Go.Proofs.YtacbficpehmlnaaDoor.GBN
set_option linter.unusedVariables false
set_option linter.unusedSimpArgs false
set_option maxRecDepth 100000
section
variable {rows : List (List Int)} {miss : Int} {n P : Nat} {S M D : Int}
end
/-! ### what pairs cost -/
theorem mget_mput (q p : Int) : ∀ m : List (Int × Bool), mget (mput m p true) q false = if q = p then true else mget m q false
  | [] => by simp [mput, mget]
  | x :: m => by
    have ih := mget_mput q p m
    unfold mput
    by_cases e : p = x.1
    · rw [if_pos e]; simp only [mget]
      by_cases e2 : q = x.1
      · rw [if_pos e2, if_pos (by omega)]
      · rw [if_neg e2, if_neg (by omega), if_neg e2]
    · rw [if_neg e]; simp only [mget, ih]
      by_cases e2 : q = x.1
      · rw [if_pos e2, if_neg (by omega), if_pos e2]
      · rw [if_neg e2, if_neg e2]
def tot (miss : Int) : List (List Int) → List Int → List (Int × Bool) → Int → Option Int
  | r :: rs, p :: ps, tk, s => if p = -1 then tot miss rs ps tk (s + miss) else if p < 0 ∨ (r.length : Int) ≤ p ∨ rd r p < 0 ∨ mget tk p false = true then none else tot miss rs ps (mput tk p true) (s + rd r p)
  | _, _, _, s => some s
/-- A track's part. -/
def pi_ (S M : Int) (pr : List Int) (r : List Int) (x : Int) : Int := if x = -1 then M else -S * rd r x - rd pr x
def PI (S M : Int) (pr : List Int) : List (List Int) → List Int → Int
  | r :: rs, x :: xs => pi_ S M pr r x + PI S M pr rs xs
  | _, _ => 0
def psum (pr : List Int) : List Int → Int
  | [] => 0
  | x :: l => (if x = -1 then 0 else rd pr x) + psum pr l
theorem psum_le {pr pr' : List Int} : ∀ {l : List Int}, (∀ x ∈ l, x = -1 ∨ rd pr x ≤ rd pr' x) → psum pr l ≤ psum pr' l
  | [], _ => Int.le_refl _
  | x :: l, h => by
    have h1 := h x (by simp); have h2 := psum_le (l := l) fun y hy => h y (by simp [hy])
    simp only [psum]
    by_cases e : x = -1
    · rw [if_pos e, if_pos e]; omega
    · rw [if_neg e, if_neg e]; rcases h1 with h1 | h1 <;> omega
/-- Prices are paid, but what nobody has is free. -/
theorem psum_ge {P : Nat} : ∀ {l pr : List Int}, pr.length = P → (∀ x ∈ pr, 0 ≤ x) → (∀ x ∈ l, x = -1 ∨ (0 ≤ x ∧ x < (P : Int))) → (∀ p, 0 ≤ p ∧ p < (P : Int) → rd pr p ≠ 0 → p ∈ l) → sm pr ≤ psum pr l
  | [], pr, hP, h0, hl, hp => by
    have : ∀ pr : List Int, (∀ x ∈ pr, x = 0) → sm pr = 0 := fun pr => by
      induction pr with
      | nil => intro _; rfl
      | cons x l ih => intro h; rw [sm, h x (by simp), ih fun y hy => h y (by simp [hy])]; rfl
    rw [this pr fun x hx => ?_]; · exact Int.le_refl _
    obtain ⟨i, hi, rfl⟩ := List.getElem_of_mem hx
    refine Decidable.byContradiction fun hne => ?_
    have := hp (i : Int) (by omega) (by rw [rd_get hi]; exact hne)
    simp at this
  | x :: l, pr, hP, h0, hl, hp => by
    have hx := hl x (by simp)
    simp only [psum]
    rcases hx with rfl | hx
    · rw [if_pos rfl, Int.zero_add]
      exact psum_ge hP h0 (fun y hy => hl y (by simp [hy])) fun p h1 h2 => by
        have := hp p h1 h2
        simp at this; rcases this with rfl | this
        · omega
        · exact this
    · rw [if_neg (by omega)]
      obtain ⟨i, rfl⟩ : ∃ i : Nat, (i : Int) = x := ⟨x.toNat, by omega⟩
      have hi : i < pr.length := by omega
      have hset : ∀ p, 0 ≤ p ∧ p < (P : Int) → rd (pr.set i 0) p = if (i : Int) = p then 0 else rd pr p := fun p h1 => by
        have := rd_set (l := pr) (i := (i : Int)) (j := p) (v := 0) (by omega) (by omega)
        rwa [Int.toNat_natCast] at this
      have ih := psum_ge (l := l) (pr := pr.set i 0) (by simpa using hP) (fun y hy => by rcases List.mem_or_eq_of_mem_set hy with hy | rfl; exact h0 y hy; exact Int.le_refl _) (fun y hy => hl y (by simp [hy])) (fun p h1 h2 => by
        rw [hset p h1] at h2
        by_cases e : (i : Int) = p
        · rw [if_pos e] at h2; exact absurd rfl h2
        · rw [if_neg e] at h2
          have := hp p h1 h2
          simp at this; rcases this with h | h
          · exact absurd h.symm e
          · exact h)
      have hle : psum (pr.set i 0) l ≤ psum pr l := psum_le fun y hy => by
        rcases hl y (by simp [hy]) with h | h
        · exact .inl h
        · right; rw [hset y h]
          by_cases e : (i : Int) = y
          · rw [if_pos e]; exact h0 _ (rd_mem (by omega))
          · rw [if_neg e]; exact Int.le_refl _
      rw [sm_set hi] at ih
      rw [rd_get hi]; omega
theorem sm_nonneg : ∀ {l : List Int}, (∀ x ∈ l, 0 ≤ x) → 0 ≤ sm l
  | [], _ => by simp [sm]
  | x :: l, h => by have := h x (by simp); have := sm_nonneg (l := l) fun y hy => h y (by simp [hy]); simp only [sm]; omega
theorem tot_ge {S M miss : Int} {P : Nat} {pr : List Int} (hM : M = -S * miss) : ∀ (rs : List (List Int)) (hs ps : List Int) (tk : List (Int × Bool)) (s s' : Int) (pr' : List Int), rs.length = hs.length → rs.length = ps.length → pr'.length = P → (∀ x ∈ pr', 0 ≤ x) →
    (∀ q, 0 ≤ q ∧ q < (P : Int) → mget tk q false = false → rd pr' q = rd pr q) →
    (∀ x ∈ rs.zip hs, x.1.length = P ∧ M ≤ pi_ S M pr x.1 x.2 + 1 ∧ ∀ q, 0 ≤ q ∧ q < (P : Int) → 0 ≤ rd x.1 q → -S * rd x.1 q - rd pr q ≤ pi_ S M pr x.1 x.2 + 1) →
    tot miss rs ps tk s = some s' → -(S * s') ≤ -(S * s) + PI S M pr rs hs + rs.length + sm pr'
  | [], [], [], tk, s, s', pr', _, _, hP, h0, _, _, ht => by
    have h1 := sm_nonneg h0
    simp [tot] at ht; subst ht; simp [PI]; omega
  | r :: rs, x :: hs, p :: ps, tk, s, s', pr', e1, e2, hP, h0, htk, hr, ht => by
    have hx := hr (r, x) (by simp)
    obtain ⟨hrl, hx1, hx2⟩ := hx
    simp only at hrl hx1 hx2
    have hr' : ∀ y ∈ rs.zip hs, y.1.length = P ∧ M ≤ pi_ S M pr y.1 y.2 + 1 ∧ ∀ q, 0 ≤ q ∧ q < (P : Int) → 0 ≤ rd y.1 q → -S * rd y.1 q - rd pr q ≤ pi_ S M pr y.1 y.2 + 1 := fun y hy => hr y (by simp [hy])
    simp only [tot] at ht
    simp only [PI, List.length_cons]
    by_cases hp : p = -1
    · rw [if_pos hp] at ht
      have ih := tot_ge hM rs hs ps tk _ s' pr' (by simpa using e1) (by simpa using e2) hP h0 htk hr' ht
      rw [Int.mul_add] at ih
      have hM' : M = -(S * miss) := by rw [hM, Int.neg_mul]
      push_cast; omega
    · rw [if_neg hp] at ht
      by_cases hb : p < 0 ∨ (r.length : Int) ≤ p ∨ rd r p < 0 ∨ mget tk p false = true
      · rw [if_pos hb] at ht; cases ht
      · rw [if_neg hb] at ht
        have hb1 : 0 ≤ p ∧ p < (P : Int) := by omega
        have hb2 : 0 ≤ rd r p := by omega
        have hb3 : mget tk p false = false := by cases hg : mget tk p false with
          | false => rfl
          | true => exact absurd (Or.inr (Or.inr (Or.inr hg))) hb
        obtain ⟨i, rfl⟩ : ∃ i : Nat, (i : Int) = p := ⟨p.toNat, by omega⟩
        have hi : i < pr'.length := by omega
        have hset : ∀ q, 0 ≤ q ∧ q < (P : Int) → rd (pr'.set i 0) q = if (i : Int) = q then 0 else rd pr' q := fun q h1 => by
          have := rd_set (l := pr') (i := (i : Int)) (j := q) (v := 0) (by omega) (by omega)
          rwa [Int.toNat_natCast] at this
        have ih := tot_ge hM rs hs ps _ _ s' (pr'.set i 0) (by simpa using e1) (by simpa using e2) (by simpa using hP) (fun y hy => by rcases List.mem_or_eq_of_mem_set hy with hy | rfl; exact h0 y hy; exact Int.le_refl _)
          (fun q hq hg => by
            rw [mget_mput] at hg
            rw [hset q hq]
            by_cases e : (i : Int) = q
            · rw [if_pos e.symm] at hg; cases hg
            · rw [if_neg (fun z => e z.symm)] at hg
              rw [if_neg e]; exact htk q hq hg) hr' ht
        rw [Int.mul_add, sm_set hi] at ih
        have hv := hx2 _ hb1 hb2
        rw [← htk _ hb1 hb3, rd_get hi, Int.neg_mul] at hv
        push_cast; omega
  | [], _ :: _, _, _, _, _, _, e, _, _, _, _, _, _ => by simp at e
  | [], [], _ :: _, _, _, _, _, _, e, _, _, _, _, _ => by simp at e
  | _ :: _, [], _, _, _, _, _, e, _, _, _, _, _, _ => by simp at e
  | _ :: _, _ :: _, [], _, _, _, _, _, e, _, _, _, _, _ => by simp at e
theorem tot_own {S M miss : Int} {P : Nat} {pr : List Int} (hM : M = -S * miss) : ∀ (rs : List (List Int)) (hs : List Int) (tk : List (Int × Bool)) (s : Int), rs.length = hs.length → (∀ x ∈ rs.zip hs, x.1.length = P ∧ (x.2 = -1 ∨ (0 ≤ x.2 ∧ x.2 < (P : Int) ∧ 0 ≤ rd x.1 x.2))) →
    hs.Pairwise (fun a b => a ≠ -1 → a ≠ b) → (∀ x ∈ hs, x ≠ -1 → mget tk x false = false) → ∃ s', tot miss rs hs tk s = some s' ∧ -(S * s') = -(S * s) + PI S M pr rs hs + psum pr hs
  | [], [], tk, s, _, _, _, _ => ⟨s, rfl, by simp [PI, psum]⟩
  | r :: rs, x :: hs, tk, s, e, hr, hd, ht => by
    obtain ⟨hrl, hx⟩ := hr (r, x) (by simp)
    simp only at hrl hx
    have hr' : ∀ y ∈ rs.zip hs, y.1.length = P ∧ (y.2 = -1 ∨ (0 ≤ y.2 ∧ y.2 < (P : Int) ∧ 0 ≤ rd y.1 y.2)) := fun y hy => hr y (by simp [hy])
    rw [List.pairwise_cons] at hd
    simp only [tot, PI, psum, pi_]
    rcases hx with rfl | ⟨h1, h2, h3⟩
    · rw [if_pos rfl, if_pos rfl, if_pos rfl]
      obtain ⟨s', a1, a2⟩ := tot_own (S := S) (M := M) (pr := pr) hM rs hs tk (s + miss) (by simpa using e) hr' hd.2 (fun y hy => ht y (by simp [hy]))
      refine ⟨s', a1, ?_⟩
      have hM' : M = -(S * miss) := by rw [hM, Int.neg_mul]
      rw [a2, Int.mul_add]; omega
    · have hne : x ≠ -1 := by omega
      rw [if_neg hne, if_neg hne, if_neg hne, if_neg (by have := ht x (by simp) hne; rw [this]; simp; omega)]
      obtain ⟨s', a1, a2⟩ := tot_own (S := S) (M := M) (pr := pr) hM rs hs (mput tk x true) (s + rd r x) (by simpa using e) hr' hd.2 (fun y hy hy1 => by
        rw [mget_mput, if_neg (fun z => hd.1 y hy hne z.symm)]; exact ht y (by simp [hy]) hy1)
      refine ⟨s', a1, ?_⟩
      rw [a2, Int.mul_add, Int.neg_mul]; omega
  | [], _ :: _, _, _, e, _, _, _ => by simp at e
  | _ :: _, [], _, _, e, _, _, _ => by simp at e
end Go.Proofs.YtacbficpehmlnaaDoor.Pure

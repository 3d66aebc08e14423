/- Pairs by search: the numbers are made right again, the owners turned; all tracks. -/
import Derived.Test.YtacbficpehmlnaaPureHU2
namespace Go.Proofs.Ytacbficpehmlnaa.Pure
open Go.RowKit Go.Proofs.YtacbficpehmlnaaK Go.Proofs.Ytacbficpehmlnaa.GBQ
set_option linter.unusedVariables false
set_option linter.unusedSimpArgs false
set_option maxRecDepth 100000
section
variable {rows : List (List Int)} {miss : Int} {P T : Nat} {u v ow f g : List Int} {dn : List Bool} {D : List Nat}
/-- The numbers, when the columns below i have been made right. -/
structure SH (rows : List (List Int)) (P : Nat) (u0 v ow f : List Int) (D : List Nat) (Δ : Int) (i : Nat) (u' v' : List Int) : Prop where
  lu : u'.length = rows.length
  lv : v'.length = P + rows.length
  a : ∀ a ∈ D, a < i → ∀ t : Nat, t < rows.length → rd ow (a : Int) = (t : Int) → rd u' (t : Int) = rd u0 (t : Int) + (Δ - rd f (a : Int))
  b : ∀ t : Nat, t < rows.length → (∀ a ∈ D, a < i → rd ow (a : Int) ≠ (t : Int)) → rd u' (t : Int) = rd u0 (t : Int)
  c : ∀ k : Nat, k < P + rows.length → rd v' (k : Int) = if k < i ∧ k ∈ D then rd v (k : Int) - (Δ - rd f (k : Int)) else rd v (k : Int)
theorem shift_l0 (h : COk rows miss P) (hi : HI rows miss P T u v ow) (hs : SI rows miss P T u v ow f g dn D) (hT : T < rows.length) {u0 : List Int} {Δ : Int} (hΔ : 0 ≤ Δ ∧ Δ ≤ 4096) (hD : ∀ a ∈ D, rd f (a : Int) ≤ Δ) (u0b : ∀ t : Nat, t < rows.length → 0 ≤ rd u0 (t : Int) ∧ rd u0 (t : Int) ≤ 10000) :
    ∀ (m i : Nat) (u' v' : List Int), P + rows.length = i + m → SH rows P u0 v ow f D Δ i u' v' → ∃ u2 v2, Ev (fun κ => (best_search_shift.hs κ).l0 rows miss rows.length P u' v' ow f g dn Δ dn ((P + rows.length : Nat) : Int) (i : Int)) ⟨⟨rows, miss⟩, rows.length, P, u2, v2, ow⟩ ∧ SH rows P u0 v ow f D Δ (P + rows.length) u2 v2
  | 0, i, u', v', e, hw => by
    refine ⟨u', v', ?_, by rw [show P + rows.length = i by omega]; exact hw⟩
    refine Ev.step (fun k => rfl) ?_
    simp only [best_search_shift.hs, best_search_shift.b0, if_neg (show ¬ (i : Int) < ((P + rows.length : Nat) : Int) by omega)]
    exact Ev.now
  | m + 1, i, u', v', e, hw => by
    have hn := h.n; have hp := h.p
    have hiN : i < P + rows.length := by omega
    have lid : (0 : Int) ≤ (i : Int) ∧ (i : Int) < (dn.length : Int) := by have := hs.ld; omega
    have lif : (0 : Int) ≤ (i : Int) ∧ (i : Int) < (f.length : Int) := by have := hs.lf; omega
    have liv : (0 : Int) ≤ (i : Int) ∧ (i : Int) < (v'.length : Int) := by have := hw.lv; omega
    have lio : (0 : Int) ≤ (i : Int) ∧ (i : Int) < (ow.length : Int) := by have := hi.lo; omega
    cases hd : rd dn (i : Int) with
    | false =>
      have hiD : i ∉ D := fun z => by have := (hs.dD i hiN).2 z; rw [hd] at this; cases this
      obtain ⟨u2, v2, w, q⟩ := shift_l0 h hi hs hT hΔ hD u0b m (i + 1) u' v' (by omega) ⟨hw.lu, hw.lv, fun a ha hai => hw.a a ha (by
        by_cases ea : a = i
        · subst ea; exact absurd ha hiD
        · omega), fun t ht hh => hw.b t ht fun a ha hai => hh a ha (by omega), fun k hk => by
        rw [hw.c k hk]
        by_cases ek : k = i
        · subst ek; rw [if_neg (by omega), if_neg (fun z => hiD z.2)]
        · simp only [show (k < i + 1) = (k < i) from propext (by omega)]⟩
      refine ⟨u2, v2, Ev.step (fun k => rfl) ?_, q⟩
      simp only [best_search_shift.hs, best_search_shift.b0, if_pos (show (i : Int) < ((P + rows.length : Nat) : Int) by omega), if_pos lid, hd, Bool.false_eq_true, if_false, wsucc (show i < 1000000000 by omega)]
      exact w
    | true =>
      have hiD : i ∈ D := (hs.dD i hiN).1 hd
      obtain ⟨-, ⟨t, htT, ho⟩, f1, f2⟩ := hs.D1 i hiD
      have fD := hD i hiD
      have ht : t < rows.length := by omega
      have lut : (0 : Int) ≤ (t : Int) ∧ (t : Int) < (u'.length : Int) := by have := hw.lu; omega
      have nobody : ∀ a ∈ D, a < i → rd ow (a : Int) ≠ (t : Int) := fun a ha hai z => by
        have := hi.un a i (hs.D1 a ha).1 hiN (by rw [z, ho]) (by rw [z]; omega)
        omega
      have hu : rd u' (t : Int) = rd u0 (t : Int) := hw.b t ht nobody
      have hv : rd v' (i : Int) = rd v (i : Int) := by rw [hw.c i hiN, if_neg (by omega)]
      have b1 := u0b t ht
      have b2 := hi.vb h (by omega) hiN
      have m4 := h.m
      have e1 : w64 (Δ - rd f (i : Int)) = Δ - rd f (i : Int) := w64_id (by omega)
      have e2 : w64 (rd u' (t : Int) + (Δ - rd f (i : Int))) = rd u0 (t : Int) + (Δ - rd f (i : Int)) := by rw [hu]; exact w64_id (by omega)
      have e3 : w64 (rd v' (i : Int) - (Δ - rd f (i : Int))) = rd v (i : Int) - (Δ - rd f (i : Int)) := by rw [hv]; exact w64_id (by omega)
      obtain ⟨u2, v2, w, q⟩ := shift_l0 h hi hs hT hΔ hD u0b m (i + 1) (u'.set t (rd u0 (t : Int) + (Δ - rd f (i : Int)))) (v'.set i (rd v (i : Int) - (Δ - rd f (i : Int)))) (by omega) ⟨by simpa using hw.lu, by simpa using hw.lv, fun a ha hai s hs1 hs2 => by
        rw [rdset (by have := hw.lu; omega) (by have := hw.lu; omega)]
        by_cases ea : a = i
        · subst ea
          have : t = s := by rw [ho] at hs2; omega
          subst this; rw [if_pos rfl]
        · have hne : t ≠ s := fun z => by subst z; exact nobody a ha (by omega) hs2
          rw [if_neg hne]; exact hw.a a ha (by omega) s hs1 hs2, fun s hs1 hh => by
        have hne : t ≠ s := fun z => by subst z; exact hh i hiD (by omega) ho
        rw [rdset (by have := hw.lu; omega) (by have := hw.lu; omega), if_neg hne]
        exact hw.b s hs1 fun a ha hai => hh a ha (by omega), fun k hk => by
        rw [rdset (by have := hw.lv; omega) (by have := hw.lv; omega)]
        by_cases ek : i = k
        · subst ek; rw [if_pos rfl, if_pos ⟨by omega, hiD⟩]
        · rw [if_neg ek, hw.c k hk]; simp only [show (k < i + 1) = (k < i) from propext (by omega)]⟩
      refine ⟨u2, v2, Ev.step (fun k => rfl) ?_, q⟩
      simp only [best_search_shift.hs, best_search_shift.b0, if_pos (show (i : Int) < ((P + rows.length : Nat) : Int) by omega), if_pos lid, hd, if_true, if_pos liv, if_pos lif, if_pos lio, ho, if_pos lut, e1, e2, e3, wsucc (show i < 1000000000 by omega), Int.toNat_natCast]
      exact w
/-- What the numbers are behind it. -/
structure SD (rows : List (List Int)) (P T : Nat) (u v ow f : List Int) (D : List Nat) (Δ : Int) (u' v' : List Int) : Prop where
  lu : u'.length = rows.length
  lv : v'.length = P + rows.length
  uT : rd u' (T : Int) = rd u (T : Int) + Δ
  uD : ∀ a ∈ D, ∀ t : Nat, t < rows.length → rd ow (a : Int) = (t : Int) → rd u' (t : Int) = rd u (t : Int) + (Δ - rd f (a : Int))
  ue : ∀ t : Nat, t < rows.length → t ≠ T → (∀ a ∈ D, rd ow (a : Int) ≠ (t : Int)) → rd u' (t : Int) = rd u (t : Int)
  vD : ∀ k ∈ D, rd v' (k : Int) = rd v (k : Int) - (Δ - rd f (k : Int))
  ve : ∀ k : Nat, k < P + rows.length → k ∉ D → rd v' (k : Int) = rd v (k : Int)
theorem shift_ev (h : COk rows miss P) (hi : HI rows miss P T u v ow) (hs : SI rows miss P T u v ow f g dn D) (hT : T < rows.length) {Δ : Int} (hΔ : 0 ≤ Δ ∧ Δ ≤ 4096) (hD : ∀ a ∈ D, rd f (a : Int) ≤ Δ) :
    ∃ u2 v2, Ev (fun κ => best_search_shift.f κ ⟨⟨rows, miss⟩, rows.length, P, u, v, ow⟩ ⟨f, g, dn⟩ (T : Int) Δ) ⟨⟨rows, miss⟩, rows.length, P, u2, v2, ow⟩ ∧ SD rows P T u v ow f D Δ u2 v2 := by
  have hm := h.m
  have lT : (0 : Int) ≤ (T : Int) ∧ (T : Int) < (u.length : Int) := by have := hi.lu; omega
  have eT : w64 (rd u (T : Int) + Δ) = rd u (T : Int) + Δ := by have := hi.u0 T hT; have := hi.ub hT; exact w64_id (by omega)
  have hset : ∀ t : Nat, t < rows.length → rd (u.set T (rd u (T : Int) + Δ)) (t : Int) = if T = t then rd u (T : Int) + Δ else rd u (t : Int) := fun t ht => rdset (by have := hi.lu; omega) (by have := hi.lu; omega)
  obtain ⟨u2, v2, w, q⟩ := shift_l0 h hi hs hT hΔ hD (u0 := u.set T (rd u (T : Int) + Δ)) (fun t ht => by
    rw [hset t ht]
    have := hi.u0 t ht; have := hi.ub ht
    split
    · rename_i e; subst e; omega
    · omega) (P + rows.length) 0 (u.set T (rd u (T : Int) + Δ)) v (by omega) ⟨by simpa using hi.lu, hi.lv, fun a _ hai => by omega, fun t _ _ => rfl, fun k hk => by rw [if_neg (by omega)]⟩
  have noT : ∀ a ∈ D, rd ow (a : Int) ≠ (T : Int) := fun a ha z => by
    obtain ⟨_, ⟨t, h1, h2⟩, _⟩ := hs.D1 a ha
    rw [z] at h2; omega
  refine ⟨u2, v2, ?_, q.lu, q.lv, ?_, fun a ha t ht ho => ?_, fun t ht hne hh => ?_, fun k hk => ?_, fun k hk hkD => ?_⟩
  · unfold best_search_shift.f
    simp only [if_pos lT, eT, hs.ld, Int.toNat_natCast]; exact w
  · rw [q.b T hT (fun a ha _ => noT a ha), hset T hT, if_pos rfl]
  · have hne : T ≠ t := fun z => by subst z; exact noT a ha ho
    rw [q.a a ha (hs.D1 a ha).1 t ht ho, hset t ht, if_neg hne]
  · rw [q.b t ht (fun a ha _ => hh a ha), hset t ht, if_neg (Ne.symm hne)]
  · rw [q.c k (hs.D1 k hk).1, if_pos ⟨(hs.D1 k hk).1, hk⟩]
  · rw [q.c k hk, if_neg (fun z => hkD z.2)]
/-! ### the owners -/
/-- The owners, while column c waits for its new one. -/
structure HO (rows : List (List Int)) (miss : Int) (P T : Nat) (u' v' ow oc_ : List Int) (c : Nat) (D : List Nat) : Prop where
  lo : oc_.length = P + rows.length
  x1 : ∀ k : Nat, k < P + rows.length → k ≠ c → rd oc_ (k : Int) = -1 ∨ ∃ t : Nat, t < T ∧ rd oc_ (k : Int) = (t : Int)
  x2 : ∀ k t : Nat, k < P + rows.length → k ≠ c → rd oc_ (k : Int) = (t : Int) → (pc rows miss P t k).2 = true ∧ rd u' (t : Int) + rd v' (k : Int) = (pc rows miss P t k).1
  x3 : ∀ k k' : Nat, k < P + rows.length → k' < P + rows.length → k ≠ c → k' ≠ c → rd oc_ (k : Int) = rd oc_ (k' : Int) → rd oc_ (k : Int) ≠ -1 → k = k'
  x4 : ∀ t : Nat, t < T → ∃ k : Nat, k < P + rows.length ∧ k ≠ c ∧ rd oc_ (k : Int) = (t : Int)
  x5 : ∀ a ∈ D, rd oc_ (a : Int) = rd ow (a : Int)
  x6 : ∀ k : Nat, k < P + rows.length → k ≠ c → rd oc_ (k : Int) = -1 → rd ow (k : Int) = -1
structure HF (rows : List (List Int)) (miss : Int) (P m : Nat) (u' v' ow ow' : List Int) : Prop where
  lo : ow'.length = P + rows.length
  ho : ∀ k : Nat, k < P + rows.length → rd ow' (k : Int) = -1 ∨ ∃ t : Nat, t < m ∧ rd ow' (k : Int) = (t : Int)
  un : ∀ k k' : Nat, k < P + rows.length → k' < P + rows.length → rd ow' (k : Int) = rd ow' (k' : Int) → rd ow' (k : Int) ≠ -1 → k = k'
  al : ∀ k t : Nat, k < P + rows.length → rd ow' (k : Int) = (t : Int) → (pc rows miss P t k).2 = true ∧ rd u' (t : Int) + rd v' (k : Int) = (pc rows miss P t k).1
  all : ∀ t : Nat, t < m → ∃ k : Nat, k < P + rows.length ∧ rd ow' (k : Int) = (t : Int)
  x6 : ∀ k : Nat, k < P + rows.length → rd ow' (k : Int) = -1 → rd ow (k : Int) = -1
theorem aug_l1 {u' v' : List Int} {D0 : List Nat} (lg : g.length = P + rows.length) (hD0 : ∀ a ∈ D0, a < P + rows.length ∧ ∃ t : Nat, t < T ∧ rd ow (a : Int) = (t : Int)) : ∀ (L : Nat) (D : List Nat) (c : Nat) (oc_ : List Int), D.length ≤ L → Chn g D → (∀ x ∈ D, x ∈ D0) → c < P + rows.length → c ∉ D → (rd g (c : Int) = -1 ∨ ∃ b ∈ D, rd g (c : Int) = ((b : Nat) : Int)) →
    (∀ x : Nat, (x = c ∨ x ∈ D) → (rd g (x : Int) = -1 → (pc rows miss P T x).2 = true ∧ rd u' (T : Int) + rd v' (x : Int) = (pc rows miss P T x).1) ∧ ∀ a ∈ D0, rd g (x : Int) = (a : Int) → ∀ t : Nat, rd ow (a : Int) = (t : Int) → (pc rows miss P t x).2 = true ∧ rd u' (t : Int) + rd v' (x : Int) = (pc rows miss P t x).1) →
    HO rows miss P T u' v' ow oc_ c D → ∃ ow', Ev (fun κ => (best_search_pair.hs κ).l1 rows miss rows.length P u' v' oc_ (T : Int) f g dn (c : Int)) ⟨⟨rows, miss⟩, rows.length, P, u', v', ow'⟩ ∧ HF rows miss P (T + 1) u' v' ow ow' := by
  intro L
  induction L with
  | zero =>
    intro D c oc_ hL hch hsub hc hcD hg hx hO
    have hD : D = [] := List.eq_nil_of_length_eq_zero (by omega)
    subst hD
    exact aug_end lg hc (hg.resolve_right fun ⟨b, hb, _⟩ => by cases hb) hx hO
  | succ L ih =>
    intro D c oc_ hL hch hsub hc hcD hg hx hO
    rcases hg with hg | ⟨a, ha, hg⟩
    · exact aug_end lg hc hg hx hO
    · obtain ⟨D', q1, q2, q3, q4, q5⟩ := hch.cut ha
      obtain ⟨haN, t, htT, hot⟩ := hD0 a (hsub a ha)
      have hoa : rd oc_ (a : Int) = (t : Int) := by rw [hO.x5 a ha, hot]
      have hac : a ≠ c := fun z => by subst z; exact hcD ha
      have hset : ∀ k : Nat, k < P + rows.length → rd (oc_.set c (t : Int)) (k : Int) = if c = k then (t : Int) else rd oc_ (k : Int) := fun k hk => rdset (by have := hO.lo; omega) (by have := hO.lo; omega)
      have htight := (hx c (.inl rfl)).2 a (hsub a ha) hg t hot
      obtain ⟨ow', w, q⟩ := ih D' a (oc_.set c (t : Int)) (by omega) q1 (fun x hx => hsub x (q5 x hx)) haN q3 q4 (fun x hx2 => hx x (.inr (by
        rcases hx2 with rfl | h2
        · exact ha
        · exact q5 x h2))) ⟨by simpa using hO.lo, fun k hk hka => by
          rw [hset k hk]
          by_cases e : c = k
          · rw [if_pos e]; exact .inr ⟨t, htT, rfl⟩
          · rw [if_neg e]; exact hO.x1 k hk (Ne.symm e), fun k s hk hka hs => by
          rw [hset k hk] at hs
          by_cases e : c = k
          · rw [if_pos e] at hs
            have : t = s := by omega
            subst this; subst e; exact htight
          · rw [if_neg e] at hs; exact hO.x2 k s hk (Ne.symm e) hs, fun k k' hk hk' hka hka' he hne => by
          rw [hset k hk] at he hne; rw [hset k' hk'] at he
          by_cases e : c = k
          · by_cases e' : c = k'
            · omega
            · rw [if_pos e, if_neg e'] at he
              have := hO.x3 a k' haN hk' hac (Ne.symm e') (by rw [hoa]; exact he) (by rw [hoa]; omega)
              exact absurd this.symm hka'
          · rw [if_neg e] at he hne
            by_cases e' : c = k'
            · rw [if_pos e'] at he
              have := hO.x3 a k haN hk hac (Ne.symm e) (by rw [hoa]; exact he.symm) (by rw [hoa]; omega)
              exact absurd this.symm hka
            · rw [if_neg e'] at he; exact hO.x3 k k' hk hk' (Ne.symm e) (Ne.symm e') he hne, fun s hs => by
          obtain ⟨k, k1, k2, k3⟩ := hO.x4 s hs
          by_cases e : k = a
          · subst e
            refine ⟨c, hc, Ne.symm hac, ?_⟩
            rw [hset c hc, if_pos rfl]; rw [hoa] at k3; exact k3
          · refine ⟨k, k1, e, ?_⟩
            rw [hset k k1, if_neg (Ne.symm k2)]; exact k3, fun x hx2 => by
          have hxD := q5 x hx2
          have hxN := (hD0 x (hsub x hxD)).1
          have : c ≠ x := fun z => by subst z; exact hcD hxD
          rw [hset x hxN, if_neg this]; exact hO.x5 x hxD, fun k hk hka he => by
          rw [hset k hk] at he
          by_cases e : c = k
          · rw [if_pos e] at he; omega
          · rw [if_neg e] at he; exact hO.x6 k hk (Ne.symm e) he⟩
      refine ⟨ow', Ev.step (fun k => rfl) ?_, q⟩
      have lc : (0 : Int) ≤ (c : Int) ∧ (c : Int) < (g.length : Int) := by omega
      have lo1 : (0 : Int) ≤ (a : Int) ∧ (a : Int) < (oc_.length : Int) := by have := hO.lo; omega
      have lo2 : (0 : Int) ≤ (c : Int) ∧ (c : Int) < (oc_.length : Int) := by have := hO.lo; omega
      simp only [best_search_pair.hs, best_search_pair.b1, if_neg (show ¬ (c : Int) = -1 by omega), if_pos lc, hg, if_neg (show ¬ (a : Int) = -1 by omega), if_pos lo1, if_pos lo2, hoa, Int.toNat_natCast]
      exact w
where
  aug_end {u' v' : List Int} {D : List Nat} {D0 : List Nat} {c : Nat} {oc_ : List Int} (lg : g.length = P + rows.length) (hc : c < P + rows.length) (hg : rd g (c : Int) = -1) (hx : ∀ x : Nat, (x = c ∨ x ∈ D) → (rd g (x : Int) = -1 → (pc rows miss P T x).2 = true ∧ rd u' (T : Int) + rd v' (x : Int) = (pc rows miss P T x).1) ∧ ∀ a ∈ D0, rd g (x : Int) = (a : Int) → ∀ t : Nat, rd ow (a : Int) = (t : Int) → (pc rows miss P t x).2 = true ∧ rd u' (t : Int) + rd v' (x : Int) = (pc rows miss P t x).1) (hO : HO rows miss P T u' v' ow oc_ c D) : ∃ ow', Ev (fun κ => (best_search_pair.hs κ).l1 rows miss rows.length P u' v' oc_ (T : Int) f g dn (c : Int)) ⟨⟨rows, miss⟩, rows.length, P, u', v', ow'⟩ ∧ HF rows miss P (T + 1) u' v' ow ow' := by
    have hset : ∀ k : Nat, k < P + rows.length → rd (oc_.set c (T : Int)) (k : Int) = if c = k then (T : Int) else rd oc_ (k : Int) := fun k hk => rdset (by have := hO.lo; omega) (by have := hO.lo; omega)
    have lc : (0 : Int) ≤ (c : Int) ∧ (c : Int) < (g.length : Int) := by omega
    have lo2 : (0 : Int) ≤ (c : Int) ∧ (c : Int) < (oc_.length : Int) := by have := hO.lo; omega
    have notT : ∀ k : Nat, k < P + rows.length → c ≠ k → rd oc_ (k : Int) ≠ (T : Int) := fun k hk hne z => by
      rcases hO.x1 k hk (Ne.symm hne) with e | ⟨t, h1, h2⟩
      · omega
      · omega
    refine ⟨oc_.set c (T : Int), ?_, by simpa using hO.lo, fun k hk => ?_, fun k k' hk hk' he hne => ?_, fun k s hk hs => ?_, fun s hs => ?_, fun k hk he => ?_⟩
    · refine Ev.step (fun k => rfl) ?_
      simp only [best_search_pair.hs, best_search_pair.b1, if_neg (show ¬ (c : Int) = -1 by omega), if_pos lc, hg, if_true, if_pos lo2, Int.toNat_natCast]
      refine Ev.step (fun k => rfl) ?_
      simp only [best_search_pair.hs, best_search_pair.b1, if_true]
      exact Ev.now
    · rw [hset k hk]
      by_cases e : c = k
      · rw [if_pos e]; exact .inr ⟨T, by omega, rfl⟩
      · rw [if_neg e]
        rcases hO.x1 k hk (Ne.symm e) with h1 | ⟨t, h1, h2⟩
        · exact .inl h1
        · exact .inr ⟨t, by omega, h2⟩
    · rw [hset k hk] at he hne; rw [hset k' hk'] at he
      by_cases e : c = k
      · by_cases e' : c = k'
        · omega
        · rw [if_pos e, if_neg e'] at he; exact absurd he.symm (notT k' hk' e')
      · rw [if_neg e] at he hne
        by_cases e' : c = k'
        · rw [if_pos e'] at he; exact absurd he (notT k hk e)
        · rw [if_neg e'] at he; exact hO.x3 k k' hk hk' (Ne.symm e) (Ne.symm e') he hne
    · rw [hset k hk] at hs
      by_cases e : c = k
      · rw [if_pos e] at hs
        have : T = s := by omega
        subst this; subst e; exact (hx c (.inl rfl)).1 hg
      · rw [if_neg e] at hs; exact hO.x2 k s hk (Ne.symm e) hs
    · by_cases e : s = T
      · subst e; exact ⟨c, hc, by rw [hset c hc, if_pos rfl]⟩
      · obtain ⟨k, k1, k2, k3⟩ := hO.x4 s (by omega)
        exact ⟨k, k1, by rw [hset k k1, if_neg (Ne.symm k2)]; exact k3⟩
    · rw [hset k hk] at he
      by_cases e : c = k
      · rw [if_pos e] at he; omega
      · rw [if_neg e] at he; exact hO.x6 k hk (Ne.symm e) he
end
end Go.Proofs.Ytacbficpehmlnaa.Pure

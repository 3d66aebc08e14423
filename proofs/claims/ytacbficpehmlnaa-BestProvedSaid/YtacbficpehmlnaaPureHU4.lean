/- Pairs by search: a track is paired; all tracks. -/
import Derived.Test.YtacbficpehmlnaaPureHU3
namespace Go.Proofs.Ytacbficpehmlnaa.Pure
open Go.RowKit Go.Proofs.YtacbficpehmlnaaK Go.Proofs.Ytacbficpehmlnaa.GBQ
set_option linter.unusedVariables false
set_option linter.unusedSimpArgs false
set_option maxRecDepth 100000
/-- How many are not done. -/
def nfl : List Bool → Nat
  | [] => 0
  | x :: l => (if x = true then 0 else 1) + nfl l
theorem nfl_set : ∀ {l : List Bool} {i : Nat}, (hi : i < l.length) → l[i] = false → nfl (l.set i true) + 1 = nfl l
  | x :: l, 0, hi, h => by simp only [List.getElem_cons_zero] at h; subst h; simp only [List.set_cons_zero, nfl, if_true, Bool.false_eq_true, if_false]; omega
  | x :: l, i + 1, hi, h => by
    have := nfl_set (l := l) (i := i) (by simpa using hi) (by simpa using h)
    simp only [List.set_cons_succ, nfl]; omega
theorem repeatM_n : ∀ c : Nat, c < 129 → slices_Repeat_int64_int64.f 20 [9223372036854775807] (c : Int) = some (List.replicate c 9223372036854775807) := by decide +kernel
theorem repeatM_ev {c : Nat} (h : c ≤ 128) : Ev (fun k => slices_Repeat_int64_int64.f k [9223372036854775807] (c : Int)) (List.replicate c INF) := Ev.of (fun k => slices_Repeat_int64_int64.mono k _ _) (repeatM_n c (by omega))
section
variable {rows : List (List Int)} {miss : Int} {P T : Nat} {u v ow : List Int}
theorem pair_done (h : COk rows miss P) (hi : HI rows miss P T u v ow) (hT : T < rows.length) {f g : List Int} {dn : List Bool} {D : List Nat} (hs : SI rows miss P T u v ow f g dn D) {b : Nat} (hb : b < P + rows.length) (hbD : b ∉ D) (hm : ∀ k : Nat, k < P + rows.length → k ∉ D → rd f (b : Int) ≤ rd f (k : Int)) (ho : rd ow (b : Int) = -1) :
    ∃ u' v' ow', Ev (fun κ => (best_search_pair.hs κ).l0 rows miss rows.length P u v ow (T : Int) f g dn (b : Int)) ⟨⟨rows, miss⟩, rows.length, P, u', v', ow'⟩ ∧ HI rows miss P (T + 1) u' v' ow' := by
  obtain ⟨n1, n2, n3⟩ := hs.near h hi hT hb hm
  have m4 := h.m
  have hD : ∀ a ∈ D, rd f (a : Int) ≤ rd f (b : Int) := fun a ha => hs.s5 a ha b hb hbD
  obtain ⟨u', v', w1, q⟩ := shift_ev h hi hs hT (Δ := rd f (b : Int)) (by omega) hD
  -- what is tight behind it
  have vx : ∀ x : Nat, (x = b ∨ x ∈ D) → rd v' (x : Int) = rd v (x : Int) - (rd f (b : Int) - rd f (x : Int)) := fun x hx => by
    by_cases e : x ∈ D
    · exact q.vD x e
    · have : x = b := hx.resolve_right e
      subst this; rw [q.ve x hb e]; omega
  have srx : ∀ x : Nat, (x = b ∨ x ∈ D) → x < P + rows.length ∧ Sr rows miss P T u v ow f g D x := fun x hx => by
    rcases hx with rfl | hx
    · exact ⟨hb, n3⟩
    · obtain ⟨d1, _, d2, d3⟩ := hs.D1 x hx
      refine ⟨d1, ?_⟩
      rcases hs.s4 x d1 with e | ⟨_, e⟩
      · unfold INF at e; omega
      · exact e
  have tight : ∀ x : Nat, (x = b ∨ x ∈ D) → (rd g (x : Int) = -1 → (pc rows miss P T x).2 = true ∧ rd u' (T : Int) + rd v' (x : Int) = (pc rows miss P T x).1) ∧ ∀ a ∈ D, rd g (x : Int) = (a : Int) → ∀ t : Nat, rd ow (a : Int) = (t : Int) → (pc rows miss P t x).2 = true ∧ rd u' (t : Int) + rd v' (x : Int) = (pc rows miss P t x).1 := fun x hx => by
    obtain ⟨hxN, sr⟩ := srx x hx
    have hv := vx x hx
    refine ⟨fun hg => ?_, fun a ha hg t ht => ?_⟩
    · rcases sr with ⟨w1, w2, w3⟩ | ⟨a, s, w1, w2, w3, _⟩
      · exact ⟨w2, by rw [q.uT, hv]; omega⟩
      · rw [hg] at w3; omega
    · rcases sr with ⟨w1, _⟩ | ⟨a', s, w1, w2, w3, w4, w5, w6⟩
      · rw [hg] at w1; omega
      · have ea : a = a' := by rw [hg] at w3; omega
        subst ea
        have es : t = s := by rw [ht] at w4; omega
        subst es
        obtain ⟨_, ⟨s, hsT, hs2⟩, _⟩ := hs.D1 a ha
        have htn : t < rows.length := by rw [ht] at hs2; omega
        exact ⟨w5, by rw [q.uD a ha t htn ht, hv]; omega⟩
  have notin : ∀ k : Nat, k < P + rows.length → rd ow (k : Int) = -1 → k ∉ D := fun k hk e hkD => by
    obtain ⟨_, ⟨t, _, e2⟩, _⟩ := hs.D1 k hkD
    rw [e] at e2; omega
  have farP : ∀ k : Nat, k < P + rows.length → P ≤ k → k ∉ D := fun k hk hPk hkD => by
    obtain ⟨d1, ⟨t, htT, ht⟩, d2, d3⟩ := hs.D1 k hkD
    obtain ⟨s, rfl⟩ : ∃ s, k = P + s := ⟨k - P, by omega⟩
    have e1 := (hi.al _ t d1 ht).1
    rw [pc_own] at e1; simp at e1
    obtain ⟨_, sr⟩ := srx _ (.inr hkD)
    rcases sr with ⟨_, w2, _⟩ | ⟨a, r, w1, w2, w3, w4, w5, _⟩
    · rw [pc_own] at w2; simp at w2; omega
    · rw [pc_own] at w5; simp at w5
      have hr : r = t := by omega
      subst hr
      exact w2 (hi.un a (P + s) (hs.D1 a w1).1 d1 (by rw [w4, ht]) (by rw [w4]; omega))
  -- what is not turned
  have vle : ∀ k : Nat, k < P + rows.length → rd v' (k : Int) ≤ rd v (k : Int) := fun k hk => by
    by_cases e : k ∈ D
    · rw [q.vD k e]; have := hD k e; omega
    · rw [q.ve k hk e]; exact Int.le_refl _
  have ucase : ∀ t : Nat, t < rows.length → t = T ∨ (∃ a ∈ D, rd ow (a : Int) = (t : Int)) ∨ rd u' (t : Int) = rd u (t : Int) := fun t ht => by
    by_cases e : t = T
    · exact .inl e
    · by_cases e2 : ∃ a ∈ D, rd ow (a : Int) = (t : Int)
      · exact .inr (.inl e2)
      · exact .inr (.inr (q.ue t ht e fun a ha z => e2 ⟨a, ha, z⟩))
  have fe' : ∀ t k : Nat, t < rows.length → k < P + rows.length → (pc rows miss P t k).2 = true → rd u' (t : Int) + rd v' (k : Int) ≤ (pc rows miss P t k).1 := fun t k ht hk ha => by
    rcases ucase t ht with rfl | ⟨a, haD, hat⟩ | e
    · have s2 := hs.s2 k hk ha
      rw [q.uT]
      by_cases e : k ∈ D
      · rw [q.vD k e]; omega
      · rw [q.ve k hk e]; have := hm k hk e; omega
    · have s3 := hs.s3 a haD t hat k hk ha
      rw [q.uD a haD t ht hat]
      by_cases e : k ∈ D
      · rw [q.vD k e]; omega
      · rw [q.ve k hk e]; have := hm k hk e; omega
    · rw [e]; have := hi.fe t k ht hk ha; have := vle k hk; omega
  have gb : rd g (b : Int) = -1 ∨ ∃ a ∈ D, rd g (b : Int) = ((a : Nat) : Int) := by
    rcases n3 with ⟨w1, _⟩ | ⟨a, s, w1, w2, w3, _⟩
    · exact .inl w1
    · exact .inr ⟨a, w1, w3⟩
  obtain ⟨ow', w2, z⟩ := aug_l1 (dn := dn) (f := f) hs.lg (fun a ha => ⟨(hs.D1 a ha).1, (hs.D1 a ha).2.1⟩) D.length D b ow (Nat.le_refl _) hs.ch (fun x hx => hx) hb hbD gb tight
    ⟨hi.lo, fun k hk _ => hi.ho k hk, fun k t hk hkb hkt => by
      obtain ⟨e1, e2⟩ := hi.al k t hk hkt
      refine ⟨e1, ?_⟩
      have htT : t < T := by
        rcases hi.ho k hk with e | ⟨s, h1, h2⟩
        · rw [hkt] at e; omega
        · rw [hkt] at h2; omega
      by_cases e : k ∈ D
      · rw [q.uD k e t (by omega) hkt, q.vD k e]; omega
      · rw [q.ue t (by omega) (by omega) (fun a ha hat => e (by
          have := hi.un a k (hs.D1 a ha).1 hk (by rw [hat, hkt]) (by rw [hat]; omega)
          subst this; exact ha)), q.ve k hk e]; exact e2, fun k k' hk hk' _ _ he hne => hi.un k k' hk hk' he hne, fun t ht => by
      obtain ⟨k, k1, k2⟩ := hi.all t ht
      exact ⟨k, k1, fun e => by subst e; rw [ho] at k2; omega, k2⟩, fun a _ => rfl, fun k hk _ e => e⟩
  refine ⟨u', v', ow', ?_, q.lu, q.lv, z.lo, fun t ht => ?_, fun k hk => ?_, fun k hk hz => ?_, z.ho, z.un, z.al, fe', fun t h1 h2 => ?_, z.all⟩
  · have l1 : (0 : Int) ≤ (b : Int) ∧ (b : Int) < (ow.length : Int) := by have := hi.lo; omega
    have l2 : (0 : Int) ≤ (b : Int) ∧ (b : Int) < (f.length : Int) := by have := hs.lf; omega
    refine Ev.step (fun k => rfl) ?_
    simp only [best_search_pair.hs, best_search_pair.b0, if_pos l1, ho, if_true, if_pos l2]
    exact Ev.bind w1 w2
  · rcases ucase t ht with rfl | ⟨a, haD, hat⟩ | e
    · rw [q.uT]; have := hi.u0 t ht; omega
    · rw [q.uD a haD t ht hat]; have := hi.u0 t ht; have := hD a haD; omega
    · rw [e]; exact hi.u0 t ht
  · have := vle k hk; have := hi.v0 k hk; omega
  · have hkD : k ∉ D := by
      rcases hz with e | e
      · exact farP k hk e
      · exact notin k hk (z.x6 k hk e)
    rw [q.ve k hk hkD]
    exact hi.vz k hk (hz.imp id fun e => z.x6 k hk e)
  · rw [q.ue t h2 (by omega) fun a ha hat => ?_]
    · exact hi.uz t (by omega) h2
    · obtain ⟨_, ⟨s, hs1, hs2⟩, _⟩ := hs.D1 a ha
      rw [hat] at hs2; omega
theorem pair_l0 (h : COk rows miss P) (hi : HI rows miss P T u v ow) (hT : T < rows.length) : ∀ (c : Nat) (f g : List Int) (dn : List Bool) (D : List Nat) (b : Nat), nfl dn ≤ c → SI rows miss P T u v ow f g dn D → b < P + rows.length → b ∉ D → (∀ k : Nat, k < P + rows.length → k ∉ D → rd f (b : Int) ≤ rd f (k : Int)) →
    ∃ u' v' ow', Ev (fun κ => (best_search_pair.hs κ).l0 rows miss rows.length P u v ow (T : Int) f g dn (b : Int)) ⟨⟨rows, miss⟩, rows.length, P, u', v', ow'⟩ ∧ HI rows miss P (T + 1) u' v' ow' := by
  intro c
  induction c with
  | zero =>
    intro f g dn D b hc hs hb hbD hm
    have hbd : rd dn (b : Int) = false := by
      cases e : rd dn (b : Int) with
      | false => rfl
      | true => exact absurd ((hs.dD b hb).1 e) hbD
    have hbl : b < dn.length := by have := hs.ld; omega
    rw [rd_get hbl] at hbd
    have := nfl_set hbl hbd; omega
  | succ c ih =>
    intro f g dn D b hc hs hb hbD hm
    rcases hi.ho b hb with ho | ⟨t, htT, ho⟩
    · exact pair_done h hi hT hs hb hbD hm ho
    · have hbd : rd dn (b : Int) = false := by
        cases e : rd dn (b : Int) with
        | false => rfl
        | true => exact absurd ((hs.dD b hb).1 e) hbD
      have hbl : b < dn.length := by have := hs.ld; omega
      obtain ⟨n1, n2, n3⟩ := hs.near h hi hT hb hm
      have ht : t < rows.length := by omega
      have m4 := h.m; have hn := h.n; have hp := h.p
      obtain ⟨f', g', w1, lf', lg', hf, hg⟩ := reach_ev h (ow := ow) hi.lu hi.lv ht (show 0 ≤ rd u (t : Int) ∧ rd u (t : Int) ≤ 4096 by have := hi.u0 t ht; have := hi.ub ht; omega) (fun k hk => hi.vb h (by omega) hk) (a := (b : Int)) (d := rd f (b : Int)) (by omega) hs.lf hs.lg (show (dn.set b true).length = P + rows.length by simpa using hs.ld)
      have hs' := si_step h hi hs hT hb hbD hm ho htT lf' lg' hf hg
      have free := hs'.free hi hT
      have notd : ∀ k : Nat, k < P + rows.length → k ∉ b :: D → rd (dn.set b true) (k : Int) = false := fun k hk hkD => by
        cases e : rd (dn.set b true) (k : Int) with
        | false => rfl
        | true => exact absurd ((hs'.dD k hk).1 e) hkD
      obtain ⟨b', w2, c1, c2, c3⟩ := nearest_ev (g := g') lf' hs'.ld (by omega) (show P + T < P + rows.length by omega) (notd _ (by omega) free)
      obtain ⟨u', v', ow', w3, q⟩ := ih f' g' (dn.set b true) (b :: D) b' (by
        rw [rd_get hbl] at hbd
        have := nfl_set hbl hbd; omega) hs' c1 (fun z => by rw [(hs'.dD b' c1).2 z] at c2; cases c2) (fun k hk hkD => c3 k hk (notd k hk hkD))
      refine ⟨u', v', ow', ?_, q⟩
      have l1 : (0 : Int) ≤ (b : Int) ∧ (b : Int) < (ow.length : Int) := by have := hi.lo; omega
      have l2 : (0 : Int) ≤ (b : Int) ∧ (b : Int) < (f.length : Int) := by have := hs.lf; omega
      have l3 : (0 : Int) ≤ (b : Int) ∧ (b : Int) < (dn.length : Int) := by omega
      refine Ev.step (fun k => rfl) ?_
      simp only [best_search_pair.hs, best_search_pair.b0, if_pos l1, ho, if_neg (show ¬ (t : Int) = -1 by omega), if_pos l3, if_pos l2, Int.toNat_natCast]
      exact Ev.bind w1 (Ev.bind w2 w3)
theorem pair_ev (h : COk rows miss P) (hi : HI rows miss P T u v ow) (hT : T < rows.length) : ∃ u' v' ow', Ev (fun κ => best_search_pair.f κ ⟨⟨rows, miss⟩, rows.length, P, u, v, ow⟩ (T : Int)) ⟨⟨rows, miss⟩, rows.length, P, u', v', ow'⟩ ∧ HI rows miss P (T + 1) u' v' ow' := by
  have hn := h.n; have hp := h.p; have m4 := h.m
  have e : w64 ((P : Int) + (rows.length : Int)) = ((P + rows.length : Nat) : Int) := by rw [w64_id (by omega)]; push_cast; rfl
  obtain ⟨f', g', w1, lf', lg', hf, hg⟩ := reach_ev h (ow := ow) hi.lu hi.lv hT (show 0 ≤ rd u (T : Int) ∧ rd u (T : Int) ≤ 4096 by have := hi.u0 T hT; have := hi.ub hT; omega) (fun k hk => hi.vb h (by omega) hk) (a := -1) (d := 0) (by omega) (f := List.replicate (P + rows.length) INF) (g := List.replicate (P + rows.length) (-1)) (dn := List.replicate (P + rows.length) false) (by simp) (by simp) (by simp)
  have hs := si_zero h hi hT lf' lg' hf hg
  obtain ⟨b, w2, c1, c2, c3⟩ := nearest_ev (g := g') lf' hs.ld (by omega) (show P + T < P + rows.length by omega) (by
    cases e : rd (List.replicate (P + rows.length) false) ((P + T : Nat) : Int) with
    | false => rfl
    | true => have := (hs.dD _ (by omega)).1 e; cases this)
  obtain ⟨u', v', ow', w3, q⟩ := pair_l0 h hi hT _ f' g' _ [] b (Nat.le_refl _) hs c1 (by simp) (fun k hk _ => c3 k hk (by
    cases e : rd (List.replicate (P + rows.length) false) (k : Int) with
    | false => rfl
    | true => have := (hs.dD _ hk).1 e; cases this))
  refine ⟨u', v', ow', ?_, q⟩
  unfold best_search_pair.f
  simp only [e]
  refine Ev.bind (repeatM_ev (by omega)) (Ev.bind (repeat_ev (by omega)) ?_)
  simp only [if_pos (show 0 ≤ ((P + rows.length : Nat) : Int) ∧ ((P + rows.length : Nat) : Int) ≤ 281474976710656 by omega), Int.toNat_natCast]
  exact Ev.bind w1 (Ev.bind w2 w3)
theorem solved_l0 (h : COk rows miss P) : ∀ (m T : Nat) (u v ow : List Int), rows.length = T + m → HI rows miss P T u v ow → ∃ u' v' ow', Ev (fun κ => (best_solved.hs κ).l0 rows miss rows.length P u v ow (rows.length : Int) (T : Int)) (some ⟨⟨rows, miss⟩, rows.length, P, u', v', ow'⟩, none) ∧ HI rows miss P rows.length u' v' ow'
  | 0, T, u, v, ow, e, hi => by
    have e2 : T = rows.length := by omega
    refine ⟨u, v, ow, ?_, e2 ▸ hi⟩
    refine Ev.step (fun k => rfl) ?_
    simp only [best_solved.hs, best_solved.b0, if_neg (show ¬ (T : Int) < (rows.length : Int) by omega)]
    exact Ev.now
  | m + 1, T, u, v, ow, e, hi => by
    have hn := h.n
    obtain ⟨u', v', ow', w, q⟩ := pair_ev h hi (show T < rows.length by omega)
    obtain ⟨u2, v2, ow2, w2, q2⟩ := solved_l0 h m (T + 1) u' v' ow' (by omega) q
    refine ⟨u2, v2, ow2, ?_, q2⟩
    refine Ev.step (fun k => rfl) ?_
    simp only [best_solved.hs, best_solved.b0, if_pos (show (T : Int) < (rows.length : Int) by omega), wsucc (show T < 1000000000 by omega)]
    exact Ev.bind w w2
end
theorem hi_zero {rows : List (List Int)} {miss : Int} {P : Nat} (h : COk rows miss P) : HI rows miss P 0 (List.replicate rows.length 0) (List.replicate (P + rows.length) 0) (List.replicate (P + rows.length) (-1)) := by
  have r1 : ∀ t : Nat, t < rows.length → rd (List.replicate rows.length (0 : Int)) (t : Int) = 0 := fun t ht => (List.mem_replicate.1 (rd_mem (L := List.replicate rows.length (0 : Int)) (x := (t : Int)) (by simp; omega))).2
  have r2 : ∀ k : Nat, k < P + rows.length → rd (List.replicate (P + rows.length) (0 : Int)) (k : Int) = 0 := fun k hk => (List.mem_replicate.1 (rd_mem (L := List.replicate (P + rows.length) (0 : Int)) (x := (k : Int)) (by simp; omega))).2
  have r3 : ∀ k : Nat, k < P + rows.length → rd (List.replicate (P + rows.length) (-1 : Int)) (k : Int) = -1 := fun k hk => (List.mem_replicate.1 (rd_mem (L := List.replicate (P + rows.length) (-1 : Int)) (x := (k : Int)) (by simp; omega))).2
  refine ⟨by simp, by simp, by simp, fun t ht => by rw [r1 t ht]; exact Int.le_refl _, fun k hk => by rw [r2 k hk]; exact Int.le_refl _, fun k hk _ => r2 k hk, fun k hk => .inl (r3 k hk), fun k k' hk hk' _ hne => absurd (r3 k hk) hne, fun k t hk ht => by rw [r3 k hk] at ht; omega, fun t k ht hk _ => ?_, fun t _ ht => r1 t ht, fun t ht => by omega⟩
  rw [r1 t ht, r2 k hk]; have := pc_bd h (t := t) (k := k) ht; omega
theorem solved_ev {rows : List (List Int)} {miss : Int} (hc : chkB rows miss = true) : ∃ u v ow, Ev (fun κ => best_solved.f κ ⟨rows, miss⟩) (some ⟨⟨rows, miss⟩, rows.length, Pl rows, u, v, ow⟩, none) ∧ HI rows miss (Pl rows) rows.length u v ow := by
  have h := cok_pl hc
  have h1 := chk_ev rows miss
  rw [hc, if_pos rfl] at h1
  have hB : Ev (fun k => best_begun.f k ⟨rows, miss⟩) ⟨⟨rows, miss⟩, rows.length, Pl rows, List.replicate rows.length 0, List.replicate (Pl rows + rows.length) 0, List.replicate (Pl rows + rows.length) (-1)⟩ := begun_ev h
  obtain ⟨u, v, ow, w, q⟩ := solved_l0 h rows.length 0 _ _ _ (by omega) (hi_zero h)
  refine ⟨u, v, ow, ?_, q⟩
  unfold best_solved.f
  refine Ev.bind h1 ?_
  simp only [Option.isSome_none, Bool.false_eq_true, if_false]
  exact Ev.bind hB w
end Go.Proofs.Ytacbficpehmlnaa.Pure

/- Pairs by search: prices, what can be come to, the nearest. -/
import Derived.Test.YtacbficpehmlnaaPureBS1
namespace Go.Proofs.Ytacbficpehmlnaa.Pure
open Go.RowKit Go.Proofs.YtacbficpehmlnaaK Go.Proofs.Ytacbficpehmlnaa.GBQ
set_option linter.unusedVariables false
set_option linter.unusedSimpArgs false
set_option maxRecDepth 100000
/-- What a track and a column cost, and whether they can be paired. -/
def pc (rows : List (List Int)) (miss : Int) (P t k : Nat) : Int × Bool := if P ≤ k then (miss, decide ((k : Int) - (P : Int) = (t : Int))) else if rd (rd rows (t : Int)) (k : Int) < 0 then (0, false) else (rd (rd rows (t : Int)) (k : Int), true)
theorem rdset {α : Type} [Inhabited α] {l : List α} {i j : Nat} {v : α} (hi : i < l.length) (hj : j < l.length) : rd (l.set i v) (j : Int) = if i = j then v else rd l (j : Int) := by
  have := rd_set (l := l) (i := (i : Int)) (j := (j : Int)) (v := v) (by omega) (by omega)
  rw [Int.toNat_natCast] at this
  rw [this]
  by_cases h : i = j
  · rw [if_pos h, if_pos (by omega)]
  · rw [if_neg h, if_neg (by omega)]
section
variable {rows : List (List Int)} {miss : Int} {P : Nat}
theorem pc_bd (h : COk rows miss P) {t k : Nat} (ht : t < rows.length) : 0 ≤ (pc rows miss P t k).1 ∧ (pc rows miss P t k).1 ≤ 4096 := by
  have hm := h.m
  unfold pc
  by_cases h1 : P ≤ k
  · rw [if_pos h1]; exact hm
  · rw [if_neg h1]
    have := (cok_row h ht).2 k (by omega)
    split
    · exact ⟨Int.le_refl _, by decide⟩
    · exact ⟨by simp only; omega, by simp only; omega⟩
theorem price_eq (h : COk rows miss P) {t k : Nat} (ht : t < rows.length) (hk : k < P + rows.length) (κ : Nat) (a : Int) (u v ow : List Int) : best_search_price.f κ ⟨⟨rows, miss⟩, a, P, u, v, ow⟩ (t : Int) (k : Int) = some (pc rows miss P t k) := by
  have hn := h.n; have hp := h.p
  unfold best_search_price.f pc
  by_cases h1 : P ≤ k
  · simp only [if_pos (show (P : Int) ≤ (k : Int) by omega), if_pos h1, w64_id (show -9223372036854775808 ≤ (k : Int) - (P : Int) ∧ (k : Int) - (P : Int) ≤ 9223372036854775807 by omega)]
  · have rl := (cok_row h ht).1
    simp only [if_neg (show ¬ (P : Int) ≤ (k : Int) by omega), if_neg h1, if_pos (show (0 : Int) ≤ (t : Int) ∧ (t : Int) < (rows.length : Int) by omega), if_pos (show (0 : Int) ≤ (k : Int) ∧ (k : Int) < ((rd rows (t : Int)).length : Int) by omega)]
    split <;> rfl
/-- How far a column is by a track. -/
def nw (rows : List (List Int)) (miss : Int) (P : Nat) (u v : List Int) (d : Int) (t k : Nat) : Int := d + (pc rows miss P t k).1 - rd u (t : Int) - rd v (k : Int)
def Upw (rows : List (List Int)) (miss : Int) (P : Nat) (u v : List Int) (d : Int) (t : Nat) (f : List Int) (dn : List Bool) (k : Nat) : Prop := (pc rows miss P t k).2 = true ∧ rd dn (k : Int) = false ∧ nw rows miss P u v d t k < rd f (k : Int)
instance (rows miss P u v d t f dn k) : Decidable (Upw rows miss P u v d t f dn k) := inferInstanceAs (Decidable (_ ∧ _ ∧ _))
theorem reach_l0 (h : COk rows miss P) {u v ow : List Int} (lu : u.length = rows.length) (lv : v.length = P + rows.length) {t : Nat} (ht : t < rows.length) (ub : 0 ≤ rd u (t : Int) ∧ rd u (t : Int) ≤ 4096) (vb : ∀ k : Nat, k < P + rows.length → -4096 ≤ rd v (k : Int) ∧ rd v (k : Int) ≤ 0) {a d : Int} (hd : 0 ≤ d ∧ d ≤ 4096) {f0 g0 : List Int} {dn : List Bool} (ld : dn.length = P + rows.length) :
    ∀ (m i : Nat) (f g : List Int), P + rows.length = i + m → f.length = P + rows.length → g.length = P + rows.length → (∀ k : Nat, k < P + rows.length → rd f (k : Int) = if k < i ∧ Upw rows miss P u v d t f0 dn k then nw rows miss P u v d t k else rd f0 (k : Int)) → (∀ k : Nat, k < P + rows.length → rd g (k : Int) = if k < i ∧ Upw rows miss P u v d t f0 dn k then a else rd g0 (k : Int)) →
    ∃ f' g', Ev (fun κ => (best_search_reach.hs κ).l0 rows miss rows.length P u v ow f g dn (t : Int) a d ((P + rows.length : Nat) : Int) (i : Int)) ⟨f', g', dn⟩ ∧ f'.length = P + rows.length ∧ g'.length = P + rows.length ∧ (∀ k : Nat, k < P + rows.length → rd f' (k : Int) = if Upw rows miss P u v d t f0 dn k then nw rows miss P u v d t k else rd f0 (k : Int)) ∧ (∀ k : Nat, k < P + rows.length → rd g' (k : Int) = if Upw rows miss P u v d t f0 dn k then a else rd g0 (k : Int))
  | 0, i, f, g, e, lf, lg, hf, hg => by
    refine ⟨f, g, ?_, lf, lg, fun k hk => ?_, fun k hk => ?_⟩
    · refine Ev.step (fun k => rfl) ?_
      simp only [best_search_reach.hs, best_search_reach.b0, if_neg (show ¬ (i : Int) < ((P + rows.length : Nat) : Int) by omega)]
      exact Ev.now
    · rw [hf k hk]; simp only [show k < i from by omega, true_and]
    · rw [hg k hk]; simp only [show k < i from by omega, true_and]
  | m + 1, i, f, g, e, lf, lg, hf, hg => by
    have hn := h.n; have hp := h.p
    have hi : i < P + rows.length := by omega
    have ci : (0 : Int) ≤ (i : Int) ∧ (i : Int) < ((P + rows.length : Nat) : Int) := by omega
    have hpc := pc_bd h (k := i) ht
    have hvi := vb i hi
    have hfi : rd f (i : Int) = rd f0 (i : Int) := by rw [hf i hi, if_neg (by omega)]
    have ew : w64 ((w64 ((w64 (d + (pc rows miss P t i).1)) - (rd u (t : Int)))) - (rd v (i : Int))) = nw rows miss P u v d t i := by
      unfold nw; rw [w64_id (x := d + (pc rows miss P t i).1) (by omega), w64_id (x := d + (pc rows miss P t i).1 - rd u (t : Int)) (by omega), w64_id (by omega)]
    have skip : ¬ Upw rows miss P u v d t f0 dn i → ∃ f' g', Ev (fun κ => (best_search_reach.hs κ).l0 rows miss rows.length P u v ow f g dn (t : Int) a d ((P + rows.length : Nat) : Int) ((i + 1 : Nat) : Int)) ⟨f', g', dn⟩ ∧ f'.length = P + rows.length ∧ g'.length = P + rows.length ∧ (∀ k : Nat, k < P + rows.length → rd f' (k : Int) = if Upw rows miss P u v d t f0 dn k then nw rows miss P u v d t k else rd f0 (k : Int)) ∧ (∀ k : Nat, k < P + rows.length → rd g' (k : Int) = if Upw rows miss P u v d t f0 dn k then a else rd g0 (k : Int)) := fun hu =>
      reach_l0 h lu lv ht ub vb hd ld m (i + 1) f g (by omega) lf lg (fun k hk => by
        rw [hf k hk]
        by_cases ek : k = i
        · subst ek; rw [if_neg (by omega), if_neg (fun z => hu z.2)]
        · simp only [show (k < i + 1) = (k < i) from propext (by omega)]) (fun k hk => by
        rw [hg k hk]
        by_cases ek : k = i
        · subst ek; rw [if_neg (by omega), if_neg (fun z => hu z.2)]
        · simp only [show (k < i + 1) = (k < i) from propext (by omega)])
    have lif : (0 : Int) ≤ (i : Int) ∧ (i : Int) < (f.length : Int) := by omega
    have lig : (0 : Int) ≤ (i : Int) ∧ (i : Int) < (g.length : Int) := by omega
    have lid : (0 : Int) ≤ (i : Int) ∧ (i : Int) < (dn.length : Int) := by omega
    have liv : (0 : Int) ≤ (i : Int) ∧ (i : Int) < (v.length : Int) := by omega
    have ltu : (0 : Int) ≤ (t : Int) ∧ (t : Int) < (u.length : Int) := by omega
    have hst : ∀ κ : Nat, (best_search_reach.hs (κ + 1)).l0 rows miss rows.length P u v ow f g dn (t : Int) a d ((P + rows.length : Nat) : Int) (i : Int) = if ((!(pc rows miss P t i).2) || (rd dn (i : Int))) = true then (best_search_reach.hs κ).l0 rows miss rows.length P u v ow f g dn (t : Int) a d ((P + rows.length : Nat) : Int) ((i + 1 : Nat) : Int) else if nw rows miss P u v d t i < rd f (i : Int) then (best_search_reach.hs κ).l0 rows miss rows.length P u v ow (f.set i (nw rows miss P u v d t i)) (g.set i a) dn (t : Int) a d ((P + rows.length : Nat) : Int) ((i + 1 : Nat) : Int) else (best_search_reach.hs κ).l0 rows miss rows.length P u v ow f g dn (t : Int) a d ((P + rows.length : Nat) : Int) ((i + 1 : Nat) : Int) := fun κ => by
      simp only [best_search_reach.hs, best_search_reach.b0, if_pos ci.2, price_eq h ht hi, Option.bind_some, if_pos (show (!(!(pc rows miss P t i).2)) = true → (0 : Int) ≤ (i : Int) ∧ (i : Int) < (dn.length : Int) from fun _ => lid), if_pos lif, if_pos lig, if_pos liv, if_pos ltu, ew, wsucc (show i < 1000000000 by omega), Int.toNat_natCast]
    by_cases g1 : ((!(pc rows miss P t i).2) || (rd dn (i : Int))) = true
    · obtain ⟨f', g', w, q⟩ := skip (fun z => by rw [z.1, z.2.1] at g1; simp at g1)
      refine ⟨f', g', Ev.step hst ?_, q⟩
      simp only [if_pos g1]; exact w
    · have g1' : (pc rows miss P t i).2 = true ∧ rd dn (i : Int) = false := by simpa using g1
      by_cases g2 : nw rows miss P u v d t i < rd f (i : Int)
      · have hU : Upw rows miss P u v d t f0 dn i := ⟨g1'.1, g1'.2, by rw [← hfi]; exact g2⟩
        obtain ⟨f', g', w, q⟩ := reach_l0 h lu lv (ow := ow) ht ub vb hd ld m (i + 1) (f.set i (nw rows miss P u v d t i)) (g.set i a) (f0 := f0) (g0 := g0) (a := a) (by omega) (by simpa using lf) (by simpa using lg) (fun k hk => by
          rw [rdset (by omega) (by omega), hf k hk]
          by_cases ek : i = k
          · subst ek; rw [if_pos rfl, if_pos ⟨by omega, hU⟩]
          · rw [if_neg ek]; simp only [show (k < i + 1) = (k < i) from propext (by omega)]) (fun k hk => by
          rw [rdset (by omega) (by omega), hg k hk]
          by_cases ek : i = k
          · subst ek; rw [if_pos rfl, if_pos ⟨by omega, hU⟩]
          · rw [if_neg ek]; simp only [show (k < i + 1) = (k < i) from propext (by omega)])
        refine ⟨f', g', Ev.step hst ?_, q⟩
        simp only [if_neg g1, if_pos g2]; exact w
      · obtain ⟨f', g', w, q⟩ := skip (fun z => g2 (by rw [hfi]; exact z.2.2))
        refine ⟨f', g', Ev.step hst ?_, q⟩
        simp only [if_neg g1, if_neg g2]; exact w
theorem reach_ev (h : COk rows miss P) {u v ow : List Int} (lu : u.length = rows.length) (lv : v.length = P + rows.length) {t : Nat} (ht : t < rows.length) (ub : 0 ≤ rd u (t : Int) ∧ rd u (t : Int) ≤ 4096) (vb : ∀ k : Nat, k < P + rows.length → -4096 ≤ rd v (k : Int) ∧ rd v (k : Int) ≤ 0) {a d : Int} (hd : 0 ≤ d ∧ d ≤ 4096) {f g : List Int} {dn : List Bool} (lf : f.length = P + rows.length) (lg : g.length = P + rows.length) (ld : dn.length = P + rows.length) :
    ∃ f' g', Ev (fun κ => best_search_reach.f κ ⟨⟨rows, miss⟩, rows.length, P, u, v, ow⟩ ⟨f, g, dn⟩ (t : Int) a d) ⟨f', g', dn⟩ ∧ f'.length = P + rows.length ∧ g'.length = P + rows.length ∧ (∀ k : Nat, k < P + rows.length → rd f' (k : Int) = if Upw rows miss P u v d t f dn k then nw rows miss P u v d t k else rd f (k : Int)) ∧ (∀ k : Nat, k < P + rows.length → rd g' (k : Int) = if Upw rows miss P u v d t f dn k then a else rd g (k : Int)) := by
  unfold best_search_reach.f
  simp only [lf]
  exact reach_l0 h lu lv ht ub vb hd ld (P + rows.length) 0 f g (by omega) lf lg (fun k _ => by rw [if_neg (by omega)]) (fun k _ => by rw [if_neg (by omega)])
end
/-! ### the nearest -/
def NB (f : List Int) (dn : List Bool) (i : Nat) (b : Int) : Prop := (b = -1 ∧ ∀ k : Nat, k < i → rd dn (k : Int) = true) ∨ ∃ c : Nat, b = (c : Int) ∧ c < i ∧ rd dn (c : Int) = false ∧ ∀ k : Nat, k < i → rd dn (k : Int) = false → rd f (c : Int) ≤ rd f (k : Int)
theorem nearest_l0 {f g : List Int} {dn : List Bool} {N : Nat} (lf : f.length = N) (ld : dn.length = N) (hN : N ≤ 1000) : ∀ (m i : Nat) (b : Int), N = i + m → NB f dn i b → ∃ r, Ev (fun κ => (best_way_nearest.hs κ).l0 f g dn b f (N : Int) (i : Int)) r ∧ NB f dn N r
  | 0, i, b, e, hb => by
    refine ⟨b, ?_, by rw [show N = i by omega]; exact hb⟩
    refine Ev.step (fun k => rfl) ?_
    simp only [best_way_nearest.hs, best_way_nearest.b0, if_neg (show ¬ (i : Int) < (N : Int) by omega)]
    exact Ev.now
  | m + 1, i, b, e, hb => by
    have lif : (0 : Int) ≤ (i : Int) ∧ (i : Int) < (f.length : Int) := by omega
    have lid : (0 : Int) ≤ (i : Int) ∧ (i : Int) < (dn.length : Int) := by omega
    have cb : ((!(rd dn (i : Int))) && (!(decide (b = (-1))))) = true → (0 : Int) ≤ b ∧ b < (f.length : Int) := fun hx => by
      rcases hb with ⟨rfl, _⟩ | ⟨c, rfl, h1, _⟩
      · simp at hx
      · omega
    have hst : ∀ κ : Nat, (best_way_nearest.hs (κ + 1)).l0 f g dn b f (N : Int) (i : Int) = if ((!(rd dn (i : Int))) && ((decide (b = (-1))) || (decide ((rd f (i : Int)) < (rd f b))))) = true then (best_way_nearest.hs κ).l0 f g dn (i : Int) f (N : Int) ((i + 1 : Nat) : Int) else (best_way_nearest.hs κ).l0 f g dn b f (N : Int) ((i + 1 : Nat) : Int) := fun κ => by
      simp only [best_way_nearest.hs, best_way_nearest.b0, if_pos (show (i : Int) < (N : Int) by omega), if_pos lif, if_pos lid, if_pos cb, wsucc (show i < 1000000000 by omega)]
    by_cases g1 : ((!(rd dn (i : Int))) && ((decide (b = (-1))) || (decide ((rd f (i : Int)) < (rd f b))))) = true
    · have hd : rd dn (i : Int) = false := by simp at g1; exact g1.1
      have hc : b = -1 ∨ rd f (i : Int) < rd f b := by simp at g1; exact g1.2
      obtain ⟨r, w, q⟩ := nearest_l0 (g := g) lf ld hN m (i + 1) (i : Int) (by omega) (.inr ⟨i, rfl, by omega, hd, fun k hk hdk => by
        by_cases ek : k = i
        · subst ek; exact Int.le_refl _
        · rcases hb with ⟨rfl, h2⟩ | ⟨c, rfl, h1, h2, h3⟩
          · rw [h2 k (by omega)] at hdk; cases hdk
          · have := h3 k (by omega) hdk; omega⟩)
      refine ⟨r, Ev.step hst ?_, q⟩
      simp only [if_pos g1]; exact w
    · obtain ⟨r, w, q⟩ := nearest_l0 (g := g) lf ld hN m (i + 1) b (by omega) (by
        cases hd : rd dn (i : Int) with
        | true =>
          rcases hb with ⟨rfl, h2⟩ | ⟨c, rfl, h1, h2, h3⟩
          · refine .inl ⟨rfl, fun k hk => ?_⟩
            by_cases ek : k = i
            · subst ek; exact hd
            · exact h2 k (by omega)
          · refine .inr ⟨c, rfl, by omega, h2, fun k hk hdk => ?_⟩
            by_cases ek : k = i
            · subst ek; rw [hd] at hdk; cases hdk
            · exact h3 k (by omega) hdk
        | false =>
          have hc : b ≠ -1 ∧ rd f b ≤ rd f (i : Int) := by
            rw [hd] at g1; simp at g1; omega
          rcases hb with ⟨rfl, h2⟩ | ⟨c, rfl, h1, h2, h3⟩
          · exact absurd rfl hc.1
          · refine .inr ⟨c, rfl, by omega, h2, fun k hk hdk => ?_⟩
            by_cases ek : k = i
            · subst ek; exact hc.2
            · exact h3 k (by omega) hdk)
      refine ⟨r, Ev.step hst ?_, q⟩
      simp only [if_neg g1]; exact w
theorem nearest_ev {f g : List Int} {dn : List Bool} {N : Nat} (lf : f.length = N) (ld : dn.length = N) (hN : N ≤ 1000) {a : Nat} (ha : a < N) (hda : rd dn (a : Int) = false) : ∃ c : Nat, Ev (fun κ => best_way_nearest.f κ ⟨f, g, dn⟩) (c : Int) ∧ c < N ∧ rd dn (c : Int) = false ∧ ∀ k : Nat, k < N → rd dn (k : Int) = false → rd f (c : Int) ≤ rd f (k : Int) := by
  obtain ⟨r, w, q⟩ := nearest_l0 (g := g) lf ld hN N 0 (-1) (by omega) (.inl ⟨rfl, fun k hk => by omega⟩)
  rcases q with ⟨rfl, h2⟩ | ⟨c, rfl, h1, h2, h3⟩
  · rw [h2 a ha] at hda; cases hda
  · refine ⟨c, ?_, h1, h2, h3⟩
    unfold best_way_nearest.f
    simp only [lf]; exact w
end Go.Proofs.Ytacbficpehmlnaa.Pure

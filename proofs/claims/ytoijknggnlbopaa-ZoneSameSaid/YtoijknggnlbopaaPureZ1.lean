/- Zones: their edges, how a place lies to them; no program in sight. -/
import Derived.Test.YtoijknggnlbopaaGZSp
namespace Go.Proofs.Ytoijknggnlbopaa.Pure
open Go.RowKit Go.Proofs.YtoijknggnlbopaaK Go.Proofs.Ytoijknggnlbopaa.GZS
set_option linter.unusedVariables false
set_option linter.unusedSimpArgs false
set_option maxRecDepth 100000
abbrev Pt := Int × Int
def sd (a b p : Pt) : Int := (b.1 - a.1) * (p.2 - a.2) - (p.1 - a.1) * (b.2 - a.2)
def onE (p : Pt) (e : Pt × Pt) : Bool := decide (sd e.1 e.2 p = 0 ∧ min e.1.1 e.2.1 ≤ p.1 ∧ p.1 ≤ max e.1.1 e.2.1 ∧ min e.1.2 e.2.2 ≤ p.2 ∧ p.2 ≤ max e.1.2 e.2.2)
def psE (p : Pt) (e : Pt × Pt) : Bool := if e.1.2 ≤ p.2 ∧ p.2 < e.2.2 then decide (0 < sd e.1 e.2 p) else if e.2.2 ≤ p.2 ∧ p.2 < e.1.2 then decide (sd e.1 e.2 p < 0) else false
def crE (e : Pt × Pt) : Int := e.1.1 * e.2.2 - e.2.1 * e.1.2
def ed {α : Type} (z : List α) : List (α × α) := z.zip (z.drop 1 ++ z.take 1)
def xr : List Bool → Bool
  | [] => false
  | a :: l => Bool.xor a (xr l)
def wh (E : List (Pt × Pt)) (p : Pt) : Int := if E.any (onE p) = true then 1 else if xr (E.map (psE p)) = true then 2 else 0
def ar (E : List (Pt × Pt)) : Int := (E.map crE).sum
def sw (e : Pt × Pt) : Pt × Pt := (e.2, e.1)
/-! ### the path -/
def pa : List Pt → List (Pt × Pt)
  | [] => []
  | [_] => []
  | x :: y :: t => (x, y) :: pa (y :: t)
theorem zip_pa (c : Pt) : ∀ (t : List Pt) (x : Pt), (x :: t).zip (t ++ [c]) = pa (x :: t ++ [c])
  | [], x => rfl
  | y :: t, x => by
    have := zip_pa c t y
    simp only [List.cons_append, List.zip_cons_cons] at this ⊢
    rw [this]; rfl
theorem ed_pa (c : Pt) (t : List Pt) : ed (c :: t) = pa (c :: t ++ [c]) := by unfold ed; exact zip_pa c t c
theorem pa_app (x : Pt) (l2 : List Pt) : ∀ l1 : List Pt, pa (l1 ++ x :: l2) = pa (l1 ++ [x]) ++ pa (x :: l2)
  | [] => by simp [pa]
  | [a] => by simp [pa]
  | a :: b :: l => by
    have := pa_app x l2 (b :: l)
    simp only [List.cons_append, pa] at this ⊢
    rw [this]
theorem ed_rot : ∀ l1 l2 : List Pt, (ed (l1 ++ l2)).Perm (ed (l2 ++ l1))
  | [], l2 => by simp
  | a :: s, [] => by simp
  | a :: s, b :: t => by
    rw [List.cons_append, ed_pa, show b :: t ++ a :: s = b :: (t ++ a :: s) from rfl, ed_pa]
    have e1 : (a :: (s ++ b :: t)) ++ [a] = (a :: s) ++ b :: (t ++ [a]) := by simp
    have e2 : (b :: (t ++ a :: s)) ++ [b] = (b :: t) ++ a :: (s ++ [b]) := by simp
    rw [e1, e2, pa_app b (t ++ [a]) (a :: s), pa_app a (s ++ [b]) (b :: t)]
    exact List.perm_append_comm
theorem pa_rev : ∀ l : List Pt, pa l.reverse = (pa l).reverse.map sw
  | [] => rfl
  | [_] => rfl
  | x :: y :: t => by
    have ih := pa_rev (y :: t)
    have e : (x :: y :: t).reverse = t.reverse ++ y :: [x] := by simp
    rw [e, pa_app]
    have e2 : t.reverse ++ [y] = (y :: t).reverse := by simp
    rw [e2, ih]; simp [pa, sw]
theorem ed_rev (z : List Pt) : (ed z.reverse).Perm ((ed z).map sw) := by
  cases z with
  | nil => exact .refl _
  | cons c t =>
    rw [List.reverse_cons]
    refine (ed_rot t.reverse [c]).trans ?_
    have e : [c] ++ t.reverse = c :: t.reverse := rfl
    rw [e, ed_pa, ed_pa]
    have e2 : c :: t.reverse ++ [c] = (c :: t ++ [c]).reverse := by simp
    rw [e2, pa_rev]
    exact (List.reverse_perm _).map _
/-! ### what does not hang on the order -/
theorem xr_perm {l l' : List Bool} (h : l.Perm l') : xr l = xr l' := by
  induction h with
  | nil => rfl
  | cons a _ ih => simp [xr, ih]
  | swap a b l => simp only [xr]; cases a <;> cases b <;> simp
  | trans _ _ a b => exact a.trans b
theorem sum_perm {l l' : List Int} (h : l.Perm l') : l.sum = l'.sum := by
  induction h with
  | nil => rfl
  | cons a _ ih => simp [ih]
  | swap a b l => simp; omega
  | trans _ _ a b => exact a.trans b
theorem any_perm {α : Type} {l l' : List α} (f : α → Bool) (h : l.Perm l') : l.any f = l'.any f := by
  rw [Bool.eq_iff_iff, List.any_eq_true, List.any_eq_true]
  exact ⟨fun ⟨x, a, b⟩ => ⟨x, h.mem_iff.1 a, b⟩, fun ⟨x, a, b⟩ => ⟨x, h.mem_iff.2 a, b⟩⟩
theorem wh_perm {E E' : List (Pt × Pt)} (h : E.Perm E') (p : Pt) : wh E p = wh E' p := by
  unfold wh; rw [any_perm _ h, xr_perm (h.map _)]
theorem ar_perm {E E' : List (Pt × Pt)} (h : E.Perm E') : ar E = ar E' := sum_perm (h.map _)
/-! ### an edge the other way -/
theorem sd_sw (a b p : Pt) : sd b a p = - sd a b p := by unfold sd; grind
theorem on_sw (p : Pt) (e : Pt × Pt) : onE p (sw e) = onE p e := by
  unfold onE sw; simp only [sd_sw e.1 e.2 p]
  rw [Int.min_comm e.2.1, Int.max_comm e.2.1, Int.min_comm e.2.2, Int.max_comm e.2.2]
  congr 1; simp only [eq_iff_iff]; constructor <;> (rintro ⟨a, b⟩; exact ⟨by omega, b⟩)
theorem ps_sw (p : Pt) (e : Pt × Pt) : psE p (sw e) = psE p e := by
  unfold psE sw; simp only [sd_sw e.1 e.2 p]
  by_cases h1 : e.1.2 ≤ p.2 ∧ p.2 < e.2.2
  · rw [if_pos h1, if_neg (by omega), if_pos h1]; congr 1; simp only [eq_iff_iff]; omega
  · rw [if_neg h1]
    by_cases h2 : e.2.2 ≤ p.2 ∧ p.2 < e.1.2
    · rw [if_pos h2, if_pos h2, if_neg h1]; exact decide_eq_decide.2 (by omega)
    · rw [if_neg h2, if_neg h2, if_neg h1]
theorem wh_map {f : Pt × Pt → Pt × Pt} {p p' : Pt} (h1 : ∀ e, onE p' (f e) = onE p e) (h2 : ∀ e, psE p' (f e) = psE p e) (E : List (Pt × Pt)) : wh (E.map f) p' = wh E p := by
  unfold wh
  rw [List.any_map, List.map_map, show onE p' ∘ f = onE p from funext h1, show psE p' ∘ f = psE p from funext h2]
theorem wh_rev (z : List Pt) (p : Pt) : wh (ed z.reverse) p = wh (ed z) p := by rw [wh_perm (ed_rev z), wh_map (on_sw p) (ps_sw p)]
theorem wh_rot (l1 l2 : List Pt) (p : Pt) : wh (ed (l1 ++ l2)) p = wh (ed (l2 ++ l1)) p := wh_perm (ed_rot l1 l2) p
theorem sum_neg : ∀ (E : List (Pt × Pt)), (E.map (crE ∘ sw)).sum = - (E.map crE).sum
  | [] => rfl
  | e :: E => by
    simp only [List.map_cons, List.sum_cons, sum_neg E]
    have : (crE ∘ sw) e = - crE e := by show e.2.1 * e.1.2 - e.1.1 * e.2.2 = - (e.1.1 * e.2.2 - e.2.1 * e.1.2); omega
    omega
theorem ar_rev (z : List Pt) : ar (ed z.reverse) = - ar (ed z) := by rw [ar_perm (ed_rev z)]; unfold ar; rw [List.map_map]; exact sum_neg _
/-! ### moved -/
def mv (d : Pt) (a : Pt) : Pt := (a.1 + d.1, a.2 + d.2)
def mvE (d : Pt) (e : Pt × Pt) : Pt × Pt := (mv d e.1, mv d e.2)
theorem pa_mv (d : Pt) : ∀ l : List Pt, pa (l.map (mv d)) = (pa l).map (mvE d)
  | [] => rfl
  | [_] => rfl
  | x :: y :: t => by have := pa_mv d (y :: t); simp only [List.map_cons, pa] at this ⊢; rw [this]; rfl
theorem ed_mv (d : Pt) (z : List Pt) : ed (z.map (mv d)) = (ed z).map (mvE d) := by
  cases z with
  | nil => rfl
  | cons c t => rw [List.map_cons, ed_pa, ed_pa, ← pa_mv]; simp
theorem sd_mv (d a b p : Pt) : sd (mv d a) (mv d b) (mv d p) = sd a b p := by
  unfold sd mv
  simp only
  rw [show b.1 + d.1 - (a.1 + d.1) = b.1 - a.1 by omega, show p.2 + d.2 - (a.2 + d.2) = p.2 - a.2 by omega, show p.1 + d.1 - (a.1 + d.1) = p.1 - a.1 by omega, show b.2 + d.2 - (a.2 + d.2) = b.2 - a.2 by omega]
theorem wh_mv (d : Pt) (z : List Pt) (p : Pt) : wh (ed (z.map (mv d))) (mv d p) = wh (ed z) p := by
  rw [ed_mv]
  refine wh_map (fun e => ?_) (fun e => ?_) _
  · unfold onE mvE; simp only [sd_mv]
    congr 1; simp only [eq_iff_iff]; unfold mv; simp only
    have a1 : min (e.1.1 + d.1) (e.2.1 + d.1) = min e.1.1 e.2.1 + d.1 := by omega
    have a2 : max (e.1.1 + d.1) (e.2.1 + d.1) = max e.1.1 e.2.1 + d.1 := by omega
    have a3 : min (e.1.2 + d.2) (e.2.2 + d.2) = min e.1.2 e.2.2 + d.2 := by omega
    have a4 : max (e.1.2 + d.2) (e.2.2 + d.2) = max e.1.2 e.2.2 + d.2 := by omega
    rw [a1, a2, a3, a4]; constructor <;> (rintro ⟨x, y, z, u, v⟩; exact ⟨x, by omega, by omega, by omega, by omega⟩)
  · unfold psE mvE; simp only [sd_mv]
    have b1 : ((mv d e.1).2 ≤ (mv d p).2 ∧ (mv d p).2 < (mv d e.2).2) = (e.1.2 ≤ p.2 ∧ p.2 < e.2.2) := by unfold mv; simp only [eq_iff_iff]; omega
    have b2 : ((mv d e.2).2 ≤ (mv d p).2 ∧ (mv d p).2 < (mv d e.1).2) = (e.2.2 ≤ p.2 ∧ p.2 < e.1.2) := by unfold mv; simp only [eq_iff_iff]; omega
    simp only [b1, b2]
theorem tele (d : Pt) : ∀ (t : List Pt) (x c : Pt), ((pa (x :: t ++ [c])).map fun e => crE (mvE d e)).sum = ((pa (x :: t ++ [c])).map crE).sum + d.2 * (x.1 - c.1) + d.1 * (c.2 - x.2)
  | [], x, c => by
    simp only [List.nil_append, List.cons_append, pa, List.map_cons, List.map_nil, List.sum_cons, List.sum_nil]
    unfold crE mvE mv; grind
  | y :: t, x, c => by
    have ih := tele d t y c
    simp only [List.cons_append, pa, List.map_cons, List.sum_cons] at ih ⊢
    rw [ih]
    have : crE (mvE d (x, y)) = crE (x, y) + d.2 * (x.1 - y.1) + d.1 * (y.2 - x.2) := by unfold crE mvE mv; grind
    rw [this]; grind
theorem ar_mv (d : Pt) (z : List Pt) : ar (ed (z.map (mv d))) = ar (ed z) := by
  rw [ed_mv]; unfold ar; rw [List.map_map]
  cases z with
  | nil => rfl
  | cons c t => rw [ed_pa]; have := tele d t c c; rw [Int.sub_self, Int.sub_self, Int.mul_zero, Int.mul_zero, Int.add_zero, Int.add_zero] at this; exact this
/-! ### corners; what is without the box -/
theorem ed_len {α : Type} (z : List α) : (ed z).length = z.length := by
  unfold ed; rw [List.length_zip, List.length_append, List.length_drop, List.length_take]; omega
theorem ed_at {α : Type} (z : List α) (i : Nat) (h : i < z.length) (h' : (i + 1) % z.length < z.length) : (ed z)[i]'(by rw [ed_len]; exact h) = (z[i], z[(i + 1) % z.length]) := by
  unfold ed
  rw [List.getElem_zip]
  congr 1
  rw [List.getElem_append]
  split
  · rename_i h2
    rw [List.length_drop] at h2
    rw [List.getElem_drop]
    congr 1; rw [Nat.mod_eq_of_lt (by omega)]; omega
  · rename_i h2
    rw [List.length_drop] at h2
    rw [List.getElem_take]
    have : i + 1 = z.length := by omega
    congr 1; rw [this, Nat.mod_self, List.length_drop]; omega
theorem ed_map {α β : Type} (f : α → β) (z : List α) : ed (z.map f) = (ed z).map fun e => (f e.1, f e.2) := by
  unfold ed
  rw [← List.map_drop, ← List.map_take, ← List.map_append, List.zip_map]; rfl
theorem on_self (a b : Pt) : onE a (a, b) = true := by
  unfold onE; refine decide_eq_true ⟨?_, Int.min_le_left .., Int.le_max_left .., Int.min_le_left .., Int.le_max_left ..⟩
  unfold sd; simp only []; rw [Int.sub_self, Int.sub_self]; simp
theorem wh_corner (z : List Pt) (k : Nat) (h : k < z.length) : wh (ed z) z[k] = 1 := by
  unfold wh; rw [if_pos]
  refine List.any_eq_true.2 ⟨_, List.getElem_mem (by rw [ed_len]; exact h), ?_⟩
  rw [ed_at z k h (Nat.mod_lt _ (by omega))]; exact on_self _ _
theorem ed_mem {α : Type} {z : List α} {e : α × α} (h : e ∈ ed z) : e.1 ∈ z ∧ e.2 ∈ z := by
  unfold ed at h
  have h1 := List.of_mem_zip (a := e.1) (b := e.2) h
  refine ⟨h1.1, ?_⟩
  rcases List.mem_append.1 h1.2 with h2 | h2
  · exact List.mem_of_mem_drop h2
  · exact List.mem_of_mem_take h2
theorem xr_false : ∀ {l : List Bool}, (∀ b ∈ l, b = false) → xr l = false
  | [], _ => rfl
  | a :: l, h => by simp [xr, h a (List.mem_cons_self ..), xr_false fun b hb => h b (List.mem_cons_of_mem _ hb)]
theorem xr_tele (y : Int) : ∀ (t : List Pt) (x c : Pt), xr ((pa (x :: t ++ [c])).map fun e => Bool.xor (decide (e.1.2 ≤ y)) (decide (e.2.2 ≤ y))) = Bool.xor (decide (x.2 ≤ y)) (decide (c.2 ≤ y))
  | [], x, c => by simp [pa, xr]
  | w :: t, x, c => by
    have ih := xr_tele y t w c
    simp only [List.cons_append, pa, List.map_cons, xr] at ih ⊢
    rw [ih]; cases decide (x.2 ≤ y) <;> cases decide (w.2 ≤ y) <;> cases decide (c.2 ≤ y) <;> rfl
theorem sd_neg {a b p : Pt} (h1 : a.2 ≤ p.2) (h2 : p.2 < b.2) (h3 : a.1 < p.1) (h4 : b.1 < p.1) : sd a b p < 0 := by
  unfold sd
  have x1 : (b.1 - a.1) * (p.2 - a.2) ≤ (p.1 - a.1 - 1) * (p.2 - a.2) := Int.mul_le_mul_of_nonneg_right (by omega) (by omega)
  have x2 : (p.1 - a.1 - 1) * (p.2 - a.2) ≤ (p.1 - a.1 - 1) * (b.2 - a.2) := Int.mul_le_mul_of_nonneg_left (by omega) (by omega)
  have x3 : (p.1 - a.1 - 1) * (b.2 - a.2) = (p.1 - a.1) * (b.2 - a.2) - (b.2 - a.2) := by rw [Int.sub_mul, Int.one_mul]
  omega
theorem sd_pos {a b p : Pt} (h1 : a.2 ≤ p.2) (h2 : p.2 < b.2) (h3 : p.1 < a.1) (h4 : p.1 < b.1) : 0 < sd a b p := by
  unfold sd
  have x1 : (p.1 - a.1 + 1) * (p.2 - a.2) ≤ (b.1 - a.1) * (p.2 - a.2) := Int.mul_le_mul_of_nonneg_right (by omega) (by omega)
  have x2 : (p.1 - a.1 + 1) * (b.2 - a.2) ≤ (p.1 - a.1 + 1) * (p.2 - a.2) := by
    have := Int.mul_le_mul_of_nonneg_left (c := -(p.1 - a.1 + 1)) (a := p.2 - a.2) (b := b.2 - a.2) (by omega) (by omega)
    rw [Int.neg_mul, Int.neg_mul] at this; omega
  have x3 : (p.1 - a.1 + 1) * (b.2 - a.2) = (p.1 - a.1) * (b.2 - a.2) + (b.2 - a.2) := by rw [Int.add_mul, Int.one_mul]
  omega
theorem wh_out {z : List Pt} {lo hi p : Pt} (hz : ∀ c ∈ z, lo.1 ≤ c.1 ∧ lo.2 ≤ c.2 ∧ c.1 ≤ hi.1 ∧ c.2 ≤ hi.2) (hp : p.1 < lo.1 ∨ p.2 < lo.2 ∨ hi.1 < p.1 ∨ hi.2 < p.2) : wh (ed z) p = 0 := by
  have hE : ∀ e ∈ ed z, (lo.1 ≤ e.1.1 ∧ lo.2 ≤ e.1.2 ∧ e.1.1 ≤ hi.1 ∧ e.1.2 ≤ hi.2) ∧ (lo.1 ≤ e.2.1 ∧ lo.2 ≤ e.2.2 ∧ e.2.1 ≤ hi.1 ∧ e.2.2 ≤ hi.2) := fun e he => ⟨hz _ (ed_mem he).1, hz _ (ed_mem he).2⟩
  unfold wh
  rw [if_neg, if_neg]
  · rw [Bool.not_eq_true]
    by_cases hl : p.1 < lo.1
    · cases z with
      | nil => rfl
      | cons c t =>
        have : (ed (c :: t)).map (psE p) = (ed (c :: t)).map fun e => Bool.xor (decide (e.1.2 ≤ p.2)) (decide (e.2.2 ≤ p.2)) := by
          refine List.map_congr_left fun e he => ?_
          obtain ⟨h1, h2⟩ := hE e he
          unfold psE
          by_cases c1 : e.1.2 ≤ p.2 ∧ p.2 < e.2.2
          · rw [if_pos c1, decide_eq_true (sd_pos c1.1 c1.2 (by omega) (by omega)), decide_eq_true c1.1, decide_eq_false (by omega)]; rfl
          · rw [if_neg c1]
            by_cases c2 : e.2.2 ≤ p.2 ∧ p.2 < e.1.2
            · have := sd_pos (a := e.2) (b := e.1) (p := p) c2.1 c2.2 (by omega) (by omega)
              rw [sd_sw] at this
              rw [if_pos c2, decide_eq_true (by omega), decide_eq_true c2.1, decide_eq_false (by omega)]; rfl
            · rw [if_neg c2]
              by_cases c3 : e.1.2 ≤ p.2
              · rw [decide_eq_true c3, decide_eq_true (by omega)]; rfl
              · rw [decide_eq_false c3, decide_eq_false (by omega)]; rfl
        rw [this, ed_pa, xr_tele]; cases decide (c.2 ≤ p.2) <;> rfl
    · refine xr_false fun b hb => ?_
      obtain ⟨e, he, rfl⟩ := List.mem_map.1 hb
      obtain ⟨h1, h2⟩ := hE e he
      unfold psE
      by_cases c1 : e.1.2 ≤ p.2 ∧ p.2 < e.2.2
      · rw [if_pos c1]; refine decide_eq_false ?_
        have := sd_neg (a := e.1) (b := e.2) c1.1 c1.2 (by omega) (by omega); omega
      · rw [if_neg c1]
        by_cases c2 : e.2.2 ≤ p.2 ∧ p.2 < e.1.2
        · rw [if_pos c2]; refine decide_eq_false ?_
          have := sd_neg (a := e.2) (b := e.1) (p := p) c2.1 c2.2 (by omega) (by omega); rw [sd_sw] at this; omega
        · rw [if_neg c2]
  · rw [Bool.not_eq_true, Bool.eq_false_iff]
    intro ha
    obtain ⟨e, he, h⟩ := List.any_eq_true.1 ha
    obtain ⟨h1, h2⟩ := hE e he
    have := of_decide_eq_true h
    omega
end Go.Proofs.Ytoijknggnlbopaa.Pure

/- What hangs together: a forest, what stands for each; no program in sight. -/
import Derived.Test.YtoijknggnlbopaaDoorGCPp
namespace Go.Proofs.YtoijknggnlbopaaDoor.Pure
open Go.RowKit Go.Proofs.YtoijknggnlbopaaDoorK Go.Proofs.YtoijknggnlbopaaDoor.GCP
set_option linter.unusedVariables false
set_option linter.unusedSimpArgs false
set_option linter.unusedSectionVars false
set_option maxRecDepth 100000
def fg (f : List Int) (i : Nat) : Nat := (f.getD i 0).toNat
/-- Each hangs on a lesser one, or on itself. -/
structure Fo (N : Nat) (f : List Int) : Prop where
  len : f.length = N
  nn : ∀ x ∈ f, 0 ≤ x
  le : ∀ j, fg f j ≤ j
def tpF (f : List Int) : Nat → Nat → Nat
  | 0, i => i
  | k + 1, i => if fg f i = i then i else tpF f k (fg f i)
def Tp (f : List Int) (i : Nat) : Nat := tpF f (i + 1) i
section
variable {N : Nat} {f : List Int} (h : Fo N f)
include h
theorem tpF_st : ∀ (i k : Nat), i < k → tpF f k i = Tp f i := by
  intro i
  induction i using Nat.strongRecOn with
  | _ i ih =>
    intro k hk
    obtain ⟨k, rfl⟩ : ∃ q, k = q + 1 := ⟨k - 1, by omega⟩
    unfold Tp
    rw [tpF, tpF]
    by_cases e : fg f i = i
    · rw [if_pos e, if_pos e]
    · have := h.le i
      rw [if_neg e, if_neg e, ih (fg f i) (by omega) k (by omega), ih (fg f i) (by omega) i (by omega)]
theorem Tp_eq (i : Nat) : Tp f i = if fg f i = i then i else Tp f (fg f i) := by
  by_cases e : fg f i = i
  · unfold Tp; rw [tpF, if_pos e, if_pos e]
  · have := h.le i
    rw [if_neg e]
    unfold Tp; rw [tpF, if_neg e]; exact tpF_st h _ _ (by omega)
theorem Tp_fix {i : Nat} (e : fg f i = i) : Tp f i = i := by rw [Tp_eq h, if_pos e]
theorem Tp_fg (i : Nat) : Tp f (fg f i) = Tp f i := by
  by_cases e : fg f i = i
  · rw [e]
  · rw [Tp_eq h i, if_neg e]
theorem Tp_le (i : Nat) : Tp f i ≤ i := by
  induction i using Nat.strongRecOn with
  | _ i ih =>
    rw [Tp_eq h]
    by_cases e : fg f i = i
    · rw [if_pos e]; omega
    · have := h.le i
      rw [if_neg e]; have := ih (fg f i) (by omega); omega
theorem fg_Tp (i : Nat) : fg f (Tp f i) = Tp f i := by
  induction i using Nat.strongRecOn with
  | _ i ih =>
    rw [Tp_eq h]
    by_cases e : fg f i = i
    · rw [if_pos e]; exact e
    · have := h.le i
      rw [if_neg e]; exact ih (fg f i) (by omega)
theorem Tp_Tp (i : Nat) : Tp f (Tp f i) = Tp f i := Tp_fix h (fg_Tp h i)
theorem Tp_of {g : Nat → Nat} (h1 : ∀ i, i < N → g (fg f i) = g i) (h2 : ∀ i, i < N → fg f i = i → g i = i) : ∀ i, i < N → Tp f i = g i := by
  intro i
  induction i using Nat.strongRecOn with
  | _ i ih =>
    intro hi
    rw [Tp_eq h]
    by_cases e : fg f i = i
    · rw [if_pos e, h2 i hi e]
    · have := h.le i
      rw [if_neg e, ih (fg f i) (by omega) (by omega), h1 i hi]
end
theorem fg_set {f : List Int} {i : Nat} {v : Int} (hi : i < f.length) (j : Nat) : fg (f.set i v) j = if j = i then v.toNat else fg f j := by
  unfold fg
  rw [List.getD_eq_getElem?_getD, List.getD_eq_getElem?_getD, List.getElem?_set]
  by_cases e : j = i
  · subst e; simp [hi]
  · rw [if_neg (Ne.symm e), if_neg e]
theorem Fo.set {N : Nat} {f : List Int} (h : Fo N f) {i : Nat} {v : Int} (hi : i < N) (hv : 0 ≤ v) (hv2 : v.toNat ≤ i) : Fo N (f.set i v) :=
  ⟨by rw [List.length_set]; exact h.len, fun x hx => by
    rcases List.mem_or_eq_of_mem_set hx with h1 | h1
    · exact h.nn x h1
    · rw [h1]; exact hv, fun j => by
    rw [fg_set (by rw [h.len]; exact hi)]
    split
    · rename_i e; rw [e]; exact hv2
    · exact h.le j⟩
theorem Fo.rd {N : Nat} {f : List Int} (h : Fo N f) {i : Nat} (hi : i < N) : rd f (i : Int) = (fg f i : Int) := by
  have hl : i < f.length := by rw [h.len]; exact hi
  have h0 := h.nn _ (List.getElem_mem hl)
  unfold Go.Proofs.YtoijknggnlbopaaDoorK.rd fg
  rw [Int.toNat_natCast, List.getD_eq_getElem?_getD, List.getD_eq_getElem?_getD, List.getElem?_eq_getElem hl]
  show f[i] = ((f[i]).toNat : Int)
  omega
/-- A way made shorter. -/
theorem Tp_short {N : Nat} {f : List Int} (h : Fo N f) {i : Nat} (hi : i < N) : ∀ j, j < N → Tp (f.set i (fg f (fg f i) : Int)) j = Tp f j := by
  have h' : Fo N (f.set i (fg f (fg f i) : Int)) := h.set hi (by omega) (by rw [Int.toNat_natCast]; have := h.le i; have := h.le (fg f i); omega)
  have hs := fun j => fg_set (f := f) (i := i) (v := (fg f (fg f i) : Int)) (by rw [h.len]; exact hi) j
  refine Tp_of h' (fun j hj => ?_) (fun j hj e => ?_)
  · rw [hs]
    split
    · rename_i e; rw [Int.toNat_natCast, e, Tp_fg h, Tp_fg h]
    · exact Tp_fg h j
  · rw [hs] at e
    split at e
    · rename_i e2
      rw [Int.toNat_natCast] at e
      have h1 := h.le i; have h2 := h.le (fg f i)
      subst e2
      exact Tp_fix h (by omega)
    · exact Tp_fix h e
/-- Two are joined. -/
theorem Tp_join {N : Nat} {f : List Int} (h : Fo N f) {a b : Nat} (ha : a < N) (hb : b < N) (fa : fg f a = a) (fb : fg f b = b) :
    Fo N (f.set (max a b) ((min a b : Nat) : Int)) ∧ ∀ j, j < N → Tp (f.set (max a b) ((min a b : Nat) : Int)) j = if Tp f j = max a b then min a b else Tp f j := by
  have hm : max a b < N := by omega
  have h' : Fo N (f.set (max a b) ((min a b : Nat) : Int)) := h.set hm (by omega) (by rw [Int.toNat_natCast]; omega)
  refine ⟨h', ?_⟩
  have hs := fun j => fg_set (f := f) (i := max a b) (v := ((min a b : Nat) : Int)) (by rw [h.len]; exact hm) j
  have tmax : Tp f (max a b) = max a b := by
    rcases Nat.le_total a b with q | q
    · rw [Nat.max_eq_right q]; exact Tp_fix h fb
    · rw [Nat.max_eq_left q]; exact Tp_fix h fa
  have tmin : Tp f (min a b) = min a b := by
    rcases Nat.le_total a b with q | q
    · rw [Nat.min_eq_left q]; exact Tp_fix h fa
    · rw [Nat.min_eq_right q]; exact Tp_fix h fb
  refine Tp_of h' (fun j hj => ?_) (fun j hj e => ?_)
  · rw [hs]
    by_cases e : j = max a b
    · rw [if_pos e, Int.toNat_natCast, e, tmax, tmin, if_pos rfl]
      split <;> omega
    · rw [if_neg e, Tp_fg h]
  · rw [hs] at e
    by_cases e2 : j = max a b
    · rw [if_pos e2, Int.toNat_natCast] at e
      rw [e2, tmax, if_pos rfl]; omega
    · rw [if_neg e2] at e
      rw [Tp_fix h e, if_neg e2]
/-! ### what a forest has come to, by what was joined -/
structure Hangs (N : Nat) (S : Nat → Nat → Prop) (T : Nat → Nat) : Prop where
  le : ∀ i, i < N → T i ≤ i
  idem : ∀ i, i < N → T (T i) = T i
  same : ∀ i j, S i j → T i = T j
  only : ∀ (α : Type) (g : Nat → α), (∀ i j, S i j → g i = g j) → ∀ i, i < N → g (T i) = g i
theorem hangs_join {N : Nat} {S : Nat → Nat → Prop} {f f' : List Int} {x y : Nat} (h : Fo N f) (hS : Hangs N S (Tp f)) (hx : x < N) (hy : y < N) (h' : Fo N f') (hT : ∀ j, j < N → Tp f' j = if Tp f j = max (Tp f x) (Tp f y) then min (Tp f x) (Tp f y) else Tp f j) (hb : ∀ i j, S i j → i < N ∧ j < N) :
    Hangs N (fun i j => S i j ∨ i = x ∧ j = y) (Tp f') := by
  have key : ∀ z, z < N → (Tp f z = Tp f x ∨ Tp f z = Tp f y) → Tp f' z = min (Tp f x) (Tp f y) := fun z hz e => by
    rw [hT z hz]
    split
    · rfl
    · omega
  refine ⟨fun i _ => Tp_le h' i, fun i _ => Tp_Tp h' i, fun i j hs => ?_, fun α g hg i hi => ?_⟩
  · rcases hs with hs | ⟨rfl, rfl⟩
    · rw [hT i (hb i j hs).1, hT j (hb i j hs).2, hS.same i j hs]
    · rw [key i hx (.inl rfl), key j hy (.inr rfl)]
  · have h1 := hS.only α g (fun i j hs => hg i j (.inl hs))
    have hxy := hg x y (.inr ⟨rfl, rfl⟩)
    have e1 := h1 x hx
    have e2 := h1 y hy
    rw [hT i hi]
    split
    · rename_i e
      have e3 := h1 i hi
      rw [e] at e3
      rcases Nat.le_total (Tp f x) (Tp f y) with q | q
      · rw [Nat.min_eq_left q]; rw [Nat.max_eq_right q] at e3; rw [e1, ← e3, e2, hxy]
      · rw [Nat.min_eq_right q]; rw [Nat.max_eq_left q] at e3; rw [e2, ← e3, e1, hxy]
    · exact h1 i hi
end Go.Proofs.YtoijknggnlbopaaDoor.Pure

/- Zones: their edges, how a place lies to them; no program in sight. -/
import Derived.Test.YtoijknggnlbopaaDoorGZHp
namespace Go.Proofs.YtoijknggnlbopaaDoor.Pure
open Go.RowKit Go.Proofs.YtoijknggnlbopaaDoorK Go.Proofs.YtoijknggnlbopaaDoor.GZH
set_option linter.unusedVariables false
set_option linter.unusedSimpArgs false
set_option maxRecDepth 100000
abbrev Pt := Int × Int
def sd (a b p : Pt) : Int := (b.1 - a.1) * (p.2 - a.2) - (p.1 - a.1) * (b.2 - a.2)
def onE (p : Pt) (e : Pt × Pt) : Bool := decide (sd e.1 e.2 p = 0 ∧ min e.1.1 e.2.1 ≤ p.1 ∧ p.1 ≤ max e.1.1 e.2.1 ∧ min e.1.2 e.2.2 ≤ p.2 ∧ p.2 ≤ max e.1.2 e.2.2)
def psE (p : Pt) (e : Pt × Pt) : Bool := if e.1.2 ≤ p.2 ∧ p.2 < e.2.2 then decide (0 < sd e.1 e.2 p) else if e.2.2 ≤ p.2 ∧ p.2 < e.1.2 then decide (sd e.1 e.2 p < 0) else false
def ed {α : Type} (z : List α) : List (α × α) := z.zip (z.drop 1 ++ z.take 1)
def xr : List Bool → Bool
  | [] => false
  | a :: l => Bool.xor a (xr l)
def wh (E : List (Pt × Pt)) (p : Pt) : Int := if E.any (onE p) = true then 1 else if xr (E.map (psE p)) = true then 2 else 0
def sw (e : Pt × Pt) : Pt × Pt := (e.2, e.1)
/-! ### the path -/
/-! ### what does not hang on the order -/
/-! ### an edge the other way -/
theorem sd_sw (a b p : Pt) : sd b a p = - sd a b p := by unfold sd; grind
theorem on_sw (p : Pt) (e : Pt × Pt) : onE p (sw e) = onE p e := by
  unfold onE sw; simp only [sd_sw e.1 e.2 p]
  rw [Int.min_comm e.2.1, Int.max_comm e.2.1, Int.min_comm e.2.2, Int.max_comm e.2.2]
  congr 1; simp only [eq_iff_iff]; constructor <;> (rintro ⟨a, b⟩; exact ⟨by omega, b⟩)
theorem ps_sw (p : Pt) (e : Pt × Pt) : psE p (sw e) = psE p e := by
  unfold psE sw; simp only [sd_sw e.1 e.2 p]
  by_cases h1 : e.1.2 ≤ p.2 ∧ p.2 < e.2.2
  · rw [if_pos h1, if_neg (by omega), if_pos h1]; congr 1; simp only [eq_iff_iff]; omega
  · rw [if_neg h1]
    by_cases h2 : e.2.2 ≤ p.2 ∧ p.2 < e.1.2
    · rw [if_pos h2, if_pos h2, if_neg h1]; exact decide_eq_decide.2 (by omega)
    · rw [if_neg h2, if_neg h2, if_neg h1]
/-! ### moved -/
/-! ### corners; what is without the box -/
theorem ed_len {α : Type} (z : List α) : (ed z).length = z.length := by
  unfold ed; rw [List.length_zip, List.length_append, List.length_drop, List.length_take]; omega
theorem ed_at {α : Type} (z : List α) (i : Nat) (h : i < z.length) (h' : (i + 1) % z.length < z.length) : (ed z)[i]'(by rw [ed_len]; exact h) = (z[i], z[(i + 1) % z.length]) := by
  unfold ed
  rw [List.getElem_zip]
  congr 1
  rw [List.getElem_append]
  split
  · rename_i h2
    rw [List.length_drop] at h2
    rw [List.getElem_drop]
    congr 1; rw [Nat.mod_eq_of_lt (by omega)]; omega
  · rename_i h2
    rw [List.length_drop] at h2
    rw [List.getElem_take]
    have : i + 1 = z.length := by omega
    congr 1; rw [this, Nat.mod_self, List.length_drop]; omega
theorem ed_map {α β : Type} (f : α → β) (z : List α) : ed (z.map f) = (ed z).map fun e => (f e.1, f e.2) := by
  unfold ed
  rw [← List.map_drop, ← List.map_take, ← List.map_append, List.zip_map]; rfl
end Go.Proofs.YtoijknggnlbopaaDoor.Pure

/- Whether numbers show that nothing costs less: the program's answer, and the document's. -/
import Derived.Test.YtacbficpehmlnaaDoorPureBS0
namespace Go.Proofs.YtacbficpehmlnaaDoor.Pure
open Go.RowKit Go.Proofs.YtacbficpehmlnaaDoorK Go.Proofs.YtacbficpehmlnaaDoor.GBN
set_option linter.unusedVariables false
set_option linter.unusedSimpArgs false
set_option maxRecDepth 100000
def Lw (x : Int) : Prop := -36028797018963968 ≤ x
/-- Numbers that show it. -/
structure ShC (rows : List (List Int)) (miss : Int) (P : Nat) (u v : List Int) (total : Int) : Prop where
  lu : u.length = rows.length
  lv : v.length = P
  hu : ∀ x ∈ u, x ≤ miss ∧ Lw x
  hv : ∀ x ∈ v, x ≤ 0 ∧ Lw x
  le : ∀ i k : Nat, i < u.length → k < v.length → 0 ≤ rd (rd rows (i : Int)) (k : Int) → rd u (i : Int) + rd v (k : Int) ≤ rd (rd rows (i : Int)) (k : Int)
  sum : sm u + sm v = total
section
variable {rows : List (List Int)} {miss : Int} {P : Nat}
/-- A row's numbers. -/
theorem cok_row (h : COk rows miss P) {i : Nat} (hi : i < rows.length) : (rd rows (i : Int)).length = P ∧ ∀ k : Nat, k < P → -1 ≤ rd (rd rows (i : Int)) (k : Int) ∧ rd (rd rows (i : Int)) (k : Int) ≤ 4096 := by
  have hm := List.getElem_mem hi
  rw [rd_get hi]
  have hl := h.row _ hm
  exact ⟨hl, fun k hk => by rw [rd_get (by omega)]; exact h.ent _ hm _ (List.getElem_mem _)⟩
end
/-! ### the begin -/
theorem repeat_n : ∀ c : Nat, c < 129 → slices_Repeat_int_int.f 20 [-1] (c : Int) = some (List.replicate c (-1)) := by decide +kernel
theorem repeat_ev {c : Nat} (h : c ≤ 128) : Ev (fun k => slices_Repeat_int_int.f k [-1] (c : Int)) (List.replicate c (-1)) := Ev.of (fun k => slices_Repeat_int_int.mono k _ _) (repeat_n c (by omega))
/-- The plots. -/
def Pl (rows : List (List Int)) : Nat := if rows.length = 0 then 0 else (rd rows 0).length
theorem cok_pl {rows : List (List Int)} {miss : Int} (h : chkB rows miss = true) : COk rows miss (Pl rows) := by
  have hc := cok_of h
  unfold Pl
  by_cases h0 : rows.length = 0
  · have : rows = [] := List.eq_nil_of_length_eq_zero h0
    subst this
    exact ⟨hc.n, hc.m, by simp, (fun r hr => by cases hr), hc.ent⟩
  · rw [if_neg h0]; exact hc
def B0 (rows : List (List Int)) (miss : Int) : best_search := ⟨⟨rows, miss⟩, rows.length, Pl rows, List.replicate rows.length 0, List.replicate (Pl rows + rows.length) 0, List.replicate (Pl rows + rows.length) (-1)⟩
theorem begun_ev {rows : List (List Int)} {miss : Int} (h : COk rows miss (Pl rows)) : Ev (fun k => best_begun.f k ⟨rows, miss⟩) (B0 rows miss) := by
  have hn := h.n; have hp := h.p
  have J : ∀ p : Nat, p ≤ 64 → Ev (fun k => best_begun.j1 k rows miss rows.length p [] [] []) ⟨⟨rows, miss⟩, rows.length, p, List.replicate rows.length 0, List.replicate (p + rows.length) 0, List.replicate (p + rows.length) (-1)⟩ := fun p h64 => by
    have e : w64 ((p : Int) + (rows.length : Int)) = ((p + rows.length : Nat) : Int) := by rw [w64_id (by omega)]; push_cast; rfl
    unfold best_begun.j1
    simp only [e, if_pos (show 0 ≤ (rows.length : Int) ∧ (rows.length : Int) ≤ 35184372088832 by omega), if_pos (show 0 ≤ ((p + rows.length : Nat) : Int) ∧ ((p + rows.length : Nat) : Int) ≤ 35184372088832 by omega), Int.toNat_natCast]
    exact Ev.bind (repeat_ev (by omega)) Ev.now
  unfold best_begun.f B0 Pl
  by_cases h0 : rows.length = 0
  · simp only [h0, if_neg (show ¬ (0 : Int) < ((0 : Nat) : Int) by omega), if_true]
    have := J 0 (by omega)
    rw [h0] at this; exact this
  · simp only [if_pos (show (0 : Int) < (rows.length : Int) by omega), if_pos (show (0 : Int) ≤ 0 ∧ 0 < (rows.length : Int) by omega), if_neg h0]
    have e : Pl rows = (rd rows 0).length := if_neg h0
    exact J _ (by omega)
end Go.Proofs.YtacbficpehmlnaaDoor.Pure

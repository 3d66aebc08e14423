/- Numbers that are given: what the program's names do. -/
import Derived.Test.YtjhpkkhcgpilfaaDoorGNGp
namespace Go.Proofs.YtjhpkkhcgpilfaaDoor.Pure
open Go.RowKit Go.Proofs.YtjhpkkhcgpilfaaDoorK Go.Proofs.YtjhpkkhcgpilfaaDoor.GNG
set_option linter.unusedVariables false
set_option linter.unusedSimpArgs false
set_option maxRecDepth 100000
theorem w64_id {x : Int} (h : -9223372036854775808 ≤ x ∧ x ≤ 9223372036854775807) : w64 x = x := by
  simp only [w64, IntKind.wrap, IntKind.bits, IntKind.signed]; simp; omega
theorem gdt {α : Type} (x : Option α) (d : α) : gd true x d = x := rfl
theorem gdf {α : Type} (x : Option α) (d : α) : gd false x d = some d := rfl
theorem i64_wf {x : Int} (h : (Lit.int .i64 x).wf = true) : -9223372036854775808 ≤ x ∧ x ≤ 9223372036854775807 := by
  simpa [Lit.wf, IntKind.min, IntKind.max, IntKind.signed, IntKind.bits] using h
structure NOk (a b c : Int) : Prop where
  a1 : 1 ≤ a
  ab : a ≤ b
  b1 : b ≤ 2199023255552
  c0 : 0 ≤ c
  c1 : c ≤ b - a + 1
theorem next_full {a b c : Int} (h : NOk a b c) (hf : b - a < c) : Ev (fun k => names_Names_Next.f k ⟨a, b, ⟨c⟩⟩) (0, some 10, ⟨a, b, ⟨c⟩⟩) := by
  obtain ⟨h1, h2, h3, h4, h5⟩ := h
  unfold names_Names_Next.f
  refine Ev.step (fun k => rfl) ?_
  simp only [names_Names_Next.hs, names_Names_Next.b0, w64_id (show -9223372036854775808 ≤ b - a ∧ b - a ≤ 9223372036854775807 by omega), if_pos hf]
  exact Ev.now
theorem next_some {a b c : Int} (h : NOk a b c) (hf : ¬ b - a < c) : Ev (fun k => names_Names_Next.f k ⟨a, b, ⟨c⟩⟩) (a + c, none, ⟨a, b, ⟨c + 1⟩⟩) := by
  obtain ⟨h1, h2, h3, h4, h5⟩ := h
  unfold names_Names_Next.f
  refine Ev.step (fun k => rfl) ?_
  simp only [names_Names_Next.hs, names_Names_Next.b0, w64_id (show -9223372036854775808 ≤ b - a ∧ b - a ≤ 9223372036854775807 by omega), if_neg hf, w64_id (show -9223372036854775808 ≤ a + c ∧ a + c ≤ 9223372036854775807 by omega), w64_id (show -9223372036854775808 ≤ c + 1 ∧ c + 1 ≤ 9223372036854775807 by omega)]
  exact Ev.now
theorem given_eq (k : Nat) (n : names_Names) : names_Names_Given.f k n = some n.f_given.f_v := rfl
theorem left_eq (k : Nat) {a b c : Int} (h : NOk a b c) : names_Names_Left.f k ⟨a, b, ⟨c⟩⟩ = some (b - a + 1 - c) := by
  obtain ⟨h1, h2, h3, h4, h5⟩ := h
  simp only [names_Names_Left.f, given_eq, Option.bind_some, w64_id (show -9223372036854775808 ≤ b - a ∧ b - a ≤ 9223372036854775807 by omega), w64_id (show -9223372036854775808 ≤ b - a + 1 ∧ b - a + 1 ≤ 9223372036854775807 by omega), w64_id (show -9223372036854775808 ≤ b - a + 1 - c ∧ b - a + 1 - c ≤ 9223372036854775807 by omega)]
theorem was_eq (k : Nat) {a b c x : Int} (h : NOk a b c) (hx : -9223372036854775808 ≤ x ∧ x ≤ 9223372036854775807) : names_Names_Was.f k ⟨a, b, ⟨c⟩⟩ x = some (decide (a ≤ x ∧ x - a < c)) := by
  obtain ⟨h1, h2, h3, h4, h5⟩ := h
  simp only [names_Names_Was.f]
  by_cases ha : a ≤ x
  · simp only [decide_eq_true ha, gdt, given_eq, Option.bind_some, Bool.true_and, w64_id (show -9223372036854775808 ≤ x - a ∧ x - a ≤ 9223372036854775807 by omega)]
    congr 1; rw [decide_eq_decide]; omega
  · simp only [decide_eq_false ha, gdf, Option.bind_some, Bool.false_and]
    congr 1; exact (decide_eq_false (by omega)).symm
theorem sure24 : ∃ k, radomelaw24_sure.f k = some true := ⟨30, by decide +kernel⟩
theorem sure_ev24 : Ev (fun k => radomelaw24_sure.f k) true := let ⟨k, h⟩ := sure24; Ev.of (fun k => radomelaw24_sure.mono k) h
end Go.Proofs.YtjhpkkhcgpilfaaDoor.Pure

/- copy into an own slice. -/
import Derived.Test.YtjhpkkhcgpilfaaDoorGTOk9
namespace Go.Proofs.YtjhpkkhcgpilfaaDoorK
open Go Go.RowKit
set_option linter.unusedVariables false
set_option linter.unusedSimpArgs false
def cutv (sz : Nat) (v : Value) (a b : Int) : Value := match v with
  | .slice A _ c => .slice (if c = a.toNat then A else A.map (·.add (a.toNat * sz))) (b.toNat - a.toNat) (c - a.toNat)
  | v => v
def cpy {α : Type} (xs : List α) (a : Int) (ys : List α) : List α := xs.take a.toNat ++ ys.take (xs.length - a.toNat) ++ xs.drop (a.toNat + ys.length)
section
variable {P : Program} {f : FB} {n : Nat} {k : List Item} {σ : Nat → Value} {H : Hp} {L : Items} {R : Value → Hp → Items → Prop}
theorem d_cutv {α : Type} {kd : Kd α} {t : TypeId} {x : Operand} {lo hi : Option Operand} {v : Value} {e : TypeId} {xs : List α} {a b : Int} (ht : P.underlying t = some (.slice e)) (hsz : (P.info? e).map (·.size) = some kd.sz) (hx : ev n σ x = v) (hs : Src kd H L v xs) (hlo : (lo = none ∧ a = 0) ∨ ∃ y K, lo = some y ∧ ev n σ y = .int K a) (hhi : (hi = none ∧ b = xs.length) ∨ ∃ y K, hi = some y ∧ ev n σ y = .int K b) (hab : 0 ≤ a ∧ a ≤ b ∧ b ≤ (xs.length : Int)) :
    OpA P n σ H L (.slice t x lo hi none) (Is (cutv kd.sz v a b) H L) := fun o ho => opr_run fun w hw => by
  obtain ⟨A, c, rfl, h2, h3⟩ := hs
  obtain ⟨h0, hab, hb⟩ := hab
  have hrun : (execOp (ev n σ) o).run P w = .ok (.value (.slice (if c = a.toNat then A else A.map (·.add (a.toNat * kd.sz))) (b.toNat - a.toNat) (c - a.toNat))) w := by
    unfold execOp; rw [ho]
    have hbounds : (Instr.sliceBounds true xs.length c (lo.map (ev n σ)) (hi.map (ev n σ)) none).run P w = .ok (a.toNat, b.toNat, c) w := by
      have p1 : a ≤ ((b.toNat : Nat) : Int) := by omega
      have p2 : 0 ≤ b := by omega
      have p3 : b ≤ (c : Int) := by omega
      rcases hlo with ⟨rfl, rfl⟩ | ⟨y, K, rfl, e⟩ <;> rcases hhi with ⟨rfl, rfl⟩ | ⟨y', K', rfl, e'⟩ <;> simp [Instr.sliceBounds, Instr.sliceBound, asIntOf, h0, p2, p3, *] <;> omega
    simp [hx, Instr.sliceAt, run_underlying ht, Instr.slice, hbounds, run_sizeOf' hsz]
  exact ⟨_, w, H, L, .inl hrun, hw, rfl, rfl, rfl⟩
theorem src_cutv {α : Type} {kd : Kd α} {v : Value} {xs : List α} {a b : Int} (hs : Src kd H L v xs) (hab : 0 ≤ a ∧ a ≤ b ∧ b ≤ (xs.length : Int)) : Src kd H L (cutv kd.sz v a b) (cut xs a b) := by
  obtain ⟨A, c, rfl, h2, h3⟩ := hs
  obtain ⟨h0, hab, hb⟩ := hab
  have hl : (cut xs a b).length = b.toNat - a.toNat := by unfold cut; simp; omega
  refine ⟨if c = a.toNat then A else A.map (·.add (a.toNat * kd.sz)), c - a.toNat, by rw [hl]; rfl, by rw [hl]; omega, ?_⟩
  by_cases hne : a.toNat = b.toNat
  · left; apply List.eq_nil_of_length_eq_zero; rw [hl]; omega
  · right
    rcases h3 with rfl | ⟨ad, inner, rfl, hsp, h4, h5⟩
    · simp at hb; omega
    · rw [if_neg (by omega)]
      refine ⟨_, _, rfl, ?_, h4.part (a.toNat * kd.sz) ((b.toNat - a.toNat) * kd.sz), ?_⟩
      · unfold Addr.add; split
        · exact hsp
        · rfl
      · have h6 := (h5.drop a.toNat).take (b.toNat - a.toNat)
        have : cut xs a b = (xs.drop a.toNat).take (b.toNat - a.toNat) := by unfold cut; rw [List.drop_take]
        rw [this]; exact h6
end
end Go.Proofs.YtjhpkkhcgpilfaaDoorK

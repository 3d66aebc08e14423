/- Small words of the laws of whole numbers. -/
import Derived.Test.YtkccpkccdbfomaaGreatDoorPureW12L35
namespace Go.Proofs.YtkccpkccdbfomaaGreatDoor.Pure
open Go.RowKit Go.Proofs.YtkccpkccdbfomaaGreatDoorK Go.Proofs.YtkccpkccdbfomaaGreatDoor.GBA
set_option linter.unusedVariables false
set_option linter.unusedSimpArgs false
theorem ZK (y : Int) : (⟨(Nb y).f_Neg, (Nb y).f_D⟩ : Qf) = Nb y := rfl
theorem gdt {α : Type} (x : Option α) (d : α) : gd true x d = x := rfl
theorem MY {x : Int} {m : Nat} (h : x.natAbs < 10 ^ m) : Ln x ≤ m := OD h
theorem nb0 : (⟨false, []⟩ : Qf) = Nb 0 := by unfold Nb; simp [YQ]
theorem wb0 : (⟨false, []⟩ : Qs) = Wb 0 := by unfold Wb; simp [YL]
theorem U4 (x y : Int) : (if x = y then (0 : Int) else if x < y then -1 else 1) = sgn3 x y := by
  unfold sgn3
  by_cases h : x = y
  · subst h; simp
  · by_cases g : x < y
    · rw [if_neg h, if_pos g, if_pos g]
    · rw [if_neg h, if_neg g, if_neg g, if_pos (by omega)]
theorem gdf {α : Type} (x : Option α) (d : α) : gd false x d = some d := rfl
theorem NL : Fit 0 := by unfold Fit LIM; exact Nat.pow_pos (by decide)
theorem Vk {x y : Int} (hx : Fit x) (hy : Fit y) : Ev (fun k => Xt.f k (Wb x) (Wb y)) (res (x * y)) := VM (by have := ZC hx; omega) (by have := ZC hy; omega)
theorem Vq {x y : Int} (hx : Fit x) (hy : Fit y) : Ev (fun k => Xc.f k (Wb x) (Wb y)) (res (x + y)) := Om (by have := ZC hx; omega) (by have := ZC hy; omega)
theorem Vn {x y : Int} (hx : Fit x) (hy : Fit y) : Ev (fun k => Yu.f k (Wb x) (Wb y)) (sgn3 x y) := V3 (by have := ZC hx; omega) (by have := ZC hy; omega)
theorem US {x y : Int} (hx : Fit x) (hy : Fit y) (h : Fit (x + y)) : Ev (fun k => Xc.f k (Wb x) (Wb y)) (Wb (x + y), none) := by have := Vq hx hy; rwa [JJ h] at this
theorem Jt {x y : Int} (hx : Fit x) (hy : Fit y) (h : Fit (x * y)) : Ev (fun k => Xt.f k (Wb x) (Wb y)) (Wb (x * y), none) := by have := Vk hx hy; rwa [JJ h] at this
end Go.Proofs.YtkccpkccdbfomaaGreatDoor.Pure

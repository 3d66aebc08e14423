/- Small words of the laws of whole numbers. -/
import Derived.Test.YtkccpkccdbfomaaGreatDoorPureW12L34
namespace Go.Proofs.YtkccpkccdbfomaaGreatDoor.Pure
open Go.RowKit Go.Proofs.YtkccpkccdbfomaaGreatDoorK Go.Proofs.YtkccpkccdbfomaaGreatDoor.GSS
set_option linter.unusedVariables false
set_option linter.unusedSimpArgs false
theorem ZI (y : Int) : (⟨(Nb y).f_Neg, (Nb y).f_D⟩ : Qh) = Nb y := rfl
theorem gdt {α : Type} (x : Option α) (d : α) : gd true x d = x := rfl
theorem Gp {x : Int} {m : Nat} (h : x.natAbs < 10 ^ m) : Ln x ≤ m := Gs h
theorem wb0 : (⟨false, []⟩ : Qu) = Wb 0 := by unfold Wb; simp [Y2]
theorem Vo (x y : Int) : (if x = y then (0 : Int) else if x < y then -1 else 1) = sgn3 x y := by
  unfold sgn3
  by_cases h : x = y
  · subst h; simp
  · by_cases g : x < y
    · rw [if_neg h, if_pos g, if_pos g]
    · rw [if_neg h, if_neg g, if_neg g, if_pos (by omega)]
theorem gdf {α : Type} (x : Option α) (d : α) : gd false x d = some d := rfl
theorem Vn : Fit 0 := by unfold Fit LIM; exact Nat.pow_pos (by decide)
theorem Vp {x y : Int} (hx : Fit x) (hy : Fit y) : Ev (fun k => XD.f k (Wb x) (Wb y)) (res (x * y)) := Wd (by have := ZY hx; omega) (by have := ZY hy; omega)
theorem VI {x y : Int} (hx : Fit x) (hy : Fit y) : Ev (fun k => Xl.f k (Wb x) (Wb y)) (res (x + y)) := Oy (by have := ZY hx; omega) (by have := ZY hy; omega)
theorem Vi {x y : Int} (hx : Fit x) (hy : Fit y) : Ev (fun k => YI.f k (Wb x) (Wb y)) (sgn3 x y) := V8 (by have := ZY hx; omega) (by have := ZY hy; omega)
theorem VG {x y : Int} (hx : Fit x) (hy : Fit y) (h : Fit (x + y)) : Ev (fun k => Xl.f k (Wb x) (Wb y)) (Wb (x + y), none) := by have := VI hx hy; rwa [J7 h] at this
theorem JR {x y : Int} (hx : Fit x) (hy : Fit y) (h : Fit (x * y)) : Ev (fun k => XD.f k (Wb x) (Wb y)) (Wb (x * y), none) := by have := Vp hx hy; rwa [J7 h] at this
end Go.Proofs.YtkccpkccdbfomaaGreatDoor.Pure

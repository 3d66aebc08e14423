/- Small words of the laws of whole numbers. -/
import Derived.Test.YtkccpkccdbfomaaGreatDoorPureW12L35
namespace Go.Proofs.YtkccpkccdbfomaaGreatDoor.Pure
open Go.RowKit Go.Proofs.YtkccpkccdbfomaaGreatDoorK Go.Proofs.YtkccpkccdbfomaaGreatDoor.GBP
set_option linter.unusedVariables false
set_option linter.unusedSimpArgs false
theorem ZJ (y : Int) : (⟨(Nb y).f_Neg, (Nb y).f_D⟩ : Qg) = Nb y := rfl
theorem gdt {α : Type} (x : Option α) (d : α) : gd true x d = x := rfl
theorem Nh {x : Int} {m : Nat} (h : x.natAbs < 10 ^ m) : Ln x ≤ m := Up h
theorem nb0 : (⟨false, []⟩ : Qg) = Nb 0 := by unfold Nb; simp [YS]
theorem wb0 : (⟨false, []⟩ : Qv) = Wb 0 := by unfold Wb; simp [YL]
theorem gdf {α : Type} (x : Option α) (d : α) : gd false x d = some d := rfl
theorem Nu : Fit 0 := by unfold Fit LIM; exact Nat.pow_pos (by decide)
theorem V8 {x y : Int} (hx : Fit x) (hy : Fit y) : Ev (fun k => Xv.f k (Wb x) (Wb y)) (res (x * y)) := W1 (by have := ZB hx; omega) (by have := ZB hy; omega)
theorem Vx {x y : Int} (hx : Fit x) (hy : Fit y) : Ev (fun k => Xh.f k (Wb x) (Wb y)) (res (x + y)) := OD (by have := ZB hx; omega) (by have := ZB hy; omega)
theorem VM {x y : Int} (hx : Fit x) (hy : Fit y) : Ev (fun k => Yy.f k (Wb x) (Wb y)) (sgn3 x y) := WV (by have := ZB hx; omega) (by have := ZB hy; omega)
theorem VW {x y : Int} (hx : Fit x) (hy : Fit y) (h : Fit (x + y)) : Ev (fun k => Xh.f k (Wb x) (Wb y)) (Wb (x + y), none) := by have := Vx hx hy; rwa [Jp h] at this
theorem Jv {x y : Int} (hx : Fit x) (hy : Fit y) (h : Fit (x * y)) : Ev (fun k => Xv.f k (Wb x) (Wb y)) (Wb (x * y), none) := by have := V8 hx hy; rwa [Jp h] at this
end Go.Proofs.YtkccpkccdbfomaaGreatDoor.Pure

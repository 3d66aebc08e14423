/- Small words of the laws of whole numbers. -/
import Derived.Test.YtkccpkccdbfomaaGreatDoorPureW12L35
namespace Go.Proofs.YtkccpkccdbfomaaGreatDoor.Pure
open Go.RowKit Go.Proofs.YtkccpkccdbfomaaGreatDoorK Go.Proofs.YtkccpkccdbfomaaGreatDoor.GBH
set_option linter.unusedVariables false
set_option linter.unusedSimpArgs false
theorem Ms (y : Int) : (⟨(Nb y).f_Neg, (Nb y).f_D⟩ : Qg) = Nb y := rfl
theorem gdt {α : Type} (x : Option α) (d : α) : gd true x d = x := rfl
theorem O8 {x : Int} {m : Nat} (h : x.natAbs < 10 ^ m) : Ln x ≤ m := OX h
theorem wb0 : (⟨false, []⟩ : Qq) = Wb 0 := by unfold Wb; simp [YP]
theorem gdf {α : Type} (x : Option α) (d : α) : gd false x d = some d := rfl
theorem VJ {x y : Int} (hx : Fit x) (hy : Fit y) : Ev (fun k => Xo.f k (Wb x) (Wb y)) (res (x * y)) := WU (by have := ZN hx; omega) (by have := ZN hy; omega)
theorem VM {x y : Int} (hx : Fit x) (hy : Fit y) : Ev (fun k => Xc.f k (Wb x) (Wb y)) (res (x + y)) := OI (by have := ZN hx; omega) (by have := ZN hy; omega)
theorem Vu {x y : Int} (hx : Fit x) (hy : Fit y) : Ev (fun k => Yw.f k (Wb x) (Wb y)) (sgn3 x y) := WS (by have := ZN hx; omega) (by have := ZN hy; omega)
theorem VS {x y : Int} (hx : Fit x) (hy : Fit y) (h : Fit (x + y)) : Ev (fun k => Xc.f k (Wb x) (Wb y)) (Wb (x + y), none) := by have := VM hx hy; rwa [JC h] at this
theorem JF {x y : Int} (hx : Fit x) (hy : Fit y) (h : Fit (x * y)) : Ev (fun k => Xo.f k (Wb x) (Wb y)) (Wb (x * y), none) := by have := VJ hx hy; rwa [JC h] at this
end Go.Proofs.YtkccpkccdbfomaaGreatDoor.Pure

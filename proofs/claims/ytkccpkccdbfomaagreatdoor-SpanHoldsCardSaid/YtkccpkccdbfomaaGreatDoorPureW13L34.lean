/- Small words of the laws of whole numbers. -/
import Derived.Test.YtkccpkccdbfomaaGreatDoorPureW12L34
namespace Go.Proofs.YtkccpkccdbfomaaGreatDoor.Pure
open Go.RowKit Go.Proofs.YtkccpkccdbfomaaGreatDoorK Go.Proofs.YtkccpkccdbfomaaGreatDoor.GSH
set_option linter.unusedVariables false
set_option linter.unusedSimpArgs false
theorem nb_eta (y : Int) : (⟨(Nb y).f_Neg, (Nb y).f_D⟩ : radomeref01_Num) = Nb y := rfl
theorem gdt {α : Type} (x : Option α) (d : α) : gd true x d = x := rfl
theorem Ln_of {x : Int} {m : Nat} (h : x.natAbs < 10 ^ m) : Ln x ≤ m := Ln_lt h
theorem wb0 : (⟨false, []⟩ : wide_Int) = Wb 0 := by unfold Wb; simp [wd_zero]
theorem cmp_same (x y : Int) : (if x = y then (0 : Int) else if x < y then -1 else 1) = sgn3 x y := by
  unfold sgn3
  by_cases h : x = y
  · subst h; simp
  · by_cases g : x < y
    · rw [if_neg h, if_pos g, if_pos g]
    · rw [if_neg h, if_neg g, if_neg g, if_pos (by omega)]
theorem gdf {α : Type} (x : Option α) (d : α) : gd false x d = some d := rfl
theorem WMulC_ev {x y : Int} (hx : Fit x) (hy : Fit y) : Ev (fun k => wide_Int_Mul.f k (Wb x) (Wb y)) (res (x * y)) := WMul_ev (by have := fit_Wl hx; omega) (by have := fit_Wl hy; omega)
theorem WAddC_ev {x y : Int} (hx : Fit x) (hy : Fit y) : Ev (fun k => wide_Int_Add.f k (Wb x) (Wb y)) (res (x + y)) := WAdd_ev (by have := fit_Wl hx; omega) (by have := fit_Wl hy; omega)
theorem WCmpC_ev {x y : Int} (hx : Fit x) (hy : Fit y) : Ev (fun k => wide_Int_Cmp.f k (Wb x) (Wb y)) (sgn3 x y) := WCmp_ev (by have := fit_Wl hx; omega) (by have := fit_Wl hy; omega)
theorem WAddF_ev {x y : Int} (hx : Fit x) (hy : Fit y) (h : Fit (x + y)) : Ev (fun k => wide_Int_Add.f k (Wb x) (Wb y)) (Wb (x + y), none) := by have := WAddC_ev hx hy; rwa [res_fit h] at this
theorem WMulF_ev {x y : Int} (hx : Fit x) (hy : Fit y) (h : Fit (x * y)) : Ev (fun k => wide_Int_Mul.f k (Wb x) (Wb y)) (Wb (x * y), none) := by have := WMulC_ev hx hy; rwa [res_fit h] at this
end Go.Proofs.YtkccpkccdbfomaaGreatDoor.Pure

/- Small words of the laws of whole numbers. -/
import Derived.Test.YtmnhbbckndlnkaaGreatDoorPureW12L02
namespace Go.Proofs.YtmnhbbckndlnkaaGreatDoor.Pure
open Go.RowKit Go.Proofs.YtmnhbbckndlnkaaGreatDoorK Go.Proofs.YtmnhbbckndlnkaaGreatDoor.GRN
set_option linter.unusedVariables false
set_option linter.unusedSimpArgs false
theorem nb_eta (y : Int) : (⟨(Nb y).f_Neg, (Nb y).f_D⟩ : radomeref01_Num) = Nb y := rfl
theorem gdt {α : Type} (x : Option α) (d : α) : gd true x d = x := rfl
theorem Ln_of {x : Int} {m : Nat} (h : x.natAbs < 10 ^ m) : Ln x ≤ m := Ln_lt h
theorem nb0 : (⟨false, []⟩ : radomeref01_Num) = Nb 0 := by unfold Nb; simp [dg_zero]
theorem wb0 : (⟨false, []⟩ : wide_Int) = Wb 0 := by unfold Wb; simp [wd_zero]
theorem gdf {α : Type} (x : Option α) (d : α) : gd false x d = some d := rfl
theorem res_cases (x : Int) : (Fit x ∧ res x = (Wb x, none)) ∨ (¬ Fit x ∧ res x = (Wb 0, some 12)) := by
  by_cases h : Fit x
  · exact .inl ⟨h, if_pos h⟩
  · exact .inr ⟨h, if_neg h⟩
theorem Fit_zero : Fit 0 := by unfold Fit LIM; exact Nat.pow_pos (by decide)
theorem WAddC_ev {x y : Int} (hx : Fit x) (hy : Fit y) : Ev (fun k => wide_Int_Add.f k (Wb x) (Wb y)) (res (x + y)) := WAdd_ev (by have := fit_Wl hx; omega) (by have := fit_Wl hy; omega)
theorem WCmpC_ev {x y : Int} (hx : Fit x) (hy : Fit y) : Ev (fun k => wide_Int_Cmp.f k (Wb x) (Wb y)) (sgn3 x y) := WCmp_ev (by have := fit_Wl hx; omega) (by have := fit_Wl hy; omega)
theorem WAddF_ev {x y : Int} (hx : Fit x) (hy : Fit y) (h : Fit (x + y)) : Ev (fun k => wide_Int_Add.f k (Wb x) (Wb y)) (Wb (x + y), none) := by have := WAddC_ev hx hy; rwa [res_fit h] at this
end Go.Proofs.YtmnhbbckndlnkaaGreatDoor.Pure

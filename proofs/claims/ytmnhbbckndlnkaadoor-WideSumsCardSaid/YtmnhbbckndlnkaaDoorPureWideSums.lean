/- The law WideSums: of any two numbers of digits the sum, the difference, the product, how they compare, and the quotient with its rest, or the error, are the document's. -/
import Derived.Test.YtmnhbbckndlnkaaDoorPureW12
namespace Go.Proofs.YtmnhbbckndlnkaaDoor.Pure
open Go.RowKit Go.Proofs.YtmnhbbckndlnkaaDoorK Go.Proofs.YtmnhbbckndlnkaaDoor.GWS
set_option linter.unusedVariables false
set_option linter.unusedSimpArgs false
set_option maxRecDepth 100000
theorem lim120 : 10 ^ 120 * 10 ^ 120 + 10 ^ 120 < LIM := by decide +kernel
theorem nb_eta (y : Int) : (⟨(Nb y).f_Neg, (Nb y).f_D⟩ : radomeref01_Num) = Nb y := rfl
theorem gdt {α : Type} (x : Option α) (d : α) : gd true x d = x := rfl
theorem Ln_of {x : Int} {m : Nat} (h : x.natAbs < 10 ^ m) : Ln x ≤ m := Ln_lt h
theorem nb0 : (⟨false, []⟩ : radomeref01_Num) = Nb 0 := by unfold Nb; simp [dg_zero]
theorem wb0 : (⟨false, []⟩ : wide_Int) = Wb 0 := by unfold Wb; simp [wd_zero]
theorem cmp_same (x y : Int) : (if x = y then (0 : Int) else if x < y then -1 else 1) = sgn3 x y := by
  unfold sgn3
  by_cases h : x = y
  · subst h; simp
  · by_cases g : x < y
    · rw [if_neg h, if_pos g, if_pos g]
    · rw [if_neg h, if_neg g, if_neg g, if_pos (by omega)]
theorem pure_WideSums (a b : List Int) (neg : T23) (ha : a.length < 9000000000000000000) (ha2 : ∀ x ∈ a, (Lit.int .u8 x).wf = true) (hb : b.length < 9000000000000000000) (hb2 : ∀ x ∈ b, (Lit.int .u8 x).wf = true) : Ev (fun k => radomelaw01_WideSums.f k a b neg) true := by
  obtain ⟨x, wx, bx, -⟩ := L01.whole_ev ha2 ha neg.e0 (most := 120) (by decide)
  obtain ⟨y, wy, byy, -⟩ := L01.whole_ev hb2 hb neg.e1 (most := 120) (by decide)
  have hlim := lim120
  have hp : 1 ≤ 10 ^ 120 := Nat.pow_pos (by decide)
  have pxy : (x * y).natAbs < 10 ^ 120 * 10 ^ 120 := by rw [Int.natAbs_mul]; exact Nat.mul_lt_mul'' bx byy
  generalize hT : 10 ^ 120 = T at *
  have fx : Fit x := by unfold Fit; have := Nat.mul_le_mul_left T hp; omega
  have fy : Fit y := by unfold Fit; have := Nat.mul_le_mul_left T hp; omega
  have T2 : 2 ≤ T := by rw [← hT]; decide +kernel
  have fs : Fit (x + y) := by unfold Fit; have := Nat.mul_le_mul_left T T2; omega
  have fd : Fit (x - y) := by unfold Fit; have := Nat.mul_le_mul_left T T2; omega
  have fm : Fit (x * y) := by unfold Fit; omega
  have fn : Fit (-x) := by unfold Fit; rw [Int.natAbs_neg]; exact fx
  have lx : Ln x ≤ 120 := Ln_of (by rw [hT]; exact bx)
  have ly : Ln y ≤ 120 := Ln_of (by rw [hT]; exact byy)
  have ls := Ln_add x y
  have ld : Ln (x - y) ≤ max (Ln x) (Ln y) + 1 := by have := Ln_add x (-y); rwa [Ln_neg, ← Int.sub_eq_add_neg] at this
  have lm := Ln_mul x y
  have ln : Ln (-x) = Ln x := Ln_neg x
  have ux := fit_Wl fx; have uy := fit_Wl fy; have us := fit_Wl fs; have ud := fit_Wl fd; have um := fit_Wl fm; have un := fit_Wl fn
  have A := WAdd_ev (x := x) (y := y) (by omega) (by omega)
  have S := WSub_ev (x := x) (y := y) (by omega) (by omega)
  have M := WMul_ev (x := x) (y := y) (by omega) (by omega)
  rw [res_fit fs] at A; rw [res_fit fd] at S; rw [res_fit fm] at M
  unfold radomelaw01_WideSums.f
  refine Ev.bind wx (Ev.bind wy ?_)
  simp only [nb_eta]
  refine Ev.bind (L01.giveInt_ev fx (by omega)) (Ev.bind (L01.giveInt_ev fy (by omega)) ?_)
  simp only [Wb_eta]
  refine Ev.bind A (Ev.bind S (Ev.bind M ?_))
  simp only [Option.isSome_none, Bool.or_false, Bool.not_false, gdt, Wb_eta]
  refine Ev.bind (is01_ev (by omega) (by omega)) ?_
  simp only [Bool.not_true, Bool.or_false, Bool.not_false, gdt]
  refine Ev.bind (Add_ev (by omega) (by omega)) ?_
  simp only [nb_eta]
  refine Ev.bind (is01_ev (by omega) (by omega)) ?_
  simp only [Bool.not_true, Bool.or_false, Bool.not_false, gdt]
  refine Ev.bind (Sub_ev (by omega) (by omega)) ?_
  simp only [nb_eta]
  refine Ev.bind (is01_ev (by omega) (by omega)) ?_
  simp only [Bool.not_true, Bool.or_false, Bool.not_false, gdt]
  refine Ev.bind (Mul_ev (by omega) (by omega)) ?_
  simp only [nb_eta]
  refine Ev.bind (is01_ev (by omega) (by omega)) ?_
  simp only [Bool.not_true, Bool.or_false, Bool.not_false, gdt]
  refine Ev.bind (WCmp_ev (by omega) (by omega)) (Ev.bind (Cmp_ev (by omega) (by omega)) ?_)
  rw [cmp_same]
  simp only [decide_true, Bool.not_true, Bool.or_false, Bool.not_false, gdt, WSign_eq, Sign_eq, WNeg_eq, Neg_eq, Option.bind_some, Wb_eta, nb_eta]
  refine Ev.bind (is01_ev (by omega) (by omega)) ?_
  simp only [Bool.not_true, Bool.or_false, Bool.false_eq_true, if_false]
  by_cases z : y = 0
  · subst z
    simp only [WDiv_zero, Option.bind_some, if_true, errN, Option.getD_some, decide_true, gdt, Wb_eta, nb0, Bool.true_and]
    refine Ev.bind (is01_ev (by omega) (by omega)) ?_
    simp only [gdt]
    refine Ev.bind (is01_ev (by omega) (by omega)) ?_
    try simp only [gdt, Bool.true_and]
    exact Ev.bind sure01_ev Ev.now
  · have D := WDiv_ev z fx fy
    have hq : (x / y).natAbs ≤ x.natAbs := Int.natAbs_ediv_le_natAbs x y
    have hr : (x % y).natAbs < y.natAbs := by
      have h1 := Int.emod_nonneg x z
      by_cases g : y < 0
      · have h2 := Int.emod_lt_of_pos x (show 0 < -y by omega)
        rw [Int.emod_neg] at h2; omega
      · have h2 := Int.emod_lt_of_pos x (show 0 < y by omega)
        omega
    have lq : Ln (x / y) ≤ 120 := Ln_of (by rw [hT]; omega)
    have lr : Ln (x % y) ≤ 120 := Ln_of (by rw [hT]; omega)
    have uq := fit_Wl (fit_of_le fx hq)
    have ur := fit_Wl (fit_of_le fy (Nat.le_of_lt hr))
    refine Ev.bind D ?_
    simp only [Wb_eta, if_neg z]
    have nz : ¬ (if y < 0 then (-1 : Int) else 1) = 0 := by split <;> decide
    simp only [if_neg nz]
    refine Ev.bind (Div_ev z (by omega) (by omega)) ?_
    simp only [Option.isNone_none, gdt, nb_eta, Bool.true_and]
    refine Ev.bind (is01_ev (by omega) (by omega)) ?_
    simp only [gdt]
    refine Ev.bind (is01_ev (by omega) (by omega)) ?_
    simp only [gdt, Bool.true_and]
    exact Ev.bind sure01_ev Ev.now
theorem WideSums : radomelaw01_WideSums.Pure := fun a b neg h1 h2 _ => by
  obtain ⟨⟨-, l1⟩, w1⟩ := h1
  obtain ⟨⟨-, l2⟩, w2⟩ := h2
  exact (pure_WideSums a b neg (by omega) w1 (by omega) w2).ex
end Go.Proofs.YtmnhbbckndlnkaaDoor.Pure

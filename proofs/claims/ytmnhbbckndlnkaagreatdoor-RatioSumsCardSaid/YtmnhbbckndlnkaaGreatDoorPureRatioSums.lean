/- The law RatioSums: of any two fractions the sum, the difference, the product, the quotient, and how they compare, or the errors, are the document's. -/
import Derived.Test.YtmnhbbckndlnkaaGreatDoorPureR2L02
namespace Go.Proofs.YtmnhbbckndlnkaaGreatDoor.Pure
open Go.RowKit Go.Proofs.YtmnhbbckndlnkaaGreatDoorK Go.Proofs.YtmnhbbckndlnkaaGreatDoor.GRS
set_option linter.unusedVariables false
set_option linter.unusedSimpArgs false
set_option maxRecDepth 100000
theorem lim60 : 2 * (10 ^ 60 * 10 ^ 60) < LIM := by decide +kernel
theorem wz_eta : (⟨(⟨(⟨Wb 0, Wb 0⟩ : ratio_Ratio).f_n.f_neg, (⟨Wb 0, Wb 0⟩ : ratio_Ratio).f_n.f_w⟩ : wide_Int), (⟨(⟨Wb 0, Wb 0⟩ : ratio_Ratio).f_d.f_neg, (⟨Wb 0, Wb 0⟩ : ratio_Ratio).f_d.f_w⟩ : wide_Int)⟩ : ratio_Ratio) = ⟨Wb 0, Wb 0⟩ := rfl
theorem pure_RatioSums (l : T55) (neg : T56) (h0 : ∀ x ∈ l.e0, (Lit.int .u8 x).wf = true) (h0' : l.e0.length < 9000000000000000000) (h1 : ∀ x ∈ l.e1, (Lit.int .u8 x).wf = true) (h1' : l.e1.length < 9000000000000000000) (h2 : ∀ x ∈ l.e2, (Lit.int .u8 x).wf = true) (h2' : l.e2.length < 9000000000000000000) (h3 : ∀ x ∈ l.e3, (Lit.int .u8 x).wf = true) (h3' : l.e3.length < 9000000000000000000) : Ev (fun k => radomelaw02_RatioSums.f k l neg) true := by
  obtain ⟨r, wr, br⟩ := L02.fraction_ev (neg := neg.e0) h0 h0' h1 h1'
  obtain ⟨s, ws, bs⟩ := L02.fraction_ev (neg := neg.e1) h2 h2' h3 h3'
  have hlim := lim60
  have h1200 : 10 ^ 60 < 10 ^ 1200 := by decide +kernel
  have p60 : 1 ≤ 10 ^ 60 := Nat.pow_pos (by decide)
  have GR := L02.giveRatio_ev br h1200
  have GS := L02.giveRatio_ev bs h1200
  generalize (10 : Nat) ^ 60 = T at *
  obtain ⟨pp, -⟩ := le_prod p60 p60
  have fn := fit_num br (by omega); have fd := fit_den br (by omega)
  have ln := Ln_Fit fn; have ld := Ln_Fit fd; have un := fit_Wl fn; have ud := fit_Wl fd
  have bA := Rs_add br bs; have bS := Rs_sub br bs; have bM := Rs_mul br bs
  unfold radomelaw02_RatioSums.f
  refine Ev.bind wr (Ev.bind ws ?_)
  simp only [Fb_eta]
  refine Ev.bind GR (Ev.bind GS ?_)
  simp only [Rb_eta, Parts_eq, Option.bind_some]
  refine Ev.bind (RatText_ev br (by omega)) (Ev.bind (FText_ev br (by omega)) ?_)
  simp only [decide_true, Bool.not_true, Bool.not_false, gdt, Wb_eta, Fb_n, Fb_d]
  refine Ev.bind (L02.is_ev (by omega) (by omega)) ?_
  simp only [Bool.not_true, Bool.or_false, Bool.not_false, gdt]
  refine Ev.bind (L02.is_ev (by omega) (by omega)) ?_
  simp only [Bool.not_true, Bool.or_false, Bool.false_eq_true, if_false]
  refine Ev.bind (RAdd_ev br bs (by omega)) (Ev.bind (RSub_ev br bs (by omega)) (Ev.bind (RMul_ev br bs (by omega)) ?_))
  simp only [Rb_eta]
  by_cases z : s = 0
  · subst z
    simp only [RDiv_zero, FDiv_zero, Option.bind_some]
    refine Ev.bind (RCmp_ev br bs (by omega)) (Ev.bind (FAdd_ev br bs (by omega)) (Ev.bind (FSub_ev br bs (by omega)) (Ev.bind (FMul_ev br bs (by omega)) (Ev.bind (FCmp_ev br bs (by omega)) ?_))))
    simp only [Option.isSome_none, Bool.or_false, Bool.not_false, gdt, Rb_eta, Fb_eta]
    refine Ev.bind (RatText_ev bA (by omega)) (Ev.bind (FText_ev bA (by omega)) ?_)
    simp only [decide_true, Bool.not_true, Bool.or_false, Bool.not_false, gdt]
    refine Ev.bind (RatText_ev bS (by omega)) (Ev.bind (FText_ev bS (by omega)) ?_)
    simp only [decide_true, Bool.not_true, Bool.or_false, Bool.not_false, gdt]
    refine Ev.bind (RatText_ev bM (by omega)) (Ev.bind (FText_ev bM (by omega)) ?_)
    simp only [decide_true, Bool.not_true, Bool.or_false, Bool.false_eq_true, if_false, errN, Option.getD_some, Option.isSome_some, Option.isNone_some, gdt, wz_eta, Wb_eta]
    refine Ev.bind ZText_ev ?_
    simp only [show decide (strOf [48, 47, 49] = str_7) = true by decide +kernel, Bool.true_and, Bool.not_true, Bool.and_false, Bool.false_and, gdf, Option.bind_some, Bool.or_false, Bool.true_or, gdt]
    exact Ev.bind L02.sure_ev Ev.now
  · have bD := Rs_div br bs z
    refine Ev.bind (RDiv_ev br bs (by omega) z) (Ev.bind (RCmp_ev br bs (by omega)) (Ev.bind (FAdd_ev br bs (by omega)) (Ev.bind (FSub_ev br bs (by omega)) (Ev.bind (FMul_ev br bs (by omega)) (Ev.bind (FDiv_ev br bs (by omega) z) (Ev.bind (FCmp_ev br bs (by omega)) ?_))))))
    simp only [Option.isSome_none, Bool.or_false, Bool.not_false, gdt, Rb_eta, Fb_eta]
    refine Ev.bind (RatText_ev bA (by omega)) (Ev.bind (FText_ev bA (by omega)) ?_)
    simp only [decide_true, Bool.not_true, Bool.or_false, Bool.not_false, gdt]
    refine Ev.bind (RatText_ev bS (by omega)) (Ev.bind (FText_ev bS (by omega)) ?_)
    simp only [decide_true, Bool.not_true, Bool.or_false, Bool.not_false, gdt]
    refine Ev.bind (RatText_ev bM (by omega)) (Ev.bind (FText_ev bM (by omega)) ?_)
    simp only [decide_true, Bool.not_true, Bool.or_false, Bool.false_eq_true, if_false, errN, Option.getD_none, Option.isSome_none, Option.isNone_none, gdf, Option.bind_some, Bool.false_and, Bool.not_false, Bool.true_and, gdt, Rb_eta, Fb_eta]
    refine Ev.bind (RatText_ev bD (by omega)) (Ev.bind (FText_ev bD (by omega)) ?_)
    simp only [decide_true, Bool.or_true, gdt, Bool.false_or, Bool.true_and]
    exact Ev.bind L02.sure_ev Ev.now
theorem RatioSums : radomelaw02_RatioSums.Pure := fun l neg h _ => by
  obtain ⟨⟨⟨-, l0⟩, w0⟩, ⟨⟨-, l1⟩, w1⟩, ⟨⟨-, l2⟩, w2⟩, ⟨⟨-, l3⟩, w3⟩⟩ := h
  exact (pure_RatioSums l neg w0 (by omega) w1 (by omega) w2 (by omega) w3 (by omega)).ex
end Go.Proofs.YtmnhbbckndlnkaaGreatDoor.Pure

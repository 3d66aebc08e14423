/- The law RatioNear: the number nearest to a fraction with so many bits behind the point, and such a number as a fraction, are the document's. -/
import Derived.Test.YtmnhbbckndlnkaaGreatDoorPureR3L02
import Derived.Test.YtmnhbbckndlnkaaGreatDoorPureN6
namespace Go.Proofs.YtmnhbbckndlnkaaGreatDoor.Pure
open Go.RowKit Go.Proofs.YtmnhbbckndlnkaaGreatDoorK Go.Proofs.YtmnhbbckndlnkaaGreatDoor.GRN
set_option linter.unusedVariables false
set_option linter.unusedSimpArgs false
set_option maxRecDepth 100000
theorem wz_eta : (⟨(⟨(⟨Wb 0, Wb 0⟩ : ratio_Ratio).f_n.f_neg, (⟨Wb 0, Wb 0⟩ : ratio_Ratio).f_n.f_w⟩ : wide_Int), (⟨(⟨Wb 0, Wb 0⟩ : ratio_Ratio).f_d.f_neg, (⟨Wb 0, Wb 0⟩ : ratio_Ratio).f_d.f_w⟩ : wide_Int)⟩ : ratio_Ratio) = ⟨Wb 0, Wb 0⟩ := rfl
theorem FitsG_ev {x : Int} {n : Nat} (hl : Ln x < 1000000) (hn : n < 10000) : Ev (fun k => radomeref01_Fits.f k (Nb x) (n : Int)) (decide (x.natAbs < 2 ^ n)) := by
  unfold radomeref01_Fits.f
  refine Ev.bind (Two_ev (by omega)) ?_
  have l2 : Ln ((2 : Int) ^ n) < 1000000 := by
    refine Nat.lt_of_le_of_lt (Ln_of (m := n + 1) ?_) (by omega)
    rw [pow2_nat, Int.natAbs_natCast]
    exact Nat.lt_of_le_of_lt (Nat.pow_le_pow_left (by decide : 2 ≤ 10) n) (Nat.pow_lt_pow_right (by decide) (by omega))
  unfold Ln at hl l2
  have := Less_ev (a := x.natAbs) (b := ((2 : Int) ^ n).natAbs) (by omega) (by omega)
  rw [pow2_nat, Int.natAbs_natCast] at this
  rw [pow2_nat]
  exact Ev.bind this Ev.now
theorem FSmall_ev {x : Int} (hl : Ln x < 1000000) : Ev (fun k => radomeref01_Small.f k (Nb x)) (decide (Sm x)) := by
  have h63 : Ln (-(2 : Int) ^ 63) < 1000000 := Nat.lt_of_le_of_lt (Ln_of (m := 20) (by decide)) (by decide)
  have F := FitsG_ev hl (show 63 < 10000 by decide)
  have T := Two_ev (n := 63) (by decide)
  rw [show ((63 : Nat) : Int) = 63 from rfl] at F T
  unfold radomeref01_Small.f
  simp only [nb_eta]
  refine Ev.bind F ?_
  by_cases g : x.natAbs < 2 ^ 63
  · have s : Sm x := by unfold Sm; omega
    simp only [g, s, decide_true, Bool.not_true, Bool.false_and, gdf, Option.bind_some, Bool.true_or]
    exact Ev.now
  · by_cases n : x < 0
    · have nn : (Nb x).f_Neg = true := decide_eq_true n
      simp only [g, nn, decide_false, Bool.not_false, Bool.true_and, gdt, Bool.false_or]
      refine Ev.bind T ?_
      simp only [nb_eta, Neg_eq, Option.bind_some]
      refine Ev.bind (Cmp_ev (by omega) (by omega)) ?_
      have e : decide ((if x = -(2 : Int) ^ 63 then (0 : Int) else if x < -(2 : Int) ^ 63 then -1 else 1) = 0) = decide (Sm x) := by
        rw [decide_eq_decide]
        unfold Sm
        constructor
        · intro h
          by_cases h1 : x = -(2 : Int) ^ 63
          · omega
          · rw [if_neg h1] at h; split at h <;> omega
        · intro h; rw [if_pos (by omega)]
      rw [e]; exact Ev.now
    · have nn : (Nb x).f_Neg = false := decide_eq_false n
      have s : ¬ Sm x := by unfold Sm; omega
      simp only [g, s, nn, decide_false, Bool.not_false, Bool.and_false, Bool.false_and, gdf, Option.bind_some, Bool.or_false]
      exact Ev.now
def S300 : Nat := (2 ^ 30) ^ 10
theorem S300_lim : 4 * (10 ^ 60 * S300) + 4 < LIM := by decide +kernel
theorem FNear_ev {r : Rat} {bits : Nat} (hr : Rs (10 ^ 60) r) (hb : bits ≤ 300) : Ev (fun k => radomeref02_Near.f k (Fb r) (bits : Int)) (if Sm (rnd (r.num * 2 ^ bits) (r.den : Int)) then (Nb (rnd (r.num * 2 ^ bits) (r.den : Int)), 0) else (Nb 0, 12)) := by
  have h1200 : 10 ^ 60 < LIM := by decide +kernel
  have fn := fit_num hr h1200; have fd := fit_den hr h1200
  have ln := Ln_Fit fn; have ld := Ln_Fit fd
  have hl := S300_lim
  have hp : 2 ^ bits ≤ S300 := two_pw 30 10 (by omega)
  have hx : (r.num * 2 ^ bits).natAbs ≤ 10 ^ 60 * S300 := by
    rw [Int.natAbs_mul, pow2_nat, Int.natAbs_natCast]; exact Nat.mul_le_mul hr.num hp
  have fx : Fit (r.num * 2 ^ bits) := by unfold Fit; omega
  have fx2 : Fit (r.num * 2 ^ bits + r.num * 2 ^ bits) := by unfold Fit; omega
  have lp : Ln ((2 : Int) ^ bits) < 1000000 := by
    have : Fit ((2 : Int) ^ bits) := by unfold Fit; rw [pow2_nat, Int.natAbs_natCast]; have : 1 ≤ 10 ^ 60 := Nat.pow_pos (by decide); have := Nat.le_mul_of_pos_left S300 this; omega
    have := Ln_Fit this; omega
  have c : ((decide ((bits : Int) < 0)) || (decide (1024 < (bits : Int)))) = false := by rw [Bool.or_eq_false_iff, decide_eq_false_iff_not, decide_eq_false_iff_not]; omega
  have d0 : (0 : Int) < (r.den : Int) := by have := r.den_nz; omega
  unfold radomeref02_Near.f
  simp only [c, Bool.false_eq_true, if_false, nb_eta, Fb_n, Fb_d]
  refine Ev.bind (Two_ev (by omega)) ?_
  simp only [nb_eta]
  refine Ev.bind (Mul_ev (by omega) (by omega)) ?_
  simp only [nb_eta]
  clear hx hl
  generalize hz : r.num * 2 ^ bits = x at *
  generalize (r.den : Int) = D at *
  have lx := Ln_Fit fx
  refine Ev.bind (Round_ev d0 (by omega) (by omega)) ?_
  have lq : Ln (rnd x D) < 1000000 := by
    have h1 := Ln_div x D
    have h2 := Ln_add (x / D) 1
    have h3 : Ln 1 < 1000 := Nat.lt_of_le_of_lt (Ln_of (m := 1) (by decide)) (by decide)
    unfold rnd; split <;> omega
  simp only [nb_eta]
  refine Ev.bind (FSmall_ev lq) ?_
  by_cases s : Sm (rnd x D)
  · simp only [s, decide_true, Bool.not_true, Bool.not_false, gdt, if_true]
    refine Ev.bind (Add_ev (by omega) (by omega)) ?_
    simp only [nb_eta]
    have F := FitsN_ev (x := x + x) (by have := Ln_Fit fx2; omega)
    rw [show decide ((x + x).natAbs < LIM) = true from decide_eq_true fx2] at F
    refine Ev.bind F ?_
    simp only [Bool.not_true, Bool.or_false, Bool.false_eq_true, if_false]
    exact Ev.now
  · simp only [s, decide_false, Bool.not_true, Bool.not_false, gdf, Option.bind_some, Bool.true_or, if_true, if_false, nb0]
    exact Ev.now
theorem pure_RatioNear (l : T23) (neg : Bool) (of_ : T24) (h0 : ∀ x ∈ l.e0, (Lit.int .u8 x).wf = true) (h0' : l.e0.length < 9000000000000000000) (h1 : ∀ x ∈ l.e1, (Lit.int .u8 x).wf = true) (h1' : l.e1.length < 9000000000000000000) (hn : -9223372036854775808 ≤ of_.e1 ∧ of_.e1 ≤ 9223372036854775807) : Ev (fun k => radomelaw02_RatioNear.f k l neg of_) true := by
  obtain ⟨r, wr, br⟩ := L02.fraction_ev (neg := neg) h0 h0' h1 h1'
  have h1200 : 10 ^ 60 < 10 ^ 1200 := by decide +kernel
  have hlim : 10 ^ 60 < LIM := by decide +kernel
  have GR := L02.giveRatio_ev br h1200
  unfold radomelaw02_RatioNear.f
  refine Ev.bind wr ?_
  simp only [Fb_eta]
  refine Ev.bind GR ?_
  simp only [Rb_eta]
  generalize of_.e0 = bits at *
  generalize of_.e1 = n at *
  by_cases ho : bits < 0 ∨ 1024 < bits
  · have c : ((decide (bits < 0)) || (decide (1024 < bits))) = true := by rw [Bool.or_eq_true, decide_eq_true_eq, decide_eq_true_eq]; exact ho
    simp only [RNear_out _ _ ho, RBits_out _ _ ho, Option.bind_some, c, if_true, errN, Option.getD_some, decide_true, Bool.and_self, gdt, wz_eta, Wb_eta]
    refine Ev.bind ZText_ev ?_
    simp only [show decide (strOf [48, 47, 49] = str_7) = true by decide +kernel, Bool.true_and, gdt]
    exact Ev.bind L02.sure_ev Ev.now
  · have c : ((decide (bits < 0)) || (decide (1024 < bits))) = false := by rw [Bool.or_eq_false_iff, decide_eq_false_iff_not, decide_eq_false_iff_not]; omega
    obtain ⟨m, rfl⟩ : ∃ m : Nat, bits = (m : Int) := ⟨bits.toNat, by omega⟩
    obtain ⟨v, e, N1, N2, N3⟩ := RNear_ev br hlim (show m ≤ 1024 by omega)
    obtain ⟨B1, B2⟩ := RBits_ev hn (show m ≤ 1024 by omega)
    refine Ev.bind N1 (Ev.bind B1 ?_)
    simp only [c, Bool.false_eq_true, if_false, Option.isNone_none, Bool.true_and]
    by_cases g : 300 < (m : Int)
    · have ce : (e.isNone || decide (errN e = 12)) = true := by rcases N2 with rfl | rfl <;> rfl
      simp only [g, if_true, ce, gdt]
      exact Ev.bind L02.sure_ev Ev.now
    · simp only [if_neg g, gdt]
      have hm : m ≤ 300 := by omega
      have hp : 2 ^ m ≤ S300 := two_pw 30 10 (by omega)
      have hs := S300_lim
      have N4 := N3 (by have : 10 ^ 60 * 2 ^ m ≤ 10 ^ 60 * S300 := Nat.mul_le_mul_left _ hp
                        omega)
      refine Ev.bind (FNear_ev br hm) ?_
      generalize rnd (r.num * 2 ^ m) (r.den : Int) = z at *
      -- the end, alike in both cases
      have E : Ev (fun k => (radomeref01_Of.f k n).bind fun y101 => (radomeref01_Two.f k (m : Int)).bind fun y107 => (radomeref02_Of.f k (⟨y101.f_Neg, y101.f_D⟩ : radomeref01_Num) (⟨y107.f_Neg, y107.f_D⟩ : radomeref01_Num)).bind fun y113 => (ratio_Ratio_Text.f k (Rb (mkRat n (2 ^ m)))).bind fun y124 => (radomeref02_Text.f k (⟨(⟨y113.f_N.f_Neg, y113.f_N.f_D⟩ : radomeref01_Num), (⟨y113.f_D.f_Neg, y113.f_D.f_D⟩ : radomeref01_Num)⟩ : radomeref02_Ratio)).bind fun y132 => (gd (decide (y124 = y132)) (radomelaw02_sure.f k) (false)).bind fun y138 => some ((decide (y124 = y132)) && y138)) true := by
        have p0 : (2 : Int) ^ m ≠ 0 := by have := pow2_pos m; omega
        have bl : max 9223372036854775808 (2 ^ m) < LIM := by
          have : 1 ≤ 10 ^ 60 := Nat.pow_pos (by decide)
          have := Nat.le_mul_of_pos_left S300 this
          have : 9223372036854775808 < LIM := by decide +kernel
          omega
        refine Ev.bind (Of_ev hn) (Ev.bind (Two_ev (by omega)) ?_)
        simp only [nb_eta]
        have l1 : Ln n < 1000000 := Nat.lt_of_le_of_lt (Ln_of (m := 20) (by have : (9223372036854775808 : Nat) < 10 ^ 20 := by decide
                                                                            omega)) (by decide)
        have l2 : Ln ((2 : Int) ^ m) < 1000000 := by
          have : Fit ((2 : Int) ^ m) := by unfold Fit; rw [pow2_nat, Int.natAbs_natCast]; omega
          have := Ln_Fit this; omega
        refine Ev.bind (FOf_ev p0 l1 l2) ?_
        rw [pow2_nat, Rat.divInt_ofNat]
        simp only [Fb_eta]
        refine Ev.bind (RatText_ev B2 bl) (Ev.bind (FText_ev B2 bl) ?_)
        simp only [decide_true, gdt, Bool.true_and]
        exact Ev.bind L02.sure_ev Ev.now
      by_cases s : Sm z
      · obtain ⟨rfl, rfl⟩ : v = z ∧ e = none := by unfold nearR at N4; rw [if_pos s] at N4; exact ⟨congrArg Prod.fst N4, congrArg Prod.snd N4⟩
        simp only [if_pos s, errN, Option.getD_none, decide_true, Bool.not_true, Bool.not_false, Option.isNone_none, Option.isSome_none, Bool.true_and, gdt]
        have f : Fit v := by unfold Fit; unfold Sm at s; have : 9223372036854775808 < LIM := by decide +kernel
                             omega
        have := Ln_Fit f; have := fit_Wl f
        refine Ev.bind (WOf_ev s) ?_
        simp only [Wb_eta, nb_eta]
        refine Ev.bind (L02.is_ev (by omega) (by omega)) ?_
        simp only [Bool.not_true, Bool.or_false, Bool.false_and, Bool.false_or, Bool.false_eq_true, if_false, Rb_eta]
        exact E
      · obtain ⟨rfl, rfl⟩ : v = 0 ∧ e = some 12 := by unfold nearR at N4; rw [if_neg s] at N4; exact ⟨congrArg Prod.fst N4, congrArg Prod.snd N4⟩
        simp only [if_neg s, errN, Option.getD_some, decide_true, Bool.not_true, Bool.not_false, Option.isNone_some, Option.isSome_some, Bool.and_false, Bool.true_and, gdf, Option.bind_some, Bool.false_and, Bool.false_or, Bool.false_eq_true, if_false, Rb_eta]
        exact E
theorem RatioNear : radomelaw02_RatioNear.Pure := fun l neg of_ h h2 => by
  obtain ⟨⟨⟨-, l0⟩, w0⟩, ⟨⟨-, l1⟩, w1⟩⟩ := h
  have hw : -9223372036854775808 ≤ of_.e1 ∧ of_.e1 ≤ 9223372036854775807 := by have := h2.2; simpa [Lit.wf, IntKind.min, IntKind.max, IntKind.bits, IntKind.signed] using this
  exact (pure_RatioNear l neg of_ w0 (by omega) w1 (by omega) hw).ex
end Go.Proofs.YtmnhbbckndlnkaaGreatDoor.Pure

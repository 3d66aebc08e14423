/- The law RatioLaws: sums and products of fractions do not hang on the order, products are parted over sums, what is taken off is found again, and the nearest number is no farther than half a bit. -/
import Derived.Test.YtmnhbbckndlnkaaDoorPureR3L02
namespace Go.Proofs.YtmnhbbckndlnkaaDoor.Pure
open Go.RowKit Go.Proofs.YtmnhbbckndlnkaaDoorK Go.Proofs.YtmnhbbckndlnkaaDoor.GRL
set_option linter.unusedVariables false
set_option linter.unusedSimpArgs false
set_option maxRecDepth 100000
theorem rnd_near {x D : Int} (h : 0 < D) : -D ≤ 2 * (x - rnd x D * D) ∧ 2 * (x - rnd x D * D) ≤ D := by
  have e := Int.emod_add_mul_ediv x D
  have h1 := Int.emod_nonneg x (show D ≠ 0 by omega)
  have h2 := Int.emod_lt_of_pos x h
  unfold rnd
  generalize hb : x % D = b at *
  generalize ha : x / D = a at *
  have e2 : (a + 1) * D = D * a + D := by rw [Int.add_mul, Int.one_mul, Int.mul_comm]
  have e3 : a * D = D * a := Int.mul_comm _ _
  split
  · rw [e2]; omega
  · rw [e3]; omega
theorem low_num {n D z : Int} (h : 0 < D) (h1 : 2 * (n * 1048576 - z * D) ≤ D) : 0 ≤ (Rat.divInt 1 2097152 - (Rat.divInt n D - Rat.divInt z 1048576)).num := by
  rw [Rat.num_nonneg, Rat.divInt_sub_divInt _ _ (by omega) (by decide), Rat.divInt_sub_divInt _ _ (by decide) (by omega), Rat.divInt_nonneg_iff_of_pos_right (by omega)]
  omega
theorem high_num {n D z : Int} (h : 0 < D) (h1 : -D ≤ 2 * (n * 1048576 - z * D)) : 0 ≤ (Rat.divInt 1 2097152 + (Rat.divInt n D - Rat.divInt z 1048576)).num := by
  rw [Rat.num_nonneg, Rat.divInt_sub_divInt _ _ (by omega) (by decide), Rat.divInt_add_divInt _ _ (by decide) (by omega), Rat.divInt_nonneg_iff_of_pos_right (by omega)]
  omega
theorem sg_nonneg {x : Int} (h : 0 ≤ x) : decide (0 ≤ (if x = 0 then (0 : Int) else if x < 0 then -1 else 1)) = true := by
  refine decide_eq_true ?_
  split
  · omega
  · split <;> omega
theorem lim_laws : 2 * (2 * (10 ^ 60 * 10 ^ 60) * (2 * (10 ^ 60 * 10 ^ 60))) < LIM ∧ 4 * (10 ^ 60 * 2 ^ 20) + 4 < LIM ∧ 2 * (9223372036854775808 * (2 * (10 ^ 60 * 9223372036854775808))) < LIM := by decide +kernel
theorem two_T : 2 ≤ 10 ^ 60 := by decide +kernel
theorem pure_RatioLaws (l : T61) (neg : T62) (h0 : ∀ x ∈ l.e0, (Lit.int .u8 x).wf = true) (h0' : l.e0.length < 9000000000000000000) (h1 : ∀ x ∈ l.e1, (Lit.int .u8 x).wf = true) (h1' : l.e1.length < 9000000000000000000) (h2 : ∀ x ∈ l.e2, (Lit.int .u8 x).wf = true) (h2' : l.e2.length < 9000000000000000000) (h3 : ∀ x ∈ l.e3, (Lit.int .u8 x).wf = true) (h3' : l.e3.length < 9000000000000000000) (h4 : ∀ x ∈ l.e4, (Lit.int .u8 x).wf = true) (h4' : l.e4.length < 9000000000000000000) (h5 : ∀ x ∈ l.e5, (Lit.int .u8 x).wf = true) (h5' : l.e5.length < 9000000000000000000) : Ev (fun k => radomelaw02_RatioLaws.f k l neg) true := by
  obtain ⟨a, wa, ba⟩ := L02.fraction_ev (neg := neg.e0) h0 h0' h1 h1'
  obtain ⟨b, wb, bb⟩ := L02.fraction_ev (neg := neg.e1) h2 h2' h3 h3'
  obtain ⟨c, wc, bc⟩ := L02.fraction_ev (neg := neg.e2) h4 h4' h5 h5'
  have h1200 : 10 ^ 60 < 10 ^ 1200 := by decide +kernel
  obtain ⟨la, lb, lc⟩ := lim_laws
  have t2 := two_T
  have GA := L02.giveRatio_ev ba h1200
  have GB := L02.giveRatio_ev bb h1200
  have GC := L02.giveRatio_ev bc h1200
  generalize (10 : Nat) ^ 60 = T at *
  obtain ⟨p1, -⟩ := le_prod (show 1 ≤ T by omega) (show 1 ≤ T by omega)
  have q1 : T * T ≤ T * T * (T * T) := Nat.le_mul_of_pos_right _ (by omega)
  have q0 : 2 * (T * T) ≤ 2 * (T * T) * (2 * (T * T)) := Nat.le_mul_of_pos_right _ (by omega)
  have q2 : 2 * (T * T) * T ≤ 2 * (T * T) * (2 * (T * T)) := Nat.mul_le_mul_left _ (by omega)
  have q3 : T * T * (T * T) ≤ 2 * (T * T) * (2 * (T * T)) := Nat.mul_le_mul (by omega) (by omega)
  have ltT : T < LIM := by omega
  have bs := Rs_add ba bb
  have bv := Rs_mul ba bc
  have bw := Rs_mul bb bc
  have bu := Rs_mul bs bc
  have A1 := RAdd_ev ba bb (by omega)
  have A2 := RAdd_ev bb ba (by omega)
  rw [Rat.add_comm] at A2
  have M1 := RMul_ev bs bc (by omega)
  have M2 := RMul_ev ba bc (by omega)
  have M3 := RMul_ev bb bc (by omega)
  have A3 := RAdd_ev bv bw (by omega)
  rw [← Rat.add_mul] at A3
  have S1 := RSub_ev bs bb (by omega)
  rw [Rat.add_sub_cancel] at S1
  have ts := RatText_ev bs (by omega)
  have tu := RatText_ev bu (by omega)
  have ta := RatText_ev ba (by omega)
  obtain ⟨v, e, N1, N2, N3⟩ := RNear_ev ba ltT (show 20 ≤ 1024 by decide)
  rw [show ((20 : Nat) : Int) = 20 from rfl] at N1
  unfold radomelaw02_RatioLaws.f
  refine Ev.bind wa ?_
  simp only [Fb_eta]
  refine Ev.bind GA (Ev.bind wb ?_)
  simp only [Fb_eta]
  refine Ev.bind GB (Ev.bind wc ?_)
  simp only [Fb_eta]
  refine Ev.bind GC ?_
  simp only [Rb_eta]
  refine Ev.bind A1 (Ev.bind A2 ?_)
  simp only [Rb_eta]
  refine Ev.bind M1 (Ev.bind M2 (Ev.bind M3 ?_))
  simp only [Rb_eta]
  refine Ev.bind A3 (Ev.bind S1 ?_)
  simp only [Option.isSome_none, Bool.or_false, Bool.not_false, gdt, Rb_eta]
  refine Ev.bind ts (Ev.bind ts ?_)
  simp only [decide_true, Bool.not_true, Bool.or_false, Bool.not_false, gdt]
  refine Ev.bind tu (Ev.bind tu ?_)
  simp only [decide_true, Bool.not_true, Bool.or_false, Bool.not_false, gdt]
  refine Ev.bind ta (Ev.bind ta ?_)
  simp only [decide_true, Bool.not_true, Bool.or_false, Bool.false_eq_true, if_false]
  refine Ev.bind N1 ?_
  have N4 := N3 lb
  rcases N2 with rfl | rfl
  · simp only [Option.isSome_none, Bool.false_eq_true, if_false]
    have d0 : (0 : Int) < (a.den : Int) := by have := a.den_nz; omega
    have e20 : (2 : Int) ^ 20 = 1048576 := by decide
    rw [e20] at N4
    have nr := rnd_near (x := a.num * 1048576) d0
    have hs : Sm (rnd (a.num * 1048576) (a.den : Int)) := Decidable.byContradiction fun s => by
      unfold nearR at N4; rw [if_neg s] at N4; exact absurd (congrArg Prod.snd N4) (by simp)
    obtain rfl : v = rnd (a.num * 1048576) (a.den : Int) := by unfold nearR at N4; rw [if_pos hs] at N4; exact congrArg Prod.fst N4
    obtain ⟨B1, B2⟩ := RBits_ev hs (show 20 ≤ 1024 by decide)
    obtain ⟨C1, C2⟩ := RBits_ev (n := 1) (by decide) (show 21 ≤ 1024 by decide)
    rw [show ((20 : Nat) : Int) = 20 from rfl] at B1
    rw [show ((21 : Nat) : Int) = 21 from rfl] at C1
    rw [show max 9223372036854775808 (2 ^ 20) = 9223372036854775808 by decide] at B2
    rw [show max 9223372036854775808 (2 ^ 21) = 9223372036854775808 by decide] at C2
    rw [mkRat_divInt, show ((2 ^ 20 : Nat) : Int) = 1048576 by decide] at B1 B2
    rw [mkRat_divInt, show ((2 ^ 21 : Nat) : Int) = 2097152 by decide] at C1 C2
    have ea : Rat.divInt a.num (a.den : Int) = a := Rat.num_divInt_den a
    have lo := low_num d0 nr.2
    have hi := high_num d0 nr.1
    rw [ea] at lo hi
    generalize rnd (a.num * 1048576) (a.den : Int) = z at *
    have bz := Rs_sub ba B2
    have S2 := RSub_ev ba B2 (by omega)
    have S3 := RSub_ev C2 bz (by omega)
    have A4 := RAdd_ev C2 bz (by omega)
    refine Ev.bind B1 ?_
    simp only [Rb_eta]
    refine Ev.bind S2 (Ev.bind C1 ?_)
    simp only [Rb_eta]
    refine Ev.bind S3 (Ev.bind A4 ?_)
    simp only [Option.isSome_none, Bool.or_false, Bool.false_eq_true, if_false, Rb_eta, Parts_eq, Option.bind_some, Wb_eta, WSign_eq, sg_nonneg lo, sg_nonneg hi, gdt, Bool.and_self, Bool.true_and]
    exact Ev.bind L02.sure_ev Ev.now
  · simp only [Option.isSome_some, if_true, errN, Option.getD_some, decide_true, gdt, Bool.true_and]
    exact Ev.bind L02.sure_ev Ev.now
theorem RatioLaws : radomelaw02_RatioLaws.Pure := fun l neg h _ => by
  obtain ⟨⟨⟨-, l0⟩, w0⟩, ⟨⟨-, l1⟩, w1⟩, ⟨⟨-, l2⟩, w2⟩, ⟨⟨-, l3⟩, w3⟩, ⟨⟨-, l4⟩, w4⟩, ⟨⟨-, l5⟩, w5⟩⟩ := h
  exact (pure_RatioLaws l neg w0 (by omega) w1 (by omega) w2 (by omega) w3 (by omega) w4 (by omega) w5 (by omega)).ex
end Go.Proofs.YtmnhbbckndlnkaaDoor.Pure

/- Quotients with signs, and roots, of the program's whole numbers. -/
import Derived.Test.YtmnhbbckndlnkaaDoorPureW7
namespace Go.Proofs.YtmnhbbckndlnkaaDoor.Pure
open Go.RowKit Go.Proofs.YtmnhbbckndlnkaaDoorK Go.Proofs.YtmnhbbckndlnkaaDoor.GWR
set_option linter.unusedVariables false
set_option linter.unusedSimpArgs false
theorem fit_of_le {x y : Int} (hx : Fit x) (h : y.natAbs ≤ x.natAbs) : Fit y := Nat.lt_of_le_of_lt h hx
theorem made_wd {n : Nat} {neg : Bool} {x : Int} (hx : x = if neg then -(n : Int) else n) (h : Fit x) (hn : (wd n).length < 1000000) : Ev (fun k => wide_made.f k neg (wd n)) (Wb x, none) := by
  have := made_ev (x := x) (neg := neg) (l := wd n) (by omega) (Wg_wd n) (by rw [U_wd]; exact hx)
  rwa [res_fit h] at this
theorem Wb_nat (n : Nat) : (⟨false, wd n⟩ : wide_Int) = Wb (n : Int) := by unfold Wb; simp
theorem natAbs_div_le (x y : Int) : x.natAbs / y.natAbs ≤ x.natAbs := Nat.div_le_self _ _
theorem WDiv_ev {x y : Int} (hy0 : y ≠ 0) (hx : Fit x) (hy : Fit y) : Ev (fun k => wide_Int_Div.f k (Wb x) (Wb y)) (Wb (x / y), Wb (x % y), none) := by
  have lx := fit_Wl hx; have ly := fit_Wl hy
  unfold Wl at lx ly
  have yb : 1 ≤ y.natAbs := by omega
  have lpos := wd_len_pos (n := y.natAbs) (by omega)
  have q1 := natAbs_div_le x y
  have lq := wd_len_mono q1
  have m1 := Nat.mod_lt x.natAbs (show 0 < y.natAbs by omega)
  have lr := wd_len_mono (show x.natAbs % y.natAbs ≤ y.natAbs by omega)
  obtain ⟨E1, E2, E3⟩ := euclid (m := x.natAbs) (b := y.natAbs) yb
  have WL := wlong_ev yb (show (wd x.natAbs).length < 100000 by omega) (show (wd y.natAbs).length < 100000 by omega)
  have hx0 : x.natAbs % y.natAbs ≠ 0 → x.natAbs / y.natAbs + 1 ≤ x.natAbs := fun hne => by
    rcases Nat.lt_or_ge y.natAbs 2 with h | h
    · have : y.natAbs = 1 := by omega
      rw [this, Nat.mod_one] at hne; exact absurd rfl hne
    · have h1 : x.natAbs / y.natAbs ≤ x.natAbs / 2 := Nat.div_le_div_left h (by decide)
      have : x.natAbs ≠ 0 := fun h0 => by rw [h0, Nat.zero_mod] at hne; exact hne rfl
      omega
  generalize x.natAbs / y.natAbs = Q at *
  generalize x.natAbs % y.natAbs = R at *
  -- the quotient's size with its sign
  have hz : ∀ neg : Bool, Fit (if neg then -(Q : Int) else (Q : Int)) := fun neg => fit_of_le hx (by split <;> omega)
  unfold wide_Int_Div.f
  simp only [if_neg (show ¬ (((Wb y).f_w).length : Int) = 0 by rw [Wb_w]; omega)]
  simp only [Wb_w]
  refine Ev.bind WL ?_
  refine Ev.bind (made_wd (neg := !((Wb x).f_neg == (Wb y).f_neg)) rfl (hz _) (by omega)) ?_
  simp only [Option.isSome_none, Bool.false_eq_true, if_false]
  by_cases c : (!(Wb x).f_neg || decide (((wd (R)).length : Int) = 0)) = true
  · simp only [if_pos c, Clone_eq _ (show (wd (R)).length < 1000000000 by omega), Option.bind_some, Wb_eta, Wb_nat]
    -- not below nought, or without a rest
    have hc : 0 ≤ x ∨ R = 0 := by
      simp only [Wb_neg, Bool.or_eq_true, Bool.not_eq_true', decide_eq_false_iff_not, decide_eq_true_eq] at c
      rcases c with c | c
      · exact .inl (by omega)
      · refine .inr ((wd_nil_iff _).1 (List.eq_nil_of_length_eq_zero (by omega)))
    have e : (if (!((Wb x).f_neg == (Wb y).f_neg)) = true then -(Q : Int) else (Q : Int)) = x / y ∧ (R : Int) = x % y := by
      simp only [Wb_neg]
      by_cases sx : x < 0 <;> by_cases sy : y < 0
      · have r0 : R = 0 := by omega
        obtain ⟨d1, d2⟩ := E2 r0
        rw [show -(x.natAbs : Int) = x by omega, show (y.natAbs : Int) = -y by omega] at d1 d2
        rw [Int.ediv_neg] at d1; rw [Int.emod_neg] at d2
        simp [sx, sy, d2, r0]; omega
      · have r0 : R = 0 := by omega
        obtain ⟨d1, d2⟩ := E2 r0
        rw [show -(x.natAbs : Int) = x by omega, show (y.natAbs : Int) = y by omega] at d1 d2
        simp [sx, sy, d1, d2, r0]
      · obtain ⟨d1, d2⟩ := E1
        rw [show (x.natAbs : Int) = x by omega, show (y.natAbs : Int) = -y by omega] at d1 d2
        rw [Int.ediv_neg] at d1; rw [Int.emod_neg] at d2
        simp only [sx, sy, decide_false, decide_true, d2]; simp; omega
      · obtain ⟨d1, d2⟩ := E1
        rw [show (x.natAbs : Int) = x by omega, show (y.natAbs : Int) = y by omega] at d1 d2
        simp only [sx, sy, decide_false, d1, d2]; simp
    rw [e.1, e.2]; exact Ev.now
  · simp only [if_neg c]
    have hc : x < 0 ∧ R ≠ 0 := by
      simp only [Wb_neg, Bool.or_eq_true, Bool.not_eq_true', decide_eq_false_iff_not, decide_eq_true_eq, not_or, Decidable.not_not] at c
      exact ⟨c.1, fun h => c.2 (by rw [h, wd_zero]; rfl)⟩
    obtain ⟨d1, d2⟩ := E3 hc.2
    rw [show -(x.natAbs : Int) = x by omega] at d1 d2
    have hx1 := hx0 hc.2
    have one : Wl 1 < 1000000 := by have := fit_Wl (x := 1) (fit_of_le hx (by omega)); omega
    have mone : Wl (-1) < 1000000 := by rw [Wl_neg]; exact one
    have wz : ∀ neg : Bool, Wl (if neg then -(Q : Int) else (Q : Int)) < 1000000 := fun neg => by have := fit_Wl (hz neg); omega
    refine Ev.bind (WOf_ev (x := 1) (by omega)) ?_
    simp only [Wb_eta, WNeg_eq, Option.bind_some]
    have fin : ∀ o z : Int, Wl o < 1000000 → z = (if (!((Wb x).f_neg == (Wb y).f_neg)) = true then -(Q : Int) else (Q : Int)) → z + o = x / y → Ev (fun k => wide_Int_Div.j1 k (Wb y).f_neg (wd y.natAbs) (wd (R)) (Wb z).f_neg (wd z.natAbs) (Wb o).f_neg (wd o.natAbs)) (Wb (x / y), Wb (x % y), none) := by
      intro o z ho hzz hs
      unfold wide_Int_Div.j1
      have := WAdd_ev (x := z) (y := o) (by rw [hzz]; exact wz _) ho
      rw [hs] at this
      have hf : Fit (x / y) := by
        refine fit_of_le hx ?_
        by_cases sy : y < 0
        · rw [show (y.natAbs : Int) = -y by omega, Int.ediv_neg] at d1; omega
        · rw [show (y.natAbs : Int) = y by omega] at d1; omega
      rw [res_fit hf] at this
      refine Ev.bind this ?_
      simp only [Option.isSome_none, Bool.false_eq_true, if_false]
      refine Ev.bind (wminus_ev (by omega) (show R ≤ y.natAbs by omega)) ?_
      rw [Wb_eta, Wb_nat]
      have er : ((y.natAbs - R : Nat) : Int) = x % y := by
        by_cases sy : y < 0
        · rw [show (y.natAbs : Int) = -y by omega, Int.emod_neg] at d2; omega
        · rw [show (y.natAbs : Int) = y by omega] at d2; omega
      rw [er]; exact Ev.now
    by_cases sy : y < 0
    · simp only [show (!(Wb y).f_neg) = false by rw [Wb_neg, decide_eq_true sy]; rfl, Bool.false_eq_true, if_false]
      refine fin 1 _ one rfl ?_
      rw [show (y.natAbs : Int) = -y by omega, Int.ediv_neg] at d1
      simp only [Wb_neg, decide_eq_true sy, decide_eq_true hc.1]; simp; omega
    · simp only [show (!(Wb y).f_neg) = true by rw [Wb_neg, decide_eq_false sy]; rfl, if_true]
      refine fin (-1) _ mone rfl ?_
      rw [show (y.natAbs : Int) = y by omega] at d1
      simp only [Wb_neg, decide_eq_false sy, decide_eq_true hc.1]; simp; omega
/-! ### roots -/
theorem two_pw {n : Nat} (a b : Nat) (h : n ≤ a * b) : 2 ^ n ≤ (2 ^ a) ^ b := by rw [← Nat.pow_mul]; exact Nat.pow_le_pow_right (by decide) h
def HALF : Nat := 4294967296 ^ 64
theorem half_lim : 2 * HALF + 2 < LIM := by decide +kernel
theorem WRoot_l0 {x : Int} (hx : Fit x) (h1 : 1 ≤ x) : ∀ (n : Nat) (t : Int), t.toNat = n → 1 ≤ t → t ≤ (HALF : Int) → x < (t + 1) * (t + 1) →
    ∃ r, Ev (fun k => (wide_Int_Root.hs k).l0 (Wb x).f_neg (Wb x).f_w (Wb t).f_neg (Wb t).f_w none) (Wb r, none) ∧ 1 ≤ r ∧ r ≤ (HALF : Int) ∧ r * r ≤ x ∧ x < (r + 1) * (r + 1) := by
  intro n
  induction n using Nat.strongRecOn with
  | _ n ih =>
    intro t hn t1 t2 hlt
    have hl := half_lim
    have ft : Fit t := by unfold Fit; omega
    have e0 := Int.emod_add_mul_ediv x t
    have m0 := Int.emod_nonneg x (show t ≠ 0 by omega)
    have m1 := Int.emod_lt_of_pos x (show 0 < t by omega)
    have q0 := Int.ediv_nonneg (show 0 ≤ x by omega) (show 0 ≤ t by omega)
    have q2 : x / t ≤ t + 2 := by
      have : x / t < t + 3 := by
        refine Int.ediv_lt_of_lt_mul (by omega) ?_
        rw [Int.add_mul] at hlt ⊢
        rw [Int.mul_add] at hlt
        omega
      omega
    have fq : Fit (x / t) := by unfold Fit; omega
    have fs : Fit (x / t + t) := by unfold Fit; omega
    have hq : 0 ≤ (x / t + t) / 2 := by omega
    have fh : Fit ((x / t + t) / 2) := by unfold Fit; omega
    have D := WDiv_ev (show t ≠ 0 by omega) hx ft
    have A := WAdd_ev (x := x / t) (y := t) (by have := fit_Wl fq; omega) (by have := fit_Wl ft; omega)
    rw [res_fit fs] at A
    have M := WMove_down (s := 1) fs (by decide)
    rw [show (2 : Int) ^ 1 = 2 by decide, show -((1 : Nat) : Int) = -1 by decide] at M
    have C := WCmp_ev (x := (x / t + t) / 2) (y := t) (by have := fit_Wl fh; omega) (by have := fit_Wl ft; omega)
    have body : ∀ R, Ev (fun k => if (decide (0 ≤ sgn3 ((x / t + t) / 2) t)) = true then some (Wb t, none) else (wide_Int_Root.hs k).l0 (Wb x).f_neg (Wb x).f_w (Wb ((x / t + t) / 2)).f_neg (Wb ((x / t + t) / 2)).f_w none) R →
        Ev (fun k => (wide_Int_Root.hs k).l0 (Wb x).f_neg (Wb x).f_w (Wb t).f_neg (Wb t).f_w none) R := by
      intro R H
      refine Ev.step (fun k => rfl) ?_
      simp only [wide_Int_Root.hs, wide_Int_Root.b0, Option.isNone_none, if_true, Wb_eta]
      refine Ev.bind D ?_
      simp only [Option.isSome_none, Bool.false_eq_true, if_false, Wb_eta]
      refine Ev.bind A ?_
      simp only [Option.isSome_none, Bool.false_eq_true, if_false, Wb_eta]
      refine Ev.bind M ?_
      simp only [Option.isSome_none, Bool.not_false, gd, if_true, Wb_eta, Bool.false_or]
      exact Ev.bind C H
    by_cases c : (x / t + t) / 2 < t
    · have hnext : x < ((x / t + t) / 2 + 1) * ((x / t + t) / 2 + 1) := by
        have h1 : x < (x / t + 1) * t := by rw [Int.add_mul, Int.mul_comm (x / t)]; omega
        generalize x / t = s at *
        generalize hp : (s + t) / 2 = p at *
        have h2 : s + 1 + t ≤ 2 * (p + 1) := by omega
        have h3 := Int.mul_le_mul h2 h2 (show 0 ≤ s + 1 + t by omega) (show 0 ≤ 2 * (p + 1) by omega)
        have h4 : 0 ≤ (s + 1 - t) * (s + 1 - t) := by
          rcases Int.le_total 0 (s + 1 - t) with h | h
          · exact Int.mul_nonneg h h
          · have := Int.mul_nonneg (show 0 ≤ -(s + 1 - t) by omega) (show 0 ≤ -(s + 1 - t) by omega); rwa [Int.neg_mul_neg] at this
        have e1 : (s + 1 + t) * (s + 1 + t) = (s + 1 - t) * (s + 1 - t) + 4 * ((s + 1) * t) := by
          rw [Int.add_mul (s + 1) t, Int.mul_add (s + 1), Int.mul_add t, Int.sub_mul, Int.mul_sub, Int.mul_sub, Int.mul_comm t (s + 1)]; omega
        have e2 : 2 * (p + 1) * (2 * (p + 1)) = 4 * ((p + 1) * (p + 1)) := by rw [Int.mul_assoc, Int.mul_left_comm (p + 1) 2]; omega
        omega
      have hp1 : 1 ≤ (x / t + t) / 2 := by
        refine Decidable.byContradiction fun h => ?_
        have : (x / t + t) / 2 = 0 := by omega
        rw [this] at hnext; omega
      obtain ⟨r, r1, r2⟩ := ih ((x / t + t) / 2).toNat (by omega) _ rfl hp1 (by omega) hnext
      refine ⟨r, body _ ?_, r2⟩
      rw [sgn3_lt c]
      simp only [show decide ((0 : Int) ≤ -1) = false by decide, Bool.false_eq_true, if_false]
      exact r1
    · refine ⟨t, body _ ?_, t1, t2, ?_, hlt⟩
      · have : decide (0 ≤ sgn3 ((x / t + t) / 2) t) = true := by unfold sgn3; rw [if_neg c]; split <;> decide
        simp only [this, if_true]; exact Ev.now
      · have h2 : t ≤ x / t := by omega
        have := Int.mul_le_mul_of_nonneg_left h2 (show 0 ≤ t by omega)
        omega
theorem WRoot_ev {x : Int} (hx : Fit x) (h0 : 0 ≤ x) : ∃ r, Ev (fun k => wide_Int_Root.f k (Wb x)) (Wb r, none) ∧ 0 ≤ r ∧ r ≤ (HALF : Int) ∧ r * r ≤ x ∧ x < (r + 1) * (r + 1) := by
  by_cases z : x = 0
  · subst z
    refine ⟨0, ?_, by decide, by omega, by decide, by decide⟩
    simp only [wide_Int_Root.f, Wb_eta, WSign_eq, Option.bind_some, if_true, if_neg (show ¬ (0 : Int) = -1 by decide)]
    have : (⟨false, []⟩ : wide_Int) = Wb 0 := by unfold Wb; simp [wd_zero]
    rw [this]; exact Ev.now
  · have hl := fit_Wl hx
    have hwl : Wl x = (wd x.natAbs).length := rfl
    have lt := wd_lt x.natAbs
    have x1 : w64 (Int.tdiv (w64 ((w64 (((wd x.natAbs).length : Int) * 32)) + 1)) 2) = ((16 * (wd x.natAbs).length : Nat) : Int) := by
      have a1 : w64 (((wd x.natAbs).length : Int) * 32) = ((wd x.natAbs).length : Int) * 32 := w64_id (by omega)
      have a2 : w64 (((wd x.natAbs).length : Int) * 32 + 1) = ((wd x.natAbs).length : Int) * 32 + 1 := w64_id (by omega)
      rw [a1, a2, Int.tdiv_eq_ediv_of_nonneg (by omega), w64_id (by omega)]; omega
    have p16 : (2 : Nat) ^ (16 * (wd x.natAbs).length) * 2 ^ (16 * (wd x.natAbs).length) = 4294967296 ^ (wd x.natAbs).length := by rw [pow_words, ← Nat.pow_add]; congr 1; omega
    have ph : (2 : Nat) ^ (16 * (wd x.natAbs).length) ≤ HALF := by
      have h := two_pw (n := 16 * (wd x.natAbs).length) 32 64 (by omega)
      rw [show (2 : Nat) ^ 32 = 4294967296 by decide] at h
      exact h
    have pp : 1 ≤ (2 : Nat) ^ (16 * (wd x.natAbs).length) := Nat.pow_pos (by decide)
    have hlim := half_lim
    have ei : (2 : Int) ^ (16 * (wd x.natAbs).length) = ((2 ^ (16 * (wd x.natAbs).length) : Nat) : Int) := pow2_nat _
    have hm := WMove_up (x := 1) (n := 16 * (wd x.natAbs).length) (by have := fit_Wl (x := 1) (by unfold Fit; omega); omega) (by omega)
    rw [Int.one_mul, res_fit (show Fit ((2 : Int) ^ (16 * (wd x.natAbs).length)) by unfold Fit; rw [ei]; omega)] at hm
    obtain ⟨r, r1, r2, r3⟩ := WRoot_l0 hx (by omega) _ ((2 : Int) ^ (16 * (wd x.natAbs).length)) rfl (by omega) (by omega) (by
      rw [ei]
      have : x < ((2 ^ (16 * (wd x.natAbs).length) * 2 ^ (16 * (wd x.natAbs).length) : Nat) : Int) := by rw [p16]; omega
      rw [Int.natCast_mul] at this
      rw [Int.add_mul, Int.mul_add]; omega)
    refine ⟨r, ?_, by omega, r3⟩
    simp only [wide_Int_Root.f, Wb_eta, WSign_eq, Option.bind_some, if_neg z, if_neg (show ¬ x < 0 by omega), if_neg (show ¬ (1 : Int) = -1 by decide), if_neg (show ¬ (1 : Int) = 0 by decide)]
    refine Ev.bind (WOf_ev (x := 1) (by omega)) ?_
    simp only [Wb_eta, Wb_w, x1]
    exact Ev.bind hm r1
theorem WRoot_neg (k : Nat) {x : Int} (h : x < 0) : wide_Int_Root.f k (Wb x) = some (Wb 0, some 1) := by
  simp only [wide_Int_Root.f, Wb_eta, WSign_eq, Option.bind_some, if_neg (show ¬ x = 0 by omega), if_pos h, if_true]
  have : (⟨false, []⟩ : wide_Int) = Wb 0 := by unfold Wb; simp [wd_zero]
  rw [this]
end Go.Proofs.YtmnhbbckndlnkaaDoor.Pure

/- Quotients with signs, and roots, of the program's whole numbers. -/
import Derived.Test.YtkccpkccdbfomaaGreatDoorPureW7
namespace Go.Proofs.YtkccpkccdbfomaaGreatDoor.Pure
open Go.RowKit Go.Proofs.YtkccpkccdbfomaaGreatDoorK Go.Proofs.YtkccpkccdbfomaaGreatDoor.GBH
set_option linter.unusedVariables false
set_option linter.unusedSimpArgs false
theorem ZO {x y : Int} (hx : Fit x) (h : y.natAbs ≤ x.natAbs) : Fit y := Nat.lt_of_le_of_lt h hx
theorem WW {n : Nat} {neg : Bool} {x : Int} (hx : x = if neg then -(n : Int) else n) (h : Fit x) (hn : (wd n).length < 1000000) : Ev (fun k => XF.f k neg (wd n)) (Wb x, none) := by
  have := Jx (x := x) (neg := neg) (l := wd n) (by omega) (YX n) (by rw [U_wd]; exact hx)
  rwa [JC h] at this
theorem UZ (n : Nat) : (⟨false, wd n⟩ : Qq) = Wb (n : Int) := by unfold Wb; simp
theorem Nd (x y : Int) : x.natAbs / y.natAbs ≤ x.natAbs := Nat.div_le_self _ _
theorem MH {x y : Int} (hy0 : y ≠ 0) (hx : Fit x) (hy : Fit y) : Ev (fun k => Xh.f k (Wb x) (Wb y)) (Wb (x / y), Wb (x % y), none) := by
  have lx := ZN hx; have ly := ZN hy
  unfold Wl at lx ly
  have yb : 1 ≤ y.natAbs := by omega
  have lpos := Ja (n := y.natAbs) (by omega)
  have q1 := Nd x y
  have lq := Zr q1
  have m1 := Nat.mod_lt x.natAbs (show 0 < y.natAbs by omega)
  have lr := Zr (show x.natAbs % y.natAbs ≤ y.natAbs by omega)
  obtain ⟨E1, E2, E3⟩ := euclid (m := x.natAbs) (b := y.natAbs) yb
  have WL := VO yb (show (wd x.natAbs).length < 100000 by omega) (show (wd y.natAbs).length < 100000 by omega)
  have hx0 : x.natAbs % y.natAbs ≠ 0 → x.natAbs / y.natAbs + 1 ≤ x.natAbs := fun hne => by
    rcases Nat.lt_or_ge y.natAbs 2 with h | h
    · have : y.natAbs = 1 := by omega
      rw [this, Nat.mod_one] at hne; exact absurd rfl hne
    · have h1 : x.natAbs / y.natAbs ≤ x.natAbs / 2 := Nat.div_le_div_left h (by decide)
      have : x.natAbs ≠ 0 := fun h0 => by rw [h0, Nat.zero_mod] at hne; exact hne rfl
      omega
  generalize x.natAbs / y.natAbs = Q at *
  generalize x.natAbs % y.natAbs = R at *
  -- the quotient's size with its sign
  have hz : ∀ neg : Bool, Fit (if neg then -(Q : Int) else (Q : Int)) := fun neg => ZO hx (by split <;> omega)
  unfold Xh.f
  simp only [if_neg (show ¬ (((Wb y).f_w).length : Int) = 0 by rw [Wb_w]; omega)]
  simp only [Wb_w]
  refine Ev.bind WL ?_
  refine Ev.bind (WW (neg := !((Wb x).f_neg == (Wb y).f_neg)) rfl (hz _) (by omega)) ?_
  simp only [Option.isSome_none, Bool.false_eq_true, if_false]
  by_cases c : (!(Wb x).f_neg || decide (((wd (R)).length : Int) = 0)) = true
  · simp only [if_pos c, Nt _ (show (wd (R)).length < 1000000000 by omega), Option.bind_some, YB, UZ]
    -- not below nought, or without a rest
    have hc : 0 ≤ x ∨ R = 0 := by
      simp only [Y8, Bool.or_eq_true, Bool.not_eq_true', decide_eq_false_iff_not, decide_eq_true_eq] at c
      rcases c with c | c
      · exact .inl (by omega)
      · refine .inr ((Mw _).1 (List.eq_nil_of_length_eq_zero (by omega)))
    have e : (if (!((Wb x).f_neg == (Wb y).f_neg)) = true then -(Q : Int) else (Q : Int)) = x / y ∧ (R : Int) = x % y := by
      simp only [Y8]
      by_cases sx : x < 0 <;> by_cases sy : y < 0
      · have r0 : R = 0 := by omega
        obtain ⟨d1, d2⟩ := E2 r0
        rw [show -(x.natAbs : Int) = x by omega, show (y.natAbs : Int) = -y by omega] at d1 d2
        rw [Int.ediv_neg] at d1; rw [Int.emod_neg] at d2
        simp [sx, sy, d2, r0]; omega
      · have r0 : R = 0 := by omega
        obtain ⟨d1, d2⟩ := E2 r0
        rw [show -(x.natAbs : Int) = x by omega, show (y.natAbs : Int) = y by omega] at d1 d2
        simp [sx, sy, d1, d2, r0]
      · obtain ⟨d1, d2⟩ := E1
        rw [show (x.natAbs : Int) = x by omega, show (y.natAbs : Int) = -y by omega] at d1 d2
        rw [Int.ediv_neg] at d1; rw [Int.emod_neg] at d2
        simp only [sx, sy, decide_false, decide_true, d2]; simp; omega
      · obtain ⟨d1, d2⟩ := E1
        rw [show (x.natAbs : Int) = x by omega, show (y.natAbs : Int) = y by omega] at d1 d2
        simp only [sx, sy, decide_false, d1, d2]; simp
    rw [e.1, e.2]; exact Ev.now
  · simp only [if_neg c]
    have hc : x < 0 ∧ R ≠ 0 := by
      simp only [Y8, Bool.or_eq_true, Bool.not_eq_true', decide_eq_false_iff_not, decide_eq_true_eq, not_or, Decidable.not_not] at c
      exact ⟨c.1, fun h => c.2 (by rw [h, YP]; rfl)⟩
    obtain ⟨d1, d2⟩ := E3 hc.2
    rw [show -(x.natAbs : Int) = x by omega] at d1 d2
    have hx1 := hx0 hc.2
    have one : Wl 1 < 1000000 := by have := ZN (x := 1) (ZO hx (by omega)); omega
    have mone : Wl (-1) < 1000000 := by rw [QaA]; exact one
    have wz : ∀ neg : Bool, Wl (if neg then -(Q : Int) else (Q : Int)) < 1000000 := fun neg => by have := ZN (hz neg); omega
    refine Ev.bind (Md (x := 1) (by omega)) ?_
    simp only [YB, GB, Option.bind_some]
    have fin : ∀ o z : Int, Wl o < 1000000 → z = (if (!((Wb x).f_neg == (Wb y).f_neg)) = true then -(Q : Int) else (Q : Int)) → z + o = x / y → Ev (fun k => Xh.j1 k (Wb y).f_neg (wd y.natAbs) (wd (R)) (Wb z).f_neg (wd z.natAbs) (Wb o).f_neg (wd o.natAbs)) (Wb (x / y), Wb (x % y), none) := by
      intro o z ho hzz hs
      unfold Xh.j1
      have := OI (x := z) (y := o) (by rw [hzz]; exact wz _) ho
      rw [hs] at this
      have hf : Fit (x / y) := by
        refine ZO hx ?_
        by_cases sy : y < 0
        · rw [show (y.natAbs : Int) = -y by omega, Int.ediv_neg] at d1; omega
        · rw [show (y.natAbs : Int) = y by omega] at d1; omega
      rw [JC hf] at this
      refine Ev.bind this ?_
      simp only [Option.isSome_none, Bool.false_eq_true, if_false]
      refine Ev.bind (M1 (by omega) (show R ≤ y.natAbs by omega)) ?_
      try rw [YB]
      rw [UZ]
      have er : ((y.natAbs - R : Nat) : Int) = x % y := by
        by_cases sy : y < 0
        · rw [show (y.natAbs : Int) = -y by omega, Int.emod_neg] at d2; omega
        · rw [show (y.natAbs : Int) = y by omega] at d2; omega
      rw [er]; exact Ev.now
    by_cases sy : y < 0
    · simp only [show (!(Wb y).f_neg) = false by rw [Y8, decide_eq_true sy]; rfl, Bool.false_eq_true, if_false]
      refine fin 1 _ one rfl ?_
      rw [show (y.natAbs : Int) = -y by omega, Int.ediv_neg] at d1
      simp only [Y8, decide_eq_true sy, decide_eq_true hc.1]; simp; omega
    · simp only [show (!(Wb y).f_neg) = true by rw [Y8, decide_eq_false sy]; rfl, if_true]
      refine fin (-1) _ mone rfl ?_
      rw [show (y.natAbs : Int) = y by omega] at d1
      simp only [Y8, decide_eq_false sy, decide_eq_true hc.1]; simp; omega
/-! ### roots -/
theorem Qaz {n : Nat} (a b : Nat) (h : n ≤ a * b) : 2 ^ n ≤ (2 ^ a) ^ b := by rw [← Nat.pow_mul]; exact Nat.pow_le_pow_right (by decide) h
end Go.Proofs.YtkccpkccdbfomaaGreatDoor.Pure

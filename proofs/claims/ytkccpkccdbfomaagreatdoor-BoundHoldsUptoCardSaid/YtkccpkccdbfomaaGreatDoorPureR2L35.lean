/- Fractions of the reference (radomeref02): they are rational numbers; and what a law package makes of digits. -/
import Derived.Test.YtkccpkccdbfomaaGreatDoorPureR1L35
import Derived.Test.YtkccpkccdbfomaaGreatDoorPureN6
namespace Go.Proofs.YtkccpkccdbfomaaGreatDoor.Pure
open Go.RowKit Go.Proofs.YtkccpkccdbfomaaGreatDoorK Go.Proofs.YtkccpkccdbfomaaGreatDoor.GBH
set_option linter.unusedVariables false
set_option linter.unusedSimpArgs false
def Fb (r : Rat) : QX := ⟨Nb r.num, Nb (r.den : Int)⟩
theorem Fb_n (r : Rat) : (⟨(Fb r).f_N.f_Neg, (Fb r).f_N.f_D⟩ : Qg) = Nb r.num := rfl
theorem Fb_d (r : Rat) : (⟨(Fb r).f_D.f_Neg, (Fb r).f_D.f_D⟩ : Qg) = Nb (r.den : Int) := rfl
theorem QaO (r : Rat) : (Fb r).f_N = Nb r.num := rfl
theorem QaM (r : Rat) : (Fb r).f_D = Nb (r.den : Int) := rfl
theorem WI (k : Nat) (x : Int) : Yb.f k (Nb x) = some (Nb (x.natAbs : Int)) := by
  unfold Yb.f
  refine congrArg some ?_
  unfold Nb
  rw [Int.natAbs_natCast]
  have : decide ((x.natAbs : Int) < 0) = false := decide_eq_false (by omega)
  rw [this]
theorem Wm {x y : Int} (h : x.natAbs ≤ y.natAbs) : Ln x ≤ Ln y := Ze h
theorem Qas {n : Int} {d : Nat} (hd : d ≠ 0) (ln : Ln n < 1000000) (ld : Ln (d : Int) < 1000000) : ∀ (b a : Nat), a ≤ max n.natAbs d → b ≤ max n.natAbs d → Nat.gcd a b = Nat.gcd n.natAbs d → Ev (fun k => (QE.hs k).l0 (Nb n).f_Neg (Nb n).f_D (Nb (d : Int)).f_Neg (Nb (d : Int)).f_D (Nb (a : Int)).f_Neg (Nb (a : Int)).f_D (Nb (b : Int)).f_Neg (Nb (b : Int)).f_D) (Fb (mkRat n d)) := by
  intro b
  induction b using Nat.strongRecOn with
  | _ b ih =>
    intro a ha hb hg
    have lens : ∀ x : Nat, x ≤ max n.natAbs d → Ln (x : Int) < 1000000 := fun x hx => by
      by_cases g : n.natAbs ≤ d
      · have := Wm (x := (x : Int)) (y := (d : Int)) (by rw [Int.natAbs_natCast, Int.natAbs_natCast]; omega); omega
      · have := Wm (x := (x : Int)) (y := n) (by rw [Int.natAbs_natCast]; omega); omega
    have la := lens a ha; have lb := lens b hb
    refine Ev.step (fun k => rfl) ?_
    simp only [QE.hs, QE.b0, Ms, MM, Option.bind_some]
    by_cases z : b = 0
    · subst z
      rw [Nat.gcd_zero_right] at hg
      have gp : 0 < Nat.gcd n.natAbs d := Nat.gcd_pos_of_pos_right _ (by omega)
      simp only [if_pos (show ((0 : Nat) : Int) = 0 by rfl), if_true]
      refine Ev.bind (NU (by omega) (by omega) (by omega)) (Ev.bind (NU (by omega) (by omega) (by omega)) ?_)
      (try simp only [Ms])
      have e1 : (mkRat n d).num = n / (a : Int) := by rw [Rat.num_mkRat, if_neg hd, Nat.gcd_comm, ← hg]
      have e2 : (((mkRat n d).den : Nat) : Int) = (d : Int) / (a : Int) := by rw [Rat.den_mkRat, if_neg hd, Nat.gcd_comm, ← hg, Int.natCast_ediv]
      unfold Fb
      rw [e1, e2]
      exact Ev.now
    · have nz : ¬ (if (b : Int) = 0 then (0 : Int) else if (b : Int) < 0 then -1 else 1) = 0 := by rw [if_neg (by omega)]; split <;> decide
      simp only [if_neg nz]
      refine Ev.bind (NU (show (b : Int) ≠ 0 by omega) (by omega) (by omega)) ?_
      have em : (a : Int) % (b : Int) = ((a % b : Nat) : Int) := (Int.natCast_emod a b).symm
      have lt := Nat.mod_lt a (show 0 < b by omega)
      rw [em]
      exact ih (a % b) lt b hb (by omega) (by rw [← hg, Nat.gcd_comm a b, Nat.gcd_rec b a, Nat.gcd_comm])
theorem UX {n : Int} {d : Nat} (hd : d ≠ 0) (ln : Ln n < 1000000) (ld : Ln (d : Int) < 1000000) : Ev (fun k => QE.j1 k (QE.hs k) (Nb n).f_Neg (Nb n).f_D (Nb (d : Int)).f_Neg (Nb (d : Int)).f_D) (Fb (mkRat n d)) := by
  unfold QE.j1
  simp only [Ms, WI, Option.bind_some]
  exact Qas hd ln ld d n.natAbs (Nat.le_max_left _ _) (Nat.le_max_right _ _) rfl
theorem Qau {n d : Int} (hd : d ≠ 0) (ln : Ln n < 1000000) (ld : Ln d < 1000000) : Ev (fun k => QE.f k (Nb n) (Nb d)) (Fb (Rat.divInt n d)) := by
  unfold QE.f
  simp only [Ms, MM, Option.bind_some, UJ]
  by_cases g : d < 0
  · simp only [if_neg hd, if_pos g, if_pos (show (-1 : Int) < 0 by decide)]
    have := UX (n := -n) (d := d.natAbs) (by omega) (by rw [Mc]; exact ln) (by rw [show (d.natAbs : Int) = -d by omega, Mc]; exact ld)
    rw [show (d.natAbs : Int) = -d by omega, ← Rat.divInt_ofNat, show (d.natAbs : Int) = -d by omega, Rat.neg_divInt_neg] at this
    exact this
  · have : ¬ (if d = 0 then (0 : Int) else if d < 0 then -1 else 1) < 0 := by rw [if_neg g]; split <;> decide
    simp only [if_neg this]
    have := UX (n := n) (d := d.natAbs) (by omega) ln (by rw [show (d.natAbs : Int) = d by omega]; exact ld)
    rw [show (d.natAbs : Int) = d by omega, ← Rat.divInt_ofNat, show (d.natAbs : Int) = d by omega] at this
    exact this
/-! ### what fits -/
/-! ### sums and products -/
/-! ### fractions of digits -/
namespace L35
theorem giveRatio_ev {r : Rat} {B : Nat} (h : Rs B r) (hB : B < 10 ^ 1200) : Ev (fun k => Yk.f k (Fb r)) (Rb r) := by
  have hl : 10 ^ 1200 < LIM := by decide +kernel
  have f1 := JU h (by omega); have f2 := Jg h (by omega)
  have l1 : Ln r.num ≤ 1200 := O8 (Nat.lt_of_le_of_lt h.num hB)
  have l2 : Ln (r.den : Int) ≤ 1200 := O8 (by rw [Int.natAbs_natCast]; exact Nat.lt_of_le_of_lt h.den hB)
  unfold Yk.f
  (try simp only [Fb_n, QaO, Fb_d, QaM])
  refine Ev.bind (G9 f1 (by omega)) (Ev.bind (G9 f2 (by omega)) ?_)
  (try simp only [YB])
  refine Ev.bind (Wx h (by omega)) ?_
  (try simp only [Y9]); exact Ev.now
end L35
end Go.Proofs.YtkccpkccdbfomaaGreatDoor.Pure

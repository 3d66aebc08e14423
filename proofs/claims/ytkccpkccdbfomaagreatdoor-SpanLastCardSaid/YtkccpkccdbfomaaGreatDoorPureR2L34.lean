/- Fractions of the reference (radomeref02): they are rational numbers; and what a law package makes of digits. -/
import Derived.Test.YtkccpkccdbfomaaGreatDoorPureR1L34
import Derived.Test.YtkccpkccdbfomaaGreatDoorPureN6
namespace Go.Proofs.YtkccpkccdbfomaaGreatDoor.Pure
open Go.RowKit Go.Proofs.YtkccpkccdbfomaaGreatDoorK Go.Proofs.YtkccpkccdbfomaaGreatDoor.GSL
set_option linter.unusedVariables false
set_option linter.unusedSimpArgs false
def Fb (r : Rat) : radomeref02_Ratio := ⟨Nb r.num, Nb (r.den : Int)⟩
theorem Fb_n (r : Rat) : (⟨(Fb r).f_N.f_Neg, (Fb r).f_N.f_D⟩ : radomeref01_Num) = Nb r.num := rfl
theorem Fb_d (r : Rat) : (⟨(Fb r).f_D.f_Neg, (Fb r).f_D.f_D⟩ : radomeref01_Num) = Nb (r.den : Int) := rfl
theorem Fb_fN (r : Rat) : (Fb r).f_N = Nb r.num := rfl
theorem Fb_fD (r : Rat) : (Fb r).f_D = Nb (r.den : Int) := rfl
theorem size_eq (k : Nat) (x : Int) : radomeref02_size.f k (Nb x) = some (Nb (x.natAbs : Int)) := by
  unfold radomeref02_size.f
  refine congrArg some ?_
  unfold Nb
  rw [Int.natAbs_natCast]
  have : decide ((x.natAbs : Int) < 0) = false := decide_eq_false (by omega)
  rw [this]
theorem Ln_le {x y : Int} (h : x.natAbs ≤ y.natAbs) : Ln x ≤ Ln y := dg_len_mono h
theorem fof_l0 {n : Int} {d : Nat} (hd : d ≠ 0) (ln : Ln n < 1000000) (ld : Ln (d : Int) < 1000000) : ∀ (b a : Nat), a ≤ max n.natAbs d → b ≤ max n.natAbs d → Nat.gcd a b = Nat.gcd n.natAbs d → Ev (fun k => (radomeref02_Of.hs k).l0 (Nb n).f_Neg (Nb n).f_D (Nb (d : Int)).f_Neg (Nb (d : Int)).f_D (Nb (a : Int)).f_Neg (Nb (a : Int)).f_D (Nb (b : Int)).f_Neg (Nb (b : Int)).f_D) (Fb (mkRat n d)) := by
  intro b
  induction b using Nat.strongRecOn with
  | _ b ih =>
    intro a ha hb hg
    have lens : ∀ x : Nat, x ≤ max n.natAbs d → Ln (x : Int) < 1000000 := fun x hx => by
      by_cases g : n.natAbs ≤ d
      · have := Ln_le (x := (x : Int)) (y := (d : Int)) (by rw [Int.natAbs_natCast, Int.natAbs_natCast]; omega); omega
      · have := Ln_le (x := (x : Int)) (y := n) (by rw [Int.natAbs_natCast]; omega); omega
    have la := lens a ha; have lb := lens b hb
    refine Ev.step (fun k => rfl) ?_
    simp only [radomeref02_Of.hs, radomeref02_Of.b0, nb_eta, Sign_eq, Option.bind_some]
    by_cases z : b = 0
    · subst z
      rw [Nat.gcd_zero_right] at hg
      have gp : 0 < Nat.gcd n.natAbs d := Nat.gcd_pos_of_pos_right _ (by omega)
      simp only [if_pos (show ((0 : Nat) : Int) = 0 by rfl), if_true]
      refine Ev.bind (Div_ev (by omega) (by omega) (by omega)) (Ev.bind (Div_ev (by omega) (by omega) (by omega)) ?_)
      (try simp only [nb_eta])
      have e1 : (mkRat n d).num = n / (a : Int) := by rw [Rat.num_mkRat, if_neg hd, Nat.gcd_comm, ← hg]
      have e2 : (((mkRat n d).den : Nat) : Int) = (d : Int) / (a : Int) := by rw [Rat.den_mkRat, if_neg hd, Nat.gcd_comm, ← hg, Int.natCast_ediv]
      unfold Fb
      rw [e1, e2]
      exact Ev.now
    · have nz : ¬ (if (b : Int) = 0 then (0 : Int) else if (b : Int) < 0 then -1 else 1) = 0 := by rw [if_neg (by omega)]; split <;> decide
      simp only [if_neg nz]
      refine Ev.bind (Div_ev (show (b : Int) ≠ 0 by omega) (by omega) (by omega)) ?_
      have em : (a : Int) % (b : Int) = ((a % b : Nat) : Int) := (Int.natCast_emod a b).symm
      have lt := Nat.mod_lt a (show 0 < b by omega)
      rw [em]
      exact ih (a % b) lt b hb (by omega) (by rw [← hg, Nat.gcd_comm a b, Nat.gcd_rec b a, Nat.gcd_comm])
theorem fof_j1 {n : Int} {d : Nat} (hd : d ≠ 0) (ln : Ln n < 1000000) (ld : Ln (d : Int) < 1000000) : Ev (fun k => radomeref02_Of.j1 k (radomeref02_Of.hs k) (Nb n).f_Neg (Nb n).f_D (Nb (d : Int)).f_Neg (Nb (d : Int)).f_D) (Fb (mkRat n d)) := by
  unfold radomeref02_Of.j1
  simp only [nb_eta, size_eq, Option.bind_some]
  exact fof_l0 hd ln ld d n.natAbs (Nat.le_max_left _ _) (Nat.le_max_right _ _) rfl
theorem FOf_ev {n d : Int} (hd : d ≠ 0) (ln : Ln n < 1000000) (ld : Ln d < 1000000) : Ev (fun k => radomeref02_Of.f k (Nb n) (Nb d)) (Fb (Rat.divInt n d)) := by
  unfold radomeref02_Of.f
  simp only [nb_eta, Sign_eq, Option.bind_some, Neg_eq]
  by_cases g : d < 0
  · simp only [if_neg hd, if_pos g, if_pos (show (-1 : Int) < 0 by decide)]
    have := fof_j1 (n := -n) (d := d.natAbs) (by omega) (by rw [Ln_neg]; exact ln) (by rw [show (d.natAbs : Int) = -d by omega, Ln_neg]; exact ld)
    rw [show (d.natAbs : Int) = -d by omega, ← Rat.divInt_ofNat, show (d.natAbs : Int) = -d by omega, Rat.neg_divInt_neg] at this
    exact this
  · have : ¬ (if d = 0 then (0 : Int) else if d < 0 then -1 else 1) < 0 := by rw [if_neg g]; split <;> decide
    simp only [if_neg this]
    have := fof_j1 (n := n) (d := d.natAbs) (by omega) ln (by rw [show (d.natAbs : Int) = d by omega]; exact ld)
    rw [show (d.natAbs : Int) = d by omega, ← Rat.divInt_ofNat, show (d.natAbs : Int) = d by omega] at this
    exact this
/-! ### what fits -/
/-! ### sums and products -/
theorem rtext_tab3 : ∃ s : ByteArray, (∀ (k : Nat) (a : radomeref02_Ratio), radomeref02_Text.f k a = (radomeref01_Text.f k (⟨a.f_N.f_Neg, a.f_N.f_D⟩ : radomeref01_Num)).bind fun y2 => if (y2.size + s.size : Int) ≤ 9223372036854775807 then ((radomeref01_Text.f k (⟨a.f_D.f_Neg, a.f_D.f_D⟩ : radomeref01_Num)).bind fun y7 => if ((y2 ++ s).size + y7.size : Int) ≤ 9223372036854775807 then (some ((y2 ++ s) ++ y7)) else none) else none) ∧ s = strOf [47] := ⟨_, fun _ _ => rfl, by decide +kernel⟩
theorem FText_ev {r : Rat} {B : Nat} (h : Rs B r) (hB : B < LIM) : Ev (fun k => radomeref02_Text.f k (Fb r)) (rtxt r) := by
  obtain ⟨s, hs, e⟩ := rtext_tab3
  have l1 := Ln_Fit (fit_num h hB); have l2 := Ln_Fit (fit_den h hB)
  have s1 := txt_size (x := r.num) (by omega); have s2 := txt_size (x := (r.den : Int)) (by omega)
  have s47 : s.size = 1 := by rw [e, strOf_size]; rfl
  simp only [hs, Fb_n, Fb_fN, Fb_d, Fb_fD]
  refine Ev.bind (RText_ev (by omega)) ?_
  simp only [if_pos (show ((txt r.num).size : Int) + (s.size : Int) ≤ 9223372036854775807 by omega)]
  refine Ev.bind (RText_ev (by omega)) ?_
  simp only [ByteArray.size_append, if_pos (show (((txt r.num).size + s.size : Nat) : Int) + ((txt (r.den : Int)).size : Int) ≤ 9223372036854775807 by omega)]
  rw [e]; exact Ev.now
/-! ### fractions of digits -/
namespace L34
end L34
end Go.Proofs.YtkccpkccdbfomaaGreatDoor.Pure

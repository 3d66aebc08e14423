/- Fractions of the reference (radomeref02): they are rational numbers; and what a law package makes of digits. -/
import Derived.Test.YtmnhbbckndlnkaaGreatDoorPureR1L02
import Derived.Test.YtmnhbbckndlnkaaGreatDoorPureN6
namespace Go.Proofs.YtmnhbbckndlnkaaGreatDoor.Pure
open Go.RowKit Go.Proofs.YtmnhbbckndlnkaaGreatDoorK Go.Proofs.YtmnhbbckndlnkaaGreatDoor.GRN
set_option linter.unusedVariables false
set_option linter.unusedSimpArgs false
def Fb (r : Rat) : radomeref02_Ratio := ⟨Nb r.num, Nb (r.den : Int)⟩
theorem Fb_eta (r : Rat) : (⟨(⟨(Fb r).f_N.f_Neg, (Fb r).f_N.f_D⟩ : radomeref01_Num), (⟨(Fb r).f_D.f_Neg, (Fb r).f_D.f_D⟩ : radomeref01_Num)⟩ : radomeref02_Ratio) = Fb r := rfl
theorem Fb_n (r : Rat) : (⟨(Fb r).f_N.f_Neg, (Fb r).f_N.f_D⟩ : radomeref01_Num) = Nb r.num := rfl
theorem Fb_d (r : Rat) : (⟨(Fb r).f_D.f_Neg, (Fb r).f_D.f_D⟩ : radomeref01_Num) = Nb (r.den : Int) := rfl
theorem size_eq (k : Nat) (x : Int) : radomeref02_size.f k (Nb x) = some (Nb (x.natAbs : Int)) := by
  unfold radomeref02_size.f
  refine congrArg some ?_
  unfold Nb
  rw [Int.natAbs_natCast]
  have : decide ((x.natAbs : Int) < 0) = false := decide_eq_false (by omega)
  rw [this]
theorem Ln_le {x y : Int} (h : x.natAbs ≤ y.natAbs) : Ln x ≤ Ln y := dg_len_mono h
theorem fof_l0 {n : Int} {d : Nat} (hd : d ≠ 0) (ln : Ln n < 1000000) (ld : Ln (d : Int) < 1000000) : ∀ (b a : Nat), a ≤ max n.natAbs d → b ≤ max n.natAbs d → Nat.gcd a b = Nat.gcd n.natAbs d → Ev (fun k => (radomeref02_Of.hs k).l0 (Nb n).f_Neg (Nb n).f_D (Nb (d : Int)).f_Neg (Nb (d : Int)).f_D (Nb (a : Int)).f_Neg (Nb (a : Int)).f_D (Nb (b : Int)).f_Neg (Nb (b : Int)).f_D) (Fb (mkRat n d)) := by
  intro b
  induction b using Nat.strongRecOn with
  | _ b ih =>
    intro a ha hb hg
    have lens : ∀ x : Nat, x ≤ max n.natAbs d → Ln (x : Int) < 1000000 := fun x hx => by
      by_cases g : n.natAbs ≤ d
      · have := Ln_le (x := (x : Int)) (y := (d : Int)) (by rw [Int.natAbs_natCast, Int.natAbs_natCast]; omega); omega
      · have := Ln_le (x := (x : Int)) (y := n) (by rw [Int.natAbs_natCast]; omega); omega
    have la := lens a ha; have lb := lens b hb
    refine Ev.step (fun k => rfl) ?_
    simp only [radomeref02_Of.hs, radomeref02_Of.b0, nb_eta, Sign_eq, Option.bind_some]
    by_cases z : b = 0
    · subst z
      rw [Nat.gcd_zero_right] at hg
      have gp : 0 < Nat.gcd n.natAbs d := Nat.gcd_pos_of_pos_right _ (by omega)
      simp only [if_pos (show ((0 : Nat) : Int) = 0 by rfl), if_true]
      refine Ev.bind (Div_ev (by omega) (by omega) (by omega)) (Ev.bind (Div_ev (by omega) (by omega) (by omega)) ?_)
      simp only [nb_eta]
      have e1 : (mkRat n d).num = n / (a : Int) := by rw [Rat.num_mkRat, if_neg hd, Nat.gcd_comm, ← hg]
      have e2 : (((mkRat n d).den : Nat) : Int) = (d : Int) / (a : Int) := by rw [Rat.den_mkRat, if_neg hd, Nat.gcd_comm, ← hg, Int.natCast_ediv]
      unfold Fb
      rw [e1, e2]
      exact Ev.now
    · have nz : ¬ (if (b : Int) = 0 then (0 : Int) else if (b : Int) < 0 then -1 else 1) = 0 := by rw [if_neg (by omega)]; split <;> decide
      simp only [if_neg nz]
      refine Ev.bind (Div_ev (show (b : Int) ≠ 0 by omega) (by omega) (by omega)) ?_
      have em : (a : Int) % (b : Int) = ((a % b : Nat) : Int) := (Int.natCast_emod a b).symm
      have lt := Nat.mod_lt a (show 0 < b by omega)
      rw [em]
      exact ih (a % b) lt b hb (by omega) (by rw [← hg, Nat.gcd_comm a b, Nat.gcd_rec b a, Nat.gcd_comm])
theorem fof_j1 {n : Int} {d : Nat} (hd : d ≠ 0) (ln : Ln n < 1000000) (ld : Ln (d : Int) < 1000000) : Ev (fun k => radomeref02_Of.j1 k (radomeref02_Of.hs k) (Nb n).f_Neg (Nb n).f_D (Nb (d : Int)).f_Neg (Nb (d : Int)).f_D) (Fb (mkRat n d)) := by
  unfold radomeref02_Of.j1
  simp only [nb_eta, size_eq, Option.bind_some]
  exact fof_l0 hd ln ld d n.natAbs (Nat.le_max_left _ _) (Nat.le_max_right _ _) rfl
theorem FOf_ev {n d : Int} (hd : d ≠ 0) (ln : Ln n < 1000000) (ld : Ln d < 1000000) : Ev (fun k => radomeref02_Of.f k (Nb n) (Nb d)) (Fb (Rat.divInt n d)) := by
  unfold radomeref02_Of.f
  simp only [nb_eta, Sign_eq, Option.bind_some, Neg_eq]
  by_cases g : d < 0
  · simp only [if_neg hd, if_pos g, if_pos (show (-1 : Int) < 0 by decide)]
    have := fof_j1 (n := -n) (d := d.natAbs) (by omega) (by rw [Ln_neg]; exact ln) (by rw [show (d.natAbs : Int) = -d by omega, Ln_neg]; exact ld)
    rw [show (d.natAbs : Int) = -d by omega, ← Rat.divInt_ofNat, show (d.natAbs : Int) = -d by omega, Rat.neg_divInt_neg] at this
    exact this
  · have : ¬ (if d = 0 then (0 : Int) else if d < 0 then -1 else 1) < 0 := by rw [if_neg g]; split <;> decide
    simp only [if_neg this]
    have := fof_j1 (n := n) (d := d.natAbs) (by omega) ln (by rw [show (d.natAbs : Int) = d by omega]; exact ld)
    rw [show (d.natAbs : Int) = d by omega, ← Rat.divInt_ofNat, show (d.natAbs : Int) = d by omega] at this
    exact this
/-! ### what fits -/
theorem two_pow_nat (n a b : Nat) (h : n = a * b) : (2 : Int) ^ n = (((2 ^ a) ^ b : Nat) : Int) := by subst h; rw [← Nat.pow_mul, Int.natCast_pow]; rfl
theorem Two4096_ev : Ev (fun k => radomeref01_Two.f k 4096) (Nb (LIM : Int)) := by
  obtain ⟨n, hn⟩ : ∃ n : Nat, n = 4096 := ⟨_, rfl⟩
  have h := Two_ev (n := n) (by omega)
  rw [two_pow_nat n 32 128 (by omega), show ((2 ^ 32) ^ 128 : Nat) = LIM by decide +kernel, show (n : Int) = 4096 by omega] at h
  exact h
theorem LIM_Ln : Ln (LIM : Int) < 1000000 := by
  refine Nat.lt_of_le_of_lt (Ln_of (m := 1300) ?_) (by decide)
  rw [Int.natAbs_natCast]
  decide +kernel
theorem FitsN_ev {x : Int} (hl : Ln x < 1000000) : Ev (fun k => radomeref01_Fits.f k (Nb x) 4096) (decide (x.natAbs < LIM)) := by
  unfold radomeref01_Fits.f
  refine Ev.bind Two4096_ev ?_
  have l2 := LIM_Ln
  unfold Ln at hl l2
  have := Less_ev (a := x.natAbs) (b := (LIM : Int).natAbs) (by omega) (by omega)
  rw [Int.natAbs_natCast] at this
  exact Ev.bind this Ev.now
/-! ### sums and products -/
theorem rtext_tab3 : ∃ s : ByteArray, (∀ (k : Nat) (a : radomeref02_Ratio), radomeref02_Text.f k a = (radomeref01_Text.f k (⟨a.f_N.f_Neg, a.f_N.f_D⟩ : radomeref01_Num)).bind fun y2 => if (y2.size + s.size : Int) ≤ 9223372036854775807 then ((radomeref01_Text.f k (⟨a.f_D.f_Neg, a.f_D.f_D⟩ : radomeref01_Num)).bind fun y7 => if ((y2 ++ s).size + y7.size : Int) ≤ 9223372036854775807 then (some ((y2 ++ s) ++ y7)) else none) else none) ∧ s = strOf [47] := ⟨_, fun _ _ => rfl, by decide +kernel⟩
theorem FText_ev {r : Rat} {B : Nat} (h : Rs B r) (hB : B < LIM) : Ev (fun k => radomeref02_Text.f k (Fb r)) (rtxt r) := by
  obtain ⟨s, hs, e⟩ := rtext_tab3
  have l1 := Ln_Fit (fit_num h hB); have l2 := Ln_Fit (fit_den h hB)
  have s1 := txt_size (x := r.num) (by omega); have s2 := txt_size (x := (r.den : Int)) (by omega)
  have s47 : s.size = 1 := by rw [e, strOf_size]; rfl
  simp only [hs, Fb_n, Fb_d]
  refine Ev.bind (RText_ev (by omega)) ?_
  simp only [if_pos (show ((txt r.num).size : Int) + (s.size : Int) ≤ 9223372036854775807 by omega)]
  refine Ev.bind (RText_ev (by omega)) ?_
  simp only [ByteArray.size_append, if_pos (show (((txt r.num).size + s.size : Nat) : Int) + ((txt (r.den : Int)).size : Int) ≤ 9223372036854775807 by omega)]
  rw [e]; exact Ev.now
/-! ### fractions of digits -/
namespace L02
theorem fraction_ev {n d : List Int} {neg : Bool} (hn : ∀ x ∈ n, (Lit.int .u8 x).wf = true) (hn' : n.length < 9000000000000000000) (hd : ∀ x ∈ d, (Lit.int .u8 x).wf = true) (hd' : d.length < 9000000000000000000) : ∃ r : Rat, Ev (fun k => radomelaw02_fraction.f k n d neg) (Fb r) ∧ Rs (10 ^ 60) r := by
  obtain ⟨x, wx, bx, -⟩ := whole_ev hn hn' neg (most := 60) (by decide)
  obtain ⟨y, wy, byy, py⟩ := whole_ev hd hd' false (most := 60) (by decide)
  have lx : Ln x ≤ 60 := Ln_of bx
  have ly : Ln y ≤ 60 := Ln_of byy
  have p60 : 1 ≤ 10 ^ 60 := Nat.pow_pos (by decide)
  unfold radomelaw02_fraction.f
  by_cases z : y = 0
  · subst z
    refine ⟨Rat.divInt x 1, ?_, ?_⟩
    · refine Ev.bind wx (Ev.bind wy ?_)
      simp only [nb_eta, Sign_eq, Option.bind_some, if_true]
      refine Ev.bind (Of_ev (x := 1) (by decide)) ?_
      simp only [nb_eta]
      refine Ev.bind (FOf_ev (by decide) (by omega) (by have : Ln 1 ≤ 1 := Ln_of (by decide)
                                                        omega)) ?_
      simp only [Fb_eta]; exact Ev.now
    · rw [show (1 : Int) = ((1 : Nat) : Int) from rfl, Rat.divInt_ofNat]
      exact Rs_mkRat (by omega) (by omega) (by omega)
  · have hy := py rfl
    refine ⟨Rat.divInt x y, ?_, ?_⟩
    · refine Ev.bind wx (Ev.bind wy ?_)
      have nz : ¬ (if y = 0 then (0 : Int) else if y < 0 then -1 else 1) = 0 := by rw [if_neg z]; split <;> decide
      simp only [nb_eta, Sign_eq, Option.bind_some, if_neg nz]
      refine Ev.bind (FOf_ev z (by omega) (by omega)) ?_
      simp only [Fb_eta]; exact Ev.now
    · rw [show y = ((y.natAbs : Nat) : Int) by omega, Rat.divInt_ofNat]
      exact Rs_mkRat (by omega) (by omega) (by omega)
theorem giveRatio_ev {r : Rat} {B : Nat} (h : Rs B r) (hB : B < 10 ^ 1200) : Ev (fun k => radomelaw02_giveRatio.f k (Fb r)) (Rb r) := by
  have hl : 10 ^ 1200 < LIM := by decide +kernel
  have f1 := fit_num h (by omega); have f2 := fit_den h (by omega)
  have l1 : Ln r.num ≤ 1200 := Ln_of (Nat.lt_of_le_of_lt h.num hB)
  have l2 : Ln (r.den : Int) ≤ 1200 := Ln_of (by rw [Int.natAbs_natCast]; exact Nat.lt_of_le_of_lt h.den hB)
  unfold radomelaw02_giveRatio.f
  simp only [Fb_n, Fb_d]
  refine Ev.bind (giveInt_ev f1 (by omega)) (Ev.bind (giveInt_ev f2 (by omega)) ?_)
  simp only [Wb_eta]
  refine Ev.bind (ROf_rat h (by omega)) ?_
  simp only [Rb_eta]; exact Ev.now
end L02
end Go.Proofs.YtmnhbbckndlnkaaGreatDoor.Pure

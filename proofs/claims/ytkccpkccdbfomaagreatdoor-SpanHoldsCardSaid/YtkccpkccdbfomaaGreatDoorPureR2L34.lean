/- Fractions of the reference (radomeref02): they are rational numbers; and what a law package makes of digits. -/
import Derived.Test.YtkccpkccdbfomaaGreatDoorPureR1L34
import Derived.Test.YtkccpkccdbfomaaGreatDoorPureN6
namespace Go.Proofs.YtkccpkccdbfomaaGreatDoor.Pure
open Go.RowKit Go.Proofs.YtkccpkccdbfomaaGreatDoorK Go.Proofs.YtkccpkccdbfomaaGreatDoor.GSH
set_option linter.unusedVariables false
set_option linter.unusedSimpArgs false
def Fb (r : Rat) : radomeref02_Ratio := ⟨Nb r.num, Nb (r.den : Int)⟩
theorem Fb_eta (r : Rat) : (⟨(⟨(Fb r).f_N.f_Neg, (Fb r).f_N.f_D⟩ : radomeref01_Num), (⟨(Fb r).f_D.f_Neg, (Fb r).f_D.f_D⟩ : radomeref01_Num)⟩ : radomeref02_Ratio) = Fb r := rfl
theorem Fb_n (r : Rat) : (⟨(Fb r).f_N.f_Neg, (Fb r).f_N.f_D⟩ : radomeref01_Num) = Nb r.num := rfl
theorem Fb_d (r : Rat) : (⟨(Fb r).f_D.f_Neg, (Fb r).f_D.f_D⟩ : radomeref01_Num) = Nb (r.den : Int) := rfl
theorem Fb_fN (r : Rat) : (Fb r).f_N = Nb r.num := rfl
theorem Fb_fD (r : Rat) : (Fb r).f_D = Nb (r.den : Int) := rfl
theorem size_eq (k : Nat) (x : Int) : radomeref02_size.f k (Nb x) = some (Nb (x.natAbs : Int)) := by
  unfold radomeref02_size.f
  refine congrArg some ?_
  unfold Nb
  rw [Int.natAbs_natCast]
  have : decide ((x.natAbs : Int) < 0) = false := decide_eq_false (by omega)
  rw [this]
theorem Ln_le {x y : Int} (h : x.natAbs ≤ y.natAbs) : Ln x ≤ Ln y := dg_len_mono h
theorem fof_l0 {n : Int} {d : Nat} (hd : d ≠ 0) (ln : Ln n < 1000000) (ld : Ln (d : Int) < 1000000) : ∀ (b a : Nat), a ≤ max n.natAbs d → b ≤ max n.natAbs d → Nat.gcd a b = Nat.gcd n.natAbs d → Ev (fun k => (radomeref02_Of.hs k).l0 (Nb n).f_Neg (Nb n).f_D (Nb (d : Int)).f_Neg (Nb (d : Int)).f_D (Nb (a : Int)).f_Neg (Nb (a : Int)).f_D (Nb (b : Int)).f_Neg (Nb (b : Int)).f_D) (Fb (mkRat n d)) := by
  intro b
  induction b using Nat.strongRecOn with
  | _ b ih =>
    intro a ha hb hg
    have lens : ∀ x : Nat, x ≤ max n.natAbs d → Ln (x : Int) < 1000000 := fun x hx => by
      by_cases g : n.natAbs ≤ d
      · have := Ln_le (x := (x : Int)) (y := (d : Int)) (by rw [Int.natAbs_natCast, Int.natAbs_natCast]; omega); omega
      · have := Ln_le (x := (x : Int)) (y := n) (by rw [Int.natAbs_natCast]; omega); omega
    have la := lens a ha; have lb := lens b hb
    refine Ev.step (fun k => rfl) ?_
    simp only [radomeref02_Of.hs, radomeref02_Of.b0, nb_eta, Sign_eq, Option.bind_some]
    by_cases z : b = 0
    · subst z
      rw [Nat.gcd_zero_right] at hg
      have gp : 0 < Nat.gcd n.natAbs d := Nat.gcd_pos_of_pos_right _ (by omega)
      simp only [if_pos (show ((0 : Nat) : Int) = 0 by rfl), if_true]
      refine Ev.bind (Div_ev (by omega) (by omega) (by omega)) (Ev.bind (Div_ev (by omega) (by omega) (by omega)) ?_)
      (try simp only [nb_eta])
      have e1 : (mkRat n d).num = n / (a : Int) := by rw [Rat.num_mkRat, if_neg hd, Nat.gcd_comm, ← hg]
      have e2 : (((mkRat n d).den : Nat) : Int) = (d : Int) / (a : Int) := by rw [Rat.den_mkRat, if_neg hd, Nat.gcd_comm, ← hg, Int.natCast_ediv]
      unfold Fb
      rw [e1, e2]
      exact Ev.now
    · have nz : ¬ (if (b : Int) = 0 then (0 : Int) else if (b : Int) < 0 then -1 else 1) = 0 := by rw [if_neg (by omega)]; split <;> decide
      simp only [if_neg nz]
      refine Ev.bind (Div_ev (show (b : Int) ≠ 0 by omega) (by omega) (by omega)) ?_
      have em : (a : Int) % (b : Int) = ((a % b : Nat) : Int) := (Int.natCast_emod a b).symm
      have lt := Nat.mod_lt a (show 0 < b by omega)
      rw [em]
      exact ih (a % b) lt b hb (by omega) (by rw [← hg, Nat.gcd_comm a b, Nat.gcd_rec b a, Nat.gcd_comm])
theorem fof_j1 {n : Int} {d : Nat} (hd : d ≠ 0) (ln : Ln n < 1000000) (ld : Ln (d : Int) < 1000000) : Ev (fun k => radomeref02_Of.j1 k (radomeref02_Of.hs k) (Nb n).f_Neg (Nb n).f_D (Nb (d : Int)).f_Neg (Nb (d : Int)).f_D) (Fb (mkRat n d)) := by
  unfold radomeref02_Of.j1
  simp only [nb_eta, size_eq, Option.bind_some]
  exact fof_l0 hd ln ld d n.natAbs (Nat.le_max_left _ _) (Nat.le_max_right _ _) rfl
theorem FOf_ev {n d : Int} (hd : d ≠ 0) (ln : Ln n < 1000000) (ld : Ln d < 1000000) : Ev (fun k => radomeref02_Of.f k (Nb n) (Nb d)) (Fb (Rat.divInt n d)) := by
  unfold radomeref02_Of.f
  simp only [nb_eta, Sign_eq, Option.bind_some, Neg_eq]
  by_cases g : d < 0
  · simp only [if_neg hd, if_pos g, if_pos (show (-1 : Int) < 0 by decide)]
    have := fof_j1 (n := -n) (d := d.natAbs) (by omega) (by rw [Ln_neg]; exact ln) (by rw [show (d.natAbs : Int) = -d by omega, Ln_neg]; exact ld)
    rw [show (d.natAbs : Int) = -d by omega, ← Rat.divInt_ofNat, show (d.natAbs : Int) = -d by omega, Rat.neg_divInt_neg] at this
    exact this
  · have : ¬ (if d = 0 then (0 : Int) else if d < 0 then -1 else 1) < 0 := by rw [if_neg g]; split <;> decide
    simp only [if_neg this]
    have := fof_j1 (n := n) (d := d.natAbs) (by omega) ln (by rw [show (d.natAbs : Int) = d by omega]; exact ld)
    rw [show (d.natAbs : Int) = d by omega, ← Rat.divInt_ofNat, show (d.natAbs : Int) = d by omega] at this
    exact this
/-! ### what fits -/
theorem two_pow_nat (n a b : Nat) (h : n = a * b) : (2 : Int) ^ n = (((2 ^ a) ^ b : Nat) : Int) := by subst h; rw [← Nat.pow_mul, Int.natCast_pow]; rfl
theorem Two4096_ev : Ev (fun k => radomeref01_Two.f k 4096) (Nb (LIM : Int)) := by
  obtain ⟨n, hn⟩ : ∃ n : Nat, n = 4096 := ⟨_, rfl⟩
  have h := Two_ev (n := n) (by omega)
  rw [two_pow_nat n 32 128 (by omega), show ((2 ^ 32) ^ 128 : Nat) = LIM by decide +kernel, show (n : Int) = 4096 by omega] at h
  exact h
theorem LIM_Ln : Ln (LIM : Int) < 1000000 := by
  refine Nat.lt_of_le_of_lt (Ln_of (m := 1300) ?_) (by decide)
  rw [Int.natAbs_natCast]
  decide +kernel
theorem FitsN_ev {x : Int} (hl : Ln x < 1000000) : Ev (fun k => radomeref01_Fits.f k (Nb x) 4096) (decide (x.natAbs < LIM)) := by
  unfold radomeref01_Fits.f
  refine Ev.bind Two4096_ev ?_
  have l2 := LIM_Ln
  unfold Ln at hl l2
  have := Less_ev (a := x.natAbs) (b := (LIM : Int).natAbs) (by omega) (by omega)
  rw [Int.natAbs_natCast] at this
  exact Ev.bind this Ev.now
theorem FitsL_l0 {t2 : Bool} : ∀ (n : Nat) (L : List Int) (i : Nat), L.length = i + n → L.length < 100 → (∀ x ∈ L, Fit x) → Ev (fun k => (radomeref02_Fits.hs k).l0 (L.map Nb) t2 (i : Int)) true
  | 0, L, i, e, hl, hf => by
    refine Ev.step (fun k => rfl) ?_
    simp only [radomeref02_Fits.hs, radomeref02_Fits.b0, List.length_map, if_neg (show ¬ (i : Int) < (L.length : Int) by omega)]
    exact Ev.now
  | n + 1, L, i, e, hl, hf => by
    have hi : i < L.length := by omega
    have er : rd (L.map Nb) (i : Int) = Nb L[i] := by
      unfold rd; rw [Int.toNat_natCast, List.getD_eq_getElem?_getD, List.getElem?_map, List.getElem?_eq_getElem hi]; rfl
    have hx := hf L[i] (List.getElem_mem hi)
    have F := FitsN_ev (x := L[i]) (by have := Ln_Fit hx; omega)
    have d1 : decide ((L[i]).natAbs < LIM) = true := decide_eq_true hx
    rw [d1] at F
    refine Ev.step (fun k => rfl) ?_
    simp only [radomeref02_Fits.hs, radomeref02_Fits.b0, List.length_map, if_pos (show (i : Int) < (L.length : Int) by omega), if_pos (show (0 : Int) ≤ (i : Int) ∧ (i : Int) < (L.length : Int) by omega), er, nb_eta]
    refine Ev.bind F ?_
    simp only [Bool.not_true, Bool.false_eq_true, if_false, wsucc (show i < 1000000000 by omega)]
    exact FitsL_l0 n L (i + 1) (by omega) hl hf
theorem FitsL_ev {L : List Int} (hl : L.length < 100) (hf : ∀ x ∈ L, Fit x) : Ev (fun k => radomeref02_Fits.f k (L.map Nb)) true := FitsL_l0 L.length L 0 (by omega) hl hf
/-! ### sums and products -/
theorem FCmp_ev {r s : Rat} {B C : Nat} (hr : Rs B r) (hs : Rs C s) (h : B * C < LIM) : Ev (fun k => radomeref02_Cmp.f k (Fb r) (Fb s)) (rcmp r s, 0) := by
  obtain ⟨c1, c2, -, -⟩ := cross_bd hr hs
  obtain ⟨p1, p2⟩ := le_prod hr.pos hs.pos
  have l1 := Ln_Fit (fit_num hr (by omega)); have l2 := Ln_Fit (fit_num hs (by omega)); have l3 := Ln_Fit (fit_den hr (by omega)); have l4 := Ln_Fit (fit_den hs (by omega))
  have f1 : Fit (r.num * (s.den : Int)) := by unfold Fit; omega
  have f2 : Fit (s.num * (r.den : Int)) := by unfold Fit; omega
  have l5 := Ln_Fit f1; have l6 := Ln_Fit f2
  unfold radomeref02_Cmp.f
  (try simp only [Fb_n, Fb_fN, Fb_d, Fb_fD])
  refine Ev.bind (Mul_ev (by omega) (by omega)) (Ev.bind (Mul_ev (by omega) (by omega)) ?_)
  (try simp only [nb_eta])
  refine Ev.bind (FitsL_ev (L := [r.num * (s.den : Int), s.num * (r.den : Int)]) (by simp) (by intro z hz; simp only [List.mem_cons, List.not_mem_nil, or_false] at hz; rcases hz with rfl | rfl <;> assumption)) ?_
  simp only [Bool.not_true, Bool.false_eq_true, if_false]
  refine Ev.bind (Cmp_ev (by omega) (by omega)) ?_
  rw [cmp_same]
  exact Ev.now
/-! ### fractions of digits -/
namespace L34
theorem fraction_ev {n d : List Int} {neg : Bool} (hn : ∀ x ∈ n, (Lit.int .u8 x).wf = true) (hn' : n.length < 9000000000000000000) (hd : ∀ x ∈ d, (Lit.int .u8 x).wf = true) (hd' : d.length < 9000000000000000000) : ∃ r : Rat, Ev (fun k => radomelaw34_fraction.f k n d neg) (Fb r) ∧ Rs (10 ^ 60) r := by
  obtain ⟨x, wx, bx, -⟩ := whole_ev hn hn' neg (most := 60) (by decide)
  obtain ⟨y, wy, byy, py⟩ := whole_ev hd hd' false (most := 60) (by decide)
  have lx : Ln x ≤ 60 := Ln_of bx
  have ly : Ln y ≤ 60 := Ln_of byy
  have p60 : 1 ≤ 10 ^ 60 := Nat.pow_pos (by decide)
  unfold radomelaw34_fraction.f
  by_cases z : y = 0
  · subst z
    refine ⟨Rat.divInt x 1, ?_, ?_⟩
    · refine Ev.bind wx (Ev.bind wy ?_)
      simp only [nb_eta, Sign_eq, Option.bind_some, if_true]
      refine Ev.bind (Of_ev (x := 1) (by decide)) ?_
      (try simp only [nb_eta])
      refine Ev.bind (FOf_ev (by decide) (by omega) (by have : Ln 1 ≤ 1 := Ln_of (by decide)
                                                        omega)) ?_
      (try simp only [Fb_eta]); exact Ev.now
    · rw [show (1 : Int) = ((1 : Nat) : Int) from rfl, Rat.divInt_ofNat]
      exact Rs_mkRat (by omega) (by omega) (by omega)
  · have hy := py rfl
    refine ⟨Rat.divInt x y, ?_, ?_⟩
    · refine Ev.bind wx (Ev.bind wy ?_)
      have nz : ¬ (if y = 0 then (0 : Int) else if y < 0 then -1 else 1) = 0 := by rw [if_neg z]; split <;> decide
      simp only [nb_eta, Sign_eq, Option.bind_some, if_neg nz]
      refine Ev.bind (FOf_ev z (by omega) (by omega)) ?_
      (try simp only [Fb_eta]); exact Ev.now
    · rw [show y = ((y.natAbs : Nat) : Int) by omega, Rat.divInt_ofNat]
      exact Rs_mkRat (by omega) (by omega) (by omega)
theorem giveRatio_ev {r : Rat} {B : Nat} (h : Rs B r) (hB : B < 10 ^ 1200) : Ev (fun k => radomelaw34_giveRatio.f k (Fb r)) (Rb r) := by
  have hl : 10 ^ 1200 < LIM := by decide +kernel
  have f1 := fit_num h (by omega); have f2 := fit_den h (by omega)
  have l1 : Ln r.num ≤ 1200 := Ln_of (Nat.lt_of_le_of_lt h.num hB)
  have l2 : Ln (r.den : Int) ≤ 1200 := Ln_of (by rw [Int.natAbs_natCast]; exact Nat.lt_of_le_of_lt h.den hB)
  unfold radomelaw34_giveRatio.f
  (try simp only [Fb_n, Fb_fN, Fb_d, Fb_fD])
  refine Ev.bind (giveInt_ev f1 (by omega)) (Ev.bind (giveInt_ev f2 (by omega)) ?_)
  (try simp only [Wb_eta])
  refine Ev.bind (ROf_rat h (by omega)) ?_
  (try simp only [Rb_eta]); exact Ev.now
end L34
end Go.Proofs.YtkccpkccdbfomaaGreatDoor.Pure

/- The law WideRoots: of any number the root, and it times any power of two, cut down, or the error, are the document's. -/
import Derived.Test.YtmnhbbckndlnkaaDoorPureW13
namespace Go.Proofs.YtmnhbbckndlnkaaDoor.Pure
open Go.RowKit Go.Proofs.YtmnhbbckndlnkaaDoorK Go.Proofs.YtmnhbbckndlnkaaDoor.GWR
set_option linter.unusedVariables false
set_option linter.unusedSimpArgs false
set_option maxRecDepth 100000
def S600 : Nat := (2 ^ 30) ^ 20
theorem lim150 : 4 * 10 ^ 150 * S600 < LIM := by decide +kernel
theorem two600 : S600 < 10 ^ 181 := by decide +kernel
theorem S600_pos : 1 ≤ S600 := by decide +kernel
theorem pure_roots_j1 {x m : Int} {f : Option Int} {bits : Int} (hx : x.natAbs < 10 ^ 150) (hb : -9223372036854775808 ≤ bits ∧ bits ≤ 9223372036854775807)
    (hf : bits < -4096 ∨ 4096 < bits → m = 0 ∧ f = some 1) (hg : -4096 ≤ bits → bits ≤ 4096 → f = none ∨ f = some 12) (hu : 0 ≤ bits → bits ≤ 600 → f = none ∧ m = x * 2 ^ bits.toNat) (hd : -600 ≤ bits → bits < 0 → f = none ∧ m = x / 2 ^ (-bits).toNat) :
    Ev (fun k => radomelaw01_WideRoots.j1 k bits false (Nb x).f_Neg (Nb x).f_D (Wb m).f_neg (Wb m).f_w f) true := by
  have lx : Ln x ≤ 150 := Ln_of hx
  have hlim := lim150
  have h600 := two600
  unfold radomelaw01_WideRoots.j1
  by_cases c1 : bits < -4096 ∨ 4096 < bits
  · obtain ⟨rfl, rfl⟩ := hf c1
    have : ((decide (bits < (-4096))) || (decide (4096 < bits))) = true := by rw [Bool.or_eq_true, decide_eq_true_eq, decide_eq_true_eq]; exact c1
    simp only [this, if_true, errN, Option.getD_some, decide_true, gdt, Wb_eta, WSign_eq, Option.bind_some, Bool.true_and]
    exact Ev.bind sure01_ev Ev.now
  · have : ((decide (bits < (-4096))) || (decide (4096 < bits))) = false := by rw [Bool.or_eq_false_iff, decide_eq_false_iff_not, decide_eq_false_iff_not]; omega
    simp only [this, Bool.false_eq_true, if_false]
    by_cases c2 : bits < -600 ∨ 600 < bits
    · have : ((decide (bits < (-600))) || (decide (600 < bits))) = true := by rw [Bool.or_eq_true, decide_eq_true_eq, decide_eq_true_eq]; exact c2
      simp only [this, if_true]
      have e : (f.isNone || decide (errN f = 12)) = true := by rcases hg (by omega) (by omega) with rfl | rfl <;> rfl
      simp only [e, gdt, Bool.true_and]
      exact Ev.bind sure01_ev Ev.now
    · have : ((decide (bits < (-600))) || (decide (600 < bits))) = false := by rw [Bool.or_eq_false_iff, decide_eq_false_iff_not, decide_eq_false_iff_not]; omega
      simp only [this, Bool.false_eq_true, if_false]
      by_cases c3 : 0 ≤ bits
      · obtain ⟨rfl, rfl⟩ := hu c3 (by omega)
        obtain ⟨n, rfl⟩ := Int.eq_ofNat_of_zero_le c3
        have hp : (2 : Nat) ^ n ≤ S600 := two_pw 30 20 (by omega)
        have pp : ((2 : Int) ^ n).natAbs = 2 ^ n := by rw [pow2_nat]; rfl
        have l2 : Ln ((2 : Int) ^ n) ≤ 181 := Ln_of (by rw [pp]; omega)
        have hm : (x * 2 ^ n).natAbs < LIM := by
          rw [Int.natAbs_mul, pp]
          have h1 := Nat.mul_le_mul (Nat.le_of_lt hx) hp
          generalize (10 : Nat) ^ 150 = T at *
          generalize S600 = S at *
          have : 4 * T * S = 4 * (T * S) := Nat.mul_assoc _ _ _
          omega
        have lm := Ln_mul x (2 ^ n)
        simp only [if_pos c3, Option.isNone_none, gdt, Int.toNat_natCast, Bool.true_and, Wb_eta]
        refine Ev.bind (Two_ev (n := n) (by omega)) ?_
        simp only [nb_eta]
        refine Ev.bind (Mul_ev (by omega) (by omega)) ?_
        simp only [nb_eta]
        refine Ev.bind (is01_ev (by omega) (by have := fit_Wl (x := x * 2 ^ n) hm; omega)) ?_
        simp only [gdt, Bool.true_and]
        exact Ev.bind sure01_ev Ev.now
      · obtain ⟨rfl, rfl⟩ := hd (by omega) (by omega)
        obtain ⟨n, hn⟩ := Int.eq_ofNat_of_zero_le (show 0 ≤ -bits by omega)
        have hp : (2 : Nat) ^ n ≤ S600 := two_pw 30 20 (by omega)
        have hp1 : 1 ≤ (2 : Nat) ^ n := Nat.pow_pos (by decide)
        have pp : ((2 : Int) ^ n).natAbs = 2 ^ n := by rw [pow2_nat]; rfl
        have pi := pow2_nat n
        have l2 : Ln ((2 : Int) ^ n) ≤ 181 := Ln_of (by rw [pp]; omega)
        have hq : (x / 2 ^ n).natAbs ≤ x.natAbs := Int.natAbs_ediv_le_natAbs x _
        have lq : Ln (x / 2 ^ n) ≤ 150 := Ln_of (Nat.lt_of_le_of_lt hq hx)
        have wq := Ln_Wl (x := x / 2 ^ n) (by omega)
        have eb : w64 (0 - bits) = (n : Int) := by rw [w64_id (by omega)]; omega
        simp only [if_neg c3, Option.isNone_none, gdt, eb, hn, Int.toNat_natCast, Bool.true_and, Wb_eta]
        refine Ev.bind (Two_ev (n := n) (by omega)) ?_
        simp only [nb_eta]
        have D : Ev (fun k => radomeref01_Floor.f k (Nb x) (Nb (2 ^ n))) (Nb (x / 2 ^ n)) := by
          unfold radomeref01_Floor.f
          simp only [nb_eta]
          refine Ev.bind (Div_ev (by omega) (by omega) (by omega)) ?_
          simp only [nb_eta]; exact Ev.now
        refine Ev.bind D ?_
        simp only [nb_eta]
        refine Ev.bind (is01_ev (by omega) (by omega)) ?_
        simp only [gdt, Bool.true_and]
        exact Ev.bind sure01_ev Ev.now
theorem pure_WideRoots (a : List Int) (neg : Bool) (bits : Int) (ha : a.length < 9000000000000000000) (ha2 : ∀ x ∈ a, (Lit.int .u8 x).wf = true) (hb : -9223372036854775808 ≤ bits ∧ bits ≤ 9223372036854775807) : Ev (fun k => radomelaw01_WideRoots.f k a neg bits) true := by
  obtain ⟨x, wx, bx, px⟩ := L01.whole_ev ha2 ha neg (most := 150) (by decide)
  have hlim := lim150
  have h600 := S600_pos
  have hT : 4 * 10 ^ 150 < LIM := by
    have := Nat.mul_le_mul_left (4 * 10 ^ 150) h600
    omega
  have fx : Fit x := by unfold Fit; omega
  have lx : Ln x ≤ 150 := Ln_of bx
  -- what moves give
  obtain ⟨m, f, hM, hf, hg, hu, hd⟩ : ∃ m f, Ev (fun k => wide_Int_Move.f k (Wb x) bits) (Wb m, f) ∧ (bits < -4096 ∨ 4096 < bits → m = 0 ∧ f = some 1) ∧ (-4096 ≤ bits → bits ≤ 4096 → f = none ∨ f = some 12) ∧ (0 ≤ bits → bits ≤ 600 → f = none ∧ m = x * 2 ^ bits.toNat) ∧ (-600 ≤ bits → bits < 0 → f = none ∧ m = x / 2 ^ (-bits).toNat) := by
    by_cases c1 : bits < -4096 ∨ 4096 < bits
    · exact ⟨0, some 1, by simp only [WMove_out _ _ c1]; exact Ev.now, fun _ => ⟨rfl, rfl⟩, fun _ _ => by omega, fun _ _ => by omega, fun _ _ => by omega⟩
    · by_cases c2 : 0 ≤ bits
      · obtain ⟨n, rfl⟩ := Int.eq_ofNat_of_zero_le c2
        have M := WMove_up (x := x) (n := n) (by have := fit_Wl fx; omega) (by omega)
        rcases res_cases (x * 2 ^ n) with ⟨h1, h2⟩ | ⟨h1, h2⟩
        · rw [h2] at M
          exact ⟨_, _, M, fun h => absurd h c1, fun _ _ => .inl rfl, fun _ _ => ⟨rfl, rfl⟩, fun _ _ => by omega⟩
        · rw [h2] at M
          refine ⟨_, _, M, fun h => absurd h c1, fun _ _ => .inr rfl, fun _ h3 => absurd ?_ h1, fun _ _ => by omega⟩
          have hp : (2 : Nat) ^ n ≤ S600 := two_pw 30 20 (by omega)
          have pp : ((2 : Int) ^ n).natAbs = 2 ^ n := by rw [pow2_nat]; rfl
          unfold Fit
          rw [Int.natAbs_mul, pp]
          have h1 := Nat.mul_le_mul (Nat.le_of_lt bx) hp
          generalize (10 : Nat) ^ 150 = T at *
          generalize S600 = S at *
          have : 4 * T * S = 4 * (T * S) := Nat.mul_assoc _ _ _
          omega
      · obtain ⟨n, hn⟩ := Int.eq_ofNat_of_zero_le (show 0 ≤ -bits by omega)
        have M := WMove_down (x := x) (s := n) fx (by omega)
        rw [show -(n : Int) = bits by omega] at M
        exact ⟨_, _, M, fun h => absurd h c1, fun _ _ => .inl rfl, fun _ _ => by omega, fun _ _ => ⟨rfl, by rw [hn, Int.toNat_natCast]⟩⟩
  have J := pure_roots_j1 (x := x) (m := m) (f := f) bx hb hf hg hu hd
  unfold radomelaw01_WideRoots.f
  refine Ev.bind wx ?_
  simp only [nb_eta]
  refine Ev.bind (L01.giveInt_ev fx (by omega)) ?_
  simp only [Wb_eta]
  by_cases c : x < 0
  · have hneg : neg = true := by cases neg with | true => rfl | false => have := px rfl; omega
    subst hneg
    simp only [WRoot_neg _ c, Option.bind_some, Wb_eta]
    refine Ev.bind hM ?_
    simp only [gdt, Sign_eq, Option.bind_some, if_neg (show ¬ x = 0 by omega), if_pos c, show decide ((-1 : Int) < 0) = true by decide, Bool.true_and, if_true, errN, Option.getD_some, decide_true, Bool.not_true, Bool.not_false, WSign_eq, Bool.false_or, Bool.false_eq_true, if_false]
    exact J
  · obtain ⟨r, hr, r0, r1, r2, r3⟩ := WRoot_ev fx (by omega)
    have rx : r ≤ x := by
      by_cases z : r = 0
      · omega
      · have := Int.mul_le_mul_of_nonneg_left (show (1 : Int) ≤ r by omega) r0
        omega
    have fr : Fit r := by unfold Fit; omega
    have f1 : Fit 1 := by unfold Fit; omega
    have frr : Fit (r * r) := by unfold Fit; have := Int.mul_nonneg r0 r0; omega
    have fr1 : Fit (r + 1) := by unfold Fit; omega
    have e1 : (r + 1) * (r + 1) = r * r + 2 * r + 1 := by rw [Int.add_mul, Int.mul_add]; omega
    have fr2 : Fit ((r + 1) * (r + 1)) := by unfold Fit; have := Int.mul_nonneg r0 r0; rw [e1]; omega
    refine Ev.bind hr ?_
    simp only [Wb_eta]
    refine Ev.bind hM ?_
    have s0 : ∀ k, gd neg (radomeref01_Sign.f k (Nb x)) 0 = some (if neg then (if x = 0 then 0 else if x < 0 then -1 else 1) else 0) := fun k => by
      cases neg with
      | true => simp only [gdt, Sign_eq, if_true]
      | false => rfl
    have s1 : (neg && decide ((if neg then (if x = 0 then (0 : Int) else if x < 0 then -1 else 1) else 0) < 0)) = false := by
      cases neg with
      | false => rfl
      | true =>
        simp only [if_true, Bool.true_and, if_neg c, decide_eq_false_iff_not]
        split <;> decide
    simp only [s0, Option.bind_some, s1, Bool.false_eq_true, if_false]
    refine Ev.bind (WMulF_ev fr fr frr) (Ev.bind (WOf_ev (x := 1) (by decide)) ?_)
    simp only [Wb_eta]
    refine Ev.bind (WAddF_ev fr f1 fr1) ?_
    simp only [Wb_eta]
    refine Ev.bind (WMulF_ev fr1 fr1 fr2) ?_
    simp only [Option.isSome_none, Bool.or_false, Bool.not_false, gdt, Wb_eta]
    refine Ev.bind (WCmpC_ev frr fx) ?_
    have g1 : decide (0 < sgn3 (r * r) x) = false := by
      rcases Int.lt_or_eq_of_le r2 with h | h
      · rw [sgn3_lt h]; rfl
      · rw [h, sgn3_eq]; rfl
    simp only [g1, Bool.not_false, gdt, Bool.false_or]
    refine Ev.bind (WCmpC_ev fr2 fx) ?_
    simp only [sgn3_gt r3, show decide ((1 : Int) ≤ 0) = false by decide, Bool.not_false, gdt, WSign_eq, Option.bind_some]
    have g2 : decide ((if r = 0 then (0 : Int) else if r < 0 then -1 else 1) < 0) = false := by
      rw [if_neg (show ¬ r < 0 by omega)]; split <;> rfl
    simp only [g2, Bool.or_false, Bool.false_eq_true, if_false]
    exact J
theorem WideRoots : radomelaw01_WideRoots.Pure := fun a neg bits h1 h2 => by
  obtain ⟨⟨-, l1⟩, w1⟩ := h1
  have hb : -9223372036854775808 ≤ bits ∧ bits ≤ 9223372036854775807 := by simpa [Lit.wf, IntKind.min, IntKind.max, IntKind.signed, IntKind.bits] using h2
  exact (pure_WideRoots a neg bits (by omega) w1 hb).ex
end Go.Proofs.YtmnhbbckndlnkaaDoor.Pure

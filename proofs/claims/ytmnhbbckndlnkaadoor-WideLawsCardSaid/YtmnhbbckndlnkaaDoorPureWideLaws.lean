/- The law WideLaws: sums and products do not hang on the order, products are parted over sums, what is divided is found again, where all of them are numbers; what is too great is told. -/
import Derived.Test.YtmnhbbckndlnkaaDoorPureW13
namespace Go.Proofs.YtmnhbbckndlnkaaDoor.Pure
open Go.RowKit Go.Proofs.YtmnhbbckndlnkaaDoorK Go.Proofs.YtmnhbbckndlnkaaDoor.GWL
set_option linter.unusedVariables false
set_option linter.unusedSimpArgs false
set_option maxRecDepth 100000
def S3400 : Nat := (2 ^ 34) ^ 100
theorem lim3400 : 2 * (10 ^ 150 * S3400) < LIM := by decide +kernel
theorem S3400_pos : 1 ≤ S3400 := by decide +kernel
theorem wl_j2 {a b : Int} {t4 : Bool} (ha : Fit a) (hb : Fit b) : Ev (fun k => radomelaw01_WideLaws.j2 k (radomelaw01_WideLaws.hs k) t4 (Wb a).f_neg (Wb a).f_w (Wb b).f_neg (Wb b).f_w) true := by
  unfold radomelaw01_WideLaws.j2
  simp only [Wb_eta, WSign_eq, Option.bind_some]
  by_cases z : b = 0
  · simp only [z, if_true]
    exact Ev.bind sure01_ev Ev.now
  · have nz : ¬ (if b = 0 then (0 : Int) else if b < 0 then -1 else 1) = 0 := by rw [if_neg z]; split <;> decide
    simp only [if_neg nz]
    have hq : Fit (a / b) := fit_of_le ha (Int.natAbs_ediv_le_natAbs a b)
    have m0 := Int.emod_nonneg a z
    have m1 : (a % b).natAbs ≤ b.natAbs := by
      by_cases g : b < 0
      · have h2 := Int.emod_lt_of_pos a (show 0 < -b by omega)
        rw [Int.emod_neg] at h2; omega
      · have h2 := Int.emod_lt_of_pos a (show 0 < b by omega)
        omega
    have hr : Fit (a % b) := fit_of_le hb m1
    have em := Int.emod_add_mul_ediv a b
    refine Ev.bind (WDiv_ev z ha hb) ?_
    simp only [Wb_eta]
    refine Ev.bind (WMulC_ev hq hb) ?_
    rcases res_cases (a / b * b) with ⟨h1, h2⟩ | ⟨h1, h2⟩
    · rw [h2]
      simp only [Option.isSome_none, Option.isNone_none, Bool.not_false, Bool.and_true, gdt, Wb_eta, WSign_eq, Option.bind_some, Bool.true_and, Bool.false_or]
      have g : decide ((if a % b = 0 then (0 : Int) else if a % b < 0 then -1 else 1) < 0) = false := by
        rw [if_neg (show ¬ a % b < 0 by omega)]; split <;> rfl
      simp only [g, Bool.false_eq_true, if_false, if_true]
      have es : a / b * b + a % b = a := by rw [Int.mul_comm]; omega
      refine Ev.bind (WAddF_ev h1 hr (by rw [es]; exact ha)) ?_
      rw [es]
      simp only [Option.isSome_none, Bool.not_false, gdt, Wb_eta, Bool.false_or]
      refine Ev.bind (WCmpC_ev ha ha) ?_
      simp only [sgn3_eq, decide_true, Bool.not_true, Bool.false_eq_true, if_false]
      exact Ev.bind sure01_ev Ev.now
    · rw [h2]
      simp only [Option.isSome_none, Option.isNone_some, Bool.and_false, gdf, Option.bind_some, Bool.false_and, Bool.false_or, Bool.false_eq_true, if_false]
      exact Ev.bind sure01_ev Ev.now
theorem wl_j1 {a b c : Int} {t4 : Bool} (ha : Fit a) (hb : Fit b) (hc : Fit c) (hs : Fit (a + b)) : Ev (fun k => radomelaw01_WideLaws.j1 k (radomelaw01_WideLaws.hs k) t4 (Wb a).f_neg (Wb a).f_w (Wb b).f_neg (Wb b).f_w (Wb c).f_neg (Wb c).f_w (Wb (a + b)).f_neg (Wb (a + b)).f_w none) true := by
  unfold radomelaw01_WideLaws.j1
  have J := wl_j2 (t4 := t4) ha hb
  simp only [Wb_eta]
  refine Ev.bind (WMulC_ev hs hc) (Ev.bind (WMulC_ev ha hc) (Ev.bind (WMulC_ev hb hc) ?_))
  rcases res_cases ((a + b) * c) with ⟨h1, h2⟩ | ⟨h1, h2⟩
  · rcases res_cases (a * c) with ⟨h3, h4⟩ | ⟨h3, h4⟩
    · rcases res_cases (b * c) with ⟨h5, h6⟩ | ⟨h5, h6⟩
      · rw [h2, h4, h6]
        simp only [Option.isNone_none, Bool.and_true, if_true, Wb_eta]
        have es : a * c + b * c = (a + b) * c := by rw [Int.add_mul]
        refine Ev.bind (WAddF_ev h3 h5 (by rw [es]; exact h1)) ?_
        rw [es]
        simp only [Option.isSome_none, Bool.not_false, gdt, Wb_eta, Bool.false_or]
        refine Ev.bind (WCmpC_ev h1 h1) ?_
        simp only [sgn3_eq, decide_true, Bool.not_true, Bool.false_eq_true, if_false]
        exact J
      · rw [h2, h4, h6]
        simp only [Option.isNone_none, Option.isNone_some, Bool.and_false, Bool.false_eq_true, if_false]
        exact J
    · rw [h2, h4]
      simp only [Option.isNone_none, Option.isNone_some, Bool.and_false, Bool.false_and, Bool.false_eq_true, if_false]
      exact J
  · rw [h2]
    simp only [Option.isNone_none, Option.isNone_some, Bool.and_false, Bool.false_and, Bool.false_eq_true, if_false]
    exact J
/-- a number of digits, moved up -/
theorem wl_part {d : List Int} {o : Int} (hd : ∀ x ∈ d, (Lit.int .u8 x).wf = true) (hl : d.length < 9000000000000000000) (ho : -9223372036854775808 ≤ o ∧ o ≤ 9223372036854775807) :
    ∃ x a : Int, Ev (fun k => radomelaw01_whole.f k d (!decide ((Int.tmod o 2) = 0)) 150) (Nb x) ∧ Fit x ∧ Ln x < 1300 ∧ Ev (fun k => wide_Int_Move.f k (Wb x) (w64 (Int.tmod (o % 18446744073709551616) 3400))) (Wb a, none) ∧ 2 * a.natAbs < LIM := by
  obtain ⟨x, wx, bx, -⟩ := L01.whole_ev hd hl (!decide ((Int.tmod o 2) = 0)) (most := 150) (by decide)
  have hlim := lim3400
  have e : ∃ n : Nat, n < 3400 ∧ w64 (Int.tmod (o % 18446744073709551616) 3400) = (n : Int) := by
    rw [Int.tmod_eq_emod_of_nonneg (by omega), w64_id (by omega)]
    exact ⟨((o % 18446744073709551616) % 3400).toNat, by omega, by omega⟩
  obtain ⟨n, hn, en⟩ := e
  have hp : (2 : Nat) ^ n ≤ S3400 := two_pw 34 100 (by omega)
  have pp : ((2 : Int) ^ n).natAbs = 2 ^ n := by rw [pow2_nat]; rfl
  have h1 := Nat.mul_le_mul (Nat.le_of_lt bx) hp
  have ea : (x * 2 ^ n).natAbs = x.natAbs * 2 ^ n := by rw [Int.natAbs_mul, pp]
  have lx : Ln x ≤ 150 := Ln_of bx
  have p1 := S3400_pos
  have h2 := Nat.mul_le_mul (Nat.le_of_lt bx) p1
  rw [Nat.mul_one] at h2
  generalize (10 : Nat) ^ 150 * S3400 = T at *
  have fx : Fit x := by unfold Fit; omega
  have fa : Fit (x * 2 ^ n) := by unfold Fit; omega
  have M := WMove_up (x := x) (n := n) (by have := fit_Wl fx; omega) (by omega)
  rw [res_fit fa] at M
  refine ⟨x, x * 2 ^ n, wx, fx, by omega, ?_, by omega⟩
  rw [en]; exact M
theorem pure_WideLaws (l : T56) (o : T57) (h0 : l.e0.length < 9000000000000000000) (h0' : ∀ x ∈ l.e0, (Lit.int .u8 x).wf = true) (h1 : l.e1.length < 9000000000000000000) (h1' : ∀ x ∈ l.e1, (Lit.int .u8 x).wf = true) (h2 : l.e2.length < 9000000000000000000) (h2' : ∀ x ∈ l.e2, (Lit.int .u8 x).wf = true)
    (o0 : -9223372036854775808 ≤ o.e0 ∧ o.e0 ≤ 9223372036854775807) (o1 : -9223372036854775808 ≤ o.e1 ∧ o.e1 ≤ 9223372036854775807) (o2 : -9223372036854775808 ≤ o.e2 ∧ o.e2 ≤ 9223372036854775807) : Ev (fun k => radomelaw01_WideLaws.f k l o) true := by
  obtain ⟨x, a, wx, fx, lx, ma, la⟩ := wl_part h0' h0 o0
  obtain ⟨y, b, wy, fy, ly, mb, lb⟩ := wl_part h1' h1 o1
  obtain ⟨z, c, wz, fz, lz, mc, lc⟩ := wl_part h2' h2 o2
  have fa : Fit a := by unfold Fit; omega
  have fb : Fit b := by unfold Fit; omega
  have fc : Fit c := by unfold Fit; omega
  have fs : Fit (a + b) := by unfold Fit; omega
  have fs' : Fit (b + a) := by unfold Fit; omega
  have ec : b + a = a + b := by omega
  have J := wl_j1 (t4 := false) fa fb fc fs
  unfold radomelaw01_WideLaws.f
  refine Ev.bind wx ?_
  simp only [nb_eta]
  refine Ev.bind (L01.giveInt_ev fx lx) ?_
  simp only [Wb_eta]
  refine Ev.bind ma ?_
  simp only [Option.isSome_none, Bool.false_eq_true, if_false]
  refine Ev.bind wy ?_
  simp only [nb_eta]
  refine Ev.bind (L01.giveInt_ev fy ly) ?_
  simp only [Wb_eta]
  refine Ev.bind mb ?_
  simp only [Option.isSome_none, Bool.false_eq_true, if_false]
  refine Ev.bind wz ?_
  simp only [nb_eta]
  refine Ev.bind (L01.giveInt_ev fz lz) ?_
  simp only [Wb_eta]
  refine Ev.bind mc ?_
  simp only [Option.isSome_none, Bool.false_eq_true, if_false, Wb_eta]
  refine Ev.bind (WAddF_ev fa fb fs) (Ev.bind (WAddF_ev fb fa fs') (Ev.bind (WMulC_ev fa fb) (Ev.bind (WMulC_ev fb fa) ?_)))
  rw [Int.mul_comm b a, ec]
  obtain ⟨m, e, hm, fm, he⟩ : ∃ m e, res (a * b) = (Wb m, e) ∧ Fit m ∧ (e = none ∨ e = some 12) := by
    rcases res_cases (a * b) with ⟨q1, q2⟩ | ⟨q1, q2⟩
    · exact ⟨_, _, q2, q1, .inl rfl⟩
    · exact ⟨_, _, q2, Fit_zero, .inr rfl⟩
  rw [hm]
  have g : (e.isSome && (!decide ((errN e) = 12))) = false := by rcases he with rfl | rfl <;> rfl
  simp only [decide_true, Bool.not_true, Bool.false_or, Bool.or_false, Option.isSome_none, Bool.false_and, g, Bool.not_false, gdt, Wb_eta]
  refine Ev.bind (WCmpC_ev fs fs) ?_
  simp only [sgn3_eq, decide_true, Bool.not_true, Bool.false_or, Bool.or_false, Bool.not_false, gdt]
  refine Ev.bind (WCmpC_ev fm fm) ?_
  simp only [sgn3_eq, decide_true, Bool.not_true, Bool.false_or, Bool.or_false, Bool.false_eq_true, if_false, Option.isNone_none, if_true]
  have ed : a + b - b = a := by omega
  refine Ev.bind (WSubF_ev fs fb (by rw [ed]; exact fa)) ?_
  rw [ed]
  simp only [Option.isSome_none, Bool.not_false, gdt, Wb_eta, Bool.false_or]
  refine Ev.bind (WCmpC_ev fa fa) ?_
  simp only [sgn3_eq, decide_true, Bool.not_true, Bool.false_eq_true, if_false]
  exact J
theorem WideLaws : radomelaw01_WideLaws.Pure := fun l o h1 h2 => by
  obtain ⟨⟨⟨-, l0⟩, w0⟩, ⟨⟨-, l1⟩, w1⟩, ⟨⟨-, l2⟩, w2⟩⟩ := h1
  obtain ⟨b0, b1, b2⟩ := h2
  have key : ∀ x : Int, (Lit.int .i64 x).wf = true → -9223372036854775808 ≤ x ∧ x ≤ 9223372036854775807 := fun x h => by simpa [Lit.wf, IntKind.min, IntKind.max, IntKind.signed, IntKind.bits] using h
  exact (pure_WideLaws l o (by omega) w0 (by omega) w1 (by omega) w2 (key _ b0) (key _ b1) (key _ b2)).ex
end Go.Proofs.YtmnhbbckndlnkaaDoor.Pure

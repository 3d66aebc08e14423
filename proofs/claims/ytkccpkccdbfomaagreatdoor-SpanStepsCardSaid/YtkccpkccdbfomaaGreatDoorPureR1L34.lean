/- Fractions of the program (ratio): they are rational numbers. -/
import Derived.Test.YtkccpkccdbfomaaGreatDoorPureW13L34
namespace Go.Proofs.YtkccpkccdbfomaaGreatDoor.Pure
open Go.RowKit Go.Proofs.YtkccpkccdbfomaaGreatDoorK Go.Proofs.YtkccpkccdbfomaaGreatDoor.GSS
set_option linter.unusedVariables false
set_option linter.unusedSimpArgs false
def Rb (r : Rat) : QG := ⟨Wb r.num, Wb (r.den : Int)⟩
theorem Zh (r : Rat) : (⟨(⟨(Rb r).f_n.f_neg, (Rb r).f_n.f_w⟩ : Qu), (⟨(Rb r).f_d.f_neg, (Rb r).f_d.f_w⟩ : Qu)⟩ : QG) = Rb r := rfl
theorem Rb_n (r : Rat) : (⟨(Rb r).f_n.f_neg, (Rb r).f_n.f_w⟩ : Qu) = Wb r.num := rfl
theorem Rb_d (r : Rat) : (⟨(Rb r).f_d.f_neg, (Rb r).f_d.f_w⟩ : Qu) = Wb (r.den : Int) := rfl
theorem O1 (r : Rat) : (Rb r).f_n = Wb r.num := rfl
theorem W5 (r : Rat) : (Rb r).f_d = Wb (r.den : Int) := rfl
/-- both parts of a fraction are at most so great -/
structure Rs (B : Nat) (r : Rat) : Prop where
  num : r.num.natAbs ≤ B
  den : r.den ≤ B
theorem Rs.mono {B C : Nat} {r : Rat} (h : Rs B r) (hle : B ≤ C) : Rs C r := ⟨Nat.le_trans h.num hle, Nat.le_trans h.den hle⟩
theorem Rs.pos {B : Nat} {r : Rat} (h : Rs B r) : 1 ≤ B := Nat.le_trans (Nat.pos_of_ne_zero r.den_nz) h.den
theorem natAbs_div_le' (n : Int) (g : Nat) : (n / (g : Int)).natAbs ≤ n.natAbs := Int.natAbs_ediv_le_natAbs n g
theorem Jm {n : Int} {d B : Nat} (hn : n.natAbs ≤ B) (hd : d ≤ B) (h1 : 1 ≤ B) : Rs B (mkRat n d) := by
  refine ⟨?_, ?_⟩
  · rw [Rat.num_mkRat]; split
    · simp
    · exact Nat.le_trans (natAbs_div_le' _ _) hn
  · rw [Rat.den_mkRat]; split
    · exact h1
    · exact Nat.le_trans (Nat.div_le_self _ _) hd
theorem U5 {t4 : Bool} {t4' : List Int} {t5 : Option Int} : ∀ (b a : Nat), Fit (a : Int) → Fit (b : Int) → Ev (fun k => (Q0.hs k).l0 (Wb (a : Int)).f_neg (Wb (a : Int)).f_w (Wb (b : Int)).f_neg (Wb (b : Int)).f_w t4 t4' t5) (Wb ((Nat.gcd a b : Nat) : Int), none) := by
  intro b
  induction b using Nat.strongRecOn with
  | _ b ih =>
    intro a fa fb
    refine Ev.step (fun k => rfl) ?_
    simp only [Q0.hs, Q0.b0, YU, Ja, Option.bind_some]
    by_cases z : b = 0
    · subst z
      simp only [Nat.gcd_zero_right, if_pos (show ((0 : Nat) : Int) = 0 by rfl), if_true]
      exact Ev.now
    · have nz : ¬ (if (b : Int) = 0 then (0 : Int) else if (b : Int) < 0 then -1 else 1) = 0 := by rw [if_neg (by omega)]; split <;> decide
      simp only [if_neg nz]
      refine Ev.bind (M9 (show (b : Int) ≠ 0 by omega) fa fb) ?_
      simp only [Option.isSome_none, Bool.false_eq_true, if_false]
      have em : (a : Int) % (b : Int) = ((a % b : Nat) : Int) := (Int.natCast_emod a b).symm
      have lt := Nat.mod_lt a (show 0 < b by omega)
      have hb := ih (a % b) lt b fb (Z7 fb (by rw [Int.natAbs_natCast, Int.natAbs_natCast]; omega))
      rw [em]
      rw [show Nat.gcd a b = Nat.gcd b (a % b) by rw [Nat.gcd_comm a b, Nat.gcd_rec b a, Nat.gcd_comm]]
      exact hb
theorem UX {a b : Nat} (fa : Fit (a : Int)) (fb : Fit (b : Int)) : Ev (fun k => Q0.f k (Wb (a : Int)) (Wb (b : Int))) (Wb ((Nat.gcd a b : Nat) : Int), none) := U5 b a fa fb
theorem WT (k : Nat) (x : Int) : YO.f k (Wb x) = some (Wb (x.natAbs : Int)) := by
  unfold YO.f
  simp only [YU, Ja, Option.bind_some, G8]
  by_cases g : x < 0
  · rw [if_neg (show ¬ x = 0 by omega), if_pos g, if_pos (by decide), show -x = (x.natAbs : Int) by omega]
  · have : ¬ (if x = 0 then (0 : Int) else if x < 0 then -1 else 1) < 0 := by rw [if_neg g]; split <;> decide
    rw [if_neg this, show (x.natAbs : Int) = x by omega]
theorem VZ {n : Int} {d : Nat} (fn : Fit n) (fd : Fit (d : Int)) (hd : d ≠ 0) : Ev (fun k => XH.j1 k (Wb n).f_neg (Wb n).f_w (Wb (d : Int)).f_neg (Wb (d : Int)).f_w) (Rb (mkRat n d), none) := by
  unfold XH.j1
  simp only [YU, WT, Option.bind_some]
  have fa : Fit ((n.natAbs : Nat) : Int) := Z7 fn (by rw [Int.natAbs_natCast]; omega)
  refine Ev.bind (UX fa fd) ?_
  have gp : 0 < Nat.gcd n.natAbs d := Nat.gcd_pos_of_pos_right _ (by omega)
  have gle : Nat.gcd n.natAbs d ≤ d := Nat.le_of_dvd (by omega) (Nat.gcd_dvd_right _ _)
  have fg : Fit ((Nat.gcd n.natAbs d : Nat) : Int) := Z7 fd (by rw [Int.natAbs_natCast, Int.natAbs_natCast]; exact gle)
  simp only [Option.isSome_none, Bool.false_eq_true, if_false, YU]
  refine Ev.bind (M9 (by omega) fn fg) ?_
  simp only [Option.isSome_none, Bool.false_eq_true, if_false, YU]
  refine Ev.bind (M9 (by omega) fd fg) ?_
  simp only [Option.isSome_none, Bool.false_eq_true, if_false, YU]
  have e1 : (mkRat n d).num = n / ((Nat.gcd n.natAbs d : Nat) : Int) := by rw [Rat.num_mkRat, if_neg hd, Nat.gcd_comm]
  have e2 : (((mkRat n d).den : Nat) : Int) = (d : Int) / ((Nat.gcd n.natAbs d : Nat) : Int) := by rw [Rat.den_mkRat, if_neg hd, Nat.gcd_comm, Int.natCast_ediv]
  unfold Rb
  rw [e1, e2]
  exact Ev.now
theorem N7 {n d : Int} (fn : Fit n) (fd : Fit d) (hd : d ≠ 0) : Ev (fun k => XH.f k (Wb n) (Wb d)) (Rb (Rat.divInt n d), none) := by
  unfold XH.f
  have nz : ¬ (if d = 0 then (0 : Int) else if d < 0 then -1 else 1) = 0 := by rw [if_neg hd]; split <;> decide
  simp only [YU, Ja, Option.bind_some, if_neg nz, G8]
  have fneg : ∀ x : Int, Fit x → Fit (-x) := fun x h => Z7 h (by rw [Int.natAbs_neg]; omega)
  by_cases g : d < 0
  · simp only [if_neg hd, if_pos g, if_pos (show (-1 : Int) < 0 by decide)]
    have := VZ (n := -n) (d := d.natAbs) (fneg _ fn) (by rw [show (d.natAbs : Int) = -d by omega]; exact fneg _ fd) (by omega)
    rw [show (d.natAbs : Int) = -d by omega, ← Rat.divInt_ofNat, show (d.natAbs : Int) = -d by omega, Rat.neg_divInt_neg] at this
    exact this
  · have : ¬ (if d = 0 then (0 : Int) else if d < 0 then -1 else 1) < 0 := by rw [if_neg g]; split <;> decide
    simp only [if_neg this]
    have := VZ (n := n) (d := d.natAbs) fn (by rw [show (d.natAbs : Int) = d by omega]; exact fd) (by omega)
    rw [show (d.natAbs : Int) = d by omega, ← Rat.divInt_ofNat, show (d.natAbs : Int) = d by omega] at this
    exact this
theorem Wk {r : Rat} {B : Nat} (h : Rs B r) (hB : B < LIM) : Ev (fun k => XH.f k (Wb r.num) (Wb (r.den : Int))) (Rb r, none) := by
  have := N7 (n := r.num) (d := (r.den : Int)) (show Fit r.num from Nat.lt_of_le_of_lt h.num hB) (show Fit (r.den : Int) from by unfold Fit; rw [Int.natAbs_natCast]; exact Nat.lt_of_le_of_lt h.den hB) (by have := r.den_nz; omega)
  rwa [Rat.num_divInt_den] at this
theorem Jz (k : Nat) (r : Rat) : QD.f k (Rb r) = some (Wb (r.den : Int)) := by
  unfold QD.f
  have h := r.den_nz
  have nz : ¬ (if (r.den : Int) = 0 then (0 : Int) else if (r.den : Int) < 0 then -1 else 1) = 0 := by rw [if_neg (by omega)]; split <;> decide
  simp only [Rb_d, W5, Ja, Option.bind_some, if_neg nz]
theorem VH (k : Nat) (r : Rat) : Yz.f k (Rb r) = some (Wb r.num, Wb (r.den : Int)) := by
  unfold Yz.f
  simp only [Zh, Jz, Option.bind_some, YU]
  rfl
theorem Zl {r : Rat} {B : Nat} (h : Rs B r) (hB : B < LIM) : Fit r.num := Nat.lt_of_le_of_lt h.num hB
theorem Zf {r : Rat} {B : Nat} (h : Rs B r) (hB : B < LIM) : Fit (r.den : Int) := by unfold Fit; rw [Int.natAbs_natCast]; exact Nat.lt_of_le_of_lt h.den hB
theorem Zd {r s : Rat} {B C : Nat} (hr : Rs B r) (hs : Rs C s) : (r.num * (s.den : Int)).natAbs ≤ B * C ∧ (s.num * (r.den : Int)).natAbs ≤ B * C ∧ (r.num * s.num).natAbs ≤ B * C ∧ r.den * s.den ≤ B * C := by
  refine ⟨?_, ?_, ?_, Nat.mul_le_mul hr.den hs.den⟩
  · rw [Int.natAbs_mul, Int.natAbs_natCast]; exact Nat.mul_le_mul hr.num hs.den
  · rw [Int.natAbs_mul, Int.natAbs_natCast, Nat.mul_comm]; exact Nat.mul_le_mul hr.den hs.num
  · rw [Int.natAbs_mul]; exact Nat.mul_le_mul hr.num hs.num
theorem ZB {B C : Nat} (hB : 1 ≤ B) (hC : 1 ≤ C) : B ≤ B * C ∧ C ≤ B * C := ⟨Nat.le_mul_of_pos_right _ hC, Nat.le_mul_of_pos_left _ hB⟩
theorem My {r s : Rat} {B C : Nat} (hr : Rs B r) (hs : Rs C s) (h : B * C < LIM) : Ev (fun k => X0.f k (Rb r) (Rb s)) (Wb (r.num * (s.den : Int)), Wb (s.num * (r.den : Int)), none) := by
  obtain ⟨c1, c2, -, -⟩ := Zd hr hs
  obtain ⟨p1, p2⟩ := ZB hr.pos hs.pos
  unfold X0.f
  simp only [Zh, Jz, Option.bind_some]
  (try simp only [Rb_n, O1, YU])
  refine Ev.bind (JR (Zl hr (by omega)) (Zf hs (by omega)) (by unfold Fit; omega)) ?_
  simp only [Option.isSome_none, Bool.false_eq_true, if_false, YU]
  refine Ev.bind (JR (Zl hs (by omega)) (Zf hr (by omega)) (by unfold Fit; omega)) ?_
  (try simp only [YU]); exact Ev.now
theorem Ni {r s : Rat} {B C : Nat} {x y : Int} (hr : Rs B r) (hs : Rs C s) (h : 2 * (B * C) < LIM) (hx : x.natAbs ≤ B * C) (hy : y.natAbs ≤ B * C) :
    Ev (fun k => Q6.j1 k (Rb r).f_n.f_neg (Rb r).f_n.f_w (Rb r).f_d.f_neg (Rb r).f_d.f_w (Rb s).f_n.f_neg (Rb s).f_n.f_w (Rb s).f_d.f_neg (Rb s).f_d.f_w (Wb x).f_neg (Wb x).f_w (Wb y).f_neg (Wb y).f_w) (Rb (mkRat (x + y) (r.den * s.den)), none) := by
  obtain ⟨-, -, -, c4⟩ := Zd hr hs
  obtain ⟨p1, p2⟩ := ZB hr.pos hs.pos
  unfold Q6.j1
  simp only [Zh, Jz, Option.bind_some, YU]
  refine Ev.bind (VG (show Fit x by unfold Fit; omega) (show Fit y by unfold Fit; omega) (show Fit (x + y) by unfold Fit; omega)) ?_
  simp only [Option.isSome_none, Bool.false_eq_true, if_false, YU]
  refine Ev.bind (JR (Zf hr (by omega)) (Zf hs (by omega)) (by unfold Fit; rw [← Int.natCast_mul, Int.natAbs_natCast]; omega)) ?_
  simp only [Option.isSome_none, Bool.false_eq_true, if_false, YU]
  have nz : r.den * s.den ≠ 0 := Nat.mul_ne_zero r.den_nz s.den_nz
  refine Ev.bind (N7 (n := x + y) (d := (r.den : Int) * (s.den : Int)) (by unfold Fit; omega) (by unfold Fit; rw [← Int.natCast_mul, Int.natAbs_natCast]; omega) (by rw [← Int.natCast_mul]; omega)) ?_
  rw [← Int.natCast_mul, Rat.divInt_ofNat]
  (try simp only [Zh])
  exact Ev.now
theorem Ox {r s : Rat} {B C : Nat} (hr : Rs B r) (hs : Rs C s) (h : 2 * (B * C) < LIM) : Ev (fun k => XY.f k (Rb r) (Rb s)) (Rb (r + s), none) := by
  obtain ⟨c1, c2, -, -⟩ := Zd hr hs
  have J := Ni hr hs h c1 c2
  rw [← Rat.add_def'] at J
  have K : Ev (fun k => Q6.f k (Rb r) (Rb s) false) (Rb (r + s), none) := by
    unfold Q6.f
    (try simp only [Zh])
    refine Ev.bind (My hr hs (by omega)) ?_
    simp only [Option.isSome_none, Bool.false_eq_true, if_false]; exact J
  unfold XY.f
  (try simp only [Zh])
  refine Ev.bind K ?_
  (try simp only [Zh]); exact Ev.now
theorem OE {r s : Rat} {B C : Nat} (hr : Rs B r) (hs : Rs C s) (h : 2 * (B * C) < LIM) : Ev (fun k => X5.f k (Rb r) (Rb s)) (Rb (r - s), none) := by
  obtain ⟨c1, c2, -, -⟩ := Zd hr hs
  have J := Ni (y := -(s.num * (r.den : Int))) hr hs h c1 (by rw [Int.natAbs_neg]; exact c2)
  rw [← Int.sub_eq_add_neg, ← Rat.sub_def'] at J
  have K : Ev (fun k => Q6.f k (Rb r) (Rb s) true) (Rb (r - s), none) := by
    unfold Q6.f
    (try simp only [Zh])
    refine Ev.bind (My hr hs (by omega)) ?_
    simp only [Option.isSome_none, Bool.false_eq_true, if_false, if_true, YU, G8, Option.bind_some]; exact J
  unfold X5.f
  (try simp only [Zh])
  refine Ev.bind K ?_
  (try simp only [Zh]); exact Ev.now
theorem UF {r s : Rat} {B C : Nat} (hr : Rs B r) (hs : Rs C s) : Rs (2 * (B * C)) (r + s) := by
  obtain ⟨c1, c2, -, c4⟩ := Zd hr hs
  have := Nat.mul_le_mul hr.pos hs.pos
  rw [Rat.add_def']
  exact Jm (by omega) (by omega) (by omega)
theorem U6 {r s : Rat} {B C : Nat} (hr : Rs B r) (hs : Rs C s) : Rs (2 * (B * C)) (r - s) := by
  obtain ⟨c1, c2, -, c4⟩ := Zd hr hs
  have := Nat.mul_le_mul hr.pos hs.pos
  rw [Rat.sub_def']
  exact Jm (by omega) (by omega) (by omega)
theorem ZZ {r s : Rat} {B C : Nat} (hr : Rs B r) (hs : Rs C s) : Rs (B * C) (r * s) := by
  obtain ⟨-, -, c3, c4⟩ := Zd hr hs
  have := Nat.mul_le_mul hr.pos hs.pos
  rw [Rat.mul_def']
  exact Jm c3 c4 (by omega)
theorem MX {n m d e : Int} (fn : Fit n) (fm : Fit m) (fd : Fit d) (fe : Fit e) (f1 : Fit (n * m)) (f2 : Fit (d * e)) (h : d * e ≠ 0) : Ev (fun k => Yj.f k (Wb n) (Wb m) (Wb d) (Wb e)) (Rb (Rat.divInt (n * m) (d * e)), none) := by
  unfold Yj.f
  (try simp only [YU])
  refine Ev.bind (JR fn fm f1) ?_
  simp only [Option.isSome_none, Bool.false_eq_true, if_false, YU]
  refine Ev.bind (JR fd fe f2) ?_
  simp only [Option.isSome_none, Bool.false_eq_true, if_false, YU]
  refine Ev.bind (N7 f1 f2 h) ?_
  (try simp only [Zh]); exact Ev.now
theorem G2 {r s : Rat} {B C : Nat} (hr : Rs B r) (hs : Rs C s) (h : B * C < LIM) : Ev (fun k => Ym.f k (Rb r) (Rb s)) (Rb (r * s), none) := by
  obtain ⟨-, -, c3, c4⟩ := Zd hr hs
  obtain ⟨p1, p2⟩ := ZB hr.pos hs.pos
  have nz : r.den * s.den ≠ 0 := Nat.mul_ne_zero r.den_nz s.den_nz
  unfold Ym.f
  simp only [Zh, Jz, Option.bind_some]
  (try simp only [Rb_n, O1, YU])
  refine Ev.bind (MX (Zl hr (by omega)) (Zl hs (by omega)) (Zf hr (by omega)) (Zf hs (by omega)) (by unfold Fit; omega) (by unfold Fit; rw [← Int.natCast_mul, Int.natAbs_natCast]; omega) (by rw [← Int.natCast_mul]; omega)) ?_
  rw [← Int.natCast_mul, Rat.divInt_ofNat, ← Rat.mul_def']
  (try simp only [Zh]); exact Ev.now
theorem Gn (r s : Rat) : r / s = Rat.divInt (r.num * (s.den : Int)) ((r.den : Int) * s.num) := by
  rw [Rat.div_def, Rat.inv_def]
  conv => lhs; rw [← Rat.num_divInt_den r]
  rw [Rat.divInt_mul_divInt]
theorem GW {r s : Rat} {B C : Nat} (hr : Rs B r) (hs : Rs C s) (h : B * C < LIM) (h0 : s ≠ 0) : Ev (fun k => Yo.f k (Rb r) (Rb s)) (Rb (r / s), none) := by
  obtain ⟨c1, c2, -, -⟩ := Zd hr hs
  obtain ⟨p1, p2⟩ := ZB hr.pos hs.pos
  have n0 : s.num ≠ 0 := fun e => h0 (Rat.num_eq_zero.1 e)
  have nz : ¬ (if s.num = 0 then (0 : Int) else if s.num < 0 then -1 else 1) = 0 := by rw [if_neg n0]; split <;> decide
  unfold Yo.f
  simp only [Zh, Jz, Option.bind_some]
  simp only [Rb_n, O1, Ja, Option.bind_some, YU, if_neg nz]
  have d0 : (r.den : Int) * s.num ≠ 0 := Int.mul_ne_zero (by have := r.den_nz; omega) n0
  refine Ev.bind (MX (Zl hr (by omega)) (Zf hs (by omega)) (Zf hr (by omega)) (Zl hs (by omega)) (by unfold Fit; omega) (by unfold Fit; rw [Int.mul_comm]; omega) d0) ?_
  rw [← Gn]
  (try simp only [Zh]); exact Ev.now
theorem ZX {r s : Rat} {B C : Nat} (hr : Rs B r) (hs : Rs C s) (h0 : s ≠ 0) : Rs (B * C) (r / s) := by
  obtain ⟨c1, c2, -, -⟩ := Zd hr hs
  have hp := Nat.mul_le_mul hr.pos hs.pos
  have n0 : s.num ≠ 0 := fun e => h0 (Rat.num_eq_zero.1 e)
  rw [Gn]
  by_cases g : s.num < 0
  · rw [← Rat.neg_divInt_neg, show -((r.den : Int) * s.num) = ((r.den * s.num.natAbs : Nat) : Int) by rw [Int.natCast_mul, ← Int.mul_neg]; congr 1; omega, Rat.divInt_ofNat]
    exact Jm (by rw [Int.natAbs_neg]; exact c1) (by rw [Int.natAbs_mul, Int.natAbs_natCast, Nat.mul_comm] at c2; exact c2) (by omega)
  · rw [show (r.den : Int) * s.num = ((r.den * s.num.natAbs : Nat) : Int) by rw [Int.natCast_mul]; congr 1; omega, Rat.divInt_ofNat]
    exact Jm c1 (by rw [Int.natAbs_mul, Int.natAbs_natCast, Nat.mul_comm] at c2; exact c2) (by omega)
/-- how two fractions lie -/
def rcmp (r s : Rat) : Int := sgn3 (r.num * (s.den : Int)) (s.num * (r.den : Int))
theorem J4 {r s : Rat} {B C : Nat} (hr : Rs B r) (hs : Rs C s) (h : B * C < LIM) : Ev (fun k => XW.f k (Rb r) (Rb s)) (rcmp r s, none) := by
  obtain ⟨c1, c2, -, -⟩ := Zd hr hs
  unfold XW.f
  (try simp only [Zh])
  refine Ev.bind (My hr hs h) ?_
  simp only [Option.isSome_none, Bool.false_eq_true, if_false, YU]
  exact Ev.bind (Vi (by unfold Fit; omega) (by unfold Fit; omega)) Ev.now
theorem G5 {r s : Rat} : rcmp r s < 0 ↔ r < s := by
  rw [Rat.lt_iff]; unfold rcmp sgn3
  split
  · simp [*]
  · split <;> simp [*]
theorem JD {r s : Rat} : 0 < rcmp r s ↔ s < r := by
  rw [Rat.lt_iff]; unfold rcmp sgn3
  split
  · rename_i h; simp; omega
  · split <;> simp [*]
/-- a fraction's text -/
def rtxt (r : Rat) : ByteArray := (txt r.num ++ strOf [47]) ++ txt (r.den : Int)
theorem Uk : ∃ s : ByteArray, (∀ (k : Nat) (a : QG), Xq.f k a = (Qp.f k (⟨a.f_n.f_neg, a.f_n.f_w⟩ : Qu)).bind fun y2 => if (y2.size + s.size : Int) ≤ 9223372036854775807 then ((QD.f k (⟨(⟨a.f_n.f_neg, a.f_n.f_w⟩ : Qu), (⟨a.f_d.f_neg, a.f_d.f_w⟩ : Qu)⟩ : QG)).bind fun y7 => (Qp.f k (⟨y7.f_neg, y7.f_w⟩ : Qu)).bind fun y13 => if ((y2 ++ s).size + y13.size : Int) ≤ 9223372036854775807 then (some ((y2 ++ s) ++ y13)) else none) else none) ∧ s = strOf [47] := ⟨_, fun _ _ => rfl, by decide +kernel⟩
theorem Gk {x : Int} (h : Ln x < 1000000) : (txt x).size ≤ 1000002 := by
  unfold txt txtL
  have := (NI x.natAbs).2
  unfold Ln at h
  rw [Zx, List.length_append, ZD]
  have : (if x < 0 then [(45 : Int)] else []).length ≤ 1 := by split <;> simp
  omega
theorem YY {x : Int} (h : Fit x) : Ln x ≤ 1300 := by
  refine Gp (Nat.lt_of_lt_of_le h ?_)
  show LIM ≤ 10 ^ 1300
  decide +kernel
theorem Oa {n d : Int} {a : QG} (h1 : (⟨a.f_n.f_neg, a.f_n.f_w⟩ : Qu) = Wb n) (h2 : Ev (fun k => QD.f k (⟨(⟨a.f_n.f_neg, a.f_n.f_w⟩ : Qu), (⟨a.f_d.f_neg, a.f_d.f_w⟩ : Qu)⟩ : QG)) (Wb d)) (fn : Fit n) (fd : Fit d) :
    Ev (fun k => Xq.f k a) ((txt n ++ strOf [47]) ++ txt d) := by
  obtain ⟨s, hs, e⟩ := Uk
  have l1 := YY fn; have l2 := YY fd
  have w1 := ZY fn; have w2 := ZY fd
  have s1 := Gk (x := n) (by omega); have s2 := Gk (x := d) (by omega)
  have s47 : s.size = 1 := by rw [e, Zx]; rfl
  rw [h1] at h2
  simp only [hs, h1]
  refine Ev.bind (NZ (by omega) (by omega)) ?_
  simp only [if_pos (show ((txt n).size : Int) + (s.size : Int) ≤ 9223372036854775807 by omega), YU]
  refine Ev.bind h2 ?_
  (try simp only [YU])
  refine Ev.bind (NZ (by omega) (by omega)) ?_
  simp only [ByteArray.size_append, if_pos (show (((txt n).size + s.size : Nat) : Int) + ((txt d).size : Int) ≤ 9223372036854775807 by omega)]
  rw [e]; exact Ev.now
theorem MO {r : Rat} {B : Nat} (h : Rs B r) (hB : B < LIM) : Ev (fun k => Xq.f k (Rb r)) (rtxt r) :=
  Oa (n := r.num) (d := (r.den : Int)) rfl (by simp only [Zh, Jz]; exact Ev.now) (Zl h hB) (Zf h hB)
/-- the fraction of noughts -/
theorem OY : Ev (fun k => QD.f k (⟨Wb 0, Wb 0⟩ : QG)) (Wb 1) := by
  unfold QD.f
  simp only [YU, Ja, Option.bind_some, if_true]
  exact Ev.bind (UL (x := 1) (by decide)) (by (try simp only [YU]); exact Ev.now)
theorem VQ : txt 0 = strOf [48] := by unfold txt txtL Mg E48; simp
theorem V7 : txt 1 = strOf [49] := by
  unfold txt txtL Mg E48
  have : dg 1 = [1] := by rw [JG (by decide)]; simp [Za]
  simp [this]
theorem NW : Ev (fun k => Xq.f k (⟨Wb 0, Wb 0⟩ : QG)) (strOf [48, 47, 49]) := by
  have h := Oa (n := 0) (d := 1) (a := ⟨Wb 0, Wb 0⟩) rfl OY Vn (by show (1 : Int).natAbs < LIM; decide +kernel)
  rw [VQ, V7, ← JS, ← JS] at h
  exact h
end Go.Proofs.YtkccpkccdbfomaaGreatDoor.Pure

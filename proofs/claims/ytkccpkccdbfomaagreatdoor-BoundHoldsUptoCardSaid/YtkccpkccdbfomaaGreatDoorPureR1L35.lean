/- Fractions of the program (ratio): they are rational numbers. -/
import Derived.Test.YtkccpkccdbfomaaGreatDoorPureW13L35
namespace Go.Proofs.YtkccpkccdbfomaaGreatDoor.Pure
open Go.RowKit Go.Proofs.YtkccpkccdbfomaaGreatDoorK Go.Proofs.YtkccpkccdbfomaaGreatDoor.GBH
set_option linter.unusedVariables false
set_option linter.unusedSimpArgs false
def Rb (r : Rat) : Qe := ⟨Wb r.num, Wb (r.den : Int)⟩
theorem Y9 (r : Rat) : (⟨(⟨(Rb r).f_n.f_neg, (Rb r).f_n.f_w⟩ : Qq), (⟨(Rb r).f_d.f_neg, (Rb r).f_d.f_w⟩ : Qq)⟩ : Qe) = Rb r := rfl
theorem Rb_n (r : Rat) : (⟨(Rb r).f_n.f_neg, (Rb r).f_n.f_w⟩ : Qq) = Wb r.num := rfl
theorem Rb_d (r : Rat) : (⟨(Rb r).f_d.f_neg, (Rb r).f_d.f_w⟩ : Qq) = Wb (r.den : Int) := rfl
theorem Wa (r : Rat) : (Rb r).f_n = Wb r.num := rfl
theorem QaR (r : Rat) : (Rb r).f_d = Wb (r.den : Int) := rfl
/-- both parts of a fraction are at most so great -/
structure Rs (B : Nat) (r : Rat) : Prop where
  num : r.num.natAbs ≤ B
  den : r.den ≤ B
theorem Rs.mono {B C : Nat} {r : Rat} (h : Rs B r) (hle : B ≤ C) : Rs C r := ⟨Nat.le_trans h.num hle, Nat.le_trans h.den hle⟩
theorem Rs.pos {B : Nat} {r : Rat} (h : Rs B r) : 1 ≤ B := Nat.le_trans (Nat.pos_of_ne_zero r.den_nz) h.den
theorem natAbs_div_le' (n : Int) (g : Nat) : (n / (g : Int)).natAbs ≤ n.natAbs := Int.natAbs_ediv_le_natAbs n g
theorem ZX {n : Int} {d B : Nat} (hn : n.natAbs ≤ B) (hd : d ≤ B) (h1 : 1 ≤ B) : Rs B (mkRat n d) := by
  refine ⟨?_, ?_⟩
  · rw [Rat.num_mkRat]; split
    · simp
    · exact Nat.le_trans (natAbs_div_le' _ _) hn
  · rw [Rat.den_mkRat]; split
    · exact h1
    · exact Nat.le_trans (Nat.div_le_self _ _) hd
theorem Vh {t4 : Bool} {t4' : List Int} {t5 : Option Int} : ∀ (b a : Nat), Fit (a : Int) → Fit (b : Int) → Ev (fun k => (QM.hs k).l0 (Wb (a : Int)).f_neg (Wb (a : Int)).f_w (Wb (b : Int)).f_neg (Wb (b : Int)).f_w t4 t4' t5) (Wb ((Nat.gcd a b : Nat) : Int), none) := by
  intro b
  induction b using Nat.strongRecOn with
  | _ b ih =>
    intro a fa fb
    refine Ev.step (fun k => rfl) ?_
    simp only [QM.hs, QM.b0, YB, ZY, Option.bind_some]
    by_cases z : b = 0
    · subst z
      simp only [Nat.gcd_zero_right, if_pos (show ((0 : Nat) : Int) = 0 by rfl), if_true]
      exact Ev.now
    · have nz : ¬ (if (b : Int) = 0 then (0 : Int) else if (b : Int) < 0 then -1 else 1) = 0 := by rw [if_neg (by omega)]; split <;> decide
      simp only [if_neg nz]
      refine Ev.bind (MH (show (b : Int) ≠ 0 by omega) fa fb) ?_
      simp only [Option.isSome_none, Bool.false_eq_true, if_false]
      have em : (a : Int) % (b : Int) = ((a % b : Nat) : Int) := (Int.natCast_emod a b).symm
      have lt := Nat.mod_lt a (show 0 < b by omega)
      have hb := ih (a % b) lt b fb (ZO fb (by rw [Int.natAbs_natCast, Int.natAbs_natCast]; omega))
      rw [em]
      rw [show Nat.gcd a b = Nat.gcd b (a % b) by rw [Nat.gcd_comm a b, Nat.gcd_rec b a, Nat.gcd_comm]]
      exact hb
theorem Uz {a b : Nat} (fa : Fit (a : Int)) (fb : Fit (b : Int)) : Ev (fun k => QM.f k (Wb (a : Int)) (Wb (b : Int))) (Wb ((Nat.gcd a b : Nat) : Int), none) := Vh b a fa fb
theorem Qal (k : Nat) (x : Int) : Yx.f k (Wb x) = some (Wb (x.natAbs : Int)) := by
  unfold Yx.f
  simp only [YB, ZY, Option.bind_some, GB]
  by_cases g : x < 0
  · rw [if_neg (show ¬ x = 0 by omega), if_pos g, if_pos (by decide), show -x = (x.natAbs : Int) by omega]
  · have : ¬ (if x = 0 then (0 : Int) else if x < 0 then -1 else 1) < 0 := by rw [if_neg g]; split <;> decide
    rw [if_neg this, show (x.natAbs : Int) = x by omega]
theorem Wf {n : Int} {d : Nat} (fn : Fit n) (fd : Fit (d : Int)) (hd : d ≠ 0) : Ev (fun k => XA.j1 k (Wb n).f_neg (Wb n).f_w (Wb (d : Int)).f_neg (Wb (d : Int)).f_w) (Rb (mkRat n d), none) := by
  unfold XA.j1
  simp only [YB, Qal, Option.bind_some]
  have fa : Fit ((n.natAbs : Nat) : Int) := ZO fn (by rw [Int.natAbs_natCast]; omega)
  refine Ev.bind (Uz fa fd) ?_
  have gp : 0 < Nat.gcd n.natAbs d := Nat.gcd_pos_of_pos_right _ (by omega)
  have gle : Nat.gcd n.natAbs d ≤ d := Nat.le_of_dvd (by omega) (Nat.gcd_dvd_right _ _)
  have fg : Fit ((Nat.gcd n.natAbs d : Nat) : Int) := ZO fd (by rw [Int.natAbs_natCast, Int.natAbs_natCast]; exact gle)
  simp only [Option.isSome_none, Bool.false_eq_true, if_false, YB]
  refine Ev.bind (MH (by omega) fn fg) ?_
  simp only [Option.isSome_none, Bool.false_eq_true, if_false, YB]
  refine Ev.bind (MH (by omega) fd fg) ?_
  simp only [Option.isSome_none, Bool.false_eq_true, if_false, YB]
  have e1 : (mkRat n d).num = n / ((Nat.gcd n.natAbs d : Nat) : Int) := by rw [Rat.num_mkRat, if_neg hd, Nat.gcd_comm]
  have e2 : (((mkRat n d).den : Nat) : Int) = (d : Int) / ((Nat.gcd n.natAbs d : Nat) : Int) := by rw [Rat.den_mkRat, if_neg hd, Nat.gcd_comm, Int.natCast_ediv]
  unfold Rb
  rw [e1, e2]
  exact Ev.now
theorem MC {n d : Int} (fn : Fit n) (fd : Fit d) (hd : d ≠ 0) : Ev (fun k => XA.f k (Wb n) (Wb d)) (Rb (Rat.divInt n d), none) := by
  unfold XA.f
  have nz : ¬ (if d = 0 then (0 : Int) else if d < 0 then -1 else 1) = 0 := by rw [if_neg hd]; split <;> decide
  simp only [YB, ZY, Option.bind_some, if_neg nz, GB]
  have fneg : ∀ x : Int, Fit x → Fit (-x) := fun x h => ZO h (by rw [Int.natAbs_neg]; omega)
  by_cases g : d < 0
  · simp only [if_neg hd, if_pos g, if_pos (show (-1 : Int) < 0 by decide)]
    have := Wf (n := -n) (d := d.natAbs) (fneg _ fn) (by rw [show (d.natAbs : Int) = -d by omega]; exact fneg _ fd) (by omega)
    rw [show (d.natAbs : Int) = -d by omega, ← Rat.divInt_ofNat, show (d.natAbs : Int) = -d by omega, Rat.neg_divInt_neg] at this
    exact this
  · have : ¬ (if d = 0 then (0 : Int) else if d < 0 then -1 else 1) < 0 := by rw [if_neg g]; split <;> decide
    simp only [if_neg this]
    have := Wf (n := n) (d := d.natAbs) fn (by rw [show (d.natAbs : Int) = d by omega]; exact fd) (by omega)
    rw [show (d.natAbs : Int) = d by omega, ← Rat.divInt_ofNat, show (d.natAbs : Int) = d by omega] at this
    exact this
theorem Wx {r : Rat} {B : Nat} (h : Rs B r) (hB : B < LIM) : Ev (fun k => XA.f k (Wb r.num) (Wb (r.den : Int))) (Rb r, none) := by
  have := MC (n := r.num) (d := (r.den : Int)) (show Fit r.num from Nat.lt_of_le_of_lt h.num hB) (show Fit (r.den : Int) from by unfold Fit; rw [Int.natAbs_natCast]; exact Nat.lt_of_le_of_lt h.den hB) (by have := r.den_nz; omega)
  rwa [Rat.num_divInt_den] at this
theorem JI (k : Nat) (r : Rat) : Qx.f k (Rb r) = some (Wb (r.den : Int)) := by
  unfold Qx.f
  have h := r.den_nz
  have nz : ¬ (if (r.den : Int) = 0 then (0 : Int) else if (r.den : Int) < 0 then -1 else 1) = 0 := by rw [if_neg (by omega)]; split <;> decide
  simp only [Rb_d, QaR, ZY, Option.bind_some, if_neg nz]
theorem Vz (k : Nat) (r : Rat) : XW.f k (Rb r) = some (Wb r.num, Wb (r.den : Int)) := by
  unfold XW.f
  simp only [Y9, JI, Option.bind_some, YB]
  rfl
theorem JU {r : Rat} {B : Nat} (h : Rs B r) (hB : B < LIM) : Fit r.num := Nat.lt_of_le_of_lt h.num hB
theorem Jg {r : Rat} {B : Nat} (h : Rs B r) (hB : B < LIM) : Fit (r.den : Int) := by unfold Fit; rw [Int.natAbs_natCast]; exact Nat.lt_of_le_of_lt h.den hB
theorem ZC {r s : Rat} {B C : Nat} (hr : Rs B r) (hs : Rs C s) : (r.num * (s.den : Int)).natAbs ≤ B * C ∧ (s.num * (r.den : Int)).natAbs ≤ B * C ∧ (r.num * s.num).natAbs ≤ B * C ∧ r.den * s.den ≤ B * C := by
  refine ⟨?_, ?_, ?_, Nat.mul_le_mul hr.den hs.den⟩
  · rw [Int.natAbs_mul, Int.natAbs_natCast]; exact Nat.mul_le_mul hr.num hs.den
  · rw [Int.natAbs_mul, Int.natAbs_natCast, Nat.mul_comm]; exact Nat.mul_le_mul hr.den hs.num
  · rw [Int.natAbs_mul]; exact Nat.mul_le_mul hr.num hs.num
theorem MR {B C : Nat} (hB : 1 ≤ B) (hC : 1 ≤ C) : B ≤ B * C ∧ C ≤ B * C := ⟨Nat.le_mul_of_pos_right _ hC, Nat.le_mul_of_pos_left _ hB⟩
theorem GU {r s : Rat} {B C : Nat} (hr : Rs B r) (hs : Rs C s) (h : B * C < LIM) : Ev (fun k => XP.f k (Rb r) (Rb s)) (Wb (r.num * (s.den : Int)), Wb (s.num * (r.den : Int)), none) := by
  obtain ⟨c1, c2, -, -⟩ := ZC hr hs
  obtain ⟨p1, p2⟩ := MR hr.pos hs.pos
  unfold XP.f
  simp only [Y9, JI, Option.bind_some]
  (try simp only [Rb_n, Wa, YB])
  refine Ev.bind (JF (JU hr (by omega)) (Jg hs (by omega)) (by unfold Fit; omega)) ?_
  simp only [Option.isSome_none, Bool.false_eq_true, if_false, YB]
  refine Ev.bind (JF (JU hs (by omega)) (Jg hr (by omega)) (by unfold Fit; omega)) ?_
  (try simp only [YB]); exact Ev.now
theorem M4 {r s : Rat} {B C : Nat} {x y : Int} (hr : Rs B r) (hs : Rs C s) (h : 2 * (B * C) < LIM) (hx : x.natAbs ≤ B * C) (hy : y.natAbs ≤ B * C) :
    Ev (fun k => QL.j1 k (Rb r).f_n.f_neg (Rb r).f_n.f_w (Rb r).f_d.f_neg (Rb r).f_d.f_w (Rb s).f_n.f_neg (Rb s).f_n.f_w (Rb s).f_d.f_neg (Rb s).f_d.f_w (Wb x).f_neg (Wb x).f_w (Wb y).f_neg (Wb y).f_w) (Rb (mkRat (x + y) (r.den * s.den)), none) := by
  obtain ⟨-, -, -, c4⟩ := ZC hr hs
  obtain ⟨p1, p2⟩ := MR hr.pos hs.pos
  unfold QL.j1
  simp only [Y9, JI, Option.bind_some, YB]
  refine Ev.bind (VS (show Fit x by unfold Fit; omega) (show Fit y by unfold Fit; omega) (show Fit (x + y) by unfold Fit; omega)) ?_
  simp only [Option.isSome_none, Bool.false_eq_true, if_false, YB]
  refine Ev.bind (JF (Jg hr (by omega)) (Jg hs (by omega)) (by unfold Fit; rw [← Int.natCast_mul, Int.natAbs_natCast]; omega)) ?_
  simp only [Option.isSome_none, Bool.false_eq_true, if_false, YB]
  have nz : r.den * s.den ≠ 0 := Nat.mul_ne_zero r.den_nz s.den_nz
  refine Ev.bind (MC (n := x + y) (d := (r.den : Int) * (s.den : Int)) (by unfold Fit; omega) (by unfold Fit; rw [← Int.natCast_mul, Int.natAbs_natCast]; omega) (by rw [← Int.natCast_mul]; omega)) ?_
  rw [← Int.natCast_mul, Rat.divInt_ofNat]
  (try simp only [Y9])
  exact Ev.now
theorem Ox {r s : Rat} {B C : Nat} (hr : Rs B r) (hs : Rs C s) (h : 2 * (B * C) < LIM) : Ev (fun k => XQ.f k (Rb r) (Rb s)) (Rb (r + s), none) := by
  obtain ⟨c1, c2, -, -⟩ := ZC hr hs
  have J := M4 hr hs h c1 c2
  rw [← Rat.add_def'] at J
  have K : Ev (fun k => QL.f k (Rb r) (Rb s) false) (Rb (r + s), none) := by
    unfold QL.f
    (try simp only [Y9])
    refine Ev.bind (GU hr hs (by omega)) ?_
    simp only [Option.isSome_none, Bool.false_eq_true, if_false]; exact J
  unfold XQ.f
  (try simp only [Y9])
  refine Ev.bind K ?_
  (try simp only [Y9]); exact Ev.now
theorem MX {r s : Rat} {B C : Nat} (hr : Rs B r) (hs : Rs C s) (h : 2 * (B * C) < LIM) : Ev (fun k => XK.f k (Rb r) (Rb s)) (Rb (r - s), none) := by
  obtain ⟨c1, c2, -, -⟩ := ZC hr hs
  have J := M4 (y := -(s.num * (r.den : Int))) hr hs h c1 (by rw [Int.natAbs_neg]; exact c2)
  rw [← Int.sub_eq_add_neg, ← Rat.sub_def'] at J
  have K : Ev (fun k => QL.f k (Rb r) (Rb s) true) (Rb (r - s), none) := by
    unfold QL.f
    (try simp only [Y9])
    refine Ev.bind (GU hr hs (by omega)) ?_
    simp only [Option.isSome_none, Bool.false_eq_true, if_false, if_true, YB, GB, Option.bind_some]; exact J
  unfold XK.f
  (try simp only [Y9])
  refine Ev.bind K ?_
  (try simp only [Y9]); exact Ev.now
theorem Uq {r s : Rat} {B C : Nat} (hr : Rs B r) (hs : Rs C s) : Rs (2 * (B * C)) (r + s) := by
  obtain ⟨c1, c2, -, c4⟩ := ZC hr hs
  have := Nat.mul_le_mul hr.pos hs.pos
  rw [Rat.add_def']
  exact ZX (by omega) (by omega) (by omega)
theorem Mj {r s : Rat} {B C : Nat} (hr : Rs B r) (hs : Rs C s) : Rs (2 * (B * C)) (r - s) := by
  obtain ⟨c1, c2, -, c4⟩ := ZC hr hs
  have := Nat.mul_le_mul hr.pos hs.pos
  rw [Rat.sub_def']
  exact ZX (by omega) (by omega) (by omega)
theorem Mr {r s : Rat} {B C : Nat} (hr : Rs B r) (hs : Rs C s) : Rs (B * C) (r * s) := by
  obtain ⟨-, -, c3, c4⟩ := ZC hr hs
  have := Nat.mul_le_mul hr.pos hs.pos
  rw [Rat.mul_def']
  exact ZX c3 c4 (by omega)
theorem Uj {n m d e : Int} (fn : Fit n) (fm : Fit m) (fd : Fit d) (fe : Fit e) (f1 : Fit (n * m)) (f2 : Fit (d * e)) (h : d * e ≠ 0) : Ev (fun k => X7.f k (Wb n) (Wb m) (Wb d) (Wb e)) (Rb (Rat.divInt (n * m) (d * e)), none) := by
  unfold X7.f
  (try simp only [YB])
  refine Ev.bind (JF fn fm f1) ?_
  simp only [Option.isSome_none, Bool.false_eq_true, if_false, YB]
  refine Ev.bind (JF fd fe f2) ?_
  simp only [Option.isSome_none, Bool.false_eq_true, if_false, YB]
  refine Ev.bind (MC f1 f2 h) ?_
  (try simp only [Y9]); exact Ev.now
theorem GC {r s : Rat} {B C : Nat} (hr : Rs B r) (hs : Rs C s) (h : B * C < LIM) : Ev (fun k => Xx.f k (Rb r) (Rb s)) (Rb (r * s), none) := by
  obtain ⟨-, -, c3, c4⟩ := ZC hr hs
  obtain ⟨p1, p2⟩ := MR hr.pos hs.pos
  have nz : r.den * s.den ≠ 0 := Nat.mul_ne_zero r.den_nz s.den_nz
  unfold Xx.f
  simp only [Y9, JI, Option.bind_some]
  (try simp only [Rb_n, Wa, YB])
  refine Ev.bind (Uj (JU hr (by omega)) (JU hs (by omega)) (Jg hr (by omega)) (Jg hs (by omega)) (by unfold Fit; omega) (by unfold Fit; rw [← Int.natCast_mul, Int.natAbs_natCast]; omega) (by rw [← Int.natCast_mul]; omega)) ?_
  rw [← Int.natCast_mul, Rat.divInt_ofNat, ← Rat.mul_def']
  (try simp only [Y9]); exact Ev.now
/-- how two fractions lie -/
def rcmp (r s : Rat) : Int := sgn3 (r.num * (s.den : Int)) (s.num * (r.den : Int))
theorem WV {r s : Rat} {B C : Nat} (hr : Rs B r) (hs : Rs C s) (h : B * C < LIM) : Ev (fun k => X2.f k (Rb r) (Rb s)) (rcmp r s, none) := by
  obtain ⟨c1, c2, -, -⟩ := ZC hr hs
  unfold X2.f
  (try simp only [Y9])
  refine Ev.bind (GU hr hs h) ?_
  simp only [Option.isSome_none, Bool.false_eq_true, if_false, YB]
  exact Ev.bind (Vu (by unfold Fit; omega) (by unfold Fit; omega)) Ev.now
theorem Ow {r s : Rat} : rcmp r s < 0 ↔ r < s := by
  rw [Rat.lt_iff]; unfold rcmp sgn3
  split
  · simp [*]
  · split <;> simp [*]
theorem WR {r s : Rat} : 0 < rcmp r s ↔ s < r := by
  rw [Rat.lt_iff]; unfold rcmp sgn3
  split
  · rename_i h; simp; omega
  · split <;> simp [*]
theorem UI {x : Int} (h : Fit x) : Ln x ≤ 1300 := by
  refine O8 (Nat.lt_of_lt_of_le h ?_)
  show LIM ≤ 10 ^ 1300
  decide +kernel
/-- the fraction of noughts -/
theorem Zy : Ev (fun k => Qx.f k (⟨Wb 0, Wb 0⟩ : Qe)) (Wb 1) := by
  unfold Qx.f
  simp only [YB, ZY, Option.bind_some, if_true]
  exact Ev.bind (Md (x := 1) (by decide)) (by (try simp only [YB]); exact Ev.now)
end Go.Proofs.YtkccpkccdbfomaaGreatDoor.Pure

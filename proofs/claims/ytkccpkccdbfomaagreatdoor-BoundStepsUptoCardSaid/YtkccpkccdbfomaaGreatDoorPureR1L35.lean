/- Fractions of the program (ratio): they are rational numbers. -/
import Derived.Test.YtkccpkccdbfomaaGreatDoorPureW13L35
namespace Go.Proofs.YtkccpkccdbfomaaGreatDoor.Pure
open Go.RowKit Go.Proofs.YtkccpkccdbfomaaGreatDoorK Go.Proofs.YtkccpkccdbfomaaGreatDoor.GBP
set_option linter.unusedVariables false
set_option linter.unusedSimpArgs false
def Rb (r : Rat) : Qf := ⟨Wb r.num, Wb (r.den : Int)⟩
theorem Y3 (r : Rat) : (⟨(⟨(Rb r).f_n.f_neg, (Rb r).f_n.f_w⟩ : Qv), (⟨(Rb r).f_d.f_neg, (Rb r).f_d.f_w⟩ : Qv)⟩ : Qf) = Rb r := rfl
theorem Rb_n (r : Rat) : (⟨(Rb r).f_n.f_neg, (Rb r).f_n.f_w⟩ : Qv) = Wb r.num := rfl
theorem Rb_d (r : Rat) : (⟨(Rb r).f_d.f_neg, (Rb r).f_d.f_w⟩ : Qv) = Wb (r.den : Int) := rfl
theorem Wq (r : Rat) : (Rb r).f_n = Wb r.num := rfl
theorem Qay (r : Rat) : (Rb r).f_d = Wb (r.den : Int) := rfl
/-- both parts of a fraction are at most so great -/
structure Rs (B : Nat) (r : Rat) : Prop where
  num : r.num.natAbs ≤ B
  den : r.den ≤ B
theorem Rs.mono {B C : Nat} {r : Rat} (h : Rs B r) (hle : B ≤ C) : Rs C r := ⟨Nat.le_trans h.num hle, Nat.le_trans h.den hle⟩
theorem Rs.pos {B : Nat} {r : Rat} (h : Rs B r) : 1 ≤ B := Nat.le_trans (Nat.pos_of_ne_zero r.den_nz) h.den
theorem natAbs_div_le' (n : Int) (g : Nat) : (n / (g : Int)).natAbs ≤ n.natAbs := Int.natAbs_ediv_le_natAbs n g
theorem Jh {n : Int} {d B : Nat} (hn : n.natAbs ≤ B) (hd : d ≤ B) (h1 : 1 ≤ B) : Rs B (mkRat n d) := by
  refine ⟨?_, ?_⟩
  · rw [Rat.num_mkRat]; split
    · simp
    · exact Nat.le_trans (natAbs_div_le' _ _) hn
  · rw [Rat.den_mkRat]; split
    · exact h1
    · exact Nat.le_trans (Nat.div_le_self _ _) hd
theorem UL {t4 : Bool} {t4' : List Int} {t5 : Option Int} : ∀ (b a : Nat), Fit (a : Int) → Fit (b : Int) → Ev (fun k => (QR.hs k).l0 (Wb (a : Int)).f_neg (Wb (a : Int)).f_w (Wb (b : Int)).f_neg (Wb (b : Int)).f_w t4 t4' t5) (Wb ((Nat.gcd a b : Nat) : Int), none) := by
  intro b
  induction b using Nat.strongRecOn with
  | _ b ih =>
    intro a fa fb
    refine Ev.step (fun k => rfl) ?_
    simp only [QR.hs, QR.b0, YC, Z5, Option.bind_some]
    by_cases z : b = 0
    · subst z
      simp only [Nat.gcd_zero_right, if_pos (show ((0 : Nat) : Int) = 0 by rfl), if_true]
      exact Ev.now
    · have nz : ¬ (if (b : Int) = 0 then (0 : Int) else if (b : Int) < 0 then -1 else 1) = 0 := by rw [if_neg (by omega)]; split <;> decide
      simp only [if_neg nz]
      refine Ev.bind (ME (show (b : Int) ≠ 0 by omega) fa fb) ?_
      simp only [Option.isSome_none, Bool.false_eq_true, if_false]
      have em : (a : Int) % (b : Int) = ((a % b : Nat) : Int) := (Int.natCast_emod a b).symm
      have lt := Nat.mod_lt a (show 0 < b by omega)
      have hb := ih (a % b) lt b fb (ZP fb (by rw [Int.natAbs_natCast, Int.natAbs_natCast]; omega))
      rw [em]
      rw [show Nat.gcd a b = Nat.gcd b (a % b) by rw [Nat.gcd_comm a b, Nat.gcd_rec b a, Nat.gcd_comm]]
      exact hb
theorem UI {a b : Nat} (fa : Fit (a : Int)) (fb : Fit (b : Int)) : Ev (fun k => QR.f k (Wb (a : Int)) (Wb (b : Int))) (Wb ((Nat.gcd a b : Nat) : Int), none) := UL b a fa fb
theorem Qac (k : Nat) (x : Int) : Yz.f k (Wb x) = some (Wb (x.natAbs : Int)) := by
  unfold Yz.f
  simp only [YC, Z5, Option.bind_some, Gw]
  by_cases g : x < 0
  · rw [if_neg (show ¬ x = 0 by omega), if_pos g, if_pos (by decide), show -x = (x.natAbs : Int) by omega]
  · have : ¬ (if x = 0 then (0 : Int) else if x < 0 then -1 else 1) < 0 := by rw [if_neg g]; split <;> decide
    rw [if_neg this, show (x.natAbs : Int) = x by omega]
theorem Wc {n : Int} {d : Nat} (fn : Fit n) (fd : Fit (d : Int)) (hd : d ≠ 0) : Ev (fun k => XD.j1 k (Wb n).f_neg (Wb n).f_w (Wb (d : Int)).f_neg (Wb (d : Int)).f_w) (Rb (mkRat n d), none) := by
  unfold XD.j1
  simp only [YC, Qac, Option.bind_some]
  have fa : Fit ((n.natAbs : Nat) : Int) := ZP fn (by rw [Int.natAbs_natCast]; omega)
  refine Ev.bind (UI fa fd) ?_
  have gp : 0 < Nat.gcd n.natAbs d := Nat.gcd_pos_of_pos_right _ (by omega)
  have gle : Nat.gcd n.natAbs d ≤ d := Nat.le_of_dvd (by omega) (Nat.gcd_dvd_right _ _)
  have fg : Fit ((Nat.gcd n.natAbs d : Nat) : Int) := ZP fd (by rw [Int.natAbs_natCast, Int.natAbs_natCast]; exact gle)
  simp only [Option.isSome_none, Bool.false_eq_true, if_false, YC]
  refine Ev.bind (ME (by omega) fn fg) ?_
  simp only [Option.isSome_none, Bool.false_eq_true, if_false, YC]
  refine Ev.bind (ME (by omega) fd fg) ?_
  simp only [Option.isSome_none, Bool.false_eq_true, if_false, YC]
  have e1 : (mkRat n d).num = n / ((Nat.gcd n.natAbs d : Nat) : Int) := by rw [Rat.num_mkRat, if_neg hd, Nat.gcd_comm]
  have e2 : (((mkRat n d).den : Nat) : Int) = (d : Int) / ((Nat.gcd n.natAbs d : Nat) : Int) := by rw [Rat.den_mkRat, if_neg hd, Nat.gcd_comm, Int.natCast_ediv]
  unfold Rb
  rw [e1, e2]
  exact Ev.now
theorem Me {n d : Int} (fn : Fit n) (fd : Fit d) (hd : d ≠ 0) : Ev (fun k => XD.f k (Wb n) (Wb d)) (Rb (Rat.divInt n d), none) := by
  unfold XD.f
  have nz : ¬ (if d = 0 then (0 : Int) else if d < 0 then -1 else 1) = 0 := by rw [if_neg hd]; split <;> decide
  simp only [YC, Z5, Option.bind_some, if_neg nz, Gw]
  have fneg : ∀ x : Int, Fit x → Fit (-x) := fun x h => ZP h (by rw [Int.natAbs_neg]; omega)
  by_cases g : d < 0
  · simp only [if_neg hd, if_pos g, if_pos (show (-1 : Int) < 0 by decide)]
    have := Wc (n := -n) (d := d.natAbs) (fneg _ fn) (by rw [show (d.natAbs : Int) = -d by omega]; exact fneg _ fd) (by omega)
    rw [show (d.natAbs : Int) = -d by omega, ← Rat.divInt_ofNat, show (d.natAbs : Int) = -d by omega, Rat.neg_divInt_neg] at this
    exact this
  · have : ¬ (if d = 0 then (0 : Int) else if d < 0 then -1 else 1) < 0 := by rw [if_neg g]; split <;> decide
    simp only [if_neg this]
    have := Wc (n := n) (d := d.natAbs) fn (by rw [show (d.natAbs : Int) = d by omega]; exact fd) (by omega)
    rw [show (d.natAbs : Int) = d by omega, ← Rat.divInt_ofNat, show (d.natAbs : Int) = d by omega] at this
    exact this
theorem Ws {r : Rat} {B : Nat} (h : Rs B r) (hB : B < LIM) : Ev (fun k => XD.f k (Wb r.num) (Wb (r.den : Int))) (Rb r, none) := by
  have := Me (n := r.num) (d := (r.den : Int)) (show Fit r.num from Nat.lt_of_le_of_lt h.num hB) (show Fit (r.den : Int) from by unfold Fit; rw [Int.natAbs_natCast]; exact Nat.lt_of_le_of_lt h.den hB) (by have := r.den_nz; omega)
  rwa [Rat.num_divInt_den] at this
theorem Je (k : Nat) (r : Rat) : QA.f k (Rb r) = some (Wb (r.den : Int)) := by
  unfold QA.f
  have h := r.den_nz
  have nz : ¬ (if (r.den : Int) = 0 then (0 : Int) else if (r.den : Int) < 0 then -1 else 1) = 0 := by rw [if_neg (by omega)]; split <;> decide
  simp only [Rb_d, Qay, Z5, Option.bind_some, if_neg nz]
theorem VB (k : Nat) (r : Rat) : X0.f k (Rb r) = some (Wb r.num, Wb (r.den : Int)) := by
  unfold X0.f
  simp only [Y3, Je, Option.bind_some, YC]
  rfl
theorem ZU {r : Rat} {B : Nat} (h : Rs B r) (hB : B < LIM) : Fit r.num := Nat.lt_of_le_of_lt h.num hB
theorem Zg {r : Rat} {B : Nat} (h : Rs B r) (hB : B < LIM) : Fit (r.den : Int) := by unfold Fit; rw [Int.natAbs_natCast]; exact Nat.lt_of_le_of_lt h.den hB
theorem Zj {r s : Rat} {B C : Nat} (hr : Rs B r) (hs : Rs C s) : (r.num * (s.den : Int)).natAbs ≤ B * C ∧ (s.num * (r.den : Int)).natAbs ≤ B * C ∧ (r.num * s.num).natAbs ≤ B * C ∧ r.den * s.den ≤ B * C := by
  refine ⟨?_, ?_, ?_, Nat.mul_le_mul hr.den hs.den⟩
  · rw [Int.natAbs_mul, Int.natAbs_natCast]; exact Nat.mul_le_mul hr.num hs.den
  · rw [Int.natAbs_mul, Int.natAbs_natCast, Nat.mul_comm]; exact Nat.mul_le_mul hr.den hs.num
  · rw [Int.natAbs_mul]; exact Nat.mul_le_mul hr.num hs.num
theorem Jr {B C : Nat} (hB : 1 ≤ B) (hC : 1 ≤ C) : B ≤ B * C ∧ C ≤ B * C := ⟨Nat.le_mul_of_pos_right _ hC, Nat.le_mul_of_pos_left _ hB⟩
theorem GU {r s : Rat} {B C : Nat} (hr : Rs B r) (hs : Rs C s) (h : B * C < LIM) : Ev (fun k => XU.f k (Rb r) (Rb s)) (Wb (r.num * (s.den : Int)), Wb (s.num * (r.den : Int)), none) := by
  obtain ⟨c1, c2, -, -⟩ := Zj hr hs
  obtain ⟨p1, p2⟩ := Jr hr.pos hs.pos
  unfold XU.f
  simp only [Y3, Je, Option.bind_some]
  (try simp only [Rb_n, Wq, YC])
  refine Ev.bind (Jv (ZU hr (by omega)) (Zg hs (by omega)) (by unfold Fit; omega)) ?_
  simp only [Option.isSome_none, Bool.false_eq_true, if_false, YC]
  refine Ev.bind (Jv (ZU hs (by omega)) (Zg hr (by omega)) (by unfold Fit; omega)) ?_
  (try simp only [YC]); exact Ev.now
theorem MO {r s : Rat} {B C : Nat} {x y : Int} (hr : Rs B r) (hs : Rs C s) (h : 2 * (B * C) < LIM) (hx : x.natAbs ≤ B * C) (hy : y.natAbs ≤ B * C) :
    Ev (fun k => QQ.j1 k (Rb r).f_n.f_neg (Rb r).f_n.f_w (Rb r).f_d.f_neg (Rb r).f_d.f_w (Rb s).f_n.f_neg (Rb s).f_n.f_w (Rb s).f_d.f_neg (Rb s).f_d.f_w (Wb x).f_neg (Wb x).f_w (Wb y).f_neg (Wb y).f_w) (Rb (mkRat (x + y) (r.den * s.den)), none) := by
  obtain ⟨-, -, -, c4⟩ := Zj hr hs
  obtain ⟨p1, p2⟩ := Jr hr.pos hs.pos
  unfold QQ.j1
  simp only [Y3, Je, Option.bind_some, YC]
  refine Ev.bind (VW (show Fit x by unfold Fit; omega) (show Fit y by unfold Fit; omega) (show Fit (x + y) by unfold Fit; omega)) ?_
  simp only [Option.isSome_none, Bool.false_eq_true, if_false, YC]
  refine Ev.bind (Jv (Zg hr (by omega)) (Zg hs (by omega)) (by unfold Fit; rw [← Int.natCast_mul, Int.natAbs_natCast]; omega)) ?_
  simp only [Option.isSome_none, Bool.false_eq_true, if_false, YC]
  have nz : r.den * s.den ≠ 0 := Nat.mul_ne_zero r.den_nz s.den_nz
  refine Ev.bind (Me (n := x + y) (d := (r.den : Int) * (s.den : Int)) (by unfold Fit; omega) (by unfold Fit; rw [← Int.natCast_mul, Int.natAbs_natCast]; omega) (by rw [← Int.natCast_mul]; omega)) ?_
  rw [← Int.natCast_mul, Rat.divInt_ofNat]
  (try simp only [Y3])
  exact Ev.now
theorem O0 {r s : Rat} {B C : Nat} (hr : Rs B r) (hs : Rs C s) (h : 2 * (B * C) < LIM) : Ev (fun k => XV.f k (Rb r) (Rb s)) (Rb (r + s), none) := by
  obtain ⟨c1, c2, -, -⟩ := Zj hr hs
  have J := MO hr hs h c1 c2
  rw [← Rat.add_def'] at J
  have K : Ev (fun k => QQ.f k (Rb r) (Rb s) false) (Rb (r + s), none) := by
    unfold QQ.f
    (try simp only [Y3])
    refine Ev.bind (GU hr hs (by omega)) ?_
    simp only [Option.isSome_none, Bool.false_eq_true, if_false]; exact J
  unfold XV.f
  (try simp only [Y3])
  refine Ev.bind K ?_
  (try simp only [Y3]); exact Ev.now
theorem WW {r s : Rat} {B C : Nat} (hr : Rs B r) (hs : Rs C s) (h : 2 * (B * C) < LIM) : Ev (fun k => Yb.f k (Rb r) (Rb s)) (Rb (r - s), none) := by
  obtain ⟨c1, c2, -, -⟩ := Zj hr hs
  have J := MO (y := -(s.num * (r.den : Int))) hr hs h c1 (by rw [Int.natAbs_neg]; exact c2)
  rw [← Int.sub_eq_add_neg, ← Rat.sub_def'] at J
  have K : Ev (fun k => QQ.f k (Rb r) (Rb s) true) (Rb (r - s), none) := by
    unfold QQ.f
    (try simp only [Y3])
    refine Ev.bind (GU hr hs (by omega)) ?_
    simp only [Option.isSome_none, Bool.false_eq_true, if_false, if_true, YC, Gw, Option.bind_some]; exact J
  unfold Yb.f
  (try simp only [Y3])
  refine Ev.bind K ?_
  (try simp only [Y3]); exact Ev.now
theorem U7 {r s : Rat} {B C : Nat} (hr : Rs B r) (hs : Rs C s) : Rs (2 * (B * C)) (r + s) := by
  obtain ⟨c1, c2, -, c4⟩ := Zj hr hs
  have := Nat.mul_le_mul hr.pos hs.pos
  rw [Rat.add_def']
  exact Jh (by omega) (by omega) (by omega)
theorem JM {r s : Rat} {B C : Nat} (hr : Rs B r) (hs : Rs C s) : Rs (B * C) (r * s) := by
  obtain ⟨-, -, c3, c4⟩ := Zj hr hs
  have := Nat.mul_le_mul hr.pos hs.pos
  rw [Rat.mul_def']
  exact Jh c3 c4 (by omega)
theorem Ui {n m d e : Int} (fn : Fit n) (fm : Fit m) (fd : Fit d) (fe : Fit e) (f1 : Fit (n * m)) (f2 : Fit (d * e)) (h : d * e ≠ 0) : Ev (fun k => Ya.f k (Wb n) (Wb m) (Wb d) (Wb e)) (Rb (Rat.divInt (n * m) (d * e)), none) := by
  unfold Ya.f
  (try simp only [YC])
  refine Ev.bind (Jv fn fm f1) ?_
  simp only [Option.isSome_none, Bool.false_eq_true, if_false, YC]
  refine Ev.bind (Jv fd fe f2) ?_
  simp only [Option.isSome_none, Bool.false_eq_true, if_false, YC]
  refine Ev.bind (Me f1 f2 h) ?_
  (try simp only [Y3]); exact Ev.now
theorem Oq {r s : Rat} {B C : Nat} (hr : Rs B r) (hs : Rs C s) (h : B * C < LIM) : Ev (fun k => XO.f k (Rb r) (Rb s)) (Rb (r * s), none) := by
  obtain ⟨-, -, c3, c4⟩ := Zj hr hs
  obtain ⟨p1, p2⟩ := Jr hr.pos hs.pos
  have nz : r.den * s.den ≠ 0 := Nat.mul_ne_zero r.den_nz s.den_nz
  unfold XO.f
  simp only [Y3, Je, Option.bind_some]
  (try simp only [Rb_n, Wq, YC])
  refine Ev.bind (Ui (ZU hr (by omega)) (ZU hs (by omega)) (Zg hr (by omega)) (Zg hs (by omega)) (by unfold Fit; omega) (by unfold Fit; rw [← Int.natCast_mul, Int.natAbs_natCast]; omega) (by rw [← Int.natCast_mul]; omega)) ?_
  rw [← Int.natCast_mul, Rat.divInt_ofNat, ← Rat.mul_def']
  (try simp only [Y3]); exact Ev.now
/-- how two fractions lie -/
def rcmp (r s : Rat) : Int := sgn3 (r.num * (s.den : Int)) (s.num * (r.den : Int))
theorem W5 {r s : Rat} {B C : Nat} (hr : Rs B r) (hs : Rs C s) (h : B * C < LIM) : Ev (fun k => Yf.f k (Rb r) (Rb s)) (rcmp r s, none) := by
  obtain ⟨c1, c2, -, -⟩ := Zj hr hs
  unfold Yf.f
  (try simp only [Y3])
  refine Ev.bind (GU hr hs h) ?_
  simp only [Option.isSome_none, Bool.false_eq_true, if_false, YC]
  exact Ev.bind (VM (by unfold Fit; omega) (by unfold Fit; omega)) Ev.now
theorem OF {r s : Rat} : rcmp r s < 0 ↔ r < s := by
  rw [Rat.lt_iff]; unfold rcmp sgn3
  split
  · simp [*]
  · split <;> simp [*]
/-- a fraction's text -/
def rtxt (r : Rat) : ByteArray := (txt r.num ++ strOf [47]) ++ txt (r.den : Int)
theorem O8 : ∃ s : ByteArray, (∀ (k : Nat) (a : Qf), Xp.f k a = (Qp.f k (⟨a.f_n.f_neg, a.f_n.f_w⟩ : Qv)).bind fun y2 => if (y2.size + s.size : Int) ≤ 9223372036854775807 then ((QA.f k (⟨(⟨a.f_n.f_neg, a.f_n.f_w⟩ : Qv), (⟨a.f_d.f_neg, a.f_d.f_w⟩ : Qv)⟩ : Qf)).bind fun y7 => (Qp.f k (⟨y7.f_neg, y7.f_w⟩ : Qv)).bind fun y13 => if ((y2 ++ s).size + y13.size : Int) ≤ 9223372036854775807 then (some ((y2 ++ s) ++ y13)) else none) else none) ∧ s = strOf [47] := ⟨_, fun _ _ => rfl, by decide +kernel⟩
theorem JV {x : Int} (h : Ln x < 1000000) : (txt x).size ≤ 1000002 := by
  unfold txt txtL
  have := (N2 x.natAbs).2
  unfold Ln at h
  rw [Za, List.length_append, Ze]
  have : (if x < 0 then [(45 : Int)] else []).length ≤ 1 := by split <;> simp
  omega
theorem YN {x : Int} (h : Fit x) : Ln x ≤ 1300 := by
  refine Nh (Nat.lt_of_lt_of_le h ?_)
  show LIM ≤ 10 ^ 1300
  decide +kernel
theorem N7 {n d : Int} {a : Qf} (h1 : (⟨a.f_n.f_neg, a.f_n.f_w⟩ : Qv) = Wb n) (h2 : Ev (fun k => QA.f k (⟨(⟨a.f_n.f_neg, a.f_n.f_w⟩ : Qv), (⟨a.f_d.f_neg, a.f_d.f_w⟩ : Qv)⟩ : Qf)) (Wb d)) (fn : Fit n) (fd : Fit d) :
    Ev (fun k => Xp.f k a) ((txt n ++ strOf [47]) ++ txt d) := by
  obtain ⟨s, hs, e⟩ := O8
  have l1 := YN fn; have l2 := YN fd
  have w1 := ZB fn; have w2 := ZB fd
  have s1 := JV (x := n) (by omega); have s2 := JV (x := d) (by omega)
  have s47 : s.size = 1 := by rw [e, Za]; rfl
  rw [h1] at h2
  simp only [hs, h1]
  refine Ev.bind (N4 (by omega) (by omega)) ?_
  simp only [if_pos (show ((txt n).size : Int) + (s.size : Int) ≤ 9223372036854775807 by omega), YC]
  refine Ev.bind h2 ?_
  (try simp only [YC])
  refine Ev.bind (N4 (by omega) (by omega)) ?_
  simp only [ByteArray.size_append, if_pos (show (((txt n).size + s.size : Nat) : Int) + ((txt d).size : Int) ≤ 9223372036854775807 by omega)]
  rw [e]; exact Ev.now
theorem JZ {r : Rat} {B : Nat} (h : Rs B r) (hB : B < LIM) : Ev (fun k => Xp.f k (Rb r)) (rtxt r) :=
  N7 (n := r.num) (d := (r.den : Int)) rfl (by simp only [Y3, Je]; exact Ev.now) (ZU h hB) (Zg h hB)
/-- the fraction of noughts -/
theorem ZT : Ev (fun k => QA.f k (⟨Wb 0, Wb 0⟩ : Qf)) (Wb 1) := by
  unfold QA.f
  simp only [YC, Z5, Option.bind_some, if_true]
  exact Ev.bind (Mc (x := 1) (by decide)) (by (try simp only [YC]); exact Ev.now)
theorem N3 : txt 0 = strOf [48] := by unfold txt txtL Mg E48; simp
theorem OP : txt 1 = strOf [49] := by
  unfold txt txtL Mg E48
  have : dg 1 = [1] := by rw [Jl (by decide)]; simp [YS]
  simp [this]
theorem V3 : Ev (fun k => Xp.f k (⟨Wb 0, Wb 0⟩ : Qf)) (strOf [48, 47, 49]) := by
  have h := N7 (n := 0) (d := 1) (a := ⟨Wb 0, Wb 0⟩) rfl ZT Nu (by show (1 : Int).natAbs < LIM; decide +kernel)
  rw [N3, OP, ← ZR, ← ZR] at h
  exact h
end Go.Proofs.YtkccpkccdbfomaaGreatDoor.Pure

/- Fractions of the program (ratio): they are rational numbers. -/
import Derived.Test.YtkccpkccdbfomaaGreatDoorPureW13L35
namespace Go.Proofs.YtkccpkccdbfomaaGreatDoor.Pure
open Go.RowKit Go.Proofs.YtkccpkccdbfomaaGreatDoorK Go.Proofs.YtkccpkccdbfomaaGreatDoor.GBA
set_option linter.unusedVariables false
set_option linter.unusedSimpArgs false
def Rb (r : Rat) : Qg := ⟨Wb r.num, Wb (r.den : Int)⟩
theorem Y6 (r : Rat) : (⟨(⟨(Rb r).f_n.f_neg, (Rb r).f_n.f_w⟩ : Qs), (⟨(Rb r).f_d.f_neg, (Rb r).f_d.f_w⟩ : Qs)⟩ : Qg) = Rb r := rfl
theorem Rb_n (r : Rat) : (⟨(Rb r).f_n.f_neg, (Rb r).f_n.f_w⟩ : Qs) = Wb r.num := rfl
theorem Rb_d (r : Rat) : (⟨(Rb r).f_d.f_neg, (Rb r).f_d.f_w⟩ : Qs) = Wb (r.den : Int) := rfl
theorem VA (r : Rat) : (Rb r).f_n = Wb r.num := rfl
theorem WV (r : Rat) : (Rb r).f_d = Wb (r.den : Int) := rfl
/-- both parts of a fraction are at most so great -/
structure Rs (B : Nat) (r : Rat) : Prop where
  num : r.num.natAbs ≤ B
  den : r.den ≤ B
theorem Rs.mono {B C : Nat} {r : Rat} (h : Rs B r) (hle : B ≤ C) : Rs C r := ⟨Nat.le_trans h.num hle, Nat.le_trans h.den hle⟩
theorem Rs.pos {B : Nat} {r : Rat} (h : Rs B r) : 1 ≤ B := Nat.le_trans (Nat.pos_of_ne_zero r.den_nz) h.den
theorem natAbs_div_le' (n : Int) (g : Nat) : (n / (g : Int)).natAbs ≤ n.natAbs := Int.natAbs_ediv_le_natAbs n g
theorem JP {n : Int} {d B : Nat} (hn : n.natAbs ≤ B) (hd : d ≤ B) (h1 : 1 ≤ B) : Rs B (mkRat n d) := by
  refine ⟨?_, ?_⟩
  · rw [Rat.num_mkRat]; split
    · simp
    · exact Nat.le_trans (natAbs_div_le' _ _) hn
  · rw [Rat.den_mkRat]; split
    · exact h1
    · exact Nat.le_trans (Nat.div_le_self _ _) hd
theorem UC {t4 : Bool} {t4' : List Int} {t5 : Option Int} : ∀ (b a : Nat), Fit (a : Int) → Fit (b : Int) → Ev (fun k => (QP.hs k).l0 (Wb (a : Int)).f_neg (Wb (a : Int)).f_w (Wb (b : Int)).f_neg (Wb (b : Int)).f_w t4 t4' t5) (Wb ((Nat.gcd a b : Nat) : Int), none) := by
  intro b
  induction b using Nat.strongRecOn with
  | _ b ih =>
    intro a fa fb
    refine Ev.step (fun k => rfl) ?_
    simp only [QP.hs, QP.b0, YG, ZU, Option.bind_some]
    by_cases z : b = 0
    · subst z
      simp only [Nat.gcd_zero_right, if_pos (show ((0 : Nat) : Int) = 0 by rfl), if_true]
      exact Ev.now
    · have nz : ¬ (if (b : Int) = 0 then (0 : Int) else if (b : Int) < 0 then -1 else 1) = 0 := by rw [if_neg (by omega)]; split <;> decide
      simp only [if_neg nz]
      refine Ev.bind (Mw (show (b : Int) ≠ 0 by omega) fa fb) ?_
      simp only [Option.isSome_none, Bool.false_eq_true, if_false]
      have em : (a : Int) % (b : Int) = ((a % b : Nat) : Int) := (Int.natCast_emod a b).symm
      have lt := Nat.mod_lt a (show 0 < b by omega)
      have hb := ih (a % b) lt b fb (ZN fb (by rw [Int.natAbs_natCast, Int.natAbs_natCast]; omega))
      rw [em]
      rw [show Nat.gcd a b = Nat.gcd b (a % b) by rw [Nat.gcd_comm a b, Nat.gcd_rec b a, Nat.gcd_comm]]
      exact hb
theorem O3 {a b : Nat} (fa : Fit (a : Int)) (fb : Fit (b : Int)) : Ev (fun k => QP.f k (Wb (a : Int)) (Wb (b : Int))) (Wb ((Nat.gcd a b : Nat) : Int), none) := UC b a fa fb
theorem WH (k : Nat) (x : Int) : Yv.f k (Wb x) = some (Wb (x.natAbs : Int)) := by
  unfold Yv.f
  simp only [YG, ZU, Option.bind_some, Gl]
  by_cases g : x < 0
  · rw [if_neg (show ¬ x = 0 by omega), if_pos g, if_pos (by decide), show -x = (x.natAbs : Int) by omega]
  · have : ¬ (if x = 0 then (0 : Int) else if x < 0 then -1 else 1) < 0 := by rw [if_neg g]; split <;> decide
    rw [if_neg this, show (x.natAbs : Int) = x by omega]
theorem Vu {n : Int} {d : Nat} (fn : Fit n) (fd : Fit (d : Int)) (hd : d ≠ 0) : Ev (fun k => Xz.j1 k (Wb n).f_neg (Wb n).f_w (Wb (d : Int)).f_neg (Wb (d : Int)).f_w) (Rb (mkRat n d), none) := by
  unfold Xz.j1
  simp only [YG, WH, Option.bind_some]
  have fa : Fit ((n.natAbs : Nat) : Int) := ZN fn (by rw [Int.natAbs_natCast]; omega)
  refine Ev.bind (O3 fa fd) ?_
  have gp : 0 < Nat.gcd n.natAbs d := Nat.gcd_pos_of_pos_right _ (by omega)
  have gle : Nat.gcd n.natAbs d ≤ d := Nat.le_of_dvd (by omega) (Nat.gcd_dvd_right _ _)
  have fg : Fit ((Nat.gcd n.natAbs d : Nat) : Int) := ZN fd (by rw [Int.natAbs_natCast, Int.natAbs_natCast]; exact gle)
  simp only [Option.isSome_none, Bool.false_eq_true, if_false, YG]
  refine Ev.bind (Mw (by omega) fn fg) ?_
  simp only [Option.isSome_none, Bool.false_eq_true, if_false, YG]
  refine Ev.bind (Mw (by omega) fd fg) ?_
  simp only [Option.isSome_none, Bool.false_eq_true, if_false, YG]
  have e1 : (mkRat n d).num = n / ((Nat.gcd n.natAbs d : Nat) : Int) := by rw [Rat.num_mkRat, if_neg hd, Nat.gcd_comm]
  have e2 : (((mkRat n d).den : Nat) : Int) = (d : Int) / ((Nat.gcd n.natAbs d : Nat) : Int) := by rw [Rat.den_mkRat, if_neg hd, Nat.gcd_comm, Int.natCast_ediv]
  unfold Rb
  rw [e1, e2]
  exact Ev.now
theorem Nz {n d : Int} (fn : Fit n) (fd : Fit d) (hd : d ≠ 0) : Ev (fun k => Xz.f k (Wb n) (Wb d)) (Rb (Rat.divInt n d), none) := by
  unfold Xz.f
  have nz : ¬ (if d = 0 then (0 : Int) else if d < 0 then -1 else 1) = 0 := by rw [if_neg hd]; split <;> decide
  simp only [YG, ZU, Option.bind_some, if_neg nz, Gl]
  have fneg : ∀ x : Int, Fit x → Fit (-x) := fun x h => ZN h (by rw [Int.natAbs_neg]; omega)
  by_cases g : d < 0
  · simp only [if_neg hd, if_pos g, if_pos (show (-1 : Int) < 0 by decide)]
    have := Vu (n := -n) (d := d.natAbs) (fneg _ fn) (by rw [show (d.natAbs : Int) = -d by omega]; exact fneg _ fd) (by omega)
    rw [show (d.natAbs : Int) = -d by omega, ← Rat.divInt_ofNat, show (d.natAbs : Int) = -d by omega, Rat.neg_divInt_neg] at this
    exact this
  · have : ¬ (if d = 0 then (0 : Int) else if d < 0 then -1 else 1) < 0 := by rw [if_neg g]; split <;> decide
    simp only [if_neg this]
    have := Vu (n := n) (d := d.natAbs) fn (by rw [show (d.natAbs : Int) = d by omega]; exact fd) (by omega)
    rw [show (d.natAbs : Int) = d by omega, ← Rat.divInt_ofNat, show (d.natAbs : Int) = d by omega] at this
    exact this
theorem Wh {r : Rat} {B : Nat} (h : Rs B r) (hB : B < LIM) : Ev (fun k => Xz.f k (Wb r.num) (Wb (r.den : Int))) (Rb r, none) := by
  have := Nz (n := r.num) (d := (r.den : Int)) (show Fit r.num from Nat.lt_of_le_of_lt h.num hB) (show Fit (r.den : Int) from by unfold Fit; rw [Int.natAbs_natCast]; exact Nat.lt_of_le_of_lt h.den hB) (by have := r.den_nz; omega)
  rwa [Rat.num_divInt_den] at this
theorem Ja (k : Nat) (r : Rat) : Qy.f k (Rb r) = some (Wb (r.den : Int)) := by
  unfold Qy.f
  have h := r.den_nz
  have nz : ¬ (if (r.den : Int) = 0 then (0 : Int) else if (r.den : Int) < 0 then -1 else 1) = 0 := by rw [if_neg (by omega)]; split <;> decide
  simp only [Rb_d, WV, ZU, Option.bind_some, if_neg nz]
theorem Vb (k : Nat) (r : Rat) : XW.f k (Rb r) = some (Wb r.num, Wb (r.den : Int)) := by
  unfold XW.f
  simp only [Y6, Ja, Option.bind_some, YG]
  rfl
theorem Ze {r : Rat} {B : Nat} (h : Rs B r) (hB : B < LIM) : Fit r.num := Nat.lt_of_le_of_lt h.num hB
theorem YT {r : Rat} {B : Nat} (h : Rs B r) (hB : B < LIM) : Fit (r.den : Int) := by unfold Fit; rw [Int.natAbs_natCast]; exact Nat.lt_of_le_of_lt h.den hB
theorem YW {r s : Rat} {B C : Nat} (hr : Rs B r) (hs : Rs C s) : (r.num * (s.den : Int)).natAbs ≤ B * C ∧ (s.num * (r.den : Int)).natAbs ≤ B * C ∧ (r.num * s.num).natAbs ≤ B * C ∧ r.den * s.den ≤ B * C := by
  refine ⟨?_, ?_, ?_, Nat.mul_le_mul hr.den hs.den⟩
  · rw [Int.natAbs_mul, Int.natAbs_natCast]; exact Nat.mul_le_mul hr.num hs.den
  · rw [Int.natAbs_mul, Int.natAbs_natCast, Nat.mul_comm]; exact Nat.mul_le_mul hr.den hs.num
  · rw [Int.natAbs_mul]; exact Nat.mul_le_mul hr.num hs.num
theorem ZX {B C : Nat} (hB : 1 ≤ B) (hC : 1 ≤ C) : B ≤ B * C ∧ C ≤ B * C := ⟨Nat.le_mul_of_pos_right _ hC, Nat.le_mul_of_pos_left _ hB⟩
theorem GF {r s : Rat} {B C : Nat} (hr : Rs B r) (hs : Rs C s) (h : B * C < LIM) : Ev (fun k => XN.f k (Rb r) (Rb s)) (Wb (r.num * (s.den : Int)), Wb (s.num * (r.den : Int)), none) := by
  obtain ⟨c1, c2, -, -⟩ := YW hr hs
  obtain ⟨p1, p2⟩ := ZX hr.pos hs.pos
  unfold XN.f
  simp only [Y6, Ja, Option.bind_some]
  (try simp only [Rb_n, VA, YG])
  refine Ev.bind (Jt (Ze hr (by omega)) (YT hs (by omega)) (by unfold Fit; omega)) ?_
  simp only [Option.isSome_none, Bool.false_eq_true, if_false, YG]
  refine Ev.bind (Jt (Ze hs (by omega)) (YT hr (by omega)) (by unfold Fit; omega)) ?_
  (try simp only [YG]); exact Ev.now
theorem ML {r s : Rat} {B C : Nat} {x y : Int} (hr : Rs B r) (hs : Rs C s) (h : 2 * (B * C) < LIM) (hx : x.natAbs ≤ B * C) (hy : y.natAbs ≤ B * C) :
    Ev (fun k => QO.j1 k (Rb r).f_n.f_neg (Rb r).f_n.f_w (Rb r).f_d.f_neg (Rb r).f_d.f_w (Rb s).f_n.f_neg (Rb s).f_n.f_w (Rb s).f_d.f_neg (Rb s).f_d.f_w (Wb x).f_neg (Wb x).f_w (Wb y).f_neg (Wb y).f_w) (Rb (mkRat (x + y) (r.den * s.den)), none) := by
  obtain ⟨-, -, -, c4⟩ := YW hr hs
  obtain ⟨p1, p2⟩ := ZX hr.pos hs.pos
  unfold QO.j1
  simp only [Y6, Ja, Option.bind_some, YG]
  refine Ev.bind (US (show Fit x by unfold Fit; omega) (show Fit y by unfold Fit; omega) (show Fit (x + y) by unfold Fit; omega)) ?_
  simp only [Option.isSome_none, Bool.false_eq_true, if_false, YG]
  refine Ev.bind (Jt (YT hr (by omega)) (YT hs (by omega)) (by unfold Fit; rw [← Int.natCast_mul, Int.natAbs_natCast]; omega)) ?_
  simp only [Option.isSome_none, Bool.false_eq_true, if_false, YG]
  have nz : r.den * s.den ≠ 0 := Nat.mul_ne_zero r.den_nz s.den_nz
  refine Ev.bind (Nz (n := x + y) (d := (r.den : Int) * (s.den : Int)) (by unfold Fit; omega) (by unfold Fit; rw [← Int.natCast_mul, Int.natAbs_natCast]; omega) (by rw [← Int.natCast_mul]; omega)) ?_
  rw [← Int.natCast_mul, Rat.divInt_ofNat]
  (try simp only [Y6])
  exact Ev.now
theorem Wq {r s : Rat} {B C : Nat} (hr : Rs B r) (hs : Rs C s) (h : 2 * (B * C) < LIM) : Ev (fun k => X0.f k (Rb r) (Rb s)) (Rb (r + s), none) := by
  obtain ⟨c1, c2, -, -⟩ := YW hr hs
  have J := ML hr hs h c1 c2
  rw [← Rat.add_def'] at J
  have K : Ev (fun k => QO.f k (Rb r) (Rb s) false) (Rb (r + s), none) := by
    unfold QO.f
    (try simp only [Y6])
    refine Ev.bind (GF hr hs (by omega)) ?_
    simp only [Option.isSome_none, Bool.false_eq_true, if_false]; exact J
  unfold X0.f
  (try simp only [Y6])
  refine Ev.bind K ?_
  (try simp only [Y6]); exact Ev.now
theorem Oh {r s : Rat} {B C : Nat} (hr : Rs B r) (hs : Rs C s) (h : 2 * (B * C) < LIM) : Ev (fun k => XJ.f k (Rb r) (Rb s)) (Rb (r - s), none) := by
  obtain ⟨c1, c2, -, -⟩ := YW hr hs
  have J := ML (y := -(s.num * (r.den : Int))) hr hs h c1 (by rw [Int.natAbs_neg]; exact c2)
  rw [← Int.sub_eq_add_neg, ← Rat.sub_def'] at J
  have K : Ev (fun k => QO.f k (Rb r) (Rb s) true) (Rb (r - s), none) := by
    unfold QO.f
    (try simp only [Y6])
    refine Ev.bind (GF hr hs (by omega)) ?_
    simp only [Option.isSome_none, Bool.false_eq_true, if_false, if_true, YG, Gl, Option.bind_some]; exact J
  unfold XJ.f
  (try simp only [Y6])
  refine Ev.bind K ?_
  (try simp only [Y6]); exact Ev.now
theorem WB {r s : Rat} {B C : Nat} (hr : Rs B r) (hs : Rs C s) : Rs (2 * (B * C)) (r + s) := by
  obtain ⟨c1, c2, -, c4⟩ := YW hr hs
  have := Nat.mul_le_mul hr.pos hs.pos
  rw [Rat.add_def']
  exact JP (by omega) (by omega) (by omega)
theorem M3 {r s : Rat} {B C : Nat} (hr : Rs B r) (hs : Rs C s) : Rs (2 * (B * C)) (r - s) := by
  obtain ⟨c1, c2, -, c4⟩ := YW hr hs
  have := Nat.mul_le_mul hr.pos hs.pos
  rw [Rat.sub_def']
  exact JP (by omega) (by omega) (by omega)
theorem Na {r s : Rat} {B C : Nat} (hr : Rs B r) (hs : Rs C s) : Rs (B * C) (r * s) := by
  obtain ⟨-, -, c3, c4⟩ := YW hr hs
  have := Nat.mul_le_mul hr.pos hs.pos
  rw [Rat.mul_def']
  exact JP c3 c4 (by omega)
theorem Ov {n m d e : Int} (fn : Fit n) (fm : Fit m) (fd : Fit d) (fe : Fit e) (f1 : Fit (n * m)) (f2 : Fit (d * e)) (h : d * e ≠ 0) : Ev (fun k => X4.f k (Wb n) (Wb m) (Wb d) (Wb e)) (Rb (Rat.divInt (n * m) (d * e)), none) := by
  unfold X4.f
  (try simp only [YG])
  refine Ev.bind (Jt fn fm f1) ?_
  simp only [Option.isSome_none, Bool.false_eq_true, if_false, YG]
  refine Ev.bind (Jt fd fe f2) ?_
  simp only [Option.isSome_none, Bool.false_eq_true, if_false, YG]
  refine Ev.bind (Nz f1 f2 h) ?_
  (try simp only [Y6]); exact Ev.now
theorem Wj {r s : Rat} {B C : Nat} (hr : Rs B r) (hs : Rs C s) (h : B * C < LIM) : Ev (fun k => X6.f k (Rb r) (Rb s)) (Rb (r * s), none) := by
  obtain ⟨-, -, c3, c4⟩ := YW hr hs
  obtain ⟨p1, p2⟩ := ZX hr.pos hs.pos
  have nz : r.den * s.den ≠ 0 := Nat.mul_ne_zero r.den_nz s.den_nz
  unfold X6.f
  simp only [Y6, Ja, Option.bind_some]
  (try simp only [Rb_n, VA, YG])
  refine Ev.bind (Ov (Ze hr (by omega)) (Ze hs (by omega)) (YT hr (by omega)) (YT hs (by omega)) (by unfold Fit; omega) (by unfold Fit; rw [← Int.natCast_mul, Int.natAbs_natCast]; omega) (by rw [← Int.natCast_mul]; omega)) ?_
  rw [← Int.natCast_mul, Rat.divInt_ofNat, ← Rat.mul_def']
  (try simp only [Y6]); exact Ev.now
/-- how two fractions lie -/
def rcmp (r s : Rat) : Int := sgn3 (r.num * (s.den : Int)) (s.num * (r.den : Int))
theorem VQ {r s : Rat} {B C : Nat} (hr : Rs B r) (hs : Rs C s) (h : B * C < LIM) : Ev (fun k => Yc.f k (Rb r) (Rb s)) (rcmp r s, none) := by
  obtain ⟨c1, c2, -, -⟩ := YW hr hs
  unfold Yc.f
  (try simp only [Y6])
  refine Ev.bind (GF hr hs h) ?_
  simp only [Option.isSome_none, Bool.false_eq_true, if_false, YG]
  exact Ev.bind (Vn (by unfold Fit; omega) (by unfold Fit; omega)) Ev.now
theorem Ou {r s : Rat} : rcmp r s < 0 ↔ r < s := by
  rw [Rat.lt_iff]; unfold rcmp sgn3
  split
  · simp [*]
  · split <;> simp [*]
theorem Od {r s : Rat} : 0 < rcmp r s ↔ s < r := by
  rw [Rat.lt_iff]; unfold rcmp sgn3
  split
  · rename_i h; simp; omega
  · split <;> simp [*]
/-- a fraction's text -/
def rtxt (r : Rat) : ByteArray := (txt r.num ++ strOf [47]) ++ txt (r.den : Int)
theorem OP : ∃ s : ByteArray, (∀ (k : Nat) (a : Qg), Xu.f k a = (Qp.f k (⟨a.f_n.f_neg, a.f_n.f_w⟩ : Qs)).bind fun y2 => if (y2.size + s.size : Int) ≤ 9223372036854775807 then ((Qy.f k (⟨(⟨a.f_n.f_neg, a.f_n.f_w⟩ : Qs), (⟨a.f_d.f_neg, a.f_d.f_w⟩ : Qs)⟩ : Qg)).bind fun y7 => (Qp.f k (⟨y7.f_neg, y7.f_w⟩ : Qs)).bind fun y13 => if ((y2 ++ s).size + y13.size : Int) ≤ 9223372036854775807 then (some ((y2 ++ s) ++ y13)) else none) else none) ∧ s = strOf [47] := ⟨_, fun _ _ => rfl, by decide +kernel⟩
theorem JO {x : Int} (h : Ln x < 1000000) : (txt x).size ≤ 1000002 := by
  unfold txt txtL
  have := (Nd x.natAbs).2
  unfold Ln at h
  rw [Y7, List.length_append, Zd]
  have : (if x < 0 then [(45 : Int)] else []).length ≤ 1 := by split <;> simp
  omega
theorem Yw {x : Int} (h : Fit x) : Ln x ≤ 1300 := by
  refine MY (Nat.lt_of_lt_of_le h ?_)
  show LIM ≤ 10 ^ 1300
  decide +kernel
theorem Nl {n d : Int} {a : Qg} (h1 : (⟨a.f_n.f_neg, a.f_n.f_w⟩ : Qs) = Wb n) (h2 : Ev (fun k => Qy.f k (⟨(⟨a.f_n.f_neg, a.f_n.f_w⟩ : Qs), (⟨a.f_d.f_neg, a.f_d.f_w⟩ : Qs)⟩ : Qg)) (Wb d)) (fn : Fit n) (fd : Fit d) :
    Ev (fun k => Xu.f k a) ((txt n ++ strOf [47]) ++ txt d) := by
  obtain ⟨s, hs, e⟩ := OP
  have l1 := Yw fn; have l2 := Yw fd
  have w1 := ZC fn; have w2 := ZC fd
  have s1 := JO (x := n) (by omega); have s2 := JO (x := d) (by omega)
  have s47 : s.size = 1 := by rw [e, Y7]; rfl
  rw [h1] at h2
  simp only [hs, h1]
  refine Ev.bind (Nr (by omega) (by omega)) ?_
  simp only [if_pos (show ((txt n).size : Int) + (s.size : Int) ≤ 9223372036854775807 by omega), YG]
  refine Ev.bind h2 ?_
  (try simp only [YG])
  refine Ev.bind (Nr (by omega) (by omega)) ?_
  simp only [ByteArray.size_append, if_pos (show (((txt n).size + s.size : Nat) : Int) + ((txt d).size : Int) ≤ 9223372036854775807 by omega)]
  rw [e]; exact Ev.now
theorem OL {r : Rat} {B : Nat} (h : Rs B r) (hB : B < LIM) : Ev (fun k => Xu.f k (Rb r)) (rtxt r) :=
  Nl (n := r.num) (d := (r.den : Int)) rfl (by simp only [Y6, Ja]; exact Ev.now) (Ze h hB) (YT h hB)
/-- the fraction of noughts -/
theorem ZZ : Ev (fun k => Qy.f k (⟨Wb 0, Wb 0⟩ : Qg)) (Wb 1) := by
  unfold Qy.f
  simp only [YG, ZU, Option.bind_some, if_true]
  exact Ev.bind (UM (x := 1) (by decide)) (by (try simp only [YG]); exact Ev.now)
theorem NJ : txt 0 = strOf [48] := by unfold txt txtL Mg E48; simp
theorem Ob : txt 1 = strOf [49] := by
  unfold txt txtL Mg E48
  have : dg 1 = [1] := by rw [Jh (by decide)]; simp [YQ]
  simp [this]
theorem UU : Ev (fun k => Xu.f k (⟨Wb 0, Wb 0⟩ : Qg)) (strOf [48, 47, 49]) := by
  have h := Nl (n := 0) (d := 1) (a := ⟨Wb 0, Wb 0⟩) rfl ZZ NL (by show (1 : Int).natAbs < LIM; decide +kernel)
  rw [NJ, Ob, ← ZL, ← ZL] at h
  exact h
end Go.Proofs.YtkccpkccdbfomaaGreatDoor.Pure

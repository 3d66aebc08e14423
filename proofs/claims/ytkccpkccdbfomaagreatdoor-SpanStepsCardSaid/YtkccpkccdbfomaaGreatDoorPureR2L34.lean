/- Fractions of the reference (radomeref02): they are rational numbers; and what a law package makes of digits. -/
import Derived.Test.YtkccpkccdbfomaaGreatDoorPureR1L34
import Derived.Test.YtkccpkccdbfomaaGreatDoorPureN6
namespace Go.Proofs.YtkccpkccdbfomaaGreatDoor.Pure
open Go.RowKit Go.Proofs.YtkccpkccdbfomaaGreatDoorK Go.Proofs.YtkccpkccdbfomaaGreatDoor.GSS
set_option linter.unusedVariables false
set_option linter.unusedSimpArgs false
def Fb (r : Rat) : QJ := ⟨Nb r.num, Nb (r.den : Int)⟩
theorem J3 (r : Rat) : (⟨(⟨(Fb r).f_N.f_Neg, (Fb r).f_N.f_D⟩ : Qh), (⟨(Fb r).f_D.f_Neg, (Fb r).f_D.f_D⟩ : Qh)⟩ : QJ) = Fb r := rfl
theorem Fb_n (r : Rat) : (⟨(Fb r).f_N.f_Neg, (Fb r).f_N.f_D⟩ : Qh) = Nb r.num := rfl
theorem Fb_d (r : Rat) : (⟨(Fb r).f_D.f_Neg, (Fb r).f_D.f_D⟩ : Qh) = Nb (r.den : Int) := rfl
theorem Gq (r : Rat) : (Fb r).f_N = Nb r.num := rfl
theorem G6 (r : Rat) : (Fb r).f_D = Nb (r.den : Int) := rfl
theorem V6 (k : Nat) (x : Int) : Yl.f k (Nb x) = some (Nb (x.natAbs : Int)) := by
  unfold Yl.f
  refine congrArg some ?_
  unfold Nb
  rw [Int.natAbs_natCast]
  have : decide ((x.natAbs : Int) < 0) = false := decide_eq_false (by omega)
  rw [this]
theorem VU {x y : Int} (h : x.natAbs ≤ y.natAbs) : Ln x ≤ Ln y := Zz h
theorem WX {n : Int} {d : Nat} (hd : d ≠ 0) (ln : Ln n < 1000000) (ld : Ln (d : Int) < 1000000) : ∀ (b a : Nat), a ≤ max n.natAbs d → b ≤ max n.natAbs d → Nat.gcd a b = Nat.gcd n.natAbs d → Ev (fun k => (QP.hs k).l0 (Nb n).f_Neg (Nb n).f_D (Nb (d : Int)).f_Neg (Nb (d : Int)).f_D (Nb (a : Int)).f_Neg (Nb (a : Int)).f_D (Nb (b : Int)).f_Neg (Nb (b : Int)).f_D) (Fb (mkRat n d)) := by
  intro b
  induction b using Nat.strongRecOn with
  | _ b ih =>
    intro a ha hb hg
    have lens : ∀ x : Nat, x ≤ max n.natAbs d → Ln (x : Int) < 1000000 := fun x hx => by
      by_cases g : n.natAbs ≤ d
      · have := VU (x := (x : Int)) (y := (d : Int)) (by rw [Int.natAbs_natCast, Int.natAbs_natCast]; omega); omega
      · have := VU (x := (x : Int)) (y := n) (by rw [Int.natAbs_natCast]; omega); omega
    have la := lens a ha; have lb := lens b hb
    refine Ev.step (fun k => rfl) ?_
    simp only [QP.hs, QP.b0, ZI, Je, Option.bind_some]
    by_cases z : b = 0
    · subst z
      rw [Nat.gcd_zero_right] at hg
      have gp : 0 < Nat.gcd n.natAbs d := Nat.gcd_pos_of_pos_right _ (by omega)
      simp only [if_pos (show ((0 : Nat) : Int) = 0 by rfl), if_true]
      refine Ev.bind (Oe (by omega) (by omega) (by omega)) (Ev.bind (Oe (by omega) (by omega) (by omega)) ?_)
      (try simp only [ZI])
      have e1 : (mkRat n d).num = n / (a : Int) := by rw [Rat.num_mkRat, if_neg hd, Nat.gcd_comm, ← hg]
      have e2 : (((mkRat n d).den : Nat) : Int) = (d : Int) / (a : Int) := by rw [Rat.den_mkRat, if_neg hd, Nat.gcd_comm, ← hg, Int.natCast_ediv]
      unfold Fb
      rw [e1, e2]
      exact Ev.now
    · have nz : ¬ (if (b : Int) = 0 then (0 : Int) else if (b : Int) < 0 then -1 else 1) = 0 := by rw [if_neg (by omega)]; split <;> decide
      simp only [if_neg nz]
      refine Ev.bind (Oe (show (b : Int) ≠ 0 by omega) (by omega) (by omega)) ?_
      have em : (a : Int) % (b : Int) = ((a % b : Nat) : Int) := (Int.natCast_emod a b).symm
      have lt := Nat.mod_lt a (show 0 < b by omega)
      rw [em]
      exact ih (a % b) lt b hb (by omega) (by rw [← hg, Nat.gcd_comm a b, Nat.gcd_rec b a, Nat.gcd_comm])
theorem Un {n : Int} {d : Nat} (hd : d ≠ 0) (ln : Ln n < 1000000) (ld : Ln (d : Int) < 1000000) : Ev (fun k => QP.j1 k (QP.hs k) (Nb n).f_Neg (Nb n).f_D (Nb (d : Int)).f_Neg (Nb (d : Int)).f_D) (Fb (mkRat n d)) := by
  unfold QP.j1
  simp only [ZI, V6, Option.bind_some]
  exact WX hd ln ld d n.natAbs (Nat.le_max_left _ _) (Nat.le_max_right _ _) rfl
theorem MM {n d : Int} (hd : d ≠ 0) (ln : Ln n < 1000000) (ld : Ln d < 1000000) : Ev (fun k => QP.f k (Nb n) (Nb d)) (Fb (Rat.divInt n d)) := by
  unfold QP.f
  simp only [ZI, Je, Option.bind_some, ML]
  by_cases g : d < 0
  · simp only [if_neg hd, if_pos g, if_pos (show (-1 : Int) < 0 by decide)]
    have := Un (n := -n) (d := d.natAbs) (by omega) (by rw [MK]; exact ln) (by rw [show (d.natAbs : Int) = -d by omega, MK]; exact ld)
    rw [show (d.natAbs : Int) = -d by omega, ← Rat.divInt_ofNat, show (d.natAbs : Int) = -d by omega, Rat.neg_divInt_neg] at this
    exact this
  · have : ¬ (if d = 0 then (0 : Int) else if d < 0 then -1 else 1) < 0 := by rw [if_neg g]; split <;> decide
    simp only [if_neg this]
    have := Un (n := n) (d := d.natAbs) (by omega) ln (by rw [show (d.natAbs : Int) = d by omega]; exact ld)
    rw [show (d.natAbs : Int) = d by omega, ← Rat.divInt_ofNat, show (d.natAbs : Int) = d by omega] at this
    exact this
/-! ### what fits -/
theorem Oq (n a b : Nat) (h : n = a * b) : (2 : Int) ^ n = (((2 ^ a) ^ b : Nat) : Int) := by subst h; rw [← Nat.pow_mul, Int.natCast_pow]; rfl
theorem OX : Ev (fun k => Qx.f k 4096) (Nb (LIM : Int)) := by
  obtain ⟨n, hn⟩ : ∃ n : Nat, n = 4096 := ⟨_, rfl⟩
  have h := WW (n := n) (by omega)
  rw [Oq n 32 128 (by omega), show ((2 ^ 32) ^ 128 : Nat) = LIM by decide +kernel, show (n : Int) = 4096 by omega] at h
  exact h
theorem WP : Ln (LIM : Int) < 1000000 := by
  refine Nat.lt_of_le_of_lt (Gp (m := 1300) ?_) (by decide)
  rw [Int.natAbs_natCast]
  decide +kernel
theorem VO {x : Int} (hl : Ln x < 1000000) : Ev (fun k => YX.f k (Nb x) 4096) (decide (x.natAbs < LIM)) := by
  unfold YX.f
  refine Ev.bind OX ?_
  have l2 := WP
  unfold Ln at hl l2
  have := GX (a := x.natAbs) (b := (LIM : Int).natAbs) (by omega) (by omega)
  rw [Int.natAbs_natCast] at this
  exact Ev.bind this Ev.now
theorem N4 {t2 : Bool} : ∀ (n : Nat) (L : List Int) (i : Nat), L.length = i + n → L.length < 100 → (∀ x ∈ L, Fit x) → Ev (fun k => (Q4.hs k).l0 (L.map Nb) t2 (i : Int)) true
  | 0, L, i, e, hl, hf => by
    refine Ev.step (fun k => rfl) ?_
    simp only [Q4.hs, Q4.b0, List.length_map, if_neg (show ¬ (i : Int) < (L.length : Int) by omega)]
    exact Ev.now
  | n + 1, L, i, e, hl, hf => by
    have hi : i < L.length := by omega
    have er : rd (L.map Nb) (i : Int) = Nb L[i] := by
      unfold rd; rw [Int.toNat_natCast, List.getD_eq_getElem?_getD, List.getElem?_map, List.getElem?_eq_getElem hi]; rfl
    have hx := hf L[i] (List.getElem_mem hi)
    have F := VO (x := L[i]) (by have := YY hx; omega)
    have d1 : decide ((L[i]).natAbs < LIM) = true := decide_eq_true hx
    rw [d1] at F
    refine Ev.step (fun k => rfl) ?_
    simp only [Q4.hs, Q4.b0, List.length_map, if_pos (show (i : Int) < (L.length : Int) by omega), if_pos (show (0 : Int) ≤ (i : Int) ∧ (i : Int) < (L.length : Int) by omega), er, ZI]
    refine Ev.bind F ?_
    simp only [Bool.not_true, Bool.false_eq_true, if_false, wsucc (show i < 1000000000 by omega)]
    exact N4 n L (i + 1) (by omega) hl hf
theorem Mn {L : List Int} (hl : L.length < 100) (hf : ∀ x ∈ L, Fit x) : Ev (fun k => Q4.f k (L.map Nb)) true := N4 L.length L 0 (by omega) hl hf
/-! ### sums and products -/
theorem N0 {r s : Rat} {B C : Nat} {x y : Int} (hr : Rs B r) (hs : Rs C s) (h : 2 * (B * C) < LIM) (hx : x.natAbs ≤ B * C) (hy : y.natAbs ≤ B * C) :
    Ev (fun k => Xm.j1 k (Fb r).f_N.f_Neg (Fb r).f_N.f_D (Fb r).f_D.f_Neg (Fb r).f_D.f_D (Fb s).f_N.f_Neg (Fb s).f_N.f_D (Fb s).f_D.f_Neg (Fb s).f_D.f_D (Nb x).f_Neg (Nb x).f_D (Nb y).f_Neg (Nb y).f_D) (Fb (mkRat (x + y) (r.den * s.den)), 0) := by
  obtain ⟨-, -, -, c4⟩ := Zd hr hs
  obtain ⟨p1, p2⟩ := ZB hr.pos hs.pos
  have fx : Fit x := by unfold Fit; omega
  have fy : Fit y := by unfold Fit; omega
  have fs : Fit (x + y) := by unfold Fit; omega
  have fr := Zf hr (by omega); have fS := Zf hs (by omega)
  have fd : Fit ((r.den : Int) * (s.den : Int)) := by unfold Fit; rw [← Int.natCast_mul, Int.natAbs_natCast]; omega
  have l1 := YY fx; have l2 := YY fy; have l3 := YY fs; have l4 := YY fd; have l5 := YY fr; have l6 := YY fS
  have nz : r.den * s.den ≠ 0 := Nat.mul_ne_zero r.den_nz s.den_nz
  unfold Xm.j1
  (try simp only [ZI, Fb_d, G6])
  refine Ev.bind (GT (by omega) (by omega)) (Ev.bind (Z9 (by omega) (by omega)) ?_)
  (try simp only [ZI])
  refine Ev.bind (Mn (L := [x, y, x + y, (r.den : Int) * (s.den : Int)]) (by simp) (by intro z hz; simp only [List.mem_cons, List.not_mem_nil, or_false] at hz; rcases hz with rfl | rfl | rfl | rfl <;> assumption)) ?_
  simp only [Bool.not_true, Bool.false_eq_true, if_false]
  refine Ev.bind (MM (by rw [← Int.natCast_mul]; omega) (by omega) (by omega)) ?_
  rw [← Int.natCast_mul, Rat.divInt_ofNat]
  (try simp only [J3])
  exact Ev.now
theorem OM {r s : Rat} {B C : Nat} (hr : Rs B r) (hs : Rs C s) (h : 2 * (B * C) < LIM) : Ev (fun k => Xm.f k (Fb r) (Fb s) false) (Fb (r + s), 0) := by
  obtain ⟨c1, c2, -, -⟩ := Zd hr hs
  obtain ⟨p1, p2⟩ := ZB hr.pos hs.pos
  have J := N0 hr hs h c1 c2
  rw [← Rat.add_def'] at J
  have l1 := YY (Zl hr (by omega)); have l2 := YY (Zl hs (by omega)); have l3 := YY (Zf hr (by omega)); have l4 := YY (Zf hs (by omega))
  unfold Xm.f
  (try simp only [Fb_n, Gq, Fb_d, G6])
  refine Ev.bind (Z9 (by omega) (by omega)) (Ev.bind (Z9 (by omega) (by omega)) ?_)
  simp only [Bool.false_eq_true, if_false]
  exact J
theorem OJ {r s : Rat} {B C : Nat} (hr : Rs B r) (hs : Rs C s) (h : 2 * (B * C) < LIM) : Ev (fun k => Xm.f k (Fb r) (Fb s) true) (Fb (r - s), 0) := by
  obtain ⟨c1, c2, -, -⟩ := Zd hr hs
  obtain ⟨p1, p2⟩ := ZB hr.pos hs.pos
  have J := N0 (y := -(s.num * (r.den : Int))) hr hs h c1 (by rw [Int.natAbs_neg]; exact c2)
  rw [← Int.sub_eq_add_neg, ← Rat.sub_def'] at J
  have l1 := YY (Zl hr (by omega)); have l2 := YY (Zl hs (by omega)); have l3 := YY (Zf hr (by omega)); have l4 := YY (Zf hs (by omega))
  unfold Xm.f
  (try simp only [Fb_n, Gq, Fb_d, G6])
  refine Ev.bind (Z9 (by omega) (by omega)) (Ev.bind (Z9 (by omega) (by omega)) ?_)
  simp only [if_true, ZI, ML, Option.bind_some]
  exact J
theorem Nh {a b n d : Int} {B : Nat} (ha : a.natAbs ≤ B) (hb : b.natAbs ≤ B) (hn : n.natAbs ≤ B) (hd : d.natAbs ≤ B) (h1 : Fit (a * n)) (h2 : Fit (b * d)) (hB : B < LIM) (d0 : d ≠ 0) (b0 : b ≠ 0) :
    Ev (fun k => Xk.j1 k (Nb a).f_Neg (Nb a).f_D (Nb b).f_Neg (Nb b).f_D (Nb n).f_Neg (Nb n).f_D (Nb d).f_Neg (Nb d).f_D) (Fb (Rat.divInt (a * n) (b * d)), 0) := by
  have f : ∀ x : Int, x.natAbs ≤ B → Ln x ≤ 1300 := fun x hx => YY (Nat.lt_of_le_of_lt hx hB)
  have l1 := f a ha; have l2 := f b hb; have l3 := f n hn; have l4 := f d hd; have l5 := YY h1; have l6 := YY h2
  have nz : ¬ (if d = 0 then (0 : Int) else if d < 0 then -1 else 1) = 0 := by rw [if_neg d0]; split <;> decide
  unfold Xk.j1
  simp only [ZI, Je, Option.bind_some, if_neg nz]
  refine Ev.bind (Z9 (by omega) (by omega)) (Ev.bind (Z9 (by omega) (by omega)) ?_)
  (try simp only [ZI])
  refine Ev.bind (Mn (L := [a * n, b * d]) (by simp) (by intro z hz; simp only [List.mem_cons, List.not_mem_nil, or_false] at hz; rcases hz with rfl | rfl <;> assumption)) ?_
  simp only [Bool.not_true, Bool.false_eq_true, if_false]
  refine Ev.bind (MM (Int.mul_ne_zero b0 d0) (by omega) (by omega)) ?_
  (try simp only [J3]); exact Ev.now
theorem G3 {r s : Rat} {B : Nat} (hr : Rs B r) (hs : Rs B s) (h : B * B < LIM) : Ev (fun k => Xk.f k (Fb r) (Fb s) false) (Fb (r * s), 0) := by
  obtain ⟨-, -, c3, c4⟩ := Zd hr hs
  obtain ⟨p1, -⟩ := ZB hr.pos hr.pos
  have J := Nh (a := r.num) (b := (r.den : Int)) (n := s.num) (d := (s.den : Int)) (B := B) hr.num (by rw [Int.natAbs_natCast]; exact hr.den) hs.num (by rw [Int.natAbs_natCast]; exact hs.den) (by unfold Fit; omega) (by unfold Fit; rw [← Int.natCast_mul, Int.natAbs_natCast]; omega) (by omega) (by have := s.den_nz; omega) (by have := r.den_nz; omega)
  rw [← Int.natCast_mul, Rat.divInt_ofNat, ← Rat.mul_def'] at J
  unfold Xk.f
  simp only [Bool.false_eq_true, if_false]
  exact J
theorem Mb {r s : Rat} {B : Nat} (hr : Rs B r) (hs : Rs B s) (h : B * B < LIM) (h0 : s ≠ 0) : Ev (fun k => Xk.f k (Fb r) (Fb s) true) (Fb (r / s), 0) := by
  obtain ⟨c1, c2, -, -⟩ := Zd hr hs
  obtain ⟨p1, -⟩ := ZB hr.pos hr.pos
  have n0 : s.num ≠ 0 := fun e => h0 (Rat.num_eq_zero.1 e)
  have J := Nh (a := r.num) (b := (r.den : Int)) (n := (s.den : Int)) (d := s.num) (B := B) hr.num (by rw [Int.natAbs_natCast]; exact hr.den) (by rw [Int.natAbs_natCast]; exact hs.den) hs.num (by unfold Fit; omega) (by unfold Fit; rw [Int.mul_comm]; omega) (by omega) n0 (by have := r.den_nz; omega)
  rw [← Gn] at J
  unfold Xk.f
  simp only [if_true]
  exact J
theorem Wm {r s : Rat} {B C : Nat} (hr : Rs B r) (hs : Rs C s) (h : B * C < LIM) : Ev (fun k => Y4.f k (Fb r) (Fb s)) (rcmp r s, 0) := by
  obtain ⟨c1, c2, -, -⟩ := Zd hr hs
  obtain ⟨p1, p2⟩ := ZB hr.pos hs.pos
  have l1 := YY (Zl hr (by omega)); have l2 := YY (Zl hs (by omega)); have l3 := YY (Zf hr (by omega)); have l4 := YY (Zf hs (by omega))
  have f1 : Fit (r.num * (s.den : Int)) := by unfold Fit; omega
  have f2 : Fit (s.num * (r.den : Int)) := by unfold Fit; omega
  have l5 := YY f1; have l6 := YY f2
  unfold Y4.f
  (try simp only [Fb_n, Gq, Fb_d, G6])
  refine Ev.bind (Z9 (by omega) (by omega)) (Ev.bind (Z9 (by omega) (by omega)) ?_)
  (try simp only [ZI])
  refine Ev.bind (Mn (L := [r.num * (s.den : Int), s.num * (r.den : Int)]) (by simp) (by intro z hz; simp only [List.mem_cons, List.not_mem_nil, or_false] at hz; rcases hz with rfl | rfl <;> assumption)) ?_
  simp only [Bool.not_true, Bool.false_eq_true, if_false]
  refine Ev.bind (WO (by omega) (by omega)) ?_
  rw [Vo]
  exact Ev.now
theorem O0 : ∃ s : ByteArray, (∀ (k : Nat) (a : QJ), YH.f k a = (Qs.f k (⟨a.f_N.f_Neg, a.f_N.f_D⟩ : Qh)).bind fun y2 => if (y2.size + s.size : Int) ≤ 9223372036854775807 then ((Qs.f k (⟨a.f_D.f_Neg, a.f_D.f_D⟩ : Qh)).bind fun y7 => if ((y2 ++ s).size + y7.size : Int) ≤ 9223372036854775807 then (some ((y2 ++ s) ++ y7)) else none) else none) ∧ s = strOf [47] := ⟨_, fun _ _ => rfl, by decide +kernel⟩
theorem N9 {r : Rat} {B : Nat} (h : Rs B r) (hB : B < LIM) : Ev (fun k => YH.f k (Fb r)) (rtxt r) := by
  obtain ⟨s, hs, e⟩ := O0
  have l1 := YY (Zl h hB); have l2 := YY (Zf h hB)
  have s1 := Gk (x := r.num) (by omega); have s2 := Gk (x := (r.den : Int)) (by omega)
  have s47 : s.size = 1 := by rw [e, Zx]; rfl
  simp only [hs, Fb_n, Gq, Fb_d, G6]
  refine Ev.bind (Mz (by omega)) ?_
  simp only [if_pos (show ((txt r.num).size : Int) + (s.size : Int) ≤ 9223372036854775807 by omega)]
  refine Ev.bind (Mz (by omega)) ?_
  simp only [ByteArray.size_append, if_pos (show (((txt r.num).size + s.size : Nat) : Int) + ((txt (r.den : Int)).size : Int) ≤ 9223372036854775807 by omega)]
  rw [e]; exact Ev.now
/-! ### fractions of digits -/
namespace L34
theorem fraction_ev {n d : List Int} {neg : Bool} (hn : ∀ x ∈ n, (Lit.int .u8 x).wf = true) (hn' : n.length < 9000000000000000000) (hd : ∀ x ∈ d, (Lit.int .u8 x).wf = true) (hd' : d.length < 9000000000000000000) : ∃ r : Rat, Ev (fun k => XI.f k n d neg) (Fb r) ∧ Rs (10 ^ 60) r := by
  obtain ⟨x, wx, bx, -⟩ := NM hn hn' neg (most := 60) (by decide)
  obtain ⟨y, wy, byy, py⟩ := NM hd hd' false (most := 60) (by decide)
  have lx : Ln x ≤ 60 := Gp bx
  have ly : Ln y ≤ 60 := Gp byy
  have p60 : 1 ≤ 10 ^ 60 := Nat.pow_pos (by decide)
  unfold XI.f
  by_cases z : y = 0
  · subst z
    refine ⟨Rat.divInt x 1, ?_, ?_⟩
    · refine Ev.bind wx (Ev.bind wy ?_)
      simp only [ZI, Je, Option.bind_some, if_true]
      refine Ev.bind (Gi (x := 1) (by decide)) ?_
      (try simp only [ZI])
      refine Ev.bind (MM (by decide) (by omega) (by have : Ln 1 ≤ 1 := Gp (by decide)
                                                    omega)) ?_
      (try simp only [J3]); exact Ev.now
    · rw [show (1 : Int) = ((1 : Nat) : Int) from rfl, Rat.divInt_ofNat]
      exact Jm (by omega) (by omega) (by omega)
  · have hy := py rfl
    refine ⟨Rat.divInt x y, ?_, ?_⟩
    · refine Ev.bind wx (Ev.bind wy ?_)
      have nz : ¬ (if y = 0 then (0 : Int) else if y < 0 then -1 else 1) = 0 := by rw [if_neg z]; split <;> decide
      simp only [ZI, Je, Option.bind_some, if_neg nz]
      refine Ev.bind (MM z (by omega) (by omega)) ?_
      (try simp only [J3]); exact Ev.now
    · rw [show y = ((y.natAbs : Nat) : Int) by omega, Rat.divInt_ofNat]
      exact Jm (by omega) (by omega) (by omega)
theorem giveRatio_ev {r : Rat} {B : Nat} (h : Rs B r) (hB : B < 10 ^ 1200) : Ev (fun k => XQ.f k (Fb r)) (Rb r) := by
  have hl : 10 ^ 1200 < LIM := by decide +kernel
  have f1 := Zl h (by omega); have f2 := Zf h (by omega)
  have l1 : Ln r.num ≤ 1200 := Gp (Nat.lt_of_le_of_lt h.num hB)
  have l2 : Ln (r.den : Int) ≤ 1200 := Gp (by rw [Int.natAbs_natCast]; exact Nat.lt_of_le_of_lt h.den hB)
  unfold XQ.f
  (try simp only [Fb_n, Gq, Fb_d, G6])
  refine Ev.bind (MU f1 (by omega)) (Ev.bind (MU f2 (by omega)) ?_)
  (try simp only [YU])
  refine Ev.bind (Wk h (by omega)) ?_
  (try simp only [Zh]); exact Ev.now
end L34
end Go.Proofs.YtkccpkccdbfomaaGreatDoor.Pure

/- Fractions of the reference (radomeref02): they are rational numbers; and what a law package makes of digits. -/
import Derived.Test.YtkccpkccdbfomaaGreatDoorPureR1L35
import Derived.Test.YtkccpkccdbfomaaGreatDoorPureN6
namespace Go.Proofs.YtkccpkccdbfomaaGreatDoor.Pure
open Go.RowKit Go.Proofs.YtkccpkccdbfomaaGreatDoorK Go.Proofs.YtkccpkccdbfomaaGreatDoor.GBP
set_option linter.unusedVariables false
set_option linter.unusedSimpArgs false
def Fb (r : Rat) : Qh := ⟨Nb r.num, Nb (r.den : Int)⟩
theorem UE (r : Rat) : (⟨(⟨(Fb r).f_N.f_Neg, (Fb r).f_N.f_D⟩ : Qg), (⟨(Fb r).f_D.f_Neg, (Fb r).f_D.f_D⟩ : Qg)⟩ : Qh) = Fb r := rfl
theorem Fb_n (r : Rat) : (⟨(Fb r).f_N.f_Neg, (Fb r).f_N.f_D⟩ : Qg) = Nb r.num := rfl
theorem Fb_d (r : Rat) : (⟨(Fb r).f_D.f_Neg, (Fb r).f_D.f_D⟩ : Qg) = Nb (r.den : Int) := rfl
theorem Ug (r : Rat) : (Fb r).f_N = Nb r.num := rfl
theorem Nj (r : Rat) : (Fb r).f_D = Nb (r.den : Int) := rfl
theorem WM (k : Nat) (x : Int) : Ye.f k (Nb x) = some (Nb (x.natAbs : Int)) := by
  unfold Ye.f
  refine congrArg some ?_
  unfold Nb
  rw [Int.natAbs_natCast]
  have : decide ((x.natAbs : Int) < 0) = false := decide_eq_false (by omega)
  rw [this]
theorem Wm {x y : Int} (h : x.natAbs ≤ y.natAbs) : Ln x ≤ Ln y := Zc h
theorem Qaf {n : Int} {d : Nat} (hd : d ≠ 0) (ln : Ln n < 1000000) (ld : Ln (d : Int) < 1000000) : ∀ (b a : Nat), a ≤ max n.natAbs d → b ≤ max n.natAbs d → Nat.gcd a b = Nat.gcd n.natAbs d → Ev (fun k => (QB.hs k).l0 (Nb n).f_Neg (Nb n).f_D (Nb (d : Int)).f_Neg (Nb (d : Int)).f_D (Nb (a : Int)).f_Neg (Nb (a : Int)).f_D (Nb (b : Int)).f_Neg (Nb (b : Int)).f_D) (Fb (mkRat n d)) := by
  intro b
  induction b using Nat.strongRecOn with
  | _ b ih =>
    intro a ha hb hg
    have lens : ∀ x : Nat, x ≤ max n.natAbs d → Ln (x : Int) < 1000000 := fun x hx => by
      by_cases g : n.natAbs ≤ d
      · have := Wm (x := (x : Int)) (y := (d : Int)) (by rw [Int.natAbs_natCast, Int.natAbs_natCast]; omega); omega
      · have := Wm (x := (x : Int)) (y := n) (by rw [Int.natAbs_natCast]; omega); omega
    have la := lens a ha; have lb := lens b hb
    refine Ev.step (fun k => rfl) ?_
    simp only [QB.hs, QB.b0, ZJ, JR, Option.bind_some]
    by_cases z : b = 0
    · subst z
      rw [Nat.gcd_zero_right] at hg
      have gp : 0 < Nat.gcd n.natAbs d := Nat.gcd_pos_of_pos_right _ (by omega)
      simp only [if_pos (show ((0 : Nat) : Int) = 0 by rfl), if_true]
      refine Ev.bind (NG (by omega) (by omega) (by omega)) (Ev.bind (NG (by omega) (by omega) (by omega)) ?_)
      (try simp only [ZJ])
      have e1 : (mkRat n d).num = n / (a : Int) := by rw [Rat.num_mkRat, if_neg hd, Nat.gcd_comm, ← hg]
      have e2 : (((mkRat n d).den : Nat) : Int) = (d : Int) / (a : Int) := by rw [Rat.den_mkRat, if_neg hd, Nat.gcd_comm, ← hg, Int.natCast_ediv]
      unfold Fb
      rw [e1, e2]
      exact Ev.now
    · have nz : ¬ (if (b : Int) = 0 then (0 : Int) else if (b : Int) < 0 then -1 else 1) = 0 := by rw [if_neg (by omega)]; split <;> decide
      simp only [if_neg nz]
      refine Ev.bind (NG (show (b : Int) ≠ 0 by omega) (by omega) (by omega)) ?_
      have em : (a : Int) % (b : Int) = ((a % b : Nat) : Int) := (Int.natCast_emod a b).symm
      have lt := Nat.mod_lt a (show 0 < b by omega)
      rw [em]
      exact ih (a % b) lt b hb (by omega) (by rw [← hg, Nat.gcd_comm a b, Nat.gcd_rec b a, Nat.gcd_comm])
theorem UV {n : Int} {d : Nat} (hd : d ≠ 0) (ln : Ln n < 1000000) (ld : Ln (d : Int) < 1000000) : Ev (fun k => QB.j1 k (QB.hs k) (Nb n).f_Neg (Nb n).f_D (Nb (d : Int)).f_Neg (Nb (d : Int)).f_D) (Fb (mkRat n d)) := by
  unfold QB.j1
  simp only [ZJ, WM, Option.bind_some]
  exact Qaf hd ln ld d n.natAbs (Nat.le_max_left _ _) (Nat.le_max_right _ _) rfl
theorem JN {n d : Int} (hd : d ≠ 0) (ln : Ln n < 1000000) (ld : Ln d < 1000000) : Ev (fun k => QB.f k (Nb n) (Nb d)) (Fb (Rat.divInt n d)) := by
  unfold QB.f
  simp only [ZJ, JR, Option.bind_some, UW]
  by_cases g : d < 0
  · simp only [if_neg hd, if_pos g, if_pos (show (-1 : Int) < 0 by decide)]
    have := UV (n := -n) (d := d.natAbs) (by omega) (by rw [G5]; exact ln) (by rw [show (d.natAbs : Int) = -d by omega, G5]; exact ld)
    rw [show (d.natAbs : Int) = -d by omega, ← Rat.divInt_ofNat, show (d.natAbs : Int) = -d by omega, Rat.neg_divInt_neg] at this
    exact this
  · have : ¬ (if d = 0 then (0 : Int) else if d < 0 then -1 else 1) < 0 := by rw [if_neg g]; split <;> decide
    simp only [if_neg this]
    have := UV (n := n) (d := d.natAbs) (by omega) ln (by rw [show (d.natAbs : Int) = d by omega]; exact ld)
    rw [show (d.natAbs : Int) = d by omega, ← Rat.divInt_ofNat, show (d.natAbs : Int) = d by omega] at this
    exact this
/-! ### what fits -/
theorem Ol (n a b : Nat) (h : n = a * b) : (2 : Int) ^ n = (((2 ^ a) ^ b : Nat) : Int) := by subst h; rw [← Nat.pow_mul, Int.natCast_pow]; rfl
theorem Uo : Ev (fun k => Qq.f k 4096) (Nb (LIM : Int)) := by
  obtain ⟨n, hn⟩ : ∃ n : Nat, n = 4096 := ⟨_, rfl⟩
  have h := Mm (n := n) (by omega)
  rw [Ol n 32 128 (by omega), show ((2 ^ 32) ^ 128 : Nat) = LIM by decide +kernel, show (n : Int) = 4096 by omega] at h
  exact h
theorem Qau : Ln (LIM : Int) < 1000000 := by
  refine Nat.lt_of_le_of_lt (Nh (m := 1300) ?_) (by decide)
  rw [Int.natAbs_natCast]
  decide +kernel
theorem V9 {x : Int} (hl : Ln x < 1000000) : Ev (fun k => YJ.f k (Nb x) 4096) (decide (x.natAbs < LIM)) := by
  unfold YJ.f
  refine Ev.bind Uo ?_
  have l2 := Qau
  unfold Ln at hl l2
  have := Gp (a := x.natAbs) (b := (LIM : Int).natAbs) (by omega) (by omega)
  rw [Int.natAbs_natCast] at this
  exact Ev.bind this Ev.now
theorem No {t2 : Bool} : ∀ (n : Nat) (L : List Int) (i : Nat), L.length = i + n → L.length < 100 → (∀ x ∈ L, Fit x) → Ev (fun k => (QW.hs k).l0 (L.map Nb) t2 (i : Int)) true
  | 0, L, i, e, hl, hf => by
    refine Ev.step (fun k => rfl) ?_
    simp only [QW.hs, QW.b0, List.length_map, if_neg (show ¬ (i : Int) < (L.length : Int) by omega)]
    exact Ev.now
  | n + 1, L, i, e, hl, hf => by
    have hi : i < L.length := by omega
    have er : rd (L.map Nb) (i : Int) = Nb L[i] := by
      unfold rd; rw [Int.toNat_natCast, List.getD_eq_getElem?_getD, List.getElem?_map, List.getElem?_eq_getElem hi]; rfl
    have hx := hf L[i] (List.getElem_mem hi)
    have F := V9 (x := L[i]) (by have := YN hx; omega)
    have d1 : decide ((L[i]).natAbs < LIM) = true := decide_eq_true hx
    rw [d1] at F
    refine Ev.step (fun k => rfl) ?_
    simp only [QW.hs, QW.b0, List.length_map, if_pos (show (i : Int) < (L.length : Int) by omega), if_pos (show (0 : Int) ≤ (i : Int) ∧ (i : Int) < (L.length : Int) by omega), er, ZJ]
    refine Ev.bind F ?_
    simp only [Bool.not_true, Bool.false_eq_true, if_false, wsucc (show i < 1000000000 by omega)]
    exact No n L (i + 1) (by omega) hl hf
theorem NK {L : List Int} (hl : L.length < 100) (hf : ∀ x ∈ L, Fit x) : Ev (fun k => QW.f k (L.map Nb)) true := No L.length L 0 (by omega) hl hf
/-! ### sums and products -/
theorem VL {r s : Rat} {B C : Nat} {x y : Int} (hr : Rs B r) (hs : Rs C s) (h : 2 * (B * C) < LIM) (hx : x.natAbs ≤ B * C) (hy : y.natAbs ≤ B * C) :
    Ev (fun k => Xz.j1 k (Fb r).f_N.f_Neg (Fb r).f_N.f_D (Fb r).f_D.f_Neg (Fb r).f_D.f_D (Fb s).f_N.f_Neg (Fb s).f_N.f_D (Fb s).f_D.f_Neg (Fb s).f_D.f_D (Nb x).f_Neg (Nb x).f_D (Nb y).f_Neg (Nb y).f_D) (Fb (mkRat (x + y) (r.den * s.den)), 0) := by
  obtain ⟨-, -, -, c4⟩ := Zj hr hs
  obtain ⟨p1, p2⟩ := Jr hr.pos hs.pos
  have fx : Fit x := by unfold Fit; omega
  have fy : Fit y := by unfold Fit; omega
  have fs : Fit (x + y) := by unfold Fit; omega
  have fr := Zg hr (by omega); have fS := Zg hs (by omega)
  have fd : Fit ((r.den : Int) * (s.den : Int)) := by unfold Fit; rw [← Int.natCast_mul, Int.natAbs_natCast]; omega
  have l1 := YN fx; have l2 := YN fy; have l3 := YN fs; have l4 := YN fd; have l5 := YN fr; have l6 := YN fS
  have nz : r.den * s.den ≠ 0 := Nat.mul_ne_zero r.den_nz s.den_nz
  unfold Xz.j1
  (try simp only [ZJ, Fb_d, Nj])
  refine Ev.bind (Gi (by omega) (by omega)) (Ev.bind (JT (by omega) (by omega)) ?_)
  (try simp only [ZJ])
  refine Ev.bind (NK (L := [x, y, x + y, (r.den : Int) * (s.den : Int)]) (by simp) (by intro z hz; simp only [List.mem_cons, List.not_mem_nil, or_false] at hz; rcases hz with rfl | rfl | rfl | rfl <;> assumption)) ?_
  simp only [Bool.not_true, Bool.false_eq_true, if_false]
  refine Ev.bind (JN (by rw [← Int.natCast_mul]; omega) (by omega) (by omega)) ?_
  rw [← Int.natCast_mul, Rat.divInt_ofNat]
  (try simp only [UE])
  exact Ev.now
theorem WC {r s : Rat} {B C : Nat} (hr : Rs B r) (hs : Rs C s) (h : 2 * (B * C) < LIM) : Ev (fun k => Xz.f k (Fb r) (Fb s) false) (Fb (r + s), 0) := by
  obtain ⟨c1, c2, -, -⟩ := Zj hr hs
  obtain ⟨p1, p2⟩ := Jr hr.pos hs.pos
  have J := VL hr hs h c1 c2
  rw [← Rat.add_def'] at J
  have l1 := YN (ZU hr (by omega)); have l2 := YN (ZU hs (by omega)); have l3 := YN (Zg hr (by omega)); have l4 := YN (Zg hs (by omega))
  unfold Xz.f
  (try simp only [Fb_n, Ug, Fb_d, Nj])
  refine Ev.bind (JT (by omega) (by omega)) (Ev.bind (JT (by omega) (by omega)) ?_)
  simp only [Bool.false_eq_true, if_false]
  exact J
theorem Uw {a b n d : Int} {B : Nat} (ha : a.natAbs ≤ B) (hb : b.natAbs ≤ B) (hn : n.natAbs ≤ B) (hd : d.natAbs ≤ B) (h1 : Fit (a * n)) (h2 : Fit (b * d)) (hB : B < LIM) (d0 : d ≠ 0) (b0 : b ≠ 0) :
    Ev (fun k => Xs.j1 k (Nb a).f_Neg (Nb a).f_D (Nb b).f_Neg (Nb b).f_D (Nb n).f_Neg (Nb n).f_D (Nb d).f_Neg (Nb d).f_D) (Fb (Rat.divInt (a * n) (b * d)), 0) := by
  have f : ∀ x : Int, x.natAbs ≤ B → Ln x ≤ 1300 := fun x hx => YN (Nat.lt_of_le_of_lt hx hB)
  have l1 := f a ha; have l2 := f b hb; have l3 := f n hn; have l4 := f d hd; have l5 := YN h1; have l6 := YN h2
  have nz : ¬ (if d = 0 then (0 : Int) else if d < 0 then -1 else 1) = 0 := by rw [if_neg d0]; split <;> decide
  unfold Xs.j1
  simp only [ZJ, JR, Option.bind_some, if_neg nz]
  refine Ev.bind (JT (by omega) (by omega)) (Ev.bind (JT (by omega) (by omega)) ?_)
  (try simp only [ZJ])
  refine Ev.bind (NK (L := [a * n, b * d]) (by simp) (by intro z hz; simp only [List.mem_cons, List.not_mem_nil, or_false] at hz; rcases hz with rfl | rfl <;> assumption)) ?_
  simp only [Bool.not_true, Bool.false_eq_true, if_false]
  refine Ev.bind (JN (Int.mul_ne_zero b0 d0) (by omega) (by omega)) ?_
  (try simp only [UE]); exact Ev.now
theorem O9 : ∃ s : ByteArray, (∀ (k : Nat) (a : Qh), Yn.f k a = (Qt.f k (⟨a.f_N.f_Neg, a.f_N.f_D⟩ : Qg)).bind fun y2 => if (y2.size + s.size : Int) ≤ 9223372036854775807 then ((Qt.f k (⟨a.f_D.f_Neg, a.f_D.f_D⟩ : Qg)).bind fun y7 => if ((y2 ++ s).size + y7.size : Int) ≤ 9223372036854775807 then (some ((y2 ++ s) ++ y7)) else none) else none) ∧ s = strOf [47] := ⟨_, fun _ _ => rfl, by decide +kernel⟩
theorem GV {r : Rat} {B : Nat} (h : Rs B r) (hB : B < LIM) : Ev (fun k => Yn.f k (Fb r)) (rtxt r) := by
  obtain ⟨s, hs, e⟩ := O9
  have l1 := YN (ZU h hB); have l2 := YN (Zg h hB)
  have s1 := JV (x := r.num) (by omega); have s2 := JV (x := (r.den : Int)) (by omega)
  have s47 : s.size = 1 := by rw [e, Za]; rfl
  simp only [hs, Fb_n, Ug, Fb_d, Nj]
  refine Ev.bind (GZ (by omega)) ?_
  simp only [if_pos (show ((txt r.num).size : Int) + (s.size : Int) ≤ 9223372036854775807 by omega)]
  refine Ev.bind (GZ (by omega)) ?_
  simp only [ByteArray.size_append, if_pos (show (((txt r.num).size + s.size : Nat) : Int) + ((txt (r.den : Int)).size : Int) ≤ 9223372036854775807 by omega)]
  rw [e]; exact Ev.now
/-! ### fractions of digits -/
namespace L35
theorem giveRatio_ev {r : Rat} {B : Nat} (h : Rs B r) (hB : B < 10 ^ 1200) : Ev (fun k => XM.f k (Fb r)) (Rb r) := by
  have hl : 10 ^ 1200 < LIM := by decide +kernel
  have f1 := ZU h (by omega); have f2 := Zg h (by omega)
  have l1 : Ln r.num ≤ 1200 := Nh (Nat.lt_of_le_of_lt h.num hB)
  have l2 : Ln (r.den : Int) ≤ 1200 := Nh (by rw [Int.natAbs_natCast]; exact Nat.lt_of_le_of_lt h.den hB)
  unfold XM.f
  (try simp only [Fb_n, Ug, Fb_d, Nj])
  refine Ev.bind (Mq f1 (by omega)) (Ev.bind (Mq f2 (by omega)) ?_)
  (try simp only [YC])
  refine Ev.bind (Ws h (by omega)) ?_
  (try simp only [Y3]); exact Ev.now
end L35
end Go.Proofs.YtkccpkccdbfomaaGreatDoor.Pure

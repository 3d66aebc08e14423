/- The program's whole numbers (wide): their laws, by the printed functions. -/
import Derived.Test.YtkccpkccdbfomaaGreatDoorPureN1
namespace Go.Proofs.YtkccpkccdbfomaaGreatDoor.Pure
open Go.RowKit Go.Proofs.YtkccpkccdbfomaaGreatDoorK Go.Proofs.YtkccpkccdbfomaaGreatDoor.GBH
set_option linter.unusedVariables false
set_option linter.unusedSimpArgs false
/-! ### whole numbers as rows of words, the lowest first -/
def U : List Int → Int
  | [] => 0
  | d :: l => d + 4294967296 * U l
def Wg (l : List Int) : Prop := ∀ d ∈ l, 0 ≤ d ∧ d ≤ 4294967295
def wd (n : Nat) : List Int := if h : n = 0 then [] else ((n % 4294967296 : Nat) : Int) :: wd (n / 4294967296)
termination_by n
decreasing_by omega
theorem YP : wd 0 = [] := by rw [wd]; simp
theorem Gq {n : Nat} (h : n ≠ 0) : wd n = ((n % 4294967296 : Nat) : Int) :: wd (n / 4294967296) := by rw [wd]; simp [h]
theorem U_wd (n : Nat) : U (wd n) = n := by
  induction n using Nat.strongRecOn with
  | _ n ih =>
    by_cases h : n = 0
    · subst h; rw [YP]; rfl
    · rw [Gq h]; simp only [U]; rw [ih (n / 4294967296) (by omega)]; omega
theorem YX (n : Nat) : Wg (wd n) := by
  induction n using Nat.strongRecOn with
  | _ n ih =>
    by_cases h : n = 0
    · subst h; rw [YP]; intro d hd; cases hd
    · rw [Gq h]; intro d hd
      rcases List.mem_cons.1 hd with rfl | hd
      · omega
      · exact ih (n / 4294967296) (by omega) d hd
theorem Jb : Wg [] := fun d h => by cases h
theorem ZJ {d : Int} {l : List Int} : Wg (d :: l) ↔ (0 ≤ d ∧ d ≤ 4294967295) ∧ Wg l := by
  unfold Wg; simp
theorem Jn {l m : List Int} : Wg (l ++ m) ↔ Wg l ∧ Wg m := by
  unfold Wg; simp only [List.mem_append]
  exact ⟨fun h => ⟨fun d q => h d (.inl q), fun d q => h d (.inr q)⟩, fun h d q => q.elim (h.1 d) (h.2 d)⟩
theorem GX (l m : List Int) : U (l ++ m) = U l + 4294967296 ^ l.length * U m := by
  induction l with
  | nil => simp [U]
  | cons d l ih => simp only [List.cons_append, U, List.length_cons, ih, Int.pow_succ]; rw [Int.mul_add, Int.mul_comm (4294967296 ^ l.length) 4294967296, Int.mul_assoc]; omega
theorem JH (l : List Int) (d : Int) : U (l ++ [d]) = U l + 4294967296 ^ l.length * d := by
  rw [GX]; simp [U]
theorem Zq {l : List Int} (h : Wg l) : 0 ≤ U l := by
  induction l with
  | nil => simp [U]
  | cons d l ih => have := ZJ.1 h; have := ih this.2; simp only [U]; omega
theorem U_lt {l : List Int} (h : Wg l) : U l < 4294967296 ^ l.length := by
  induction l with
  | nil => simp [U]
  | cons d l ih =>
    have := ZJ.1 h; have := ih this.2
    simp only [U, List.length_cons, Int.pow_succ]; omega
theorem Wn {l : List Int} (h : Wg l) (hn : ∀ m, l ≠ m ++ [0]) : wd (U l).toNat = l := by
  induction l with
  | nil => simp [U, YP]
  | cons d t ih =>
    obtain ⟨hd, ht⟩ := ZJ.1 h
    have it := ih ht (fun m e => hn (d :: m) (by rw [e]; rfl))
    have vt := Zq ht
    have nz : (U (d :: t)).toNat ≠ 0 := by
      simp only [U]
      intro e
      have e1 : U t = 0 := by omega
      have e2 : d = 0 := by omega
      rw [e1] at it
      simp only [Int.toNat_zero, YP] at it
      exact hn [] (by rw [e2, ← it]; rfl)
    rw [Gq nz]
    congr 1
    · simp only [U]; omega
    · rw [← it]; congr 1; rw [it]; simp only [U]; omega
theorem Z4 {n m : Nat} (h : n < 4294967296 ^ m) : (wd n).length ≤ m := by
  induction m generalizing n with
  | zero => have : n = 0 := by simpa using h
            subst this; rw [YP]; exact Nat.le_refl 0
  | succ m ih =>
    by_cases z : n = 0
    · subst z; rw [YP]; exact Nat.zero_le _
    · rw [Gq z, List.length_cons]
      have := ih (n := n / 4294967296) (by rw [Nat.pow_succ] at h; omega)
      omega
theorem Ma (n : Nat) : n < 4294967296 ^ (wd n).length := by
  have h := U_lt (YX n)
  rw [U_wd] at h
  have e : ((4294967296 ^ (wd n).length : Nat) : Int) = (4294967296 : Int) ^ (wd n).length := by rw [Int.natCast_pow]; rfl
  exact Int.ofNat_lt.1 (by rw [e]; exact h)
theorem Zr {a b : Nat} (h : a ≤ b) : (wd a).length ≤ (wd b).length := Z4 (Nat.lt_of_le_of_lt h (Ma b))
/-- a number as the reference keeps it -/
def Wb (x : Int) : Qq := ⟨decide (x < 0), wd x.natAbs⟩
theorem Mw (n : Nat) : wd n = [] ↔ n = 0 := by
  constructor
  · intro h; have := U_wd n; rw [h] at this; simp only [U] at this; omega
  · rintro rfl; exact YP
theorem Ja {n : Nat} (h : n ≠ 0) : 0 < (wd n).length := by
  cases e : wd n with
  | nil => exact absurd ((Mw n).1 e) h
  | cons a l => simp


/-! ### the program's functions -/
theorem NW : ∀ (n : Nat) (l : List Int), l.length = n → n < 4611686018427387904 → Wg l → Ev (fun k => (QQ.hs k).l0 l) (wd (U l).toNat)
  | 0, l, e, _, _ => by
    obtain rfl := List.length_eq_zero_iff.1 e
    refine Ev.step (fun k => rfl) ?_
    simp [QQ.hs, QQ.b0, U, YP]
    exact Ev.now
  | n + 1, l, e, hb, hd => by
    obtain ⟨m, d, rfl⟩ : ∃ m d, l = m ++ [d] := by
      rcases List.eq_nil_or_concat l with h | ⟨m, d, h⟩
      · subst h; cases e
      · exact ⟨m, d, by simpa using h⟩
    have em : m.length = n := by simpa using e
    have hl : ((m ++ [d]).length : Int) = (n : Int) + 1 := by rw [e]; rfl
    have w : w64 (((m ++ [d]).length : Int) - 1) = n := by rw [XZ (by omega)]; omega
    have dc : decide (0 < ((m ++ [d]).length : Int)) = true := by rw [hl]; exact decide_eq_true (by omega)
    refine Ev.step (fun k => rfl) ?_
    simp only [QQ.hs, QQ.b0, w, dc, if_pos (show (True → (0 : Int) ≤ n ∧ (n : Int) < ((m ++ [d]).length : Int)) by intro; omega), if_pos (show (0 : Int) ≤ 0 ∧ (0 : Int) ≤ n ∧ (n : Int) ≤ ((m ++ [d]).length : Int) by omega),
      Bool.true_and, Jq m d [] (show (n : Int) = m.length by rw [em])]
    by_cases z : d = 0
    · subst z
      rw [JH, Int.mul_zero, Int.add_zero]
      simp only [decide_true, if_true]
      rw [OP m [0] (show (n : Int) = m.length by rw [em])]
      exact NW n m em (by omega) (Jn.1 hd).1
    · simp only [decide_eq_false z, Bool.false_eq_true, if_false]
      rw [Wn hd (fun q eq => z (by have := List.append_inj' eq rfl; simpa using this.2))]
      exact Ev.now
theorem Zp {l : List Int} (hb : l.length < 4611686018427387904) (hd : Wg l) : Ev (fun k => QQ.f k l) (wd (U l).toNat) := NW l.length l rfl hb hd
/-- a number that fits, or the error -/
def LIM : Nat := 4294967296 ^ 128
def Fit (x : Int) : Prop := x.natAbs < LIM
instance (x : Int) : Decidable (Fit x) := inferInstanceAs (Decidable (x.natAbs < LIM))
def sgn3 (a b : Int) : Int := if a < b then -1 else if b < a then 1 else 0
theorem Zf {a b : Int} (h : a < b) : sgn3 a b = -1 := if_pos h
theorem Zs {a b : Int} (h : b < a) : sgn3 a b = 1 := by unfold sgn3; rw [if_neg (by omega), if_pos h]
theorem ZI (a : Int) : sgn3 a a = 0 := by unfold sgn3; simp
theorem VU (a b c : Int) : sgn3 (a + c) (b + c) = sgn3 a b := by
  rcases Int.lt_trichotomy a b with h | h | h
  · rw [Zf h, Zf (by omega)]
  · rw [h, ZI, ZI]
  · rw [Zs h, Zs (by omega)]
def res (x : Int) : Qq × Option Int := if Fit x then (Wb x, none) else (Wb 0, some 12)
theorem Ok (n : Nat) : (wd n).length ≤ 128 ↔ n < LIM := by
  constructor
  · intro h
    have h1 := Ma n
    have h2 : (4294967296 : Nat) ^ (wd n).length ≤ LIM := Nat.pow_le_pow_right (by decide) h
    exact Nat.lt_of_lt_of_le h1 h2
  · intro h
    exact Z4 h
theorem Jx {l : List Int} {neg : Bool} {x : Int} (hb : l.length < 4611686018427387904) (hd : Wg l) (hx : x = if neg then -(U l) else U l) : Ev (fun k => XF.f k neg l) (res x) := by
  have hu := Zq hd
  have hn : x.natAbs = (U l).toNat := by subst hx; cases neg <;> simp <;> omega
  refine Ev.bind (Zp hb hd) ?_
  unfold res
  have fl : _ ↔ Fit x := (Ok (U l).toNat).trans (by unfold Fit; rw [hn])
  by_cases g : Fit x
  · rw [if_pos g, if_neg (show ¬ 128 < ((wd (U l).toNat).length : Int) by have := fl.2 g; omega)]
    have e : (⟨neg && decide (0 < ((wd (U l).toNat).length : Int)), wd (U l).toNat⟩ : Qq) = Wb x := by
      unfold Wb; rw [hn]
      refine congrArg (fun b => (⟨b, wd (U l).toNat⟩ : Qq)) ?_
      have hp : decide (0 < ((wd (U l).toNat).length : Int)) = decide ((U l).toNat ≠ 0) := by
        rw [decide_eq_decide]
        constructor
        · intro h h0; rw [h0, YP] at h; simp at h
        · intro h; have := Ja h; omega
      rw [hp, hx]
      cases neg
      · simp <;> omega
      · simp
    rw [e]; exact Ev.now
  · rw [if_neg g, if_pos (show 128 < ((wd (U l).toNat).length : Int) by have := mt fl.1 g; omega)]
    have e : (⟨false, []⟩ : Qq) = Wb 0 := by unfold Wb; simp [YP]
    rw [e]; exact Ev.now
theorem Wb_w (x : Int) : (Wb x).f_w = wd x.natAbs := rfl
theorem Y8 (x : Int) : (Wb x).f_neg = decide (x < 0) := rfl
theorem YB (x : Int) : (⟨(Wb x).f_neg, (Wb x).f_w⟩ : Qq) = Wb x := rfl
theorem GB (k : Nat) (x : Int) : Xr.f k (Wb x) = some (Wb (-x)) := by
  unfold Xr.f Wb
  simp only [Int.natAbs_neg]
  refine congrArg some (congrArg (fun b => (⟨b, wd x.natAbs⟩ : Qq)) ?_)
  have hp : decide (0 < ((wd x.natAbs).length : Int)) = decide (x ≠ 0) := by
    rw [decide_eq_decide]
    constructor
    · rintro h rfl; simp [YP] at h
    · intro h; have := Ja (n := x.natAbs) (by omega); omega
  rw [hp, Bool.eq_iff_iff]; simp; omega
theorem ZY (k : Nat) (x : Int) : Xl.f k (Wb x) = some (if x = 0 then 0 else if x < 0 then -1 else 1) := by
  unfold Xl.f
  by_cases z : x = 0
  · subst z; simp [Wb, YP]
  · have : (wd x.natAbs).length ≠ 0 := by have := Ja (n := x.natAbs) (by omega); omega
    by_cases g : x < 0 <;> simp [Wb, z, this, g] <;> (intro h; rw [h] at this; simp at this)
theorem Md {x : Int} (h : -9223372036854775808 ≤ x ∧ x ≤ 9223372036854775807) : Ev (fun k => XH.f k x) (Wb x) := by
  have key : ∀ v : Int, v = (x.natAbs : Int) → Ev (fun k => XH.j1 k x v) (Wb x) := by
    intro v hv
    subst hv
    have hr : Wg [((x.natAbs : Int)) % 4294967296, ((x.natAbs : Int) / 4294967296) % 4294967296] := by
      intro d hd; simp only [List.mem_cons, List.not_mem_nil, or_false] at hd; rcases hd with rfl | rfl <;> omega
    refine Ev.bind (Zp (show 2 < 4611686018427387904 by decide) hr) ?_
    have e : (U [((x.natAbs : Int)) % 4294967296, ((x.natAbs : Int) / 4294967296) % 4294967296]).toNat = x.natAbs := by simp only [U]; omega
    rw [e]; exact Ev.now
  simp only [XH.f]
  by_cases z : x < 0
  · simp only [if_pos z]; exact key _ (by omega)
  · simp only [if_neg z]; exact key _ (by omega)
theorem Mx (k : Nat) (x y : Int) : X8.f k x y = some (sgn3 x y) := by
  unfold sgn3 X8.f Yp.f
  simp
  split
  · rfl
  · split <;> rfl
theorem Uh (k : Nat) (x y : Int) : X4.f k x y = some (sgn3 x y) := by
  unfold sgn3 X4.f X5.f
  simp
  split
  · rfl
  · split <;> rfl
/-- of two rows of one length, told from the highest word down -/
theorem Oy (s t : List Int) (t4 : Int) : ∀ (n : Nat) (a b : List Int), a.length = n → b.length = n → (a ++ s).length < 4611686018427387904 → (b ++ t).length < 4611686018427387904 → Wg a → Wg b →
    Ev (fun k => (Q0.hs k).l0 (a ++ s) (b ++ t) t4 ((n : Int) - 1)) (sgn3 (U a) (U b))
  | 0, a, b, ea, eb, _, _, _, _ => by
    obtain rfl := List.length_eq_zero_iff.1 ea
    obtain rfl := List.length_eq_zero_iff.1 eb
    refine Ev.step (fun k => rfl) ?_
    simp only [Q0.hs, Q0.b0, if_neg (show ¬ (0 ≤ ((0 : Nat) : Int) - 1) by omega)]
    exact Ev.now
  | n + 1, a, b, ea, eb, ha, hb, da, db => by
    obtain ⟨p, x, rfl⟩ : ∃ m d, a = m ++ [d] := by
      rcases List.eq_nil_or_concat a with h | ⟨m, d, h⟩
      · subst h; cases ea
      · exact ⟨m, d, by simpa using h⟩
    obtain ⟨q, y, rfl⟩ : ∃ m d, b = m ++ [d] := by
      rcases List.eq_nil_or_concat b with h | ⟨m, d, h⟩
      · subst h; cases eb
      · exact ⟨m, d, by simpa using h⟩
    have ep : p.length = n := by simpa using ea
    have eq : q.length = n := by simpa using eb
    rw [List.append_assoc, List.append_assoc] at *
    simp only [List.singleton_append] at *
    have l1 : (p ++ x :: s).length = n + 1 + s.length := by rw [List.length_append, ep, List.length_cons]; omega
    have l2 : (q ++ y :: t).length = n + 1 + t.length := by rw [List.length_append, eq, List.length_cons]; omega
    have hi : (((n + 1 : Nat) : Int) - 1) = n := by omega
    refine Ev.step (fun k => rfl) ?_
    simp only [Q0.hs, Q0.b0, hi, if_pos (show (0 : Int) ≤ n by omega), if_pos (show (0 : Int) ≤ n ∧ (n : Int) < ((p ++ x :: s).length : Int) by omega), if_pos (show (0 : Int) ≤ n ∧ (n : Int) < ((q ++ y :: t).length : Int) by omega),
      Jq p x s (show (n : Int) = p.length by rw [ep]), Jq q y t (show (n : Int) = q.length by rw [eq]), Uh, Option.bind_some]
    have dp := Jn.1 da; have dq := Jn.1 db
    have bx := dp.2 x (by simp); have by' := dq.2 y (by simp)
    have vp := U_lt dp.1; have vq := U_lt dq.1
    have np := Zq dp.1; have nq := Zq dq.1
    rw [ep] at vp; rw [eq] at vq
    rw [JH, JH, ep, eq]
    have hpow : (0 : Int) ≤ 4294967296 ^ n := Int.le_of_lt (Int.pow_pos (by omega))
    by_cases z : x = y
    · subst z
      simp only [Int.lt_irrefl, if_false, if_true, XZ (show -9223372036854775808 ≤ (n : Int) - 1 ∧ (n : Int) - 1 ≤ 9223372036854775807 by omega)]
      have := Oy (x :: s) (x :: t) t4 n p q ep eq ha hb dp.1 dq.1
      rwa [VU, ZI]
    · by_cases g : x < y
      · have := Int.mul_le_mul_of_nonneg_left (show x + 1 ≤ y by omega) hpow
        rw [Int.mul_add, Int.mul_one] at this
        rw [Zf (show U p + 4294967296 ^ n * x < U q + 4294967296 ^ n * y by omega), Zf g]
        simp only [if_neg (show ¬ ((-1 : Int) = 0) by decide)]
        exact Ev.now
      · have := Int.mul_le_mul_of_nonneg_left (show y + 1 ≤ x by omega) hpow
        rw [Int.mul_add, Int.mul_one] at this
        rw [Zs (show U q + 4294967296 ^ n * y < U p + 4294967296 ^ n * x by omega), Zs (show y < x by omega)]
        simp only [if_neg (show ¬ ((1 : Int) = 0) by decide)]
        exact Ev.now
theorem GA {a b : Nat} (ha : (wd a).length < 4611686018427387904) (hb : (wd b).length < 4611686018427387904) : Ev (fun k => Q0.f k (wd a) (wd b)) (sgn3 a b) := by
  unfold Q0.f
  simp only [Mx, Option.bind_some]
  by_cases e : (wd a).length = (wd b).length
  · rw [show ((wd a).length : Int) = (wd b).length by omega, ZI]
    simp only [if_true]
    have := Oy [] [] 0 (wd a).length (wd a) (wd b) rfl e.symm (by simpa using ha) (by simpa using hb) (YX a) (YX b)
    simp only [List.append_nil, U_wd] at this
    rw [e] at this
    rw [show w64 (((wd b).length : Int) - 1) = ((wd b).length : Int) - 1 from XZ (by omega)]
    exact this
  · by_cases g : ((wd a).length : Int) < (wd b).length
    · have : a < b := Decidable.byContradiction fun h => by have := Zr (show b ≤ a by omega); omega
      rw [Zf g, Zf (show (a : Int) < b by omega)]
      simp only [if_neg (show ¬ ((-1 : Int) = 0) by decide)]; exact Ev.now
    · have : b < a := Decidable.byContradiction fun h => by have := Zr (show a ≤ b by omega); omega
      rw [Zs (show ((wd b).length : Int) < (wd a).length by omega), Zs (show (b : Int) < a by omega)]
      simp only [if_neg (show ¬ ((1 : Int) = 0) by decide)]; exact Ev.now
/-- a number's words are few -/
def Wl (x : Int) : Nat := (wd x.natAbs).length
theorem ZN {x : Int} (h : Fit x) : Wl x ≤ 128 := (Ok _).2 h
theorem N3 {x y : Int} (h1 : ¬ x < 0) (h2 : ¬ y < 0) : sgn3 (x.natAbs : Int) (y.natAbs : Int) = sgn3 x y := by
  rw [show (x.natAbs : Int) = x by omega, show (y.natAbs : Int) = y by omega]
theorem N7 {x y : Int} (h1 : x < 0) (h2 : y < 0) : sgn3 (y.natAbs : Int) (x.natAbs : Int) = sgn3 x y := by
  rcases Int.lt_trichotomy x y with h | h | h
  · rw [Zf h, Zf (by omega)]
  · rw [h, ZI, ZI]
  · rw [Zs h, Zs (by omega)]
def sg (x : Int) : Int := if x = 0 then 0 else if x < 0 then -1 else 1
theorem J5 : sg 0 = 0 := rfl
theorem JV {x : Int} (h : x < 0) : sg x = -1 := by unfold sg; rw [if_neg (by omega), if_pos h]
theorem J1 {x : Int} (h : 0 < x) : sg x = 1 := by unfold sg; rw [if_neg (by omega), if_neg (by omega)]
theorem WS {x y : Int} (hx : Wl x < 4611686018427387904) (hy : Wl y < 4611686018427387904) : Ev (fun k => Yw.f k (Wb x) (Wb y)) (sgn3 x y) := by
  unfold Yw.f
  have e1 : ∀ k (x : Int), Xl.f k (Wb x) = some (sg x) := ZY
  simp only [YB, e1, Option.bind_some, Mx]
  simp only [Y8, Wb_w]
  have h1 := GA hx hy
  have h2 := GA hy hx
  rcases Int.lt_trichotomy x 0 with a | a | a <;> rcases Int.lt_trichotomy y 0 with b | b | b
  · rw [JV a, JV b, ZI]
    simp only [decide_true, Bool.not_true, a, b, beq_self_eq_true, Bool.or_false, Bool.false_eq_true, if_false, if_true]
    rw [← N7 a b]
    exact Ev.bind h2 Ev.now
  · subst b
    rw [JV a, J5, Zf a]
    simp only [show sgn3 (-1) 0 = -1 by decide, show decide ((-1 : Int) = 0) = false by decide, Bool.not_false, Bool.true_or, if_true]
    exact Ev.now
  · rw [JV a, J1 b, Zf (show x < y by omega)]
    simp only [show sgn3 (-1) 1 = -1 by decide, show decide ((-1 : Int) = 0) = false by decide, Bool.not_false, Bool.true_or, if_true]
    exact Ev.now
  · subst a
    rw [J5, JV b, Zs b]
    simp only [show sgn3 0 (-1) = 1 by decide, show decide ((1 : Int) = 0) = false by decide, Bool.not_false, Bool.true_or, if_true]
    exact Ev.now
  · subst a; subst b
    simp only [J5, ZI, decide_true, Bool.not_true, beq_self_eq_true, Bool.or_false, Bool.false_eq_true, if_false, show decide ((0 : Int) < 0) = false by decide]
    have : Ev (fun k => Q0.f k (wd (Int.natAbs 0)) (wd (Int.natAbs 0))) (sgn3 0 0) := h1
    rw [ZI] at this
    exact Ev.bind this Ev.now
  · subst a
    rw [J5, J1 b, Zf b]
    simp only [show sgn3 0 1 = -1 by decide, show decide ((-1 : Int) = 0) = false by decide, Bool.not_false, Bool.true_or, if_true]
    exact Ev.now
  · rw [J1 a, JV b, Zs (show y < x by omega)]
    simp only [show sgn3 1 (-1) = 1 by decide, show decide ((1 : Int) = 0) = false by decide, Bool.not_false, Bool.true_or, if_true]
    exact Ev.now
  · subst b
    rw [J1 a, J5, Zs a]
    simp only [show sgn3 1 0 = 1 by decide, show decide ((1 : Int) = 0) = false by decide, Bool.not_false, Bool.true_or, if_true]
    exact Ev.now
  · rw [J1 a, J1 b, ZI]
    simp only [decide_true, Bool.not_true, show ¬ x < 0 by omega, show ¬ y < 0 by omega, decide_false, beq_self_eq_true, Bool.or_false, Bool.false_eq_true, if_false]
    rw [← N3 (show ¬ x < 0 by omega) (show ¬ y < 0 by omega)]
    exact Ev.bind h1 Ev.now
end Go.Proofs.YtkccpkccdbfomaaGreatDoor.Pure

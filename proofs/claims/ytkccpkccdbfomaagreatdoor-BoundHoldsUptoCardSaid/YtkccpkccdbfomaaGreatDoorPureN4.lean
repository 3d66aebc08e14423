/- Quotients of the reference's whole numbers. -/
import Derived.Test.YtkccpkccdbfomaaGreatDoorPureN3
namespace Go.Proofs.YtkccpkccdbfomaaGreatDoor.Pure
open Go.RowKit Go.Proofs.YtkccpkccdbfomaaGreatDoorK Go.Proofs.YtkccpkccdbfomaaGreatDoor.GBH
set_option linter.unusedVariables false
set_option linter.unusedSimpArgs false

/-! ### quotients -/
theorem Vc {d : Int} {n : Nat} (hd : 0 ≤ d ∧ d ≤ 9) (hb : (dg n).length < 4611686018427387903) : Ev (fun k => QH.f k (d :: dg n)) (dg (d.toNat + 10 * n)) := by
  have h := J6 (l := d :: dg n) (by rw [List.length_cons]; omega) (ZH.2 ⟨hd, ZD n⟩)
  simp only [V, V_dg] at h
  rwa [show (d + 10 * (n : Int)).toNat = d.toNat + 10 * n by omega] at h
/-- the inner round: the divisor is taken off while it goes -/
theorem UR {b : Nat} {sa sb : Bool} {la : List Int} {i : Nat} {R : Qg × Qg} (hb : 0 < b) (hlb : (dg b).length < 8796093022208) :
    ∀ (n r : Nat) (q : List Int), r / b = n → (dg r).length < 8796093022208 → i < q.length → i < 4611686018427387904 → 0 ≤ rd q i → rd q i + n ≤ 9 →
    (∀ q' : List Int, q'= q.set i (rd q i + n) → Ev (fun k => (Qo.hs k).l0 sa la sb (dg b) (dg (r % b)) q' ((i : Int) - 1)) R) →
    Ev (fun k => (Qo.hs k).l1 sa la sb (dg b) (dg r) q i) R
  | 0, r, q, hn, hr, hi, hi2, h0, h9, H => by
    have lt : r < b := by rcases Nat.div_eq_zero_iff.1 hn with h | h <;> omega
    refine Ev.step (fun k => rfl) ?_
    refine Ev.bind (MK (Nat.lt_trans hr (by decide)) (Nat.lt_trans hlb (by decide))) ?_
    simp only [lt, decide_true, Bool.not_true, Bool.false_eq_true, if_false]
    have := H q (by
      rw [show rd q i + ((0 : Nat) : Int) = rd q i by omega]
      refine List.ext_getElem? fun p => ?_
      by_cases e : i = p
      · subst e; rw [List.getElem?_set_self hi, List.getElem?_eq_getElem hi]; unfold rd; rw [Int.toNat_natCast, List.getD_eq_getElem?_getD, List.getElem?_eq_getElem hi]; rfl
      · rw [List.getElem?_set_ne e])
    rw [Nat.mod_eq_of_lt lt] at this
    rwa [show w64 ((i : Int) - 1) = (i : Int) - 1 from XZ (by omega)]
  | n + 1, r, q, hn, hr, hi, hi2, h0, h9, H => by
    have ge : b ≤ r := by
      refine Decidable.byContradiction fun g => ?_
      rw [Nat.div_eq_of_lt (by omega)] at hn; cases hn
    have e1 : (r - b) / b = n := Nat.succ.inj ((Nat.div_eq_sub_div hb ge).symm.trans hn)
    refine Ev.step (fun k => rfl) ?_
    refine Ev.bind (MK (Nat.lt_trans hr (by decide)) (Nat.lt_trans hlb (by decide))) ?_
    simp only [show ¬ r < b by omega, decide_false, Bool.not_false, if_true]
    refine Ev.bind (Gh hr ge) ?_
    simp only [if_pos (And.intro (Int.natCast_nonneg i) (Zi hi)), Int.toNat_natCast]
    rw [small64b (x := rd q i + 1) ⟨by omega, by omega⟩]
    refine UR hb hlb n (r - b) (q.set i (rd q i + 1)) e1 (Nat.lt_of_le_of_lt (Ze (Nat.sub_le r b)) hr) (by rw [List.length_set]; exact hi) hi2 (by rw [Gt hi]; omega) (by rw [Gt hi]; omega) ?_
    intro q' hq'
    rw [Gt hi, List.set_set] at hq'
    rw [← Nat.mod_eq_sub_mod ge]
    exact H q' (by rw [hq']; congr 1; omega)

theorem VW (r d b : Nat) (hb : 0 < b) (hr : r < b) (hd : d ≤ 9) : (d + 10 * r) / b ≤ 9 := by
  refine Nat.le_of_lt_succ ((Nat.div_lt_iff_lt_mul hb).2 ?_)
  omega
theorem V8 (A d b : Nat) (hb : 0 < b) : (d + 10 * A) / b = 10 * (A / b) + (d + 10 * (A % b)) / b ∧ (d + 10 * A) % b = (d + 10 * (A % b)) % b := by
  have e : d + 10 * A = (d + 10 * (A % b)) + b * (10 * (A / b)) := by
    have := Nat.div_add_mod A b
    rw [Nat.mul_left_comm b 10]
    omega
  rw [e, Nat.add_mul_div_left _ _ hb, Nat.add_mul_mod_self_left]
  exact ⟨Nat.add_comm _ _, rfl⟩
theorem Vp {a b : Nat} {sa sb : Bool} {R : Qg × Qg} (hb : 0 < b) (hla : (dg a).length < 8796093022208) (hlb : (dg b).length < 8796093022207)
    (H : ∀ q' : List Int, Dg q' → q'.length = (dg a).length → V q' = ((a / b : Nat) : Int) → Ev (fun k => (Qo.hs k).l0 sa (dg a) sb (dg b) (dg (a % b)) q' ((0 : Nat) - 1 : Int)) R) :
    ∀ (i A : Nat) (q : List Int), i ≤ (dg a).length → V ((dg a).drop i) = A → Dg q → q.length = (dg a).length → V q = 10 ^ i * ((A / b : Nat) : Int) → (∀ p : Nat, p < i → rd q p = 0) →
    Ev (fun k => (Qo.hs k).l0 sa (dg a) sb (dg b) (dg (A % b)) q ((i : Int) - 1)) R
  | 0, A, q, hi, hA, dq, lq, vq, oq => by
    rw [List.drop_zero, V_dg] at hA
    obtain rfl : a = A := by exact_mod_cast hA
    exact H q dq lq (by rw [vq, Int.pow_zero, Int.one_mul])
  | i + 1, A, q, hi, hA, dq, lq, vq, oq => by
    have il : i < (dg a).length := hi
    have ra := YY (ZD a) i
    obtain ⟨d, hd⟩ : ∃ d : Nat, rd (dg a) i = d := ⟨(rd (dg a) i).toNat, (Int.toNat_of_nonneg ra.1).symm⟩
    have d9 : d ≤ 9 := by rw [hd] at ra; exact_mod_cast ra.2
    have lt : A % b < b := Nat.mod_lt _ hb
    have ld := V8 A d b hb
    have sd := VW (A % b) d b hb lt d9
    have lr : (dg (A % b)).length ≤ (dg b).length := Ze (Nat.le_of_lt lt)
    have lr2 : (dg (d + 10 * (A % b))).length < 8796093022208 := by
      refine Nat.lt_of_le_of_lt (Zw (m := (dg b).length + 1) ?_) (Nat.succ_lt_succ hlb)
      have := Gz b
      rw [Nat.pow_succ]; omega
    have hi2 : i < 4611686018427387904 := Nat.lt_trans il (Nat.lt_trans hla (by decide))
    have e1 : (((i + 1 : Nat) : Int) - 1) = i := by omega
    have ly : [rd (dg a) i].length + (dg (A % b)).length ≤ 17592186044288 := by
      simp only [List.length_singleton]; omega
    refine Ev.step (fun k => rfl) ?_
    simp only [Qo.hs, Qo.b0, e1, if_pos (Int.natCast_nonneg i), if_pos (And.intro (Int.natCast_nonneg i) (Zi il)), Option.bind_some, if_pos ly, List.singleton_append]
    refine Ev.bind (Vc ra (by omega)) ?_
    rw [hd, Int.toNat_natCast]
    refine UR hb (Nat.lt_succ_of_lt hlb) _ _ q rfl lr2 (by rw [lq]; exact il) hi2 (by rw [oq i (Nat.lt_succ_self i)]; decide) (by rw [oq i (Nat.lt_succ_self i)]; omega) ?_
    intro q' hq'
    rw [oq i (Nat.lt_succ_self i), Int.zero_add] at hq'
    rw [← ld.2]
    refine Vp hb hla hlb H i (d + 10 * A) q' (Nat.le_of_lt il) ?_ ?_ ?_ ?_ ?_
    · rw [JY, hd, hA]; push_cast; rfl
    · rw [hq']; exact NH dq ⟨Int.natCast_nonneg _, by exact_mod_cast sd⟩
    · rw [hq', List.length_set]; exact lq
    · rw [hq', Nk q i _ (by rw [lq]; exact il), oq i (Nat.lt_succ_self i), vq, ld.1, Int.pow_succ, Int.mul_assoc, Int.sub_zero, ← Int.mul_add]
      push_cast; rfl
    · intro p hp
      rw [hq', Zm (Nat.ne_of_gt hp)]
      exact oq p (Nat.lt_succ_of_lt hp)
theorem U6 : Ln 1 < 8796093022207 := Nat.lt_of_le_of_lt (Zw (n := 1) (m := 1) (by decide)) (by decide)
theorem O7 (a b : Nat) : (dg (a / b)).length ≤ (dg a).length := Ze (Nat.div_le_self a b)
theorem U3 (m b : Nat) : (m : Int) = (b : Int) * ((m / b : Nat) : Int) + ((m % b : Nat) : Int) := by
  exact_mod_cast (Nat.div_add_mod m b).symm
/-- a whole number by one above nought: below nought with a rest it is one less -/
theorem euclid {m b : Nat} (hb : 0 < b) : ((m : Int) / (b : Int) = ((m / b : Nat) : Int) ∧ (m : Int) % (b : Int) = ((m % b : Nat) : Int)) ∧
    (m % b = 0 → (-(m : Int)) / (b : Int) = -((m / b : Nat) : Int) ∧ (-(m : Int)) % (b : Int) = 0) ∧
    (m % b ≠ 0 → (-(m : Int)) / (b : Int) = -((m / b : Nat) : Int) - 1 ∧ (-(m : Int)) % (b : Int) = (b : Int) - ((m % b : Nat) : Int)) := by
  have s := U3 m b
  have lt : ((m % b : Nat) : Int) < b := by exact_mod_cast Nat.mod_lt m hb
  have hb' : (0 : Int) < b := by exact_mod_cast hb
  refine ⟨⟨rfl, rfl⟩, fun h => ?_, fun h => ?_⟩
  · rw [h] at s
    refine (Int.ediv_emod_unique hb').2 ⟨?_, Int.le_refl _, hb'⟩
    rw [Int.mul_neg, s]; simp
  · have p : (0 : Int) < ((m % b : Nat) : Int) := by exact_mod_cast Nat.pos_of_ne_zero h
    refine (Int.ediv_emod_unique hb').2 ⟨?_, by omega, by omega⟩
    rw [Int.mul_sub, Int.mul_neg, Int.mul_one]; omega
theorem VB {x y : Int} {q : List Int} (hy0 : y ≠ 0) (hx : Ln x < 8796093022207) (hy : Ln y < 8796093022207) (dq : Dg q) (lq : q.length = (dg x.natAbs).length) (vq : V q = ((x.natAbs / y.natAbs : Nat) : Int)) :
    Ev (fun k => (Qo.hs k).l0 (decide (x < 0)) (dg x.natAbs) (decide (y < 0)) (dg y.natAbs) (dg (x.natAbs % y.natAbs)) q ((0 : Nat) - 1 : Int)) (Nb (x / y), Nb (x % y)) := by
  unfold Ln at hx hy
  have hb : 0 < y.natAbs := Int.natAbs_pos.2 hy0
  have lt := Nat.mod_lt x.natAbs hb
  obtain ⟨E1, E2, E3⟩ := euclid (m := x.natAbs) hb
  have lq' : (dg (x.natAbs / y.natAbs)).length < 8796093022207 := Nat.lt_of_le_of_lt (O7 _ _) hx
  generalize hm : x.natAbs / y.natAbs = m at *
  generalize hr : x.natAbs % y.natAbs = r at *
  have T := J6 (l := q) (by rw [lq]; exact Nat.lt_trans hx (by decide)) dq
  rw [vq, Int.toNat_natCast] at T
  refine Ev.step (fun k => rfl) ?_
  simp only [Qo.hs, Qo.b0, show ¬ 0 ≤ ((0 : Nat) - 1 : Int) by decide, if_false]
  refine Ev.bind T ?_
  have LNm : Ln (m : Int) < 8796093022208 := by unfold Ln; rw [Int.natAbs_natCast]; omega
  have LNmn : Ln (-(m : Int)) < 8796093022208 := by rw [Mc]; exact LNm
  have yabs : (y < 0 → y = -(y.natAbs : Int)) ∧ (¬ y < 0 → y = (y.natAbs : Int)) := ⟨fun h => by omega, fun h => by omega⟩
  have xabs : (x < 0 → x = -(x.natAbs : Int)) ∧ (¬ x < 0 → x = (x.natAbs : Int)) := ⟨fun h => by omega, fun h => by omega⟩
  -- by size of the divisor alone
  have dv : x / y = (if y < 0 then -(x / (y.natAbs : Int)) else x / (y.natAbs : Int)) ∧ x % y = x % (y.natAbs : Int) := by
    by_cases g : y < 0
    · rw [if_pos g]
      have e := yabs.1 g
      constructor
      · conv => lhs; rw [e, Int.ediv_neg]
      · conv => lhs; rw [e, Int.emod_neg]
    · rw [if_neg g, ← yabs.2 g]; exact ⟨rfl, rfl⟩
  refine Ev.bind (MB fun k => JW k (n := m) (x := if (!(decide (x < 0) == decide (y < 0))) = true then -(m : Int) else m) rfl) ?_
  refine Ev.bind (MB fun k => JW k (n := r) (s := false) (x := r) rfl) ?_
  rw [dv.1, dv.2]
  by_cases xn : x < 0
  · have ex := xabs.1 xn
    simp only [xn, decide_true, Bool.true_and]
    by_cases r0 : r = 0
    · obtain ⟨q1, q2⟩ := E2 r0
      rw [← ex] at q1 q2
      subst r0
      simp only [Y7, List.length_nil, Int.natCast_zero, Int.lt_irrefl, decide_false, Bool.false_eq_true, if_false]
      rw [q1, q2]
      by_cases g : y < 0
      · simp only [g, decide_true, BEq.rfl, Bool.not_true, Bool.false_eq_true, if_false, if_true, Int.neg_neg]; exact Ev.now
      · simp only [g, decide_false, if_false, show (true == false) = false from rfl, Bool.not_false, if_true]; exact Ev.now
    · obtain ⟨q1, q2⟩ := E3 r0
      rw [← ex] at q1 q2
      have rp := Je r0
      have rp2 : 0 < ((dg r).length : Int) := by omega
      simp only [rp2, decide_true, if_true]
      refine Ev.bind (Gh (Nat.lt_succ_of_lt hy) (Nat.le_of_lt lt)) ?_
      refine Ev.bind (MB fun k => JW k (n := y.natAbs - r) (s := false) (x := (y.natAbs : Int) - r) (by simp; omega)) ?_
      rw [q1, q2]
      by_cases g : y < 0
      · simp only [g, decide_true, if_true, BEq.rfl, Bool.not_true, Bool.false_eq_true, if_false]
        refine Ev.bind (Mn (x := 1) (by decide)) ?_
        refine Ev.bind (NT LNm (Nat.lt_succ_of_lt U6)) ?_
        rw [show -(-(m : Int) - 1) = (m : Int) + 1 by omega]
        exact Ev.now
      · simp only [g, decide_false, if_false, show (true == false) = false from rfl, Bool.not_false, if_true, Bool.false_eq_true]
        refine Ev.bind (Mn (x := 1) (by decide)) ?_
        refine Ev.bind (QaC LNmn (Nat.lt_succ_of_lt U6)) ?_
        exact Ev.now
  · have ex := xabs.2 xn
    obtain ⟨q1, q2⟩ := E1
    rw [← ex] at q1 q2
    simp only [xn, decide_false, Bool.false_and, Bool.false_eq_true, if_false]
    rw [q1, q2]
    by_cases g : y < 0
    · simp only [g, decide_true, show (false == true) = false from rfl, Bool.not_false, if_true]; exact Ev.now
    · simp only [g, decide_false, BEq.rfl, Bool.not_true, Bool.false_eq_true, if_false]; exact Ev.now
theorem NU {x y : Int} (hy0 : y ≠ 0) (hx : Ln x < 8796093022207) (hy : Ln y < 8796093022207) : Ev (fun k => Qo.f k (Nb x) (Nb y)) (Nb (x / y), Nb (x % y)) := by
  have h1 : (dg x.natAbs).length ≤ 35184372088832 := Nat.le_trans (Nat.le_of_lt hx) (by decide)
  have w : w64 (((dg x.natAbs).length : Int) - 1) = ((dg x.natAbs).length : Int) - 1 := by have := hx; unfold Ln at this; exact XZ (by omega)
  simp only [Qo.f]
  have c1 : (0 : Int) ≤ ((Nb x).f_D.length : Int) ∧ ((Nb x).f_D.length : Int) ≤ 35184372088832 := by
    refine ⟨Int.natCast_nonneg _, ?_⟩
    show ((dg x.natAbs).length : Int) ≤ _; omega
  have w' : w64 (((Nb x).f_D.length : Int) - 1) = ((dg x.natAbs).length : Int) - 1 := w
  simp only [if_pos c1, w']
  have hb : 0 < y.natAbs := Int.natAbs_pos.2 hy0
  have H := Vp (sa := decide (x < 0)) (sb := decide (y < 0)) hb (Nat.lt_succ_of_lt hx) hy (fun q' dq lq vq => VB hy0 hx hy dq lq vq) (dg x.natAbs).length 0 (List.replicate _ 0) (Nat.le_refl _) (by rw [List.drop_length]; rfl) (NF _) List.length_replicate (by rw [Oq, Nat.zero_div]; simp) (fun p _ => GW _ p)
  rw [Nat.zero_mod, Y7] at H
  exact H

end Go.Proofs.YtkccpkccdbfomaaGreatDoor.Pure

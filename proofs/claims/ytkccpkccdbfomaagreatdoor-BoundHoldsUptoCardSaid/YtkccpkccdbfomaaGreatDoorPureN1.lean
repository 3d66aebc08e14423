/- The reference's whole numbers (radomeref01): their laws, by the printed functions. -/
import Derived.Test.YtkccpkccdbfomaaGreatDoorGBHp
namespace Go.Proofs.YtkccpkccdbfomaaGreatDoor.Pure
open Go.RowKit Go.Proofs.YtkccpkccdbfomaaGreatDoorK Go.Proofs.YtkccpkccdbfomaaGreatDoor.GBH
set_option linter.unusedVariables false
set_option linter.unusedSimpArgs false
/-! ### whole numbers as rows of digits, the lowest first -/
def V : List Int → Int
  | [] => 0
  | d :: l => d + 10 * V l
def Dg (l : List Int) : Prop := ∀ d ∈ l, 0 ≤ d ∧ d ≤ 9
def dg (n : Nat) : List Int := if h : n = 0 then [] else ((n % 10 : Nat) : Int) :: dg (n / 10)
termination_by n
decreasing_by omega
theorem Y7 : dg 0 = [] := by rw [dg]; simp
theorem Gx {n : Nat} (h : n ≠ 0) : dg n = ((n % 10 : Nat) : Int) :: dg (n / 10) := by rw [dg]; simp [h]
theorem V_dg (n : Nat) : V (dg n) = n := by
  induction n using Nat.strongRecOn with
  | _ n ih =>
    by_cases h : n = 0
    · subst h; rw [Y7]; rfl
    · rw [Gx h]; simp only [V]; rw [ih (n / 10) (by omega)]; omega
theorem ZD (n : Nat) : Dg (dg n) := by
  induction n using Nat.strongRecOn with
  | _ n ih =>
    by_cases h : n = 0
    · subst h; rw [Y7]; intro d hd; cases hd
    · rw [Gx h]; intro d hd
      rcases List.mem_cons.1 hd with rfl | hd
      · omega
      · exact ih (n / 10) (by omega) d hd
theorem JX : Dg [] := fun d h => by cases h
theorem ZH {d : Int} {l : List Int} : Dg (d :: l) ↔ (0 ≤ d ∧ d ≤ 9) ∧ Dg l := by
  unfold Dg; simp
theorem Zx {l m : List Int} : Dg (l ++ m) ↔ Dg l ∧ Dg m := by
  unfold Dg; simp only [List.mem_append]
  exact ⟨fun h => ⟨fun d q => h d (.inl q), fun d q => h d (.inr q)⟩, fun h d q => q.elim (h.1 d) (h.2 d)⟩
theorem VK (l m : List Int) : V (l ++ m) = V l + 10 ^ l.length * V m := by
  induction l with
  | nil => simp [V]
  | cons d l ih => simp only [List.cons_append, V, List.length_cons, ih, Int.pow_succ]; rw [Int.mul_add, Int.mul_comm (10 ^ l.length) 10, Int.mul_assoc]; omega
theorem JJ (l : List Int) (d : Int) : V (l ++ [d]) = V l + 10 ^ l.length * d := by
  rw [VK]; simp [V]
theorem J8 {l : List Int} (h : Dg l) : 0 ≤ V l := by
  induction l with
  | nil => simp [V]
  | cons d l ih => have := ZH.1 h; have := ih this.2; simp only [V]; omega
theorem V_lt {l : List Int} (h : Dg l) : V l < 10 ^ l.length := by
  induction l with
  | nil => simp [V]
  | cons d l ih =>
    have := ZH.1 h; have := ih this.2
    simp only [V, List.length_cons, Int.pow_succ]; omega
theorem WP {l : List Int} (h : Dg l) (hn : ∀ m, l ≠ m ++ [0]) : dg (V l).toNat = l := by
  induction l with
  | nil => simp [V, Y7]
  | cons d t ih =>
    obtain ⟨hd, ht⟩ := ZH.1 h
    have it := ih ht (fun m e => hn (d :: m) (by rw [e]; rfl))
    have vt := J8 ht
    have nz : (V (d :: t)).toNat ≠ 0 := by
      simp only [V]
      intro e
      have e1 : V t = 0 := by omega
      have e2 : d = 0 := by omega
      rw [e1] at it
      simp only [Int.toNat_zero, Y7] at it
      exact hn [] (by rw [e2, ← it]; rfl)
    rw [Gx nz]
    congr 1
    · simp only [V]; omega
    · rw [← it]; congr 1; rw [it]; simp only [V]; omega
theorem Zw {n m : Nat} (h : n < 10 ^ m) : (dg n).length ≤ m := by
  induction m generalizing n with
  | zero => have : n = 0 := by simpa using h
            subst this; rw [Y7]; exact Nat.le_refl 0
  | succ m ih =>
    by_cases z : n = 0
    · subst z; rw [Y7]; exact Nat.zero_le _
    · rw [Gx z, List.length_cons]
      have := ih (n := n / 10) (by rw [Nat.pow_succ] at h; omega)
      omega
theorem Gz (n : Nat) : n < 10 ^ (dg n).length := by
  have h := V_lt (ZD n)
  rw [V_dg] at h
  exact_mod_cast h
theorem Ze {a b : Nat} (h : a ≤ b) : (dg a).length ≤ (dg b).length := Zw (Nat.lt_of_le_of_lt h (Gz b))
theorem O0 (a b : Nat) : (dg (a + b)).length ≤ max (dg a).length (dg b).length + 1 := by
  refine Zw ?_
  have h1 := Gz a; have h2 := Gz b
  have p1 : 10 ^ (dg a).length ≤ 10 ^ (max (dg a).length (dg b).length) := Nat.pow_le_pow_right (by omega) (Nat.le_max_left _ _)
  have p2 : 10 ^ (dg b).length ≤ 10 ^ (max (dg a).length (dg b).length) := Nat.pow_le_pow_right (by omega) (Nat.le_max_right _ _)
  rw [Nat.pow_succ]; omega
theorem Ug (a b : Nat) : (dg (a * b)).length ≤ (dg a).length + (dg b).length := by
  refine Zw ?_
  rw [Nat.pow_add]
  exact Nat.mul_lt_mul'' (Gz a) (Gz b)
/-- a number as the reference keeps it -/
def Nb (x : Int) : Qg := ⟨decide (x < 0), dg x.natAbs⟩
theorem My (n : Nat) : dg n = [] ↔ n = 0 := by
  constructor
  · intro h; have := V_dg n; rw [h] at this; simp only [V] at this; omega
  · rintro rfl; exact Y7
theorem Je {n : Nat} (h : n ≠ 0) : 0 < (dg n).length := by
  cases e : dg n with
  | nil => exact absurd ((My n).1 e) h
  | cons a l => simp

/-! ### the reference's functions -/
theorem XZ {x : Int} (h : -9223372036854775808 ≤ x ∧ x ≤ 9223372036854775807) : w64 x = x := by
  simp only [w64, IntKind.wrap, IntKind.bits, IntKind.signed]
  simp
  omega
theorem MB {α : Type} {g : Nat → Option α} {r : α} (h : ∀ k, g k = some r) : Ev g r := ⟨0, fun k _ => h k⟩
theorem Jq (m : List Int) (d : Int) (t : List Int) {i : Int} (h : i = (m.length : Int)) : rd (m ++ d :: t) i = d := by
  subst h; unfold rd; rw [Int.toNat_natCast, List.getD_eq_getElem?_getD, List.getElem?_append_right (Nat.le_refl _), Nat.sub_self]; rfl
theorem OP (m t : List Int) {n : Int} (h : n = m.length) : cut (m ++ t) 0 n = m := by
  subst h; unfold cut; simp
theorem On : ∀ (n : Nat) (l : List Int), l.length = n → n < 4611686018427387904 → Dg l → Ev (fun k => (QH.hs k).l0 l) (dg (V l).toNat)
  | 0, l, e, _, _ => by
    obtain rfl := List.length_eq_zero_iff.1 e
    refine Ev.step (fun k => rfl) ?_
    simp only [QH.hs, QH.b0, List.length_nil, V, Int.toNat_zero, Y7]
    exact Ev.now
  | n + 1, l, e, hb, hd => by
    obtain ⟨m, d, rfl⟩ : ∃ m d, l = m ++ [d] := by
      rcases List.eq_nil_or_concat l with h | ⟨m, d, h⟩
      · subst h; cases e
      · exact ⟨m, d, by simpa using h⟩
    have em : m.length = n := by simpa using e
    have hl : ((m ++ [d]).length : Int) = (n : Int) + 1 := by rw [e]; rfl
    have w : w64 (((m ++ [d]).length : Int) - 1) = n := by rw [XZ (by omega)]; omega
    refine Ev.step (fun k => rfl) ?_
    simp only [QH.hs, QH.b0, w, if_pos (show (True → (0 : Int) ≤ n ∧ (n : Int) < ((m ++ [d]).length : Int)) by intro; omega), if_pos (show (0 : Int) ≤ 0 ∧ (0 : Int) ≤ n ∧ (n : Int) ≤ ((m ++ [d]).length : Int) by omega), Jq m d [] (show (n : Int) = m.length by rw [em]), decide_eq_true_eq, Bool.and_eq_true, show 0 < ((m ++ [d]).length : Int) by omega, true_and]
    by_cases z : d = 0
    · subst z
      rw [JJ, Int.mul_zero, Int.add_zero]
      simp only [if_true]
      rw [OP m [0] (show (n : Int) = m.length by rw [em])]
      exact On n m em (by omega) (Zx.1 hd).1
    · simp only [if_neg z]
      rw [WP hd (fun q eq => z (by have := List.append_inj' eq rfl; simpa using this.2))]
      exact Ev.now
theorem J6 {l : List Int} (hb : l.length < 4611686018427387904) (hd : Dg l) : Ev (fun k => QH.f k l) (dg (V l).toNat) := On l.length l rfl hb hd
theorem NX (k : Nat) (s : Bool) (n : Nat) : Xp.f k s (dg n) = some ⟨s && decide (n ≠ 0), dg n⟩ := by
  unfold Xp.f
  have : decide (0 < ((dg n).length : Int)) = decide (n ≠ 0) := by
    rw [decide_eq_decide]
    constructor
    · rintro h rfl; rw [Y7] at h; simp at h
    · intro h; have := Je h; omega
  rw [this]
theorem JW (k : Nat) {s : Bool} {n : Nat} {x : Int} (h : x = if s then -(n : Int) else n) : Xp.f k s (dg n) = some (Nb x) := by
  rw [NX]; subst h; unfold Nb
  cases s
  · simp
  · by_cases z : n = 0
    · subst z; simp
    · simp [z]; omega
theorem UJ (k : Nat) (x : Int) : XS.f k (Nb x) = some (Nb (-x)) := by
  unfold XS.f
  rw [show (Nb x).f_D = dg x.natAbs by rfl, NX]
  simp only [Nb, Option.bind_some, Int.natAbs_neg]
  refine congrArg some (congrArg (fun b => (⟨b, dg x.natAbs⟩ : Qg)) ?_)
  rw [Bool.eq_iff_iff]; simp; omega
theorem MM (k : Nat) (x : Int) : Yj.f k (Nb x) = some (if x = 0 then 0 else if x < 0 then -1 else 1) := by
  unfold Yj.f
  by_cases z : x = 0
  · subst z; simp [Nb, Y7]
  · have : (dg x.natAbs).length ≠ 0 := by have := Je (n := x.natAbs) (by omega); omega
    by_cases g : x < 0 <;> simp [Nb, z, this, g] <;> (intro h; rw [h] at this; simp at this)
theorem QaQ (x0 : Int) : ∀ (n : Nat) (acc : List Int), n < 18446744073709551616 → acc.length + (dg n).length < 17592186044288 →
    Ev (fun k => (Qs.hs k).l0 x0 n acc) ⟨decide (x0 < 0), acc ++ dg n⟩ := by
  intro n
  induction n using Nat.strongRecOn with
  | _ n ih =>
    intro acc hn hl
    refine Ev.step (fun k => rfl) ?_
    simp only [Qs.hs, Qs.b0]
    by_cases z : n = 0
    · subst z; simp [Y7]; exact Ev.now
    · rw [Gx z] at hl ⊢
      simp only [List.length_cons] at hl
      have e1 : (Int.tdiv (n : Int) 10) % 18446744073709551616 = ((n / 10 : Nat) : Int) := by
        rw [Int.tdiv_eq_ediv_of_nonneg (by omega)]; omega
      have e2 : w64 (Int.tmod (n : Int) 10) = ((n % 10 : Nat) : Int) := by
        rw [Int.tmod_eq_emod_of_nonneg (by omega), XZ (by omega)]; omega
      simp only [if_pos (show 0 < (n : Int) by omega), if_pos (show acc.length + 1 ≤ 17592186044288 by omega), e1, e2]
      have := ih (n / 10) (by omega) (acc ++ [((n % 10 : Nat) : Int)]) (by omega) (by simp only [List.length_append, List.length_cons, List.length_nil]; omega)
      simpa only [List.append_assoc, List.singleton_append] using this
theorem O6 {n : Nat} (h : n < 18446744073709551616) : (dg n).length ≤ 20 := Zw (by omega)
theorem Mn {x : Int} (h : -9223372036854775808 ≤ x ∧ x ≤ 9223372036854775807) : Ev (fun k => Qs.f k x) (Nb x) := by
  have key : ∀ n : Nat, n = x.natAbs → Ev (fun k => (Qs.hs k).l0 x n []) (Nb x) := by
    intro n hn
    have := QaQ x n [] (by omega) (by have := O6 (n := n) (by omega); simp only [List.length_nil]; omega)
    rw [hn] at this ⊢
    simp only [List.nil_append] at this
    exact this
  simp only [Qs.f, Qs.j1]
  by_cases z : x < 0
  · simp only [if_pos z]
    have e : (0 - x % 18446744073709551616) % 18446744073709551616 = ((x.natAbs : Nat) : Int) := by omega
    rw [e]; exact key _ rfl
  · simp only [if_neg z]
    have e : x % 18446744073709551616 = ((x.natAbs : Nat) : Int) := by omega
    rw [e]; exact key _ rfl
/-- of two rows of one length, told from the highest digit down -/
theorem Og (s t : List Int) : ∀ (n : Nat) (a b : List Int), a.length = n → b.length = n → (a ++ s).length < 4611686018427387904 → (b ++ t).length < 4611686018427387904 → Dg a → Dg b →
    Ev (fun k => (QR.hs k).l0 (a ++ s) (b ++ t) false ((n : Int) - 1)) (decide (V a < V b))
  | 0, a, b, ea, eb, _, _, _, _ => by
    obtain rfl := List.length_eq_zero_iff.1 ea
    obtain rfl := List.length_eq_zero_iff.1 eb
    refine Ev.step (fun k => rfl) ?_
    simp only [QR.hs, QR.b0, if_neg (show ¬ (0 ≤ ((0 : Nat) : Int) - 1) by omega)]
    exact Ev.now
  | n + 1, a, b, ea, eb, ha, hb, da, db => by
    obtain ⟨p, x, rfl⟩ : ∃ m d, a = m ++ [d] := by
      rcases List.eq_nil_or_concat a with h | ⟨m, d, h⟩
      · subst h; cases ea
      · exact ⟨m, d, by simpa using h⟩
    obtain ⟨q, y, rfl⟩ : ∃ m d, b = m ++ [d] := by
      rcases List.eq_nil_or_concat b with h | ⟨m, d, h⟩
      · subst h; cases eb
      · exact ⟨m, d, by simpa using h⟩
    have ep : p.length = n := by simpa using ea
    have eq : q.length = n := by simpa using eb
    rw [List.append_assoc, List.append_assoc] at *
    simp only [List.singleton_append] at *
    have l1 : (p ++ x :: s).length = n + 1 + s.length := by rw [List.length_append, ep, List.length_cons]; omega
    have l2 : (q ++ y :: t).length = n + 1 + t.length := by rw [List.length_append, eq, List.length_cons]; omega
    have hi : (((n + 1 : Nat) : Int) - 1) = n := by omega
    refine Ev.step (fun k => rfl) ?_
    simp only [QR.hs, QR.b0, hi, if_pos (show (0 : Int) ≤ n by omega), if_pos (show (0 : Int) ≤ n ∧ (n : Int) < ((p ++ x :: s).length : Int) by omega), if_pos (show (0 : Int) ≤ n ∧ (n : Int) < ((q ++ y :: t).length : Int) by omega),
      Jq p x s (show (n : Int) = p.length by rw [ep]), Jq q y t (show (n : Int) = q.length by rw [eq])]
    have dp := Zx.1 da; have dq := Zx.1 db
    have bx := dp.2 x (by simp); have by' := dq.2 y (by simp)
    have vp := V_lt dp.1; have vq := V_lt dq.1
    have np := J8 dp.1; have nq := J8 dq.1
    rw [ep] at vp; rw [eq] at vq
    rw [JJ, JJ, ep, eq]
    by_cases z : x = y
    · subst z
      simp only [if_true, XZ (show -9223372036854775808 ≤ (n : Int) - 1 ∧ (n : Int) - 1 ≤ 9223372036854775807 by omega)]
      have := Og (x :: s) (x :: t) n p q ep eq ha hb dp.1 dq.1
      rwa [show decide (V p + 10 ^ n * x < V q + 10 ^ n * x) = decide (V p < V q) by rw [decide_eq_decide]; omega]
    · simp only [if_neg z]
      have e : decide (x < y) = decide (V p + 10 ^ n * x < V q + 10 ^ n * y) := by
        rw [decide_eq_decide]
        constructor
        · intro h
          have := Int.mul_le_mul_of_nonneg_left (show x + 1 ≤ y by omega) (show (0 : Int) ≤ 10 ^ n from Int.le_of_lt (Int.pow_pos (by omega)))
          rw [Int.mul_add, Int.mul_one] at this
          omega
        · intro h
          refine Decidable.byContradiction fun g => ?_
          have := Int.mul_le_mul_of_nonneg_left (show y + 1 ≤ x by omega) (show (0 : Int) ≤ 10 ^ n from Int.le_of_lt (Int.pow_pos (by omega)))
          rw [Int.mul_add, Int.mul_one] at this
          omega
      rw [e]; exact Ev.now
theorem MK {a b : Nat} (ha : (dg a).length < 4611686018427387904) (hb : (dg b).length < 4611686018427387904) : Ev (fun k => QR.f k (dg a) (dg b)) (decide (a < b)) := by
  unfold QR.f
  by_cases e : (dg a).length = (dg b).length
  · simp only [if_pos (show ((dg a).length : Int) = (dg b).length by omega)]
    have := Og [] [] (dg a).length (dg a) (dg b) rfl e.symm (by simpa using ha) (by simpa using hb) (ZD a) (ZD b)
    simp only [List.append_nil, V_dg] at this
    rw [show w64 (((dg a).length : Int) - 1) = ((dg a).length : Int) - 1 from XZ (by omega)]
    rwa [show decide (a < b) = decide ((a : Int) < b) by rw [decide_eq_decide]; omega]
  · simp only [if_neg (show ¬ ((dg a).length : Int) = (dg b).length by omega)]
    rw [show decide (((dg a).length : Int) < (dg b).length) = decide (a < b) by
      rw [decide_eq_decide]
      constructor
      · intro h
        refine Decidable.byContradiction fun g => ?_
        have := Ze (show b ≤ a by omega); omega
      · intro h; have := Ze (show a ≤ b by omega); omega]
    exact Ev.now
end Go.Proofs.YtkccpkccdbfomaaGreatDoor.Pure

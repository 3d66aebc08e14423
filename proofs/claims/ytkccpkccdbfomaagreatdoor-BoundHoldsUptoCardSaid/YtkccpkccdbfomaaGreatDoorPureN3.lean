/- Products of the reference's whole numbers. -/
import Derived.Test.YtkccpkccdbfomaaGreatDoorPureN2
namespace Go.Proofs.YtkccpkccdbfomaaGreatDoor.Pure
open Go.RowKit Go.Proofs.YtkccpkccdbfomaaGreatDoorK Go.Proofs.YtkccpkccdbfomaaGreatDoor.GBH
set_option linter.unusedVariables false
set_option linter.unusedSimpArgs false
/-! ### products -/
theorem Gs (d : Int) (l : List Int) (p : Nat) : rd (d :: l) ((p + 1 : Nat) : Int) = rd l p := by
  unfold rd; rw [Int.toNat_natCast, Int.toNat_natCast]; rfl
theorem Gp (d : Int) (l : List Int) : rd (d :: l) ((0 : Nat) : Int) = d := rfl
theorem W5 (d x X Y P : Int) (h : Y = X + P * (d - x)) (e : Int) : e + 10 * Y = e + 10 * X + 10 * P * (d - x) := by
  rw [h, Int.mul_add, Int.mul_assoc]; omega
theorem Nk : ∀ (l : List Int) (p : Nat) (d : Int), p < l.length → V (l.set p d) = V l + 10 ^ p * (d - rd l p)
  | [], p, d, h => by cases h
  | e :: l, 0, d, h => by
    rw [Gp]; simp only [List.set_cons_zero, V, Int.pow_zero]; omega
  | e :: l, p + 1, d, h => by
    rw [Gs]; simp only [List.set_cons_succ, V, Int.pow_succ]
    rw [Int.mul_comm (10 ^ p) 10]
    exact W5 d (rd l p) (V l) _ (10 ^ p) (Nk l p d (Nat.lt_of_succ_lt_succ h)) e
theorem NH {l : List Int} {p : Nat} {d : Int} (h : Dg l) (hd : 0 ≤ d ∧ d ≤ 9) : Dg (l.set p d) := by
  intro x hx
  rcases List.mem_or_eq_of_mem_set hx with h' | rfl
  · exact h x h'
  · exact hd
theorem Zm {l : List Int} {p q : Nat} {d : Int} (h : p ≠ q) : rd (l.set p d) q = rd l q := by
  unfold rd; rw [Int.toNat_natCast, List.getD_eq_getElem?_getD, List.getD_eq_getElem?_getD, List.getElem?_set_ne h]
theorem Gt {l : List Int} {p : Nat} {d : Int} (h : p < l.length) : rd (l.set p d) p = d := by
  unfold rd; rw [Int.toNat_natCast, List.getD_eq_getElem?_getD, List.getElem?_set_self h]; rfl
theorem small64b {x : Int} (h : 0 ≤ x ∧ x ≤ 1000) : w64 x = x := XZ (by omega)
theorem ZQ {i j : Nat} (h : i + j < 9223372036854775808) : w64 ((i : Int) + j) = ((i + j : Nat) : Int) := XZ (by omega)
theorem Z2 {i : Nat} (h : i + 1 < 9223372036854775808) : w64 ((i : Int) + 1) = ((i + 1 : Nat) : Int) := XZ (by omega)
theorem Um {x y : Int} (hx : 0 ≤ x ∧ x ≤ 9) (hy : 0 ≤ y ∧ y ≤ 9) : 0 ≤ x * y ∧ x * y ≤ 81 := by
  refine ⟨Int.mul_nonneg hx.1 hy.1, ?_⟩
  exact Int.le_trans (Int.mul_le_mul_of_nonneg_right hx.2 hy.1) (by omega)
theorem U1 {v : Int} (h : 0 ≤ v ∧ v ≤ 99) : 0 ≤ v % 10 ∧ v % 10 ≤ 9 ∧ 0 ≤ v / 10 ∧ v / 10 ≤ 9 := by omega
theorem W7 (A P r c x y B v : Int) (hv : v = r + c + x * y) : A + P * (v % 10 - r) + P * 10 * (v / 10 + x * B) = A + P * (c + x * (y + 10 * B)) := by
  have e : v % 10 = v - 10 * (v / 10) := by omega
  rw [e, hv]
  generalize (r + c + x * y) / 10 = q
  rw [Int.mul_assoc P 10, Int.add_assoc, ← Int.mul_add]
  congr 2
  rw [Int.mul_add x y, Int.mul_add 10 q, Int.mul_left_comm x 10 B]
  omega
theorem Zi {a b : Nat} (h : a < b) : (a : Int) < (b : Int) := by omega
theorem Vl {a b : Nat} (h : a ≤ b) : (a : Int) ≤ (b : Int) := by omega
theorem Up {a b : List Int} {sa sb : Bool} {i L : Nat} {R : Qg} (da : Dg a) (db : Dg b) (hi : i < a.length) (hL : i + b.length < L) (hB : L < 4611686018427387904) :
    ∀ (n j : Nat) (row : List Int) (c : Int), b.length = j + n → Dg row → row.length = L → 0 ≤ c ∧ c ≤ 9 → rd row ((i + b.length : Nat) : Int) = 0 →
    (∀ row' : List Int, Dg row' → row'.length = L → V row' = V row + 10 ^ (i + j) * (c + rd a i * V (b.drop j)) → (∀ p : Nat, i + b.length < p → rd row' p = rd row p) → Ev (fun k => (Qj.hs k).l0 sa a sb b row' ((i + 1 : Nat) : Int)) R) →
    Ev (fun k => (Qj.hs k).l1 sa a sb b row i c j) R
  | 0, j, row, c, ej, dr, el, hc, hz, H => by
    have ej' : j = b.length := ej.symm
    have p0 : i + j < row.length := by rw [el, ej']; exact hL
    have p1 : i + j < 9223372036854775808 := Nat.lt_trans p0 (by rw [el]; exact Nat.lt_trans hB (by decide))
    have p2 : j + 1 < 9223372036854775808 := by rw [el] at p0; clear H; omega
    have z : rd row ((i + j : Nat) : Int) = 0 := by rw [ej']; exact hz
    have p3 : i + 1 < 9223372036854775808 := by rw [el] at p0; clear H; omega
    refine Ev.step (fun k => rfl) ?_
    simp only [Qj.hs, Qj.b1, Qj.j3, if_pos (Vl (show j ≤ b.length from Nat.le_of_eq ej')), ZQ p1, if_pos (And.intro (Int.natCast_nonneg (i + j)) (Zi p0)), if_neg (show ¬ ((j : Int) < (b.length : Int)) by rw [ej']; exact Int.lt_irrefl _), z, Int.zero_add, Int.toNat_natCast]
    rw [Z2 p2, small64b (x := c) ⟨hc.1, Int.le_trans hc.2 (by decide)⟩, Int.tmod_eq_emod_of_nonneg hc.1, Int.tdiv_eq_ediv_of_nonneg hc.1, Int.emod_eq_of_lt hc.1 (Int.lt_of_le_of_lt hc.2 (by decide)), Int.ediv_eq_zero_of_lt hc.1 (Int.lt_of_le_of_lt hc.2 (by decide))]
    refine Ev.step (fun k => rfl) ?_
    simp only [Qj.hs, Qj.b1, if_neg (show ¬ (((j + 1 : Nat) : Int) ≤ (b.length : Int)) by rw [ej']; clear H; omega), Z2 p3]
    refine H (row.set (i + j) c) (NH dr hc) (by rw [List.length_set]; exact el) ?_ ?_
    · rw [Nk row (i + j) c p0, z, List.drop_eq_nil_of_le (Nat.le_of_eq ej'.symm)]
      simp only [V, Int.mul_zero, Int.add_zero, Int.sub_zero]
    · intro p hp
      exact Zm (by rw [ej']; exact Nat.ne_of_lt hp)
  | n + 1, j, row, c, ej, dr, el, hc, hz, H => by
    have jl : j < b.length := by rw [ej]; exact Nat.lt_add_of_pos_right (Nat.succ_pos n)
    have p0 : i + j < row.length := by rw [el]; exact Nat.lt_trans (Nat.add_lt_add_left jl i) hL
    have p1 : i + j < 9223372036854775808 := Nat.lt_trans p0 (by rw [el]; exact Nat.lt_trans hB (by decide))
    have p2 : j + 1 < 9223372036854775808 := by rw [el] at p0; clear H; omega
    have hr := YY dr (i + j)
    have ha := YY da i
    have hb := YY db j
    have hp := Um ha hb
    have hv : 0 ≤ rd row ((i + j : Nat) : Int) + c + rd a i * rd b j ∧ rd row ((i + j : Nat) : Int) + c + rd a i * rd b j ≤ 99 :=
      ⟨Int.add_nonneg (Int.add_nonneg hr.1 hc.1) hp.1, Int.add_le_add (Int.add_le_add hr.2 hc.2) hp.2⟩
    have cv := U1 hv
    refine Ev.step (fun k => rfl) ?_
    have w1 : w64 (rd row ((i + j : Nat) : Int) + c) = rd row ((i + j : Nat) : Int) + c := small64b ⟨Int.add_nonneg hr.1 hc.1, Int.le_trans (Int.add_le_add hr.2 hc.2) (by decide)⟩
    have w2 : w64 (rd a i * rd b j) = rd a i * rd b j := small64b ⟨hp.1, Int.le_trans hp.2 (by decide)⟩
    have w3 := small64b (x := rd row ((i + j : Nat) : Int) + c + rd a i * rd b j) ⟨hv.1, Int.le_trans hv.2 (by decide)⟩
    have w4 : w64 (w64 (rd row ((i + j : Nat) : Int) + c) + w64 (rd a i * rd b j)) = rd row ((i + j : Nat) : Int) + c + rd a i * rd b j := by rw [w2]; exact (congrArg (fun z => w64 (z + rd a i * rd b j)) w1).trans w3
    simp only [Qj.hs, Qj.b1, Qj.j3, if_pos (Vl (Nat.le_of_lt jl)), ZQ p1, if_pos (And.intro (Int.natCast_nonneg (i + j)) (Zi p0)), if_pos (Zi jl), if_pos (And.intro (Int.natCast_nonneg i) (Zi hi)), if_pos (And.intro (Int.natCast_nonneg j) (Zi jl)), Int.toNat_natCast]
    rw [w4, Z2 p2]
    have H' := Up (R := R) (sa := sa) (sb := sb) da db hi hL hB n (j + 1) (row.set (i + j) ((rd row ((i + j : Nat) : Int) + c + rd a i * rd b j) % 10)) ((rd row ((i + j : Nat) : Int) + c + rd a i * rd b j) / 10)
      (by rw [ej, Nat.add_assoc, Nat.add_comm 1 n]) (NH dr ⟨cv.1, cv.2.1⟩) (by rw [List.length_set]; exact el) ⟨cv.2.2.1, cv.2.2.2⟩ (by rw [Zm (Nat.ne_of_lt (Nat.add_lt_add_left jl i))]; exact hz)
      (fun row' d' l' v' o' => H row' d' l' (by
        rw [v', Nk row (i + j) _ p0, ← Nat.add_assoc i j 1, Int.pow_succ, JY b j]
        exact W7 (V row) (10 ^ (i + j)) (rd row ((i + j : Nat) : Int)) c (rd a i) (rd b j) (V (b.drop (j + 1))) _ rfl)
        (fun p hp => by rw [o' p hp]; exact Zm (Nat.ne_of_lt (Nat.lt_trans (Nat.add_lt_add_left jl i) hp))))
    rw [Int.tmod_eq_emod_of_nonneg hv.1, Int.tdiv_eq_ediv_of_nonneg hv.1, small64b (x := (rd row ((i + j : Nat) : Int) + c + rd a i * rd b j) / 10) ⟨cv.2.2.1, Int.le_trans cv.2.2.2 (by decide)⟩]
    exact H'
theorem Ob (l : List Int) (i : Nat) (h : i < l.length) : V (l.take (i + 1)) = V (l.take i) + 10 ^ i * rd l i := by
  rw [List.take_succ_eq_append_getElem h, JJ, List.length_take, Nat.min_eq_left (Nat.le_of_lt h)]
  unfold rd; rw [Int.toNat_natCast, List.getD_eq_getElem?_getD, List.getElem?_eq_getElem h]; rfl
theorem Vd {a b : List Int} {sa sb : Bool} {L : Nat} (da : Dg a) (db : Dg b) (hL : a.length + b.length < L) (hB : L < 4611686018427387904) :
    ∀ (n i : Nat) (row : List Int), a.length = i + n → Dg row → row.length = L → V row = V (a.take i) * V b → (∀ p : Nat, i + b.length ≤ p → rd row p = 0) →
    Ev (fun k => (Qj.hs k).l0 sa a sb b row i) ⟨(!(sa == sb)) && decide ((V a * V b).toNat ≠ 0), dg (V a * V b).toNat⟩
  | 0, i, row, ei, dr, el, hv, ho => by
    refine Ev.step (fun k => rfl) ?_
    simp only [Qj.hs, Qj.b0, if_neg (show ¬ ((i : Int) < (a.length : Int)) by rw [ei]; exact Int.lt_irrefl _)]
    rw [List.take_of_length_le (i := i) (l := a) (Nat.le_of_eq ei)] at hv
    refine Ev.bind (J6 (by rw [el]; exact hB) dr) ?_
    rw [hv]
    simp only [NX, Option.bind_some]
    exact Ev.now
  | n + 1, i, row, ei, dr, el, hv, ho => by
    have il : i < a.length := by rw [ei]; exact Nat.lt_add_of_pos_right (Nat.succ_pos n)
    refine Ev.step (fun k => rfl) ?_
    simp only [Qj.hs, Qj.b0, if_pos (Zi il)]
    have H := Up (R := ⟨(!(sa == sb)) && decide ((V a * V b).toNat ≠ 0), dg (V a * V b).toNat⟩) (sa := sa) (sb := sb) da db il (Nat.lt_trans (Nat.add_lt_add_right il _) hL) hB b.length 0 row 0 (Nat.zero_add _).symm dr el (by decide) (ho _ (Nat.le_refl _))
      (fun row' d' l' v' o' => Vd da db hL hB n (i + 1) row' (by rw [ei, Nat.add_assoc, Nat.add_comm 1 n]) d' l' (by
        rw [v', hv, Ob a i il, List.drop_zero, Nat.add_zero, Int.zero_add, Int.add_mul, Int.mul_assoc])
        (fun p hp => by
          rw [o' p (by rw [Nat.add_right_comm] at hp; exact hp)]
          exact ho p (by rw [Nat.add_right_comm] at hp; exact Nat.le_of_succ_le hp)))
    exact H
theorem Oq (n : Nat) : V (List.replicate n (0 : Int)) = 0 := by
  induction n with
  | zero => rfl
  | succ n ih => rw [List.replicate_succ]; simp only [V, ih]; rfl
theorem NF (n : Nat) : Dg (List.replicate n 0) := by
  intro d hd; rw [List.eq_of_mem_replicate hd]; decide
theorem GW (n p : Nat) : rd (List.replicate n (0 : Int)) p = 0 := by
  unfold rd; rw [Int.toNat_natCast, List.getD_eq_getElem?_getD]
  by_cases h : p < n
  · rw [List.getElem?_replicate, if_pos h]; rfl
  · rw [List.getElem?_eq_none (by rw [List.length_replicate]; omega)]; rfl
theorem WQ {x y : Nat} (hx : x < 8796093022208) (hy : y < 8796093022208) : w64 (w64 ((x : Int) + y) + 1) = ((x + y + 1 : Nat) : Int) := by
  rw [ZQ (by omega), Z2 (by omega)]
theorem Qaq {x y : Int} (hx : Ln x < 8796093022208) (hy : Ln y < 8796093022208) : Ev (fun k => Qj.f k (Nb x) (Nb y)) (Nb (x * y)) := by
  unfold Ln at hx hy
  simp only [Qj.f]
  have e := WQ hx hy
  have h1 : (dg x.natAbs).length + (dg y.natAbs).length + 1 ≤ 35184372088832 := by omega
  have h2 : (dg x.natAbs).length + (dg y.natAbs).length + 1 < 4611686018427387904 := by omega
  have h3 : 0 ≤ (((dg x.natAbs).length + (dg y.natAbs).length + 1 : Nat) : Int) ∧ (((dg x.natAbs).length + (dg y.natAbs).length + 1 : Nat) : Int) ≤ 35184372088832 := by omega
  simp only [Nb, e, if_pos h3, Int.toNat_natCast]
  have H := Vd (sa := decide (x < 0)) (sb := decide (y < 0)) (ZD x.natAbs) (ZD y.natAbs) (Nat.lt_succ_self _) h2 (dg x.natAbs).length 0 (List.replicate _ 0) (Nat.zero_add _).symm (NF _) List.length_replicate (by rw [Oq, List.take_zero]; simp only [V, Int.zero_mul]) (fun p _ => GW _ p)
  rw [V_dg, V_dg] at H
  have q : ((x.natAbs : Int) * (y.natAbs : Int)).toNat = (x * y).natAbs := by rw [Int.natAbs_mul, ← Int.natCast_mul, Int.toNat_natCast]
  rw [q] at H
  have s : ((!(decide (x < 0) == decide (y < 0))) && decide ((x * y).natAbs ≠ 0)) = decide (x * y < 0) := by
    by_cases a0 : x = 0
    · subst a0; simp
    by_cases b0 : y = 0
    · subst b0; simp
    have z : x * y ≠ 0 := Int.mul_ne_zero a0 b0
    by_cases a1 : x < 0 <;> by_cases b1 : y < 0
    · have := Int.mul_pos_of_neg_of_neg a1 b1; simp [a1, b1]; omega
    · have := Int.mul_neg_of_neg_of_pos a1 (show 0 < y by omega); simp [a1, b1, a0, b0, this]
    · have := Int.mul_neg_of_pos_of_neg (show 0 < x by omega) b1; simp [a1, b1, a0, b0, this]
    · have := Int.mul_pos (show 0 < x by omega) (show 0 < y by omega); simp [a1, b1]; omega
  rw [s] at H
  exact H

end Go.Proofs.YtkccpkccdbfomaaGreatDoor.Pure

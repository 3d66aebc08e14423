/- Quotients of the program's whole numbers, word by word from the highest on: the guess of a word, the taking off, the giving back. -/
import Derived.Test.YtkccpkccdbfomaaGreatDoorPureW4
namespace Go.Proofs.YtkccpkccdbfomaaGreatDoor.Pure
open Go.RowKit Go.Proofs.YtkccpkccdbfomaaGreatDoorK Go.Proofs.YtkccpkccdbfomaaGreatDoor.GBH
set_option linter.unusedVariables false
set_option linter.unusedSimpArgs false
/-! ### numbers: what a guess of the highest words tells -/
theorem ZW {Z a b : Int} (hZ : 1 ≤ Z) (h : Z * a < Z * b) : a < b := Int.lt_of_mul_lt_mul_left h (by omega)
theorem Ut {Z lW lD u2 u1 u0 v2 v1 W D : Int} (hZ : 1 ≤ Z) (hlW : 0 ≤ lW ∧ lW < Z) (hlD : 0 ≤ lD ∧ lD < Z) (hW : W = lW + Z * (u2 + 4294967296 * (u1 + 4294967296 * u0))) (hD : D = lD + Z * (v2 + 4294967296 * v1))
    (hu1 : 0 ≤ u1 ∧ u1 ≤ 4294967295) (hu2 : 0 ≤ u2 ∧ u2 ≤ 4294967295) (hv2 : 0 ≤ v2 ∧ v2 ≤ 4294967295) (hlt : W < D * 4294967296) : u0 ≤ v1 := by
  have h1 : Z * (u2 + 4294967296 * (u1 + 4294967296 * u0)) < Z * ((v2 + 4294967296 * v1 + 1) * 4294967296) := by
    have e : Z * ((v2 + 4294967296 * v1 + 1) * 4294967296) = (Z * (v2 + 4294967296 * v1)) * 4294967296 + Z * 4294967296 := by rw [Int.add_mul, Int.mul_add, Int.mul_assoc]; omega
    generalize Z * (v2 + 4294967296 * v1) = a at *
    generalize Z * (u2 + 4294967296 * (u1 + 4294967296 * u0)) = b at *
    omega
  have := ZW hZ h1
  omega
theorem Ww {Z lW lD T3 D2 W D q : Int} (hZ : 1 ≤ Z) (hlW : 0 ≤ lW ∧ lW < Z) (hlD : 0 ≤ lD ∧ lD < Z) (hW : W = lW + Z * T3) (hD : D = lD + Z * D2) (hq : 0 ≤ q) (h : T3 < q * D2) : W < q * D := by
  have h1 := Int.mul_le_mul_of_nonneg_left (show T3 + 1 ≤ q * D2 by omega) (show 0 ≤ Z by omega)
  have h2 := Int.mul_nonneg hq hlD.1
  rw [Int.mul_add] at h1
  rw [hD, Int.mul_add, Int.mul_left_comm]
  omega
theorem Wt {Z lW lD T3 D2 W D q : Int} (hZ : 1 ≤ Z) (hlW : 0 ≤ lW ∧ lW < Z) (hlD : 0 ≤ lD ∧ lD < Z) (hW : W = lW + Z * T3) (hD : D = lD + Z * D2) (hq : 0 ≤ q) (hqD : q ≤ D2) (hT : 0 ≤ T3) (hD2 : 0 ≤ D2) (h : q * D2 ≤ T3) : (q - 1) * D ≤ W := by
  by_cases z : q = 0
  · subst z
    have h1 := Int.mul_nonneg (show 0 ≤ Z by omega) hT
    have h2 := Int.mul_nonneg (show 0 ≤ Z by omega) hD2
    omega
  · have h1 := Int.mul_le_mul_of_nonneg_left (show lD ≤ Z by omega) (show 0 ≤ q - 1 by omega)
    have h2 := Int.mul_le_mul_of_nonneg_left (show (q - 1) + (q - 1) * D2 ≤ T3 by rw [Int.sub_mul]; omega) (show 0 ≤ Z by omega)
    rw [Int.mul_add, Int.mul_comm Z (q - 1)] at h2
    rw [hD, Int.mul_add, Int.mul_left_comm]
    omega
theorem VR {Z lW lD u2 top v2 v1 W D q : Int} (hZ : 1 ≤ Z) (hlW : 0 ≤ lW ∧ lW < Z) (hlD : 0 ≤ lD ∧ lD < Z) (hW : W = lW + Z * (u2 + 4294967296 * top)) (hD : D = lD + Z * (v2 + 4294967296 * v1)) (hu2 : 0 ≤ u2 ∧ u2 ≤ 4294967295) (hv2 : 0 ≤ v2) (hq : 0 ≤ q) (h : q * D ≤ W) : q * v1 ≤ top := by
  have h1 := Int.mul_nonneg hq hlD.1
  have h2 := Int.mul_nonneg (show 0 ≤ Z by omega) (Int.mul_nonneg hq hv2)
  have e : q * D = q * lD + (Z * (q * v2) + Z * (4294967296 * (q * v1))) := by
    rw [hD, Int.mul_add, Int.mul_left_comm q Z, Int.mul_add q, Int.mul_add Z, Int.mul_left_comm q 4294967296]
  have h3 : Z * (4294967296 * (q * v1)) < Z * (u2 + 4294967296 * top + 1) := by
    rw [Int.mul_add Z _ 1, Int.mul_one]; omega
  have := ZW hZ h3
  omega
/-! ### the guess -/
structure Kn (r d : List Int) (i : Nat) : Prop where
  dr : Wg r
  dd : Wg d
  nb : 2 ≤ d.length
  hi : i + d.length < r.length
  hr : r.length < 1000000
  v1 : 2147483648 ≤ rd d ((d.length - 1 : Nat) : Int)
  lt : U (r.drop i) < U d * 4294967296
theorem Jw (l : List Int) (m : Nat) (h : m ≤ l.length) : U l = U (l.take m) + 4294967296 ^ m * U (l.drop m) := by
  have := GX (l.take m) (l.drop m)
  rw [List.take_append_drop, List.length_take, Nat.min_eq_left h] at this
  exact this
theorem Zd {l : List Int} (h : Wg l) {m : Nat} (hm : m ≤ l.length) : 0 ≤ U (l.take m) ∧ U (l.take m) < 4294967296 ^ m := by
  have h1 := U_lt (OU h m)
  rw [List.length_take, Nat.min_eq_left hm] at h1
  exact ⟨Zq (OU h m), h1⟩
theorem YW (m : Nat) : (1 : Int) ≤ 4294967296 ^ m := Int.pow_pos (by decide)
/-- the parts of what is divided, and of what it is by -/
theorem Kn.parts {r d : List Int} {i m : Nat} (h : Kn r d i) (hm : d.length = m + 2) :
    U d = U (d.take m) + 4294967296 ^ m * (rd d (m : Int) + 4294967296 * rd d ((m + 1 : Nat) : Int)) ∧
    U (r.drop i) = U ((r.drop i).take m) + 4294967296 ^ m * (rd r ((i + m : Nat) : Int) + 4294967296 * (rd r ((i + m + 1 : Nat) : Int) + 4294967296 * rd r ((i + m + 2 : Nat) : Int))) ∧
    U (r.drop (i + m + 3)) = 0 := by
  have hi := h.hi
  have e1 : U d = U (d.take m) + 4294967296 ^ m * (rd d (m : Int) + 4294967296 * rd d ((m + 1 : Nat) : Int)) := by
    rw [Jw d m (by omega), Zb d m, Zb d (m + 1), List.drop_eq_nil_of_le (show d.length ≤ m + 1 + 1 by omega)]
    simp only [U, Int.mul_zero, Int.add_zero]
  have e2 : U (r.drop i) = U ((r.drop i).take m) + 4294967296 ^ m * (rd r ((i + m : Nat) : Int) + 4294967296 * (rd r ((i + m + 1 : Nat) : Int) + 4294967296 * (rd r ((i + m + 2 : Nat) : Int) + 4294967296 * U (r.drop (i + m + 3))))) := by
    rw [Jw (r.drop i) m (by rw [List.length_drop]; omega), List.drop_drop, Zb r (i + m), Zb r (i + m + 1), Zb r (i + m + 1 + 1)]
  have z : U (r.drop (i + m + 3)) = 0 := by
    have h0 := Zq (Jh h.dr (i + m + 3))
    refine Decidable.byContradiction fun hne => ?_
    have hl := h.lt
    have hd := U_lt h.dd
    rw [hm] at hd
    have b2 := Yh h.dr (i + m); have b1 := Yh h.dr (i + m + 1); have b0 := Yh h.dr (i + m + 2)
    have hZ := YW m
    have t0 := (Zd (Jh h.dr i) (m := m) (by rw [List.length_drop]; omega)).1
    have q := Int.mul_le_mul_of_nonneg_left (show 4294967296 * (4294967296 * 4294967296) ≤ rd r ((i + m : Nat) : Int) + 4294967296 * (rd r ((i + m + 1 : Nat) : Int) + 4294967296 * (rd r ((i + m + 2 : Nat) : Int) + 4294967296 * U (r.drop (i + m + 3)))) by omega) (show (0 : Int) ≤ 4294967296 ^ m by omega)
    have ep : (4294967296 : Int) ^ (m + 2) * 4294967296 = 4294967296 ^ m * (4294967296 * (4294967296 * 4294967296)) := by rw [Int.pow_succ, Int.pow_succ]; simp only [Int.mul_assoc]
    have := Int.mul_lt_mul_of_pos_right hd (show (0 : Int) < 4294967296 by decide)
    omega
  refine ⟨e1, ?_, z⟩
  rw [e2, z]; simp only [Int.mul_zero, Int.add_zero]
theorem GZ {W D : Int} (hD : 1 ≤ D) (hW : 0 ≤ W) (h : W < D * 4294967296) : 0 ≤ W / D ∧ W / D ≤ 4294967295 := by
  have := Int.ediv_lt_of_lt_mul (show 0 < D by omega) (show W < 4294967296 * D by rw [Int.mul_comm]; exact h)
  exact ⟨Int.ediv_nonneg hW (by omega), by omega⟩
theorem Ur {r d : List Int} {i m : Nat} (h : Kn r d i) (hm : d.length = m + 2) : ∀ (n : Nat) (q left : Int), q.toNat = n → U (r.drop i) / U d ≤ q → q ≤ 4294967297 → 0 ≤ left → left < 4294967296 → left = rd r ((i + m + 1 : Nat) : Int) + 4294967296 * rd r ((i + m + 2 : Nat) : Int) - q * rd d ((m + 1 : Nat) : Int) →
    ∃ g, Ev (fun k => (Q2.hs k).l0 r d (i : Int) (d.length : Int) q left) g ∧ U (r.drop i) / U d ≤ g ∧ g ≤ U (r.drop i) / U d + 1 ∧ g ≤ 4294967295 := by
  obtain ⟨eD, eW, -⟩ := h.parts hm
  have hi := h.hi
  have hr := h.hr
  have b2 := Yh h.dr (i + m); have b1 := Yh h.dr (i + m + 1); have b0 := Yh h.dr (i + m + 2)
  have c2 := Yh h.dd m; have c1 := Yh h.dd (m + 1)
  have hv1 := h.v1
  rw [show d.length - 1 = m + 1 by omega] at hv1
  have hZ := YW m
  have tW := Zd (Jh h.dr i) (m := m) (by rw [List.length_drop]; omega)
  have tD := Zd h.dd (m := m) (by omega)
  have hlt := h.lt
  have hW0 := Zq (Jh h.dr i)
  have x1 : w64 ((d.length : Int) - 2) = (m : Int) := by rw [XZ (by omega)]; omega
  have x2 : w64 ((d.length : Int) - 1) = ((m + 1 : Nat) : Int) := by rw [XZ (by omega)]; omega
  have x3 : w64 ((i : Int) + (d.length : Int)) = ((i + m + 2 : Nat) : Int) := by rw [XZ (by omega)]; omega
  have x4 : w64 (((i + m + 2 : Nat) : Int) - 2) = ((i + m : Nat) : Int) := by rw [XZ (by omega)]; omega
  have y1 : (0 : Int) ≤ (m : Int) ∧ (m : Int) < (d.length : Int) := by omega
  have y2 : (0 : Int) ≤ ((i + m : Nat) : Int) ∧ ((i + m : Nat) : Int) < (r.length : Int) := by omega
  have y3 : (0 : Int) ≤ ((m + 1 : Nat) : Int) ∧ ((m + 1 : Nat) : Int) < (d.length : Int) := by omega
  have top := Ut hZ tW tD eW eD b1 b2 c2 hlt
  generalize eu2 : rd r ((i + m : Nat) : Int) = u2 at *
  generalize eu1 : rd r ((i + m + 1 : Nat) : Int) = u1 at *
  generalize eu0 : rd r ((i + m + 2 : Nat) : Int) = u0 at *
  generalize ev2 : rd d (m : Int) = v2 at *
  generalize ev1 : rd d ((m + 1 : Nat) : Int) = v1 at *
  generalize U (r.drop i) = W at *
  generalize U d = D at *
  have hD2 : (0 : Int) ≤ v2 + 4294967296 * v1 := by omega
  have hD1 : 1 ≤ D := by
    have := Int.mul_le_mul_of_nonneg_left (show (1 : Int) ≤ v2 + 4294967296 * v1 by omega) (show (0 : Int) ≤ 4294967296 ^ m by omega)
    omega
  have qb := GZ hD1 hW0 hlt
  -- a good end
  have fin : ∀ q : Int, W / D ≤ q → q ≤ 4294967295 → q * (v2 + 4294967296 * v1) ≤ u2 + 4294967296 * (u1 + 4294967296 * u0) → q ≤ W / D + 1 := by
    intro q hq hq2 hle
    have := Wt hZ tW tD eW eD (by omega) (by omega) (by omega) hD2 hle
    have : q - 1 ≤ W / D := Int.le_ediv_of_mul_le (by omega) this
    omega
  intro n
  induction n using Nat.strongRecOn with
  | _ n ih =>
    intro q left hn hq hq2 hl0 hl1 hl
    have el : (left * 4294967296) % 18446744073709551616 = left * 4294967296 := by omega
    have eo : ior .u64 ((left * 4294967296) % 18446744073709551616) (u2 % 18446744073709551616) = left * 4294967296 + u2 := by
      rw [el, wmodid b2]; exact ior_hl' (by omega) b2
    -- what the test says
    have eq1 : q * (v2 + 4294967296 * v1) = q * v2 + 4294967296 * (q * v1) := by rw [Int.mul_add, Int.mul_left_comm]
    by_cases t : (decide (4294967296 ≤ q) || decide (left * 4294967296 + u2 < q * v2 % 18446744073709551616)) = true
    · -- one less
      have hgt : W / D < q := by
        by_cases g : 4294967296 ≤ q
        · omega
        · have g2 : left * 4294967296 + u2 < q * v2 := by
            have p := Jo (x := q) (y := v2) ⟨by omega, by omega⟩ c2
            have e : q * v2 % 18446744073709551616 = q * v2 := by omega
            rw [e] at t
            simpa [g] using t
          have := Ww hZ tW tD eW eD (show 0 ≤ q by omega) (show u2 + 4294967296 * (u1 + 4294967296 * u0) < q * (v2 + 4294967296 * v1) by rw [eq1]; omega)
          exact Int.ediv_lt_of_lt_mul (by omega) this
      have e1 : (q - 1) % 18446744073709551616 = q - 1 := by omega
      have e2 : (left + v1 % 18446744073709551616) % 18446744073709551616 = left + v1 := by omega
      have hl' : left + v1 = u1 + 4294967296 * u0 - (q - 1) * v1 := by rw [Int.sub_mul]; omega
      have C1 : (!decide (4294967296 ≤ q)) = true → (0 : Int) ≤ (m : Int) ∧ (m : Int) < (d.length : Int) := fun _ => y1
      have C2 : (!decide (4294967296 ≤ q)) = true → (0 : Int) ≤ ((i + m : Nat) : Int) ∧ ((i + m : Nat) : Int) < (r.length : Int) := fun _ => y2
      by_cases b : 4294967296 ≤ left + v1
      · have hq3 : q ≤ 4294967296 := by
          refine Decidable.byContradiction fun g => ?_
          have := Int.mul_le_mul_of_nonneg_right (show (4294967297 : Int) ≤ q by omega) (show 0 ≤ v1 by omega)
          omega
        refine ⟨q - 1, ?_, by omega, ?_, by omega⟩
        · refine Ev.step (fun k => rfl) ?_
          simp only [Q2.hs, Q2.b0, x1, x2, x3, x4, if_pos C1, if_pos C2, eu2, ev2, ev1, eo, wmodid c2, if_pos t, if_pos y3, e2, if_pos b, e1]
          exact Ev.now
        · refine fin (q - 1) (by omega) (by omega) ?_
          have p := Jo (x := q - 1) (y := v2) ⟨by omega, by omega⟩ c2
          rw [Int.mul_add, Int.mul_left_comm]
          omega
      · obtain ⟨g, g1, g2⟩ := ih (q - 1).toNat (by omega) (q - 1) (left + v1) rfl (by omega) (by omega) (by omega) (by omega) hl'
        refine ⟨g, ?_, g2⟩
        refine Ev.step (fun k => rfl) ?_
        simp only [Q2.hs, Q2.b0, x1, x2, x3, x4, if_pos C1, if_pos C2, eu2, ev2, ev1, eo, wmodid c2, if_pos t, if_pos y3, e2, if_neg b, e1]
        exact g1
    · have C1 : (!decide (4294967296 ≤ q)) = true → (0 : Int) ≤ (m : Int) ∧ (m : Int) < (d.length : Int) := fun _ => y1
      have C2 : (!decide (4294967296 ≤ q)) = true → (0 : Int) ≤ ((i + m : Nat) : Int) ∧ ((i + m : Nat) : Int) < (r.length : Int) := fun _ => y2
      have g : ¬ 4294967296 ≤ q := fun g => t (by simp [g])
      have p := Jo (x := q) (y := v2) ⟨by omega, by omega⟩ c2
      have e : q * v2 % 18446744073709551616 = q * v2 := by omega
      have g2 : ¬ left * 4294967296 + u2 < q * v2 := fun h => t (by rw [e]; simp [h])
      refine ⟨q, ?_, hq, fin q hq (by omega) (by rw [eq1]; omega), by omega⟩
      refine Ev.step (fun k => rfl) ?_
      simp only [Q2.hs, Q2.b0, x1, x2, x3, x4, if_pos C1, if_pos C2, eu2, ev2, ev1, eo, wmodid c2, if_neg t]
      exact Ev.now
theorem Vq {r d : List Int} {i : Nat} (h : Kn r d i) : ∃ g, Ev (fun k => Q2.f k r d (i : Int)) g ∧ U (r.drop i) / U d ≤ g ∧ g ≤ U (r.drop i) / U d + 1 ∧ g ≤ 4294967295 := by
  obtain ⟨m, hm⟩ : ∃ m, d.length = m + 2 := ⟨d.length - 2, by have := h.nb; omega⟩
  obtain ⟨eD, eW, -⟩ := h.parts hm
  have hi := h.hi
  have hr := h.hr
  have b2 := Yh h.dr (i + m); have b1 := Yh h.dr (i + m + 1); have b0 := Yh h.dr (i + m + 2)
  have c2 := Yh h.dd m; have c1 := Yh h.dd (m + 1)
  have hv1 := h.v1
  rw [show d.length - 1 = m + 1 by omega] at hv1
  have hZ := YW m
  have tW := Zd (Jh h.dr i) (m := m) (by rw [List.length_drop]; omega)
  have tD := Zd h.dd (m := m) (by omega)
  have hlt := h.lt
  have hW0 := Zq (Jh h.dr i)
  have x1 : w64 ((d.length : Int) - 1) = ((m + 1 : Nat) : Int) := by rw [XZ (by omega)]; omega
  have x3 : w64 ((i : Int) + (d.length : Int)) = ((i + m + 2 : Nat) : Int) := by rw [XZ (by omega)]; omega
  have x4 : w64 (((i + m + 2 : Nat) : Int) - 1) = ((i + m + 1 : Nat) : Int) := by rw [XZ (by omega)]; omega
  have y1 : (0 : Int) ≤ ((i + m + 2 : Nat) : Int) ∧ ((i + m + 2 : Nat) : Int) < (r.length : Int) := by omega
  have y2 : (0 : Int) ≤ ((i + m + 1 : Nat) : Int) ∧ ((i + m + 1 : Nat) : Int) < (r.length : Int) := by omega
  have y3 : (0 : Int) ≤ ((m + 1 : Nat) : Int) ∧ ((m + 1 : Nat) : Int) < (d.length : Int) := by omega
  have top := Ut hZ tW tD eW eD b1 b2 c2 hlt
  have hD1 : 1 ≤ U d := by
    have := Int.mul_le_mul_of_nonneg_left (show (1 : Int) ≤ rd d (m : Int) + 4294967296 * rd d ((m + 1 : Nat) : Int) by omega) (show (0 : Int) ≤ 4294967296 ^ m by omega)
    omega
  have qb := GZ hD1 hW0 hlt
  have first := VR (q := U (r.drop i) / U d) hZ tW tD eW eD b2 c2.1 qb.1 (Int.ediv_mul_le _ (by omega))
  have G := Ur h hm
  simp only [Q2.f, x1, x3, x4, if_pos y1, if_pos y2, if_pos y3, wmodid c1, if_pos (show rd d ((m + 1 : Nat) : Int) ≠ 0 by omega), wmodid b0, wmodid b1,
    show (rd r ((i + m + 2 : Nat) : Int) * 4294967296) % 18446744073709551616 = rd r ((i + m + 2 : Nat) : Int) * 4294967296 by omega, ior_hl' b0 b1]
  rw [Int.tdiv_eq_ediv_of_nonneg (by omega), Int.tmod_eq_emod_of_nonneg (by omega)]
  generalize rd r ((i + m + 1 : Nat) : Int) = u1 at *
  generalize rd r ((i + m + 2 : Nat) : Int) = u0 at *
  generalize rd d ((m + 1 : Nat) : Int) = v1 at *
  generalize hT : u0 * 4294967296 + u1 = T at *
  have hT0 : 0 ≤ T ∧ T < v1 * 4294967298 := by omega
  have q2 : T / v1 ≤ 4294967297 := by
    have := Int.ediv_lt_of_lt_mul (show 0 < v1 by omega) (show T < 4294967298 * v1 by omega)
    omega
  have q0 := Int.ediv_nonneg hT0.1 (show 0 ≤ v1 by omega)
  have l0 := Int.emod_nonneg T (show v1 ≠ 0 by omega)
  have l1 := Int.emod_lt_of_pos T (show 0 < v1 by omega)
  have em := Int.emod_add_mul_ediv T v1
  rw [show T / v1 % 18446744073709551616 = T / v1 by omega]
  exact G _ (T / v1) (T % v1) rfl (Int.le_ediv_of_mul_le (by omega) (by omega)) q2 l0 (by omega) (by rw [Int.mul_comm (T / v1)]; omega)
end Go.Proofs.YtkccpkccdbfomaaGreatDoor.Pure

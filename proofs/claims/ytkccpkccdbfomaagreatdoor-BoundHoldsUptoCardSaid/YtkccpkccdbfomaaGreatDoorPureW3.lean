/- Products and shifts of the program's whole numbers. -/
import Derived.Test.YtkccpkccdbfomaaGreatDoorPureW2
namespace Go.Proofs.YtkccpkccdbfomaaGreatDoor.Pure
open Go.RowKit Go.Proofs.YtkccpkccdbfomaaGreatDoorK Go.Proofs.YtkccpkccdbfomaaGreatDoor.GBH
set_option linter.unusedVariables false
set_option linter.unusedSimpArgs false
theorem VV (d x X Y P : Int) (h : Y = X + P * (d - x)) (e : Int) : e + 4294967296 * Y = e + 4294967296 * X + 4294967296 * P * (d - x) := by
  rw [h, Int.mul_add, Int.mul_assoc]; omega
theorem GK : ∀ (l : List Int) (p : Nat) (d : Int), p < l.length → U (l.set p d) = U l + 4294967296 ^ p * (d - rd l p)
  | [], p, d, h => by cases h
  | e :: l, 0, d, h => by
    rw [Gp]; simp only [List.set_cons_zero, U, Int.pow_zero]; omega
  | e :: l, p + 1, d, h => by
    rw [Gs]; simp only [List.set_cons_succ, U, Int.pow_succ]
    rw [Int.mul_comm (4294967296 ^ p) 4294967296]
    exact VV d (rd l p) (U l) _ (4294967296 ^ p) (GK l p d (Nat.lt_of_succ_lt_succ h)) e
theorem Gr {l : List Int} {p : Nat} {d : Int} (h : Wg l) (hd : 0 ≤ d ∧ d ≤ 4294967295) : Wg (l.set p d) := by
  intro x hx
  rcases List.mem_or_eq_of_mem_set hx with h' | rfl
  · exact h x h'
  · exact hd
theorem Jo {x y : Int} (hx : 0 ≤ x ∧ x ≤ 4294967295) (hy : 0 ≤ y ∧ y ≤ 4294967295) : 0 ≤ x * y ∧ x * y ≤ 18446744065119617025 := by
  refine ⟨Int.mul_nonneg hx.1 hy.1, ?_⟩
  exact Int.le_trans (Int.mul_le_mul_of_nonneg_right hx.2 hy.1) (by omega)
theorem OY {v : Int} (h : 0 ≤ v ∧ v < 18446744073709551616) : (0 ≤ v % 4294967296 ∧ v % 4294967296 ≤ 4294967295) ∧ 0 ≤ v / 4294967296 ∧ v / 4294967296 ≤ 4294967295 := by omega
theorem VZ (A P r c x y B v : Int) (hv : v = x * y + r + c) : A + P * (v % 4294967296 - r) + P * 4294967296 * (v / 4294967296 + x * B) = A + P * (c + x * (y + 4294967296 * B)) := by
  have e : v % 4294967296 = v - 4294967296 * (v / 4294967296) := by omega
  rw [e, hv]
  generalize (x * y + r + c) / 4294967296 = q
  rw [Int.mul_assoc P 4294967296, Int.add_assoc, ← Int.mul_add]
  congr 2
  rw [Int.mul_add x y, Int.mul_add 4294967296 q, Int.mul_left_comm x 4294967296 B]
  omega
theorem GT (l : List Int) (i : Nat) (h : i < l.length) : U (l.take (i + 1)) = U (l.take i) + 4294967296 ^ i * rd l i := by
  rw [List.take_succ_eq_append_getElem h, JH, List.length_take, Nat.min_eq_left (Nat.le_of_lt h)]
  unfold rd; rw [Int.toNat_natCast, List.getD_eq_getElem?_getD, List.getElem?_eq_getElem h]; rfl
theorem GE (n : Nat) : U (List.replicate n (0 : Int)) = 0 := by
  induction n with
  | zero => rfl
  | succ n ih => rw [List.replicate_succ]; simp only [U, ih]; rfl
theorem G8 (n : Nat) : Wg (List.replicate n 0) := by
  intro d hd; rw [List.eq_of_mem_replicate hd]; decide
theorem wmodid {x : Int} (h : 0 ≤ x ∧ x ≤ 4294967295) : x % 18446744073709551616 = x := by omega
theorem wstep {x y r c : Int} (hx : 0 ≤ x ∧ x ≤ 4294967295) (hy : 0 ≤ y ∧ y ≤ 4294967295) (hr : 0 ≤ r ∧ r ≤ 4294967295) (hc : 0 ≤ c ∧ c ≤ 4294967295) :
    (((x % 18446744073709551616 * (y % 18446744073709551616)) % 18446744073709551616 + r % 18446744073709551616) % 18446744073709551616 + c) % 18446744073709551616 = x * y + r + c ∧ 0 ≤ x * y + r + c ∧ x * y + r + c < 18446744073709551616 := by
  rw [wmodid hx, wmodid hy, wmodid hr]
  have := Jo hx hy
  generalize x * y = p at *
  omega
theorem MY {a b : List Int} {i L : Nat} (da : Wg a) (db : Wg b) (hi : i < a.length) (hL : i + b.length < L) (hB : L < 1000000000) :
    ∀ (n j : Nat) (row : List Int) (c : Int), b.length = j + n → Wg row → row.length = L → 0 ≤ c ∧ c ≤ 4294967295 → rd row ((i + b.length : Nat) : Int) = 0 →
    ∃ row' : List Int, (Wg row' ∧ row'.length = L ∧ U row' = U row + 4294967296 ^ (i + j) * (c + rd a i * U (b.drop j)) ∧ (∀ p : Nat, i + b.length < p → rd row' p = rd row p)) ∧
      ∀ R, Ev (fun k => (Qz.hs k).l0 b row' a (a.length : Int) ((i + 1 : Nat) : Int)) R → Ev (fun k => (Qz.hs k).l1 b row i (rd a i) c a (a.length : Int) i b (b.length : Int) j) R
  | 0, j, row, c, ej, dr, el, hc, hz => by
    have ej' : j = b.length := ej.symm
    have p0 : i + j < row.length := by rw [el, ej']; exact hL
    have p3 : i < 1000000000 := by omega
    have z : rd row ((i + j : Nat) : Int) = 0 := by rw [ej']; exact hz
    subst ej'
    refine ⟨row.set (i + b.length) c, ⟨Gr dr hc, by rw [List.length_set]; exact el, ?_, ?_⟩, ?_⟩
    · rw [GK row (i + b.length) c p0, z, List.drop_eq_nil_of_le (Nat.le_refl _)]
      simp only [U, Int.mul_zero, Int.add_zero, Int.sub_zero]
    · intro p hp
      exact Zm (Nat.ne_of_lt hp)
    · intro R H
      refine Ev.step (fun k => rfl) ?_
      simp only [Qz.hs, Qz.b1, if_neg (show ¬ ((b.length : Int) < (b.length : Int)) from Int.lt_irrefl _), ZQ (show i + b.length < 9223372036854775808 by omega), if_pos (And.intro (Int.natCast_nonneg (i + b.length)) (Zi p0)), Int.toNat_natCast, show c % 4294967296 = c by omega, wsucc p3]
      exact H
  | n + 1, j, row, c, ej, dr, el, hc, hz => by
    have jl : j < b.length := by rw [ej]; exact Nat.lt_add_of_pos_right (Nat.succ_pos n)
    have p0 : i + j < row.length := by rw [el]; exact Nat.lt_trans (Nat.add_lt_add_left jl i) hL
    have p2 : j < 1000000000 := by omega
    have hr := Yh dr (i + j)
    have ha := Yh da i
    have hb := Yh db j
    have st := wstep ha hb hr hc
    have cv := OY st.2
    obtain ⟨row', ⟨d', l', v', o'⟩, H⟩ := MY da db hi hL hB n (j + 1) (row.set (i + j) ((rd a i * rd b j + rd row ((i + j : Nat) : Int) + c) % 4294967296)) ((rd a i * rd b j + rd row ((i + j : Nat) : Int) + c) / 4294967296)
      (by rw [ej, Nat.add_assoc, Nat.add_comm 1 n]) (Gr dr cv.1) (by rw [List.length_set]; exact el) cv.2 (by rw [Zm (Nat.ne_of_lt (Nat.add_lt_add_left jl i))]; exact hz)
    refine ⟨row', ⟨d', l', ?_, fun p hp => by rw [o' p hp]; exact Zm (Nat.ne_of_lt (Nat.lt_trans (Nat.add_lt_add_left jl i) hp))⟩, fun R h => ?_⟩
    · rw [v', GK row (i + j) _ p0, ← Nat.add_assoc i j 1, Int.pow_succ, Zb b j]
      exact VZ (U row) (4294967296 ^ (i + j)) (rd row ((i + j : Nat) : Int)) c (rd a i) (rd b j) (U (b.drop (j + 1))) _ rfl
    · refine Ev.step (fun k => rfl) ?_
      simp only [Qz.hs, Qz.b1, if_pos (Zi jl), if_pos (And.intro (Int.natCast_nonneg j) (Zi jl)), ZQ (show i + j < 9223372036854775808 by omega), if_pos (And.intro (Int.natCast_nonneg (i + j)) (Zi p0)), Int.toNat_natCast, st.1, wsucc p2]
      exact H R h
theorem M9 {a b : List Int} {L : Nat} (da : Wg a) (db : Wg b) (hL : a.length + b.length ≤ L) (hB : L < 1000000000) :
    ∀ (n i : Nat) (row : List Int), a.length = i + n → Wg row → row.length = L → U row = U (a.take i) * U b → (∀ p : Nat, i + b.length ≤ p → rd row p = 0) →
    ∃ r, Ev (fun k => (Qz.hs k).l0 b row a (a.length : Int) i) r ∧ Wg r ∧ r.length = L ∧ U r = U a * U b
  | 0, i, row, ei, dr, el, hv, ho => by
    rw [List.take_of_length_le (i := i) (l := a) (Nat.le_of_eq ei)] at hv
    refine ⟨row, ?_, dr, el, hv⟩
    refine Ev.step (fun k => rfl) ?_
    simp only [Qz.hs, Qz.b0, if_neg (show ¬ ((i : Int) < (a.length : Int)) by rw [ei]; exact Int.lt_irrefl _)]
    exact Ev.now
  | n + 1, i, row, ei, dr, el, hv, ho => by
    have il : i < a.length := by rw [ei]; exact Nat.lt_add_of_pos_right (Nat.succ_pos n)
    obtain ⟨row', ⟨d', l', v', o'⟩, H⟩ := MY da db il (show i + b.length < L by omega) hB b.length 0 row 0 (Nat.zero_add _).symm dr el (by decide) (ho _ (Nat.le_refl _))
    obtain ⟨r, h1, h2⟩ := M9 da db hL hB n (i + 1) row' (by rw [ei, Nat.add_assoc, Nat.add_comm 1 n]) d' l' (by
        rw [v', hv, GT a i il, List.drop_zero, Nat.add_zero, Int.zero_add, Int.add_mul, Int.mul_assoc])
        (fun p hp => by
          rw [o' p (by rw [Nat.add_right_comm] at hp; exact hp)]
          exact ho p (by rw [Nat.add_right_comm] at hp; exact Nat.le_of_succ_le hp))
    refine ⟨r, ?_, h2⟩
    refine Ev.step (fun k => rfl) ?_
    simp only [Qz.hs, Qz.b0, if_pos (Zi il), if_pos (And.intro (Int.natCast_nonneg i) (Zi il))]
    exact H r h1
theorem M3 {a b : List Int} (da : Wg a) (db : Wg b) (ha : a.length < 1000000) (hb : b.length < 1000000) : ∃ r, Ev (fun k => Qz.f k a b) r ∧ Wg r ∧ r.length = a.length + b.length ∧ U r = U a * U b := by
  obtain ⟨r, h1, h2, h3, h4⟩ := M9 da db (Nat.le_refl _) (by omega) a.length 0 (List.replicate (a.length + b.length) 0) (Nat.zero_add _).symm (G8 _) List.length_replicate (by rw [GE, List.take_zero]; simp only [U, Int.zero_mul]) (fun p _ => GW _ p)
  refine ⟨r, ?_, h2, h3, h4⟩
  simp only [Qz.f, ZQ (show a.length + b.length < 9223372036854775808 by omega), if_pos (show 0 ≤ ((a.length + b.length : Nat) : Int) ∧ ((a.length + b.length : Nat) : Int) ≤ 70368744177664 by omega), Int.toNat_natCast]
  exact h1
theorem WU {x y : Int} (hx : Wl x < 1000000) (hy : Wl y < 1000000) : Ev (fun k => Xo.f k (Wb x) (Wb y)) (res (x * y)) := by
  unfold Xo.f Wl at *
  obtain ⟨r, h1, h2, h3, h4⟩ := M3 (YX x.natAbs) (YX y.natAbs) hx hy
  refine Ev.bind h1 (Ev.bind (Jx (x := x * y) (by omega) h2 ?_) Ev.now)
  rw [h4, U_wd, U_wd, ← Int.natCast_mul, ← Int.natAbs_mul]
  simp only [Y8]
  by_cases a1 : x < 0 <;> by_cases b1 : y < 0
  · have := Int.mul_pos_of_neg_of_neg a1 b1; simp [a1, b1]; omega
  · have := Int.mul_nonneg (show 0 ≤ -x by omega) (show 0 ≤ y by omega); rw [Int.neg_mul] at this; simp [a1, b1]; omega
  · have := Int.mul_nonneg (show 0 ≤ x by omega) (show 0 ≤ -y by omega); rw [Int.mul_neg] at this; simp [a1, b1]; omega
  · have := Int.mul_nonneg (show 0 ≤ x by omega) (show 0 ≤ y by omega); simp [a1, b1]; omega
end Go.Proofs.YtkccpkccdbfomaaGreatDoor.Pure

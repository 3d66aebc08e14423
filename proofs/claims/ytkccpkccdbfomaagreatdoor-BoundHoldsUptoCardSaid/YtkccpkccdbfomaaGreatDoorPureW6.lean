/- Quotients of the program's whole numbers: the long division. -/
import Derived.Test.YtkccpkccdbfomaaGreatDoorPureW5
namespace Go.Proofs.YtkccpkccdbfomaaGreatDoor.Pure
open Go.RowKit Go.Proofs.YtkccpkccdbfomaaGreatDoorK Go.Proofs.YtkccpkccdbfomaaGreatDoor.GBH
set_option linter.unusedVariables false
set_option linter.unusedSimpArgs false
theorem Qaa (U0 P r q y c b v X B0 : Int) (hv : v = r - (c + q * y) % 4294967296 + b) :
    (U0 + P * (v % 4294967296 - r)) - P * 4294967296 * (q * X + (c + q * y) / 4294967296 - v / 4294967296) - B0 = U0 - P * (q * (y + 4294967296 * X) + c - b) - B0 := by
  have e1 : v % 4294967296 = v - 4294967296 * (v / 4294967296) := by omega
  have e2 : (c + q * y) % 4294967296 = (c + q * y) - 4294967296 * ((c + q * y) / 4294967296) := by omega
  rw [e1, Int.mul_add q, Int.mul_left_comm q]
  rw [e2] at hv
  generalize v / 4294967296 = v' at *
  generalize q * X = x at *
  generalize q * y = p at *
  generalize (c + p) / 4294967296 = s at *
  rw [Int.mul_assoc P]
  have e3 : P * (v - 4294967296 * v' - r) - P * (4294967296 * (x + s - v')) = -(P * (p + 4294967296 * x + c - b)) := by
    rw [← Int.mul_sub, ← Int.mul_neg]; congr 1; omega
  omega
theorem N0 {d : List Int} {i L : Nat} {q : Int} (dd : Wg d) (hq : 0 ≤ q ∧ q ≤ 4294967295) (hL : i + d.length < L) (hB : L < 1000000) : ∀ (n j : Nat) (row : List Int) (bor c : Int), d.length + 1 = j + n → Wg row → row.length = L → -1 ≤ bor → bor ≤ 0 → 0 ≤ c → c ≤ 4294967295 → (n = 0 → c = 0) →
    ∃ row' bor', Ev (fun k => (Qv.hs k).l0 row d (i : Int) q bor c (j : Int)) (decide (bor' < 0), row') ∧ Wg row' ∧ row'.length = L ∧ -1 ≤ bor' ∧ bor' ≤ 0 ∧
      U row' = U row - 4294967296 ^ (i + j) * (q * U (d.drop j) + c - bor) - 4294967296 ^ (i + d.length + 1) * bor' ∧ ∀ p : Nat, i + d.length < p → rd row' (p : Int) = rd row (p : Int)
  | 0, j, row, bor, c, ej, dr, el, b0, b1, c0, c1, hz => by
    obtain rfl := hz rfl
    refine ⟨row, bor, ?_, dr, el, b0, b1, ?_, fun _ _ => rfl⟩
    · refine Ev.step (fun k => rfl) ?_
      simp only [Qv.hs, Qv.b0, if_neg (show ¬ ((j : Int) ≤ (d.length : Int)) by omega)]
      exact Ev.now
    · rw [List.drop_eq_nil_of_le (by omega), show i + j = i + d.length + 1 by omega]
      simp only [U, Int.mul_zero, Int.zero_add, Int.zero_sub, Int.mul_neg]
      omega
  | n + 1, j, row, bor, c, ej, dr, el, b0, b1, c0, c1, hz => by
    have rr := Yh dr (i + j)
    have rdj := Yh dd j
    have p := Jo hq rdj
    have ud := Zb d j
    have p0 : i + j < row.length := by omega
    have w1 : w64 ((i : Int) + (j : Int)) = ((i + j : Nat) : Int) := ZQ (by omega)
    have y1 : (0 : Int) ≤ ((i + j : Nat) : Int) ∧ ((i + j : Nat) : Int) < (row.length : Int) := by omega
    have J : ∀ pv : Int, pv = c + q * rd d (j : Int) → ∃ row' bor', Ev (fun k => Qv.j2 k (Qv.hs k) row d (i : Int) q bor c (j : Int) pv) (decide (bor' < 0), row') ∧ Wg row' ∧ row'.length = L ∧ -1 ≤ bor' ∧ bor' ≤ 0 ∧
        U row' = U row - 4294967296 ^ (i + j) * (q * U (d.drop j) + c - bor) - 4294967296 ^ (i + d.length + 1) * bor' ∧ ∀ p : Nat, i + d.length < p → rd row' (p : Int) = rd row (p : Int) := by
      intro pv hpv
      generalize ev : rd row ((i + j : Nat) : Int) - pv % 4294967296 + bor = v
      have wv : w64 ((w64 ((w64 (rd row ((i + j : Nat) : Int))) - (w64 (pv % 4294967296)))) + bor) = v := by
        have h1 : w64 (rd row ((i + j : Nat) : Int)) = rd row ((i + j : Nat) : Int) := XZ (by omega)
        have h2 : w64 (pv % 4294967296) = pv % 4294967296 := XZ (by omega)
        rw [h1, h2]
        have h3 : w64 (rd row ((i + j : Nat) : Int) - pv % 4294967296) = rd row ((i + j : Nat) : Int) - pv % 4294967296 := XZ (by omega)
        rw [h3, ev]; exact XZ (by omega)
      obtain ⟨row', bor', h1, h2, h3, h4, h5, h6, h7⟩ := N0 dd hq hL hB n (j + 1) (row.set (i + j) (v % 4294967296)) (v / 4294967296) (pv / 4294967296) (by omega) (Gr dr (by omega)) (by rw [List.length_set]; exact el) (by omega) (by omega) (by omega) (by omega)
        (fun h => by
          have : d.length = j := by omega
          rw [ZV (l := d) (by omega), Int.mul_zero, Int.add_zero] at hpv
          omega)
      refine ⟨row', bor', ?_, h2, h3, h4, h5, ?_, fun t ht => by rw [h7 t ht]; exact Zm (by omega)⟩
      · simp only [Qv.j2, w1, if_pos y1, wv, Int.toNat_natCast, wsucc (show j < 1000000000 by omega)]
        exact h1
      · rw [h6, GK row (i + j) _ p0, ← Nat.add_assoc i j 1, Int.pow_succ, ud, hpv]
        exact Qaa _ _ _ _ _ _ _ _ _ _ (by rw [← hpv]; omega)
    by_cases g : (j : Int) < (d.length : Int)
    · obtain ⟨row', bor', h1, h2⟩ := J ((c + (q * (rd d (j : Int) % 18446744073709551616)) % 18446744073709551616) % 18446744073709551616) (by rw [wmodid rdj]; omega)
      refine ⟨row', bor', ?_, h2⟩
      refine Ev.step (fun k => rfl) ?_
      simp only [Qv.hs, Qv.b0, if_pos (show ((j : Int) ≤ (d.length : Int)) by omega), if_pos g, if_pos (show (0 : Int) ≤ (j : Int) ∧ (j : Int) < (d.length : Int) by omega)]
      exact h1
    · obtain ⟨row', bor', h1, h2⟩ := J c (by rw [ZV (l := d) (by omega), Int.mul_zero, Int.add_zero])
      refine ⟨row', bor', ?_, h2⟩
      refine Ev.step (fun k => rfl) ?_
      simp only [Qv.hs, Qv.b0, if_pos (show ((j : Int) ≤ (d.length : Int)) by omega), if_neg g]
      exact h1
theorem WX (U0 P r y c s X B0 : Int) (hs : s = r + c + y) : (U0 + P * (s % 4294967296 - r)) + P * 4294967296 * (X + s / 4294967296) - B0 = U0 + P * ((y + 4294967296 * X) + c) - B0 := by
  have e1 : s % 4294967296 = s - 4294967296 * (s / 4294967296) := by omega
  rw [e1, Int.mul_assoc P, Int.add_assoc, ← Int.mul_add]
  congr 3; omega
theorem NR {d : List Int} {i L : Nat} (dd : Wg d) (hL : i + d.length < L) (hB : L < 1000000) : ∀ (n j : Nat) (row : List Int) (c : Int), d.length + 1 = j + n → Wg row → row.length = L → 0 ≤ c → c ≤ 1 →
    ∃ row' c', Ev (fun k => (Qn.hs k).l0 row d (i : Int) c (j : Int)) row' ∧ Wg row' ∧ row'.length = L ∧ 0 ≤ c' ∧ c' ≤ 1 ∧
      U row' = U row + 4294967296 ^ (i + j) * (U (d.drop j) + c) - 4294967296 ^ (i + d.length + 1) * c' ∧ ∀ p : Nat, i + d.length < p → rd row' (p : Int) = rd row (p : Int)
  | 0, j, row, c, ej, dr, el, c0, c1 => by
    refine ⟨row, c, ?_, dr, el, c0, c1, ?_, fun _ _ => rfl⟩
    · refine Ev.step (fun k => rfl) ?_
      simp only [Qn.hs, Qn.b0, if_neg (show ¬ ((j : Int) ≤ (d.length : Int)) by omega)]
      exact Ev.now
    · rw [List.drop_eq_nil_of_le (by omega), show i + j = i + d.length + 1 by omega]
      simp only [U, Int.zero_add]
      omega
  | n + 1, j, row, c, ej, dr, el, c0, c1 => by
    have rr := Yh dr (i + j)
    have rdj := Yh dd j
    have ud := Zb d j
    have p0 : i + j < row.length := by omega
    have w1 : w64 ((i : Int) + (j : Int)) = ((i + j : Nat) : Int) := ZQ (by omega)
    have y1 : (0 : Int) ≤ ((i + j : Nat) : Int) ∧ ((i + j : Nat) : Int) < (row.length : Int) := by omega
    have J : ∀ s : Int, s = rd row ((i + j : Nat) : Int) + c + rd d (j : Int) → ∃ row' c', Ev (fun k => Qn.j2 k (Qn.hs k) row d (i : Int) c (j : Int) s) row' ∧ Wg row' ∧ row'.length = L ∧ 0 ≤ c' ∧ c' ≤ 1 ∧
        U row' = U row + 4294967296 ^ (i + j) * (U (d.drop j) + c) - 4294967296 ^ (i + d.length + 1) * c' ∧ ∀ p : Nat, i + d.length < p → rd row' (p : Int) = rd row (p : Int) := by
      intro s hs
      obtain ⟨row', c', h1, h2, h3, h4, h5, h6, h7⟩ := NR dd hL hB n (j + 1) (row.set (i + j) (s % 4294967296)) (s / 4294967296) (by omega) (Gr dr (by omega)) (by rw [List.length_set]; exact el) (by omega) (by omega)
      refine ⟨row', c', ?_, h2, h3, h4, h5, ?_, fun t ht => by rw [h7 t ht]; exact Zm (by omega)⟩
      · simp only [Qn.j2, w1, if_pos y1, Int.toNat_natCast, wsucc (show j < 1000000000 by omega)]
        exact h1
      · rw [h6, GK row (i + j) _ p0, ← Nat.add_assoc i j 1, Int.pow_succ, ud]
        exact WX _ _ _ _ _ _ _ _ hs
    by_cases g : (j : Int) < (d.length : Int)
    · obtain ⟨row', bor', h1, h2⟩ := J (((((rd row ((i + j : Nat) : Int) % 18446744073709551616) + c) % 18446744073709551616) + (rd d (j : Int) % 18446744073709551616)) % 18446744073709551616) (by omega)
      refine ⟨row', bor', ?_, h2⟩
      refine Ev.step (fun k => rfl) ?_
      simp only [Qn.hs, Qn.b0, if_pos (show ((j : Int) ≤ (d.length : Int)) by omega), w1, if_pos y1, if_pos g, if_pos (show (0 : Int) ≤ (j : Int) ∧ (j : Int) < (d.length : Int) by omega)]
      exact h1
    · obtain ⟨row', bor', h1, h2⟩ := J (((rd row ((i + j : Nat) : Int) % 18446744073709551616) + c) % 18446744073709551616) (by rw [ZV (l := d) (by omega)]; omega)
      refine ⟨row', bor', ?_, h2⟩
      refine Ev.step (fun k => rfl) ?_
      simp only [Qn.hs, Qn.b0, if_pos (show ((j : Int) ≤ (d.length : Int)) by omega), w1, if_pos y1, if_neg g]
      exact h1
theorem V5 {d row : List Int} {i : Nat} {q : Int} (dd : Wg d) (dr : Wg row) (hq : 0 ≤ q ∧ q ≤ 4294967295) (hL : i + d.length < row.length) (hB : row.length < 1000000) :
    ∃ row' bor', Ev (fun k => Qv.f k row d (i : Int) q) (decide (bor' < 0), row') ∧ Wg row' ∧ row'.length = row.length ∧ -1 ≤ bor' ∧ bor' ≤ 0 ∧
      U row' = U row - 4294967296 ^ i * (q * U d) - 4294967296 ^ (i + d.length + 1) * bor' ∧ ∀ p : Nat, i + d.length < p → rd row' (p : Int) = rd row (p : Int) := by
  obtain ⟨row', bor', h1, h2, h3, h4, h5, h6, h7⟩ := N0 dd hq hL hB (d.length + 1) 0 row 0 0 (by omega) dr rfl (by omega) (by omega) (by omega) (by omega) (by omega)
  simp only [List.drop_zero, Nat.add_zero, Int.add_zero, Int.sub_zero] at h6
  exact ⟨row', bor', h1, h2, h3, h4, h5, h6, h7⟩
theorem V9 {d row : List Int} {i : Nat} (dd : Wg d) (dr : Wg row) (hL : i + d.length < row.length) (hB : row.length < 1000000) :
    ∃ row' c', Ev (fun k => Qn.f k row d (i : Int)) row' ∧ Wg row' ∧ row'.length = row.length ∧ 0 ≤ c' ∧ c' ≤ 1 ∧
      U row' = U row + 4294967296 ^ i * U d - 4294967296 ^ (i + d.length + 1) * c' ∧ ∀ p : Nat, i + d.length < p → rd row' (p : Int) = rd row (p : Int) := by
  obtain ⟨row', c', h1, h2, h3, h4, h5, h6, h7⟩ := NR dd hL hB (d.length + 1) 0 row 0 (by omega) dr rfl (by omega) (by omega)
  simp only [List.drop_zero, Nat.add_zero, Int.add_zero] at h6
  exact ⟨row', c', h1, h2, h3, h4, h5, h6, h7⟩
/-- what stands above stays nought -/
theorem U9 {row r : List Int} {s : Nat} (dr : Wg row) (h : ∀ p : Nat, s < p → rd row (p : Int) = rd r (p : Int)) (hl : row.length = r.length) (hs : s < r.length) (h0 : U (r.drop (s + 1)) = 0) : 0 ≤ U row ∧ U row < 4294967296 ^ (s + 1) := by
  have e : row.drop (s + 1) = r.drop (s + 1) := by
    apply List.ext_getElem?
    intro p
    rw [List.getElem?_drop, List.getElem?_drop]
    have := h (s + 1 + p) (by omega)
    unfold rd at this
    rw [Int.toNat_natCast, List.getD_eq_getElem?_getD, List.getD_eq_getElem?_getD] at this
    by_cases g : s + 1 + p < row.length
    · rw [List.getElem?_eq_getElem g, List.getElem?_eq_getElem (by omega)] at this ⊢
      simpa using this
    · rw [List.getElem?_eq_none (by omega), List.getElem?_eq_none (by omega)]
  rw [Jw row (s + 1) (by omega), e, h0, Int.mul_zero, Int.add_zero]
  exact Zd dr (by omega)
end Go.Proofs.YtkccpkccdbfomaaGreatDoor.Pure

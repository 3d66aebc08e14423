/- Sums and differences of the program's whole numbers. -/
import Derived.Test.YtkccpkccdbfomaaGreatDoorPureW1
import Derived.Test.YtkccpkccdbfomaaGreatDoorPureB0
import Derived.Test.YtkccpkccdbfomaaGreatDoorPureN5
namespace Go.Proofs.YtkccpkccdbfomaaGreatDoor.Pure
open Go.RowKit Go.Proofs.YtkccpkccdbfomaaGreatDoorK Go.Proofs.YtkccpkccdbfomaaGreatDoor.GBH
set_option linter.unusedVariables false
set_option linter.unusedSimpArgs false
theorem Yh {l : List Int} (h : Wg l) (i : Nat) : 0 ≤ rd l i ∧ rd l i ≤ 4294967295 := by
  unfold rd
  rw [Int.toNat_natCast, List.getD_eq_getElem?_getD]
  by_cases g : i < l.length
  · rw [List.getElem?_eq_getElem g]; exact h _ (List.getElem_mem g)
  · rw [List.getElem?_eq_none (by omega)]; simp
theorem Zb (l : List Int) (i : Nat) : U (l.drop i) = rd l i + 4294967296 * U (l.drop (i + 1)) := by
  by_cases g : i < l.length
  · rw [List.drop_eq_getElem_cons g]
    simp only [U]
    unfold rd
    rw [Int.toNat_natCast, List.getD_eq_getElem?_getD, List.getElem?_eq_getElem g]; rfl
  · rw [ZV (by omega), List.drop_eq_nil_of_le (by omega), List.drop_eq_nil_of_le (by omega)]; simp [U]
theorem Jh {l : List Int} (h : Wg l) (i : Nat) : Wg (l.drop i) := fun d q => h d (List.mem_of_mem_drop q)
theorem OU {l : List Int} (h : Wg l) (i : Nat) : Wg (l.take i) := fun d q => h d (List.mem_of_mem_take q)
theorem JO (acc : List Int) (d X : Int) : U (acc ++ [d]) + 4294967296 ^ (acc ++ [d]).length * X = U acc + 4294967296 ^ acc.length * (d + 4294967296 * X) := by
  rw [JH, List.length_append, List.length_singleton, Int.pow_succ, Int.mul_add, Int.mul_assoc]; omega
theorem JA {l : List Int} {d : Int} (h : Wg l) (hd : 0 ≤ d ∧ d ≤ 4294967295) : Wg (l ++ [d]) := Jn.2 ⟨h, ZJ.2 ⟨hd, Jb⟩⟩
theorem wsucc {i : Nat} (h : i < 1000000000) : w64 ((i : Int) + 1) = ((i + 1 : Nat) : Int) := by rw [XZ (by omega)]; omega
theorem Nn {a b : List Int} (da : Wg a) (db : Wg b) (hl : b.length ≤ a.length) (hb : a.length < 1000000000) : ∀ (n i : Nat) (acc : List Int) (c : Int), acc.length = i → a.length = i + n → Wg acc → 0 ≤ c → c ≤ 1 →
    ∃ L, Ev (fun k => (Qt.hs k).l0 b acc c a (a.length : Int) i) L ∧ Wg L ∧ L.length = a.length + 1 ∧ U L = U acc + 4294967296 ^ acc.length * (c + U (a.drop i) + U (b.drop i))
  | 0, i, acc, c, ei, em, dacc, c0, c1 => by
    refine ⟨acc ++ [c], ?_, JA dacc ⟨c0, by omega⟩, by simp; omega, ?_⟩
    · refine Ev.step (fun k => rfl) ?_
      simp only [Qt.hs, Qt.b0, if_neg (show ¬ ((i : Int) < (a.length : Int)) by omega), if_pos (show acc.length + 1 ≤ 35184372088704 by omega), show c % 4294967296 = c by omega]
      exact Ev.now
    · rw [List.drop_eq_nil_of_le (by omega), List.drop_eq_nil_of_le (by omega), JH]; simp only [U, Int.add_zero]
  | n + 1, i, acc, c, ei, em, dacc, c0, c1 => by
    have ra := Yh da i
    have rb := Yh db i
    have H : ∀ s : Int, s = c + rd a i + rd b i → ∃ L, Ev (fun k => Qt.j3 k (Qt.hs k) b acc c s a (a.length : Int) i) L ∧ Wg L ∧ L.length = a.length + 1 ∧ U L = U acc + 4294967296 ^ acc.length * (c + U (a.drop i) + U (b.drop i)) := by
      intro s hs
      obtain ⟨L, h1, h2, h3, h4⟩ := Nn da db hl hb n (i + 1) (acc ++ [s % 4294967296]) (s / 4294967296) (by simp [ei]) (by omega) (JA dacc (by omega)) (by omega) (by omega)
      refine ⟨L, ?_, h2, h3, ?_⟩
      · simp only [Qt.j3, if_pos (show acc.length + 1 ≤ 35184372088704 by omega), wsucc (show i < 1000000000 by omega)]
        exact h1
      · rw [h4, JO, Zb a i, Zb b i]
        congr 2
        omega
    by_cases g : (i : Int) < (b.length : Int)
    · obtain ⟨L, h1, h2⟩ := H (((((rd a i % 18446744073709551616) + c) % 18446744073709551616) + (rd b i % 18446744073709551616)) % 18446744073709551616) (by omega)
      refine ⟨L, ?_, h2⟩
      refine Ev.step (fun k => rfl) ?_
      simp only [Qt.hs, Qt.b0, if_pos (show ((i : Int) < (a.length : Int)) by omega), if_pos (show (0 : Int) ≤ i ∧ (i : Int) < (a.length : Int) by omega), if_pos g, if_pos (show (0 : Int) ≤ i ∧ (i : Int) < (b.length : Int) by omega)]
      exact h1
    · obtain ⟨L, h1, h2⟩ := H (((rd a i % 18446744073709551616) + c) % 18446744073709551616) (by rw [ZV (l := b) (by omega)]; omega)
      refine ⟨L, ?_, h2⟩
      refine Ev.step (fun k => rfl) ?_
      simp only [Qt.hs, Qt.b0, if_pos (show ((i : Int) < (a.length : Int)) by omega), if_pos (show (0 : Int) ≤ i ∧ (i : Int) < (a.length : Int) by omega), if_neg g]
      exact h1
theorem Np {a b : List Int} (da : Wg a) (db : Wg b) (hl : b.length ≤ a.length) (hb : a.length < 1000000000) :
    ∃ L, Ev (fun k => Qt.j1 k (Qt.hs k) a b) L ∧ Wg L ∧ L.length = a.length + 1 ∧ U L = U a + U b := by
  obtain ⟨L, h1, h2, h3, h4⟩ := Nn da db hl hb a.length 0 [] 0 rfl (by omega) Jb (by omega) (by omega)
  refine ⟨L, ?_, h2, h3, ?_⟩
  · simp only [Qt.j1, if_pos (show 0 ≤ 0 ∧ 0 ≤ w64 ((a.length : Int) + 1) ∧ w64 ((a.length : Int) + 1) ≤ 70368744177664 by rw [XZ (by omega)]; omega)]
    exact h1
  · rw [h4]; simp [U]
theorem NZ {a b : List Int} (da : Wg a) (db : Wg b) (ha : a.length < 1000000000) (hb : b.length < 1000000000) :
    ∃ L, Ev (fun k => Qt.f k a b) L ∧ Wg L ∧ L.length = max a.length b.length + 1 ∧ U L = U a + U b := by
  by_cases g : (a.length : Int) < (b.length : Int)
  · obtain ⟨L, h1, h2, h3, h4⟩ := Np db da (by omega) hb
    refine ⟨L, ?_, h2, by omega, by omega⟩
    simp only [Qt.f, if_pos g]; exact h1
  · obtain ⟨L, h1, h2, h3, h4⟩ := Np da db (by omega) ha
    refine ⟨L, ?_, h2, by omega, by omega⟩
    simp only [Qt.f, if_neg g]; exact h1
theorem wborrow {x y c X Y d c' : Int} (h : 0 ≤ x + 4294967296 * X - c - (y + 4294967296 * Y)) (e : x - y - c = d - 4294967296 * c') (hd : 0 ≤ d ∧ d ≤ 4294967295) : 0 ≤ X - c' - Y := by omega
theorem O1 {x y c X Y d c' : Int} (e : x - y - c = d - 4294967296 * c') : x + 4294967296 * X - c - (y + 4294967296 * Y) = d + 4294967296 * (X - c' - Y) := by omega
theorem M5 {a b : List Int} (da : Wg a) (db : Wg b) (hl : b.length ≤ a.length) (ha : a.length < 1000000000) : ∀ (n i : Nat) (acc : List Int) (c : Int), acc.length = i → a.length = i + n → Wg acc → 0 ≤ c → c ≤ 1 → 0 ≤ U (a.drop i) - c - U (b.drop i) →
    Ev (fun k => (QC.hs k).l0 b acc c a (a.length : Int) i) (wd (U acc + 4294967296 ^ acc.length * (U (a.drop i) - c - U (b.drop i))).toNat)
  | 0, i, acc, c, ei, em, dacc, c0, c1, h0 => by
    rw [List.drop_eq_nil_of_le (by omega), List.drop_eq_nil_of_le (by omega)] at h0 ⊢
    simp only [U] at h0 ⊢
    obtain rfl : c = 0 := by omega
    refine Ev.step (fun k => rfl) ?_
    simp only [QC.hs, QC.b0, if_neg (show ¬ ((i : Int) < (a.length : Int)) by omega)]
    simp only [Int.sub_zero, Int.mul_zero, Int.add_zero]
    exact Ev.bind (Zp (by omega) dacc) Ev.now
  | n + 1, i, acc, c, ei, em, dacc, c0, c1, h0 => by
    have ra := Yh da i
    have rb := Yh db i
    have H : Ev (fun k => QC.j2 k (QC.hs k) b acc c (rd a i) (rd b i) a (a.length : Int) i) (wd (U acc + 4294967296 ^ acc.length * (U (a.drop i) - c - U (b.drop i))).toNat) := by
      simp only [QC.j2, V7 _ ra rb ⟨c0, c1⟩, Option.bind_some, if_pos (show acc.length + 1 ≤ 35184372088704 by omega), wsucc (show i < 1000000000 by omega)]
      rw [Zb a i, Zb b i] at h0 ⊢
      have hd : 0 ≤ (rd a i - rd b i - c) % 4294967296 ∧ (rd a i - rd b i - c) % 4294967296 ≤ 4294967295 := by omega
      have e : rd a i - rd b i - c = (rd a i - rd b i - c) % 4294967296 - 4294967296 * (if rd a i < rd b i + c then 1 else 0) := by
        split <;> omega
      have hc : 0 ≤ (if rd a i < rd b i + c then (1 : Int) else 0) ∧ (if rd a i < rd b i + c then (1 : Int) else 0) ≤ 1 := by split <;> omega
      generalize (rd a i - rd b i - c) % 4294967296 = d at *
      generalize (if rd a i < rd b i + c then (1 : Int) else 0) = c' at *
      have := M5 da db hl ha n (i + 1) (acc ++ [d]) c' (by simp [ei]) (by omega) (JA dacc hd) hc.1 hc.2 (wborrow h0 e hd)
      rwa [JO, ← O1 e] at this
    refine Ev.step (fun k => rfl) ?_
    simp only [QC.hs, QC.b0, if_pos (show ((i : Int) < (a.length : Int)) by omega), if_pos (show (0 : Int) ≤ i ∧ (i : Int) < (a.length : Int) by omega)]
    by_cases g : (i : Int) < (b.length : Int)
    · simp only [if_pos g, if_pos (show (0 : Int) ≤ i ∧ (i : Int) < (b.length : Int) by omega)]
      exact H
    · simp only [if_neg g]
      rwa [ZV (l := b) (by omega)] at H
theorem M1 {a b : Nat} (ha : (wd a).length < 1000000000) (h : b ≤ a) : Ev (fun k => QC.f k (wd a) (wd b)) (wd (a - b)) := by
  have hl := Zr h
  have := M5 (YX a) (YX b) hl ha (wd a).length 0 [] 0 rfl (by omega) Jb (by omega) (by omega) (by simp only [List.drop_zero, U_wd]; omega)
  simp only [U, List.length_nil, List.drop_zero, U_wd] at this
  rw [show Int.toNat ((0 : Int) + 4294967296 ^ 0 * ((a : Int) - 0 - (b : Int))) = a - b by rw [Int.pow_zero]; omega] at this
  simp only [QC.f, if_pos (show 0 ≤ 0 ∧ 0 ≤ ((wd a).length : Int) ∧ ((wd a).length : Int) ≤ 70368744177664 by omega)]
  exact this
theorem OI {x y : Int} (hx : Wl x < 1000000) (hy : Wl y < 1000000) : Ev (fun k => Xc.f k (Wb x) (Wb y)) (res (x + y)) := by
  unfold Xc.f
  have ex := U_wd x.natAbs
  have ey := U_wd y.natAbs
  by_cases g : decide (x < 0) = decide (y < 0)
  · simp only [show ((Wb x).f_neg == (Wb y).f_neg) = true by rw [Y8, Y8, g]; simp, if_true]
    simp only [Y8, Wb_w]
    obtain ⟨L, h1, h2, h3, h4⟩ := NZ (YX x.natAbs) (YX y.natAbs) (by unfold Wl at hx; omega) (by unfold Wl at hy; omega)
    refine Ev.bind h1 (Ev.bind (Jx (x := x + y) (by unfold Wl at hx hy; omega) h2 ?_) Ev.now)
    rw [h4, ex, ey]
    rw [decide_eq_decide] at g
    by_cases s : x < 0
    · simp only [s, decide_true, if_true]; have := g.1 s; omega
    · simp only [s, decide_false, Bool.false_eq_true, if_false]; have := mt g.2 s; omega
  · simp only [show ((Wb x).f_neg == (Wb y).f_neg) = false by rw [Y8, Y8]; simpa using g, Bool.false_eq_true, if_false]
    simp only [Y8, Wb_w]
    have key : ∀ p q : Int, q.natAbs ≤ p.natAbs → Wl p < 1000000 → decide (p < 0) ≠ decide (q < 0) → Ev (fun k => Xc.j1 k (decide (p < 0)) (wd p.natAbs) (decide (q < 0)) (wd q.natAbs)) (res (p + q)) := by
      intro p q h hp hne
      unfold Xc.j1
      refine Ev.bind (M1 (by unfold Wl at hp; omega) h) (Ev.bind (Jx (x := p + q) ?_ (YX _) ?_) Ev.now)
      · have := Zr (show p.natAbs - q.natAbs ≤ p.natAbs by omega)
        unfold Wl at hp; omega
      · rw [U_wd]
        by_cases s : p < 0
        · simp only [s, decide_true, if_true]
          have : ¬ q < 0 := fun t => hne (by simp [s, t])
          omega
        · simp only [s, decide_false, Bool.false_eq_true, if_false]
          have : q < 0 := Decidable.byContradiction fun t => hne (by simp [s, t])
          omega
    refine Ev.bind (GA (by unfold Wl at hx; omega) (by unfold Wl at hy; omega)) ?_
    by_cases s : x.natAbs < y.natAbs
    · rw [Zf (show (x.natAbs : Int) < y.natAbs by omega), Int.add_comm]
      simp only [if_pos (show (-1 : Int) < 0 by decide)]
      exact key y x (by omega) hy (Ne.symm g)
    · have e : ¬ sgn3 (x.natAbs : Int) (y.natAbs : Int) < 0 := by unfold sgn3; rw [if_neg (by omega)]; split <;> decide
      simp only [if_neg e]
      exact key x y (by omega) hx g
theorem QaA (x : Int) : Wl (-x) = Wl x := by unfold Wl; rw [Int.natAbs_neg]
end Go.Proofs.YtkccpkccdbfomaaGreatDoor.Pure

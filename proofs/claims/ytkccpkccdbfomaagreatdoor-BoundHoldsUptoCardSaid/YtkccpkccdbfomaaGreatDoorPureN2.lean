/- Sums and differences of the reference's whole numbers. -/
import Derived.Test.YtkccpkccdbfomaaGreatDoorPureN1
namespace Go.Proofs.YtkccpkccdbfomaaGreatDoor.Pure
open Go.RowKit Go.Proofs.YtkccpkccdbfomaaGreatDoorK Go.Proofs.YtkccpkccdbfomaaGreatDoor.GBH
set_option linter.unusedVariables false
set_option linter.unusedSimpArgs false
/-! ### sums and differences -/
theorem YY {l : List Int} (h : Dg l) (i : Nat) : 0 ≤ rd l i ∧ rd l i ≤ 9 := by
  unfold rd
  rw [Int.toNat_natCast, List.getD_eq_getElem?_getD]
  by_cases g : i < l.length
  · rw [List.getElem?_eq_getElem g]; exact h _ (List.getElem_mem g)
  · rw [List.getElem?_eq_none (by omega)]; simp
theorem ZV {l : List Int} {i : Nat} (h : l.length ≤ i) : rd l i = 0 := by
  unfold rd
  rw [Int.toNat_natCast, List.getD_eq_getElem?_getD, List.getElem?_eq_none h]; rfl
theorem JY (l : List Int) (i : Nat) : V (l.drop i) = rd l i + 10 * V (l.drop (i + 1)) := by
  by_cases g : i < l.length
  · rw [List.drop_eq_getElem_cons g]
    simp only [V]
    unfold rd
    rw [Int.toNat_natCast, List.getD_eq_getElem?_getD, List.getElem?_eq_getElem g]; rfl
  · rw [ZV (by omega), List.drop_eq_nil_of_le (by omega), List.drop_eq_nil_of_le (by omega)]; simp [V]
theorem Wu {l : List Int} (h : Dg l) (i : Nat) : Dg (l.drop i) := fun d q => h d (List.mem_of_mem_drop q)
theorem G4 (acc : List Int) (d X : Int) : V (acc ++ [d]) + 10 ^ (acc ++ [d]).length * X = V acc + 10 ^ acc.length * (d + 10 * X) := by
  rw [JJ, List.length_append, List.length_singleton, Int.pow_succ, Int.mul_add, Int.mul_assoc]; omega
theorem W9 {a b acc : List Int} {i : Nat} {v0 : Int} {R : List Int} (hi : acc.length = i) (hb : i < 8796093022208) (db : Dg b) (hv : 0 ≤ v0 ∧ v0 ≤ 10)
    (H : ∀ d c : Int, 0 ≤ d → d ≤ 9 → 0 ≤ c → c ≤ 1 → d + 10 * c = v0 + rd b i → Ev (fun k => (Qk.hs k).l0 a b (acc ++ [d]) c ((i + 1 : Nat) : Int)) R) :
    Ev (fun k => Qk.j2 k (Qk.hs k) a b acc v0 i) R := by
  simp only [Qk.j2, Qk.j3]
  have rb := YY db i
  have wi : w64 ((i : Int) + 1) = ((i + 1 : Nat) : Int) := by rw [XZ (by omega)]; omega
  have e1 : w64 (v0 + rd b i) = v0 + rd b i := XZ (by omega)
  by_cases g : (i : Int) < (b.length : Int)
  · simp only [if_pos g, if_pos (show (0 : Int) ≤ i ∧ (i : Int) < (b.length : Int) by omega), if_pos (show acc.length + 1 ≤ 17592186044288 by omega), e1, wi]
    rw [Int.tmod_eq_emod_of_nonneg (by omega), Int.tdiv_eq_ediv_of_nonneg (by omega), show w64 ((v0 + rd b i) / 10) = (v0 + rd b i) / 10 from XZ (by omega)]
    exact H _ _ (by omega) (by omega) (by omega) (by omega) (by omega)
  · simp only [if_neg g, if_pos (show acc.length + 1 ≤ 17592186044288 by omega), wi]
    rw [ZV (l := b) (by omega)] at H
    rw [Int.tmod_eq_emod_of_nonneg (by omega), Int.tdiv_eq_ediv_of_nonneg (by omega), show w64 (v0 / 10) = v0 / 10 from XZ (by omega)]
    exact H _ _ (by omega) (by omega) (by omega) (by omega) (by omega)
theorem OS {a b : List Int} (da : Dg a) (db : Dg b) (hb : max a.length b.length < 8796093022208) : ∀ (n i : Nat) (acc : List Int) (c : Int), acc.length = i → max a.length b.length = i + n → Dg acc → 0 ≤ c → c ≤ 1 →
    Ev (fun k => (Qk.hs k).l0 a b acc c i) (dg (V acc + 10 ^ acc.length * (c + V (a.drop i) + V (b.drop i))).toNat)
  | 0, i, acc, c, ei, em, dacc, c0, c1 => by
    have hc : (decide ((i : Int) < (a.length : Int)) || decide ((i : Int) < (b.length : Int))) = false := by
      simp only [Bool.or_eq_false_iff, decide_eq_false_iff_not]; omega
    rw [List.drop_eq_nil_of_le (by omega), List.drop_eq_nil_of_le (by omega)]
    refine Ev.step (fun k => rfl) ?_
    simp only [Qk.hs, Qk.b0, hc, Bool.false_eq_true, if_false, if_pos (show acc.length + 1 ≤ 17592186044288 by omega)]
    have t := J6 (l := acc ++ [c]) (by simp only [List.length_append, List.length_cons, List.length_nil]; omega) (Zx.2 ⟨dacc, ZH.2 ⟨⟨c0, by omega⟩, JX⟩⟩)
    rw [JJ] at t
    simp only [V, Int.add_zero]
    exact Ev.bind t Ev.now
  | n + 1, i, acc, c, ei, em, dacc, c0, c1 => by
    have ra := YY da i
    have H : Ev (fun k => Qk.j2 k (Qk.hs k) a b acc (c + rd a i) i) (dg (V acc + 10 ^ acc.length * (c + V (a.drop i) + V (b.drop i))).toNat) := by
      refine W9 ei (by omega) db ⟨by omega, by omega⟩ ?_
      intro d c' d0 d9 c0' c1' e
      have := OS da db hb n (i + 1) (acc ++ [d]) c' (by simp [ei]) (by omega) (Zx.2 ⟨dacc, ZH.2 ⟨⟨d0, d9⟩, JX⟩⟩) c0' c1'
      rw [G4] at this
      rw [JY a i, JY b i]
      rwa [show c + (rd a i + 10 * V (a.drop (i + 1))) + (rd b i + 10 * V (b.drop (i + 1))) = d + 10 * (c' + V (a.drop (i + 1)) + V (b.drop (i + 1))) by omega]
    have hc : (decide ((i : Int) < (a.length : Int)) || decide ((i : Int) < (b.length : Int))) = true := by
      simp only [Bool.or_eq_true, decide_eq_true_eq]; omega
    refine Ev.step (fun k => rfl) ?_
    simp only [Qk.hs, Qk.b0, hc, if_true]
    by_cases g : (i : Int) < (a.length : Int)
    · simp only [if_pos g, if_pos (show (0 : Int) ≤ i ∧ (i : Int) < (a.length : Int) by omega), show w64 (c + rd a i) = c + rd a i from XZ (by omega)]
      exact H
    · simp only [if_neg g]
      rwa [ZV (l := a) (by omega), Int.add_zero] at H
theorem WB {a b : Nat} (ha : (dg a).length < 8796093022208) (hb : (dg b).length < 8796093022208) : Ev (fun k => Qk.f k (dg a) (dg b)) (dg (a + b)) := by
  have := OS (ZD a) (ZD b) (by omega) (max (dg a).length (dg b).length) 0 [] 0 rfl (by omega) JX (by omega) (by omega)
  simp only [V, List.length_nil, List.drop_zero, V_dg] at this
  rw [show Int.toNat ((0 : Int) + 10 ^ 0 * (0 + (a : Int) + (b : Int))) = a + b by rw [Int.pow_zero]; omega] at this
  exact this
theorem Qag {x i n A : Nat} (ei : x = i) (em : A = i + n) (ha : A < 8796093022208) : x + 1 ≤ 17592186044288 := by omega
theorem UV {i n A : Nat} (em : A = i + (n + 1)) : (i : Int) < (A : Int) := by omega
theorem UC {i B : Nat} (g : ¬ (i : Int) < (B : Int)) : B ≤ i := by omega
theorem borrow1 {p q c X Y : Int} (hx : 0 ≤ p + 10 * X - c - (q + 10 * Y)) (h : p - c - q < 0) : 0 ≤ X - 1 - Y := by omega
theorem borrow0 {p q c X Y : Int} (hx : 0 ≤ p + 10 * X - c - (q + 10 * Y)) (hp : p ≤ 9) (hq : 0 ≤ q) (hc : 0 ≤ c) : 0 ≤ X - 0 - Y := by omega
theorem borrow1e (p q c X Y : Int) : p + 10 * X - c - (q + 10 * Y) = p - c - q + 10 + 10 * (X - 1 - Y) := by omega
theorem borrow0e (p q c X Y : Int) : p + 10 * X - c - (q + 10 * Y) = p - c - q + 10 * (X - 0 - Y) := by omega
theorem small64 {x : Int} (h : -100 ≤ x ∧ x ≤ 100) : w64 x = x := XZ (by omega)
theorem G7 {a b : List Int} (da : Dg a) (db : Dg b) (ha : a.length < 8796093022208) (hb : b.length < 8796093022208) : ∀ (n i : Nat) (acc : List Int) (c : Int), acc.length = i → a.length = i + n → Dg acc → 0 ≤ c → c ≤ 1 → 0 ≤ V (a.drop i) - c - V (b.drop i) →
    Ev (fun k => (Qh.hs k).l0 a b acc c i) (dg (V acc + 10 ^ acc.length * (V (a.drop i) - c - V (b.drop i))).toNat)
  | 0, i, acc, c, ei, em, dacc, c0, c1, hx => by
    rw [List.drop_eq_nil_of_le (show a.length ≤ i by omega)] at hx ⊢
    have vb := J8 (Wu db i)
    simp only [V] at hx
    rw [show V [] - c - V (b.drop i) = 0 by simp only [V]; omega, Int.mul_zero, Int.add_zero]
    refine Ev.step (fun k => rfl) ?_
    simp only [Qh.hs, Qh.b0, if_neg (show ¬ ((i : Int) < (a.length : Int)) by omega)]
    exact Ev.bind (J6 (by omega) dacc) Ev.now
  | n + 1, i, acc, c, ei, em, dacc, c0, c1, hx => by
    have ra := YY da i; have rb := YY db i
    rw [JY a i, JY b i] at hx ⊢
    have hl := Qag ei em ha
    have wi : w64 ((i : Int) + 1) = ((i + 1 : Nat) : Int) := by rw [XZ (by omega)]; omega
    have J : Ev (fun k => Qh.j2 k (Qh.hs k) a b acc c i (rd a i - c - rd b i)) (dg (V acc + 10 ^ acc.length * (rd a i + 10 * V (a.drop (i + 1)) - c - (rd b i + 10 * V (b.drop (i + 1))))).toNat) := by
      simp only [Qh.j2, Qh.j3]
      by_cases g : rd a i - c - rd b i < 0
      · simp only [if_pos g, if_pos hl, wi, small64 (x := rd a i - c - rd b i + 10) ⟨by omega, by omega⟩]
        have := G7 da db ha hb n (i + 1) (acc ++ [rd a i - c - rd b i + 10]) 1 (by simp [ei]) (by omega) (Zx.2 ⟨dacc, ZH.2 ⟨⟨by omega, by omega⟩, JX⟩⟩) (by omega) (by omega) (borrow1 hx g)
        rw [G4] at this
        rwa [borrow1e]
      · simp only [if_neg g, if_pos hl, wi]
        have := G7 da db ha hb n (i + 1) (acc ++ [rd a i - c - rd b i]) 0 (by simp [ei]) (by omega) (Zx.2 ⟨dacc, ZH.2 ⟨⟨by omega, by omega⟩, JX⟩⟩) (by omega) (by omega) (borrow0 hx ra.2 rb.1 c0)
        rw [G4] at this
        rwa [borrow0e]
    refine Ev.step (fun k => rfl) ?_
    have g1 : (i : Int) < (a.length : Int) := UV em
    have g2 : (0 : Int) ≤ i := Int.natCast_nonneg i
    have w1 : w64 (rd a i - c) = rd a i - c := small64 ⟨by omega, by omega⟩
    have w2 : w64 (rd a i - c - rd b i) = rd a i - c - rd b i := small64 ⟨by omega, by omega⟩
    have key : w64 (w64 (rd a i - c) - rd b i) = rd a i - c - rd b i := (congrArg (fun z => w64 (z - rd b i)) w1).trans w2
    simp only [Qh.hs, Qh.b0, if_pos g1, if_pos (And.intro g2 g1)]
    by_cases g : (i : Int) < (b.length : Int)
    · simp only [if_pos g, if_pos (And.intro g2 g)]; rw [key]; exact J
    · simp only [if_neg g]
      have o := ZV (l := b) (i := i) (UC g)
      rw [o, Int.sub_zero] at J
      rw [w1, o]
      exact J
theorem Gh {a b : Nat} (ha : (dg a).length < 8796093022208) (h : b ≤ a) : Ev (fun k => Qh.f k (dg a) (dg b)) (dg (a - b)) := by
  have lb := Ze h
  have := G7 (ZD a) (ZD b) ha (by omega) (dg a).length 0 [] 0 rfl (by omega) JX (by omega) (by omega) (by simp only [List.drop_zero, V_dg]; omega)
  simp only [V, List.length_nil, List.drop_zero, V_dg] at this
  rw [show Int.toNat ((0 : Int) + 10 ^ 0 * ((a : Int) - 0 - (b : Int))) = a - b by rw [Int.pow_zero]; omega] at this
  exact this
/-- how many digits a number has -/
def Ln (x : Int) : Nat := (dg x.natAbs).length
theorem NT {x y : Int} (hx : Ln x < 8796093022208) (hy : Ln y < 8796093022208) : Ev (fun k => Ym.f k (Nb x) (Nb y)) (Nb (x + y)) := by
  unfold Ln at hx hy
  simp only [Ym.f]
  by_cases s : (decide (x < 0) == decide (y < 0)) = true
  · simp only [show (((Nb x).f_Neg == (Nb y).f_Neg) = true) = True from eq_true s, if_true]
    simp only [Nb] at s ⊢
    refine Ev.bind (WB hx hy) ?_
    have s' : (x < 0) ↔ (y < 0) := by simpa using s
    simp only [JW _ (s := decide (x < 0)) (n := x.natAbs + y.natAbs) (x := x + y) (by by_cases g : x < 0 <;> simp [g] <;> omega), Option.bind_some]
    exact Ev.now
  · simp only [show (((Nb x).f_Neg == (Nb y).f_Neg) = true) = False from eq_false s, if_false]
    simp only [Nb] at s ⊢
    have s' : ¬ ((x < 0) ↔ (y < 0)) := by simpa using s
    refine Ev.bind (MK (by omega) (by omega)) ?_
    by_cases g : x.natAbs < y.natAbs
    · simp only [g, decide_true, if_true]
      refine Ev.bind (Gh hy (by omega)) ?_
      simp only [JW _ (s := decide (y < 0)) (n := y.natAbs - x.natAbs) (x := x + y) (by by_cases g : y < 0 <;> simp [g] <;> omega), Option.bind_some]
      exact Ev.now
    · simp only [g, decide_false, Bool.false_eq_true, if_false]
      refine Ev.bind (Gh hx (by omega)) ?_
      simp only [JW _ (s := decide (x < 0)) (n := x.natAbs - y.natAbs) (x := x + y) (by by_cases g : x < 0 <;> simp [g] <;> omega), Option.bind_some]
      exact Ev.now
theorem Mc (x : Int) : Ln (-x) = Ln x := by unfold Ln; rw [Int.natAbs_neg]
theorem QaC {x y : Int} (hx : Ln x < 8796093022208) (hy : Ln y < 8796093022208) : Ev (fun k => YG.f k (Nb x) (Nb y)) (Nb (x - y)) := by
  refine Ev.bind (MB fun k => UJ k y) ?_
  refine Ev.bind (NT hx (by rw [Mc]; exact hy)) ?_
  rw [← Int.sub_eq_add_neg]
  exact Ev.now
end Go.Proofs.YtkccpkccdbfomaaGreatDoor.Pure

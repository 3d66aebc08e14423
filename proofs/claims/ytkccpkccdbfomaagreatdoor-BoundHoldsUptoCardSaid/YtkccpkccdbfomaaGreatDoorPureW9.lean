/- Texts of whole numbers: the program's and the reference's are the same; what is read is what was written. -/
import Derived.Test.YtkccpkccdbfomaaGreatDoorPureW8
namespace Go.Proofs.YtkccpkccdbfomaaGreatDoor.Pure
open Go.RowKit Go.Proofs.YtkccpkccdbfomaaGreatDoorK Go.Proofs.YtkccpkccdbfomaaGreatDoor.GBH
set_option linter.unusedVariables false
set_option linter.unusedSimpArgs false
/-! ### bytes -/
def Bt (l : List Int) : Prop := ∀ d ∈ l, 0 ≤ d ∧ d ≤ 255
theorem NG (l m : List Int) : strOf (l ++ m) = strOf l ++ strOf m := by
  apply ByteArray.ext
  rw [ByteArray.data_append]
  simp [strOf]
theorem ZU (l : List Int) : (strOf l).size = l.length := by
  show (strOf l).data.size = _
  simp [strOf]
theorem ZG {l : List Int} (h : Bt l) : bytesOf (strOf l) = l := by
  unfold bytesOf strOf
  simp only [List.map_map]
  conv => rhs; rw [← List.map_id l]
  apply List.map_congr_left
  intro d hd
  have := h d hd
  simp only [Function.comp, UInt8.toNat_ofNat', id]
  omega
theorem G0 {l : List Int} (h : Bt l) (i : Nat) (hi : i < l.length) : bt (strOf l) (i : Int) = rd l (i : Int) := by
  have e := ZG h
  unfold bt rd
  rw [Int.toNat_natCast, List.getD_eq_getElem?_getD, List.getD_eq_getElem?_getD]
  have e2 : (bytesOf (strOf l))[i]? = l[i]? := by rw [e]
  unfold bytesOf at e2
  rw [List.getElem?_map, List.getElem?_eq_getElem hi] at e2
  rw [List.getElem?_eq_getElem hi]
  cases q : (strOf l).data.toList[i]? with
  | none => rw [q] at e2; cases e2
  | some b => rw [q] at e2; simp only [Option.map_some, Option.some.injEq] at e2; simpa using e2
theorem O9 (l : List Int) (a b : Nat) : scut (strOf l) (a : Int) (b : Int) = strOf ((l.take b).drop a) := by
  apply ByteArray.ext
  unfold scut
  rw [ByteArray.data_extract]
  simp [strOf, List.drop_take]
/-! ### digits, the highest first -/
def E48 (l : List Int) : List Int := l.map fun d => 48 + d
theorem ZL (l : List Int) : (E48 l).length = l.length := List.length_map ..
theorem N1 {l : List Int} (h : Dg l) : Bt (E48 l) := by
  intro d hd
  obtain ⟨e, he, rfl⟩ := List.mem_map.1 hd
  have := h e he
  omega
/-- a size's digits, the highest first -/
def Mg (n : Nat) : List Int := if n = 0 then [0] else (dg n).reverse
def txtL (x : Int) : List Int := (if x < 0 then [45] else []) ++ E48 (Mg x.natAbs)
def txt (x : Int) : ByteArray := strOf (txtL x)
theorem Wk (n : Nat) : Dg (Mg n) := by
  unfold Mg
  split
  · intro d hd; rcases List.mem_singleton.1 hd with rfl; decide
  · intro d hd; exact ZD n d (List.mem_reverse.1 hd)
theorem UD (n : Nat) : 1 ≤ (Mg n).length ∧ (Mg n).length ≤ (dg n).length + 1 := by
  unfold Mg
  split
  · simp
  · rename_i h; have := Je h; simp; omega
/-- the highest digit is none -/
theorem WY {n : Nat} (h : n ≠ 0) : ∃ m d, dg n = m ++ [d] ∧ d ≠ 0 := by
  rcases List.eq_nil_or_concat (dg n) with e | ⟨m, d, e⟩
  · exact absurd ((My n).1 e) h
  · have e : dg n = m ++ [d] := by simpa using e
    refine ⟨m, d, e, fun hd => ?_⟩
    subst hd
    have h1 := V_dg n
    have h2 := ZD n
    rw [e, JJ, Int.mul_zero, Int.add_zero] at h1
    rw [e] at h2
    have h3 := V_lt (Zx.1 h2).1
    have h4 := Zw (n := n) (m := m.length) (by
      have : ((10 ^ m.length : Nat) : Int) = (10 : Int) ^ m.length := by rw [Int.natCast_pow]; rfl
      omega)
    rw [e] at h4
    simp at h4
    omega
/-! ### the reference's text -/
theorem Gn : ∃ s z m t : ByteArray, (∀ (k : Nat) (h : Qr.Hs) (a0 : Bool) (a1 : List Int) (t2 s0 : ByteArray) (i : Int), Qr.b0 k h a0 a1 t2 s0 i = if 0 ≤ i then (if (0 : Int) ≤ i ∧ i < (a1.length : Int) then (if (0 : Int) ≤ i ∧ i < (a1.length : Int) then (if (0 : Int) ≤ rd a1 i ∧ (rd a1 i : Int) ≤ w64 ((rd a1 i) + 1) ∧ w64 ((rd a1 i) + 1) ≤ (s.size : Int) then (if (s0.size + (scut s (rd a1 i) (w64 ((rd a1 i) + 1))).size : Int) ≤ 9223372036854775807 then (h.l0 a0 a1 t2 (s0 ++ (scut s (rd a1 i) (w64 ((rd a1 i) + 1)))) (w64 (i - 1))) else none) else none) else none) else none) else (some (s0))) ∧
    (∀ (k : Nat) (h : Qr.Hs) (a0 : Bool) (a1 : List Int) (t2 s0 : ByteArray), Qr.j1 k h a0 a1 t2 s0 = if (a1.length : Int) = 0 then (some z) else (h.l0 a0 a1 t2 s0 (w64 ((a1.length : Int) - 1)))) ∧
    (∀ (k : Nat) (a : Qg), Qr.f k a = (Yj.f k (⟨a.f_Neg, a.f_D⟩ : Qg)).bind fun y2 => if y2 < 0 then (Qr.j1 k (Qr.hs k) a.f_Neg a.f_D t m) else (Qr.j1 k (Qr.hs k) a.f_Neg a.f_D t t)) ∧
    s.size = 10 ∧ z = strOf [48] ∧ m = strOf [45] ∧ t = strOf [] ∧ ∀ d : Fin 10, scut s (d.val : Int) ((d.val + 1 : Nat) : Int) = strOf [48 + (d.val : Int)] :=
  ⟨_, _, _, _, fun _ _ _ _ _ _ _ => rfl, fun _ _ _ _ _ _ => rfl, fun _ _ => rfl, by decide +kernel, by decide +kernel, by decide +kernel, by decide +kernel, by decide +kernel⟩
theorem NS {D : List Int} (dD : Dg D) (a0 : Bool) (t2 : ByteArray) (hl : D.length < 1000000) : ∀ (n : Nat) (L : List Int), n ≤ D.length → L.length + n < 1000000000 → Ev (fun k => (Qr.hs k).l0 a0 D t2 (strOf L) ((n : Int) - 1)) (strOf (L ++ E48 (D.take n).reverse))
  | 0, L, _, _ => by
    obtain ⟨s, z, m, t, h1, -⟩ := Gn
    refine Ev.step (fun k => rfl) ?_
    simp only [Qr.hs, h1, if_neg (show ¬ (0 : Int) ≤ ((0 : Nat) : Int) - 1 by decide)]
    simp [E48]; exact Ev.now
  | n + 1, L, hn, hL => by
    obtain ⟨s, z, m, t, h1, -, -, h4, -, -, -, h7⟩ := Gn
    have r := YY dD n
    obtain ⟨e, he⟩ := Int.eq_ofNat_of_zero_le r.1
    have h7' := h7 ⟨e, by omega⟩
    simp only at h7'
    have w1 : w64 ((e : Int) + 1) = ((e + 1 : Nat) : Int) := Z2 (by omega)
    have w2 : w64 ((n : Int) - 1) = (n : Int) - 1 := XZ (by omega)
    have IH := NS dD a0 t2 hl n (L ++ [48 + (e : Int)]) (by omega) (by rw [List.length_append, List.length_singleton]; omega)
    have et : (D.take (n + 1)).reverse = (e : Int) :: (D.take n).reverse := by
      rw [List.take_succ_eq_append_getElem (by omega), List.reverse_append, List.reverse_singleton, List.singleton_append]
      congr 1
      rw [← he]; unfold rd; rw [Int.toNat_natCast, List.getD_eq_getElem?_getD, List.getElem?_eq_getElem (by omega)]; rfl
    rw [et]
    have e2 : L ++ E48 ((e : Int) :: (D.take n).reverse) = L ++ [48 + (e : Int)] ++ E48 (D.take n).reverse := by
      rw [List.append_assoc]; rfl
    rw [e2]
    refine Ev.step (fun k => rfl) ?_
    simp only [Qr.hs, h1, show ((n + 1 : Nat) : Int) - 1 = (n : Int) by omega, if_pos (show (0 : Int) ≤ (n : Int) by omega), if_pos (show (0 : Int) ≤ (n : Int) ∧ (n : Int) < (D.length : Int) by omega), he, w1, h4, if_pos (show (0 : Int) ≤ (e : Int) ∧ (e : Int) ≤ ((e + 1 : Nat) : Int) ∧ ((e + 1 : Nat) : Int) ≤ ((10 : Nat) : Int) by omega), h7', ← NG, w2]
    simp only [ZU, List.length_singleton, if_pos (show (L.length : Int) + ((1 : Nat) : Int) ≤ 9223372036854775807 by omega)]
    exact IH
theorem VF {x : Int} (h : Ln x < 1000000) : Ev (fun k => Qr.f k (Nb x)) (txt x) := by
  obtain ⟨s, z, m, t, h1, h2, h3, h4, h5, h6, h8, h7⟩ := Gn
  have key : ∀ t2 L, L.length ≤ 1 → (x = 0 → L = []) → Ev (fun k => Qr.j1 k (Qr.hs k) (Nb x).f_Neg (Nb x).f_D t2 (strOf L)) (strOf (L ++ E48 (Mg x.natAbs))) := by
    intro t2 L hL h0
    simp only [h2]
    show Ev (fun k => if (((dg x.natAbs).length : Nat) : Int) = 0 then _ else (Qr.hs k).l0 _ (dg x.natAbs) _ _ (w64 (((dg x.natAbs).length : Int) - 1))) _
    unfold Ln at h
    by_cases c : x = 0
    · subst c
      rw [h0 rfl]
      simp only [show (dg (Int.natAbs 0)).length = 0 by simp [Y7], if_pos (show ((0 : Nat) : Int) = 0 by rfl)]
      rw [h5]; simp [Mg, E48]; exact Ev.now
    · have hp := Je (n := x.natAbs) (by omega)
      simp only [if_neg (show ¬ (((dg x.natAbs).length : Nat) : Int) = 0 by omega), show w64 (((dg x.natAbs).length : Int) - 1) = ((dg x.natAbs).length : Int) - 1 from XZ (by omega)]
      have := NS (ZD x.natAbs) (Nb x).f_Neg t2 h (dg x.natAbs).length L (Nat.le_refl _) (by omega)
      rw [List.take_length] at this
      unfold Mg
      rw [if_neg (show ¬ x.natAbs = 0 by omega)]
      exact this
  have e : ∀ (a : Qg), (⟨a.f_Neg, a.f_D⟩ : Qg) = a := fun _ => rfl
  simp only [h3, e, MM, Option.bind_some, h6, h8]
  unfold txt txtL
  by_cases c : x < 0
  · simp only [if_neg (show ¬ x = 0 by omega), if_pos c, if_pos (show (-1 : Int) < 0 by decide)]
    exact key _ [45] (by simp) (by omega)
  · have c2 : ¬ (if x = 0 then (0 : Int) else if x < 0 then -1 else 1) < 0 := by
      rw [if_neg c]; split <;> decide
    simp only [if_neg c2]
    rw [if_neg c]
    exact key _ [] (by simp) (fun _ => rfl)
/-! ### the program's text -/
end Go.Proofs.YtkccpkccdbfomaaGreatDoor.Pure

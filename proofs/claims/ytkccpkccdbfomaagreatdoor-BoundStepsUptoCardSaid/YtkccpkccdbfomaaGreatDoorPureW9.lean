/- Texts of whole numbers: the program's and the reference's are the same; what is read is what was written. -/
import Derived.Test.YtkccpkccdbfomaaGreatDoorPureW8
namespace Go.Proofs.YtkccpkccdbfomaaGreatDoor.Pure
open Go.RowKit Go.Proofs.YtkccpkccdbfomaaGreatDoorK Go.Proofs.YtkccpkccdbfomaaGreatDoor.GBP
set_option linter.unusedVariables false
set_option linter.unusedSimpArgs false
/-! ### bytes -/
def Bt (l : List Int) : Prop := ∀ d ∈ l, 0 ≤ d ∧ d ≤ 255
theorem ZR (l m : List Int) : strOf (l ++ m) = strOf l ++ strOf m := by
  apply ByteArray.ext
  rw [ByteArray.data_append]
  simp [strOf]
theorem Za (l : List Int) : (strOf l).size = l.length := by
  show (strOf l).data.size = _
  simp [strOf]
theorem ZK {l : List Int} (h : Bt l) : bytesOf (strOf l) = l := by
  unfold bytesOf strOf
  simp only [List.map_map]
  conv => rhs; rw [← List.map_id l]
  apply List.map_congr_left
  intro d hd
  have := h d hd
  simp only [Function.comp, UInt8.toNat_ofNat', id]
  omega
theorem G1 {l : List Int} (h : Bt l) (i : Nat) (hi : i < l.length) : bt (strOf l) (i : Int) = rd l (i : Int) := by
  have e := ZK h
  unfold bt rd
  rw [Int.toNat_natCast, List.getD_eq_getElem?_getD, List.getD_eq_getElem?_getD]
  have e2 : (bytesOf (strOf l))[i]? = l[i]? := by rw [e]
  unfold bytesOf at e2
  rw [List.getElem?_map, List.getElem?_eq_getElem hi] at e2
  rw [List.getElem?_eq_getElem hi]
  cases q : (strOf l).data.toList[i]? with
  | none => rw [q] at e2; cases e2
  | some b => rw [q] at e2; simp only [Option.map_some, Option.some.injEq] at e2; simpa using e2
theorem Ud (l : List Int) (a b : Nat) : scut (strOf l) (a : Int) (b : Int) = strOf ((l.take b).drop a) := by
  apply ByteArray.ext
  unfold scut
  rw [ByteArray.data_extract]
  simp [strOf, List.drop_take]
/-! ### digits, the highest first -/
def E48 (l : List Int) : List Int := l.map fun d => 48 + d
theorem Ua (l m : List Int) : E48 (l ++ m) = E48 l ++ E48 m := List.map_append
theorem Ze (l : List Int) : (E48 l).length = l.length := List.length_map ..
theorem Nt {l : List Int} (h : Dg l) : Bt (E48 l) := by
  intro d hd
  obtain ⟨e, he, rfl⟩ := List.mem_map.1 hd
  have := h e he
  omega
/-- a size's digits, the highest first -/
def Mg (n : Nat) : List Int := if n = 0 then [0] else (dg n).reverse
def txtL (x : Int) : List Int := (if x < 0 then [45] else []) ++ E48 (Mg x.natAbs)
def txt (x : Int) : ByteArray := strOf (txtL x)
theorem Wa (n : Nat) : Dg (Mg n) := by
  unfold Mg
  split
  · intro d hd; rcases List.mem_singleton.1 hd with rfl; decide
  · intro d hd; exact ZI n d (List.mem_reverse.1 hd)
theorem N2 (n : Nat) : 1 ≤ (Mg n).length ∧ (Mg n).length ≤ (dg n).length + 1 := by
  unfold Mg
  split
  · simp
  · rename_i h; have := Jc h; simp; omega
/-- the highest digit is none -/
theorem WT {n : Nat} (h : n ≠ 0) : ∃ m d, dg n = m ++ [d] ∧ d ≠ 0 := by
  rcases List.eq_nil_or_concat (dg n) with e | ⟨m, d, e⟩
  · exact absurd ((Mf n).1 e) h
  · have e : dg n = m ++ [d] := by simpa using e
    refine ⟨m, d, e, fun hd => ?_⟩
    subst hd
    have h1 := V_dg n
    have h2 := ZI n
    rw [e, Jy, Int.mul_zero, Int.add_zero] at h1
    rw [e] at h2
    have h3 := V_lt (ZE.1 h2).1
    have h4 := ZG (n := n) (m := m.length) (by
      have : ((10 ^ m.length : Nat) : Int) = (10 : Int) ^ m.length := by rw [Int.natCast_pow]; rfl
      omega)
    rw [e] at h4
    simp at h4
    omega
/-! ### the reference's text -/
theorem Ge : ∃ s z m t : ByteArray, (∀ (k : Nat) (h : Qt.Hs) (a0 : Bool) (a1 : List Int) (t2 s0 : ByteArray) (i : Int), Qt.b0 k h a0 a1 t2 s0 i = if 0 ≤ i then (if (0 : Int) ≤ i ∧ i < (a1.length : Int) then (if (0 : Int) ≤ i ∧ i < (a1.length : Int) then (if (0 : Int) ≤ rd a1 i ∧ (rd a1 i : Int) ≤ w64 ((rd a1 i) + 1) ∧ w64 ((rd a1 i) + 1) ≤ (s.size : Int) then (if (s0.size + (scut s (rd a1 i) (w64 ((rd a1 i) + 1))).size : Int) ≤ 9223372036854775807 then (h.l0 a0 a1 t2 (s0 ++ (scut s (rd a1 i) (w64 ((rd a1 i) + 1)))) (w64 (i - 1))) else none) else none) else none) else none) else (some (s0))) ∧
    (∀ (k : Nat) (h : Qt.Hs) (a0 : Bool) (a1 : List Int) (t2 s0 : ByteArray), Qt.j1 k h a0 a1 t2 s0 = if (a1.length : Int) = 0 then (some z) else (h.l0 a0 a1 t2 s0 (w64 ((a1.length : Int) - 1)))) ∧
    (∀ (k : Nat) (a : Qg), Qt.f k a = (X2.f k (⟨a.f_Neg, a.f_D⟩ : Qg)).bind fun y2 => if y2 < 0 then (Qt.j1 k (Qt.hs k) a.f_Neg a.f_D t m) else (Qt.j1 k (Qt.hs k) a.f_Neg a.f_D t t)) ∧
    s.size = 10 ∧ z = strOf [48] ∧ m = strOf [45] ∧ t = strOf [] ∧ ∀ d : Fin 10, scut s (d.val : Int) ((d.val + 1 : Nat) : Int) = strOf [48 + (d.val : Int)] :=
  ⟨_, _, _, _, fun _ _ _ _ _ _ _ => rfl, fun _ _ _ _ _ _ => rfl, fun _ _ => rfl, by decide +kernel, by decide +kernel, by decide +kernel, by decide +kernel, by decide +kernel⟩
theorem NW {D : List Int} (dD : Dg D) (a0 : Bool) (t2 : ByteArray) (hl : D.length < 1000000) : ∀ (n : Nat) (L : List Int), n ≤ D.length → L.length + n < 1000000000 → Ev (fun k => (Qt.hs k).l0 a0 D t2 (strOf L) ((n : Int) - 1)) (strOf (L ++ E48 (D.take n).reverse))
  | 0, L, _, _ => by
    obtain ⟨s, z, m, t, h1, -⟩ := Ge
    refine Ev.step (fun k => rfl) ?_
    simp only [Qt.hs, h1, if_neg (show ¬ (0 : Int) ≤ ((0 : Nat) : Int) - 1 by decide)]
    simp [E48]; exact Ev.now
  | n + 1, L, hn, hL => by
    obtain ⟨s, z, m, t, h1, -, -, h4, -, -, -, h7⟩ := Ge
    have r := YZ dD n
    obtain ⟨e, he⟩ := Int.eq_ofNat_of_zero_le r.1
    have h7' := h7 ⟨e, by omega⟩
    simp only at h7'
    have w1 : w64 ((e : Int) + 1) = ((e + 1 : Nat) : Int) := Z7 (by omega)
    have w2 : w64 ((n : Int) - 1) = (n : Int) - 1 := XY (by omega)
    have IH := NW dD a0 t2 hl n (L ++ [48 + (e : Int)]) (by omega) (by rw [List.length_append, List.length_singleton]; omega)
    have et : (D.take (n + 1)).reverse = (e : Int) :: (D.take n).reverse := by
      rw [List.take_succ_eq_append_getElem (by omega), List.reverse_append, List.reverse_singleton, List.singleton_append]
      congr 1
      rw [← he]; unfold rd; rw [Int.toNat_natCast, List.getD_eq_getElem?_getD, List.getElem?_eq_getElem (by omega)]; rfl
    rw [et]
    have e2 : L ++ E48 ((e : Int) :: (D.take n).reverse) = L ++ [48 + (e : Int)] ++ E48 (D.take n).reverse := by
      rw [List.append_assoc]; rfl
    rw [e2]
    refine Ev.step (fun k => rfl) ?_
    simp only [Qt.hs, h1, show ((n + 1 : Nat) : Int) - 1 = (n : Int) by omega, if_pos (show (0 : Int) ≤ (n : Int) by omega), if_pos (show (0 : Int) ≤ (n : Int) ∧ (n : Int) < (D.length : Int) by omega), he, w1, h4, if_pos (show (0 : Int) ≤ (e : Int) ∧ (e : Int) ≤ ((e + 1 : Nat) : Int) ∧ ((e + 1 : Nat) : Int) ≤ ((10 : Nat) : Int) by omega), h7', ← ZR, w2]
    simp only [Za, List.length_singleton, if_pos (show (L.length : Int) + ((1 : Nat) : Int) ≤ 9223372036854775807 by omega)]
    exact IH
theorem GZ {x : Int} (h : Ln x < 1000000) : Ev (fun k => Qt.f k (Nb x)) (txt x) := by
  obtain ⟨s, z, m, t, h1, h2, h3, h4, h5, h6, h8, h7⟩ := Ge
  have key : ∀ t2 L, L.length ≤ 1 → (x = 0 → L = []) → Ev (fun k => Qt.j1 k (Qt.hs k) (Nb x).f_Neg (Nb x).f_D t2 (strOf L)) (strOf (L ++ E48 (Mg x.natAbs))) := by
    intro t2 L hL h0
    simp only [h2]
    show Ev (fun k => if (((dg x.natAbs).length : Nat) : Int) = 0 then _ else (Qt.hs k).l0 _ (dg x.natAbs) _ _ (w64 (((dg x.natAbs).length : Int) - 1))) _
    unfold Ln at h
    by_cases c : x = 0
    · subst c
      rw [h0 rfl]
      simp only [show (dg (Int.natAbs 0)).length = 0 by simp [YS], if_pos (show ((0 : Nat) : Int) = 0 by rfl)]
      rw [h5]; simp [Mg, E48]; exact Ev.now
    · have hp := Jc (n := x.natAbs) (by omega)
      simp only [if_neg (show ¬ (((dg x.natAbs).length : Nat) : Int) = 0 by omega), show w64 (((dg x.natAbs).length : Int) - 1) = ((dg x.natAbs).length : Int) - 1 from XY (by omega)]
      have := NW (ZI x.natAbs) (Nb x).f_Neg t2 h (dg x.natAbs).length L (Nat.le_refl _) (by omega)
      rw [List.take_length] at this
      unfold Mg
      rw [if_neg (show ¬ x.natAbs = 0 by omega)]
      exact this
  have e : ∀ (a : Qg), (⟨a.f_Neg, a.f_D⟩ : Qg) = a := fun _ => rfl
  simp only [h3, e, JR, Option.bind_some, h6, h8]
  unfold txt txtL
  by_cases c : x < 0
  · simp only [if_neg (show ¬ x = 0 by omega), if_pos c, if_pos (show (-1 : Int) < 0 by decide)]
    exact key _ [45] (by simp) (by omega)
  · have c2 : ¬ (if x = 0 then (0 : Int) else if x < 0 then -1 else 1) < 0 := by
      rw [if_neg c]; split <;> decide
    simp only [if_neg c2]
    rw [if_neg c]
    exact key _ [] (by simp) (fun _ => rfl)
/-! ### the program's text -/
theorem Qah : ∀ (n : Nat) (mid pre post : List Int), mid.length = n → (pre ++ mid ++ post).length < 1000000000 → Ev (fun k => (Qk.hs k).l0 (pre ++ mid ++ post) (pre.length : Int) ((pre.length : Int) + (mid.length : Int) - 1)) (pre ++ mid.reverse ++ post) := by
  intro n
  induction n using Nat.strongRecOn with
  | _ n ih =>
    intro mid pre post hn hl
    rcases Nat.lt_or_ge n 2 with h | h
    · refine Ev.step (fun k => rfl) ?_
      simp only [Qk.hs, Qk.b0, if_neg (show ¬ (pre.length : Int) < (pre.length : Int) + (mid.length : Int) - 1 by omega)]
      have : mid.reverse = mid := by
        match mid, hn with
        | [], _ => rfl
        | [a], _ => rfl
        | a :: b :: t, hn => simp at hn; omega
      rw [this]; exact Ev.now
    · obtain ⟨a, m, b, rfl⟩ : ∃ a m b, mid = a :: (m ++ [b]) := by
        cases mid with
        | nil => simp at hn; omega
        | cons a t =>
          rcases List.eq_nil_or_concat t with e | ⟨m, b, e⟩
          · subst e; simp at hn; omega
          · exact ⟨a, m, b, by rw [e]; simp⟩
      have hm : m.length + 2 = n := by simpa using hn
      have el : (pre ++ a :: (m ++ [b]) ++ post).length = pre.length + m.length + 2 + post.length := by simp; omega
      have ej : (pre.length : Int) + ((a :: (m ++ [b])).length : Int) - 1 = ((pre.length + m.length + 1 : Nat) : Int) := by simp; omega
      have r1 : rd (pre ++ a :: (m ++ [b]) ++ post) ((pre.length + m.length + 1 : Nat) : Int) = b := by
        rw [show pre ++ a :: (m ++ [b]) ++ post = (pre ++ a :: m) ++ b :: post by simp]
        exact ZY _ _ _ (by simp; omega)
      have r2 : rd (pre ++ a :: (m ++ [b]) ++ post) (pre.length : Int) = a := by
        rw [show pre ++ a :: (m ++ [b]) ++ post = pre ++ a :: (m ++ [b] ++ post) by simp]
        exact ZY _ _ _ rfl
      have s1 : (pre ++ a :: (m ++ [b]) ++ post).set pre.length b = pre ++ b :: (m ++ [b] ++ post) := by
        rw [show pre ++ a :: (m ++ [b]) ++ post = pre ++ a :: (m ++ [b] ++ post) by simp]
        exact Gs _ _ _ _
      have s2 : (pre ++ b :: (m ++ [b] ++ post)).set (pre.length + m.length + 1) a = (pre ++ [b]) ++ m ++ (a :: post) := by
        rw [show pre ++ b :: (m ++ [b] ++ post) = (pre ++ b :: m) ++ b :: post by simp, show pre.length + m.length + 1 = (pre ++ b :: m).length by simp; omega, Gs]
        simp
      refine Ev.step (fun k => rfl) ?_
      simp only [Qk.hs, Qk.b0, ej, if_pos (show (pre.length : Int) < ((pre.length + m.length + 1 : Nat) : Int) by omega), el, List.length_set,
        if_pos (show (0 : Int) ≤ ((pre.length + m.length + 1 : Nat) : Int) ∧ ((pre.length + m.length + 1 : Nat) : Int) < ((pre.length + m.length + 2 + post.length : Nat) : Int) by omega), if_pos (show (0 : Int) ≤ (pre.length : Int) ∧ (pre.length : Int) < ((pre.length + m.length + 2 + post.length : Nat) : Int) by omega), Int.toNat_natCast, r1, r2, s1, s2]
      have := ih m.length (by omega) m (pre ++ [b]) (a :: post) rfl (by simp at hl ⊢; omega)
      rw [show (((pre ++ [b]).length : Nat) : Int) = w64 ((pre.length : Int) + 1) by rw [XY (by omega)]; simp, show w64 ((pre.length : Int) + 1) + (m.length : Int) - 1 = w64 (((pre.length + m.length + 1 : Nat) : Int) - 1) by rw [XY (by omega), XY (by omega)]; omega] at this
      rw [show pre ++ (a :: (m ++ [b])).reverse ++ post = pre ++ [b] ++ m.reverse ++ a :: post by simp]
      exact this
theorem U8 {l : List Int} (h : l.length < 1000000000) : Ev (fun k => Qk.f k l) l.reverse := by
  have := Qah l.length l [] [] rfl (by simpa using h)
  simp only [List.nil_append, List.append_nil, List.length_nil] at this
  simp only [Qk.f, show w64 ((l.length : Int) - 1) = ((0 : Nat) : Int) + (l.length : Int) - 1 by rw [XY (by omega)]; omega]
  exact this
def padn : Nat → Nat → List Int
  | 0, _ => []
  | n + 1, r => ((r % 10 : Nat) : Int) :: padn n (r / 10)
theorem Ux : ∀ (n r w : Nat), 0 < w → r < 10 ^ n → dg (r + 10 ^ n * w) = padn n r ++ dg w
  | 0, r, w, hw, hr => by
    have : r = 0 := by simpa using hr
    subst this; simp [padn]
  | n + 1, r, w, hw, hr => by
    have hp : 0 < 10 ^ n := Nat.pow_pos (by decide)
    have e : 10 ^ (n + 1) * w = 10 * (10 ^ n * w) := by rw [Nat.pow_succ]; rw [Nat.mul_comm (10 ^ n) 10, Nat.mul_assoc]
    have hpw := Nat.mul_pos hp hw
    rw [Jl (by omega), e]
    simp only [padn, List.cons_append]
    rw [show (r + 10 * (10 ^ n * w)) % 10 = r % 10 by omega, show (r + 10 * (10 ^ n * w)) / 10 = r / 10 + 10 ^ n * w by omega]
    rw [Ux n (r / 10) w hw (by rw [Nat.pow_succ] at hr; omega)]
theorem GL : ∀ n r, (padn n r).length = n
  | 0, _ => rfl
  | n + 1, r => by simp [padn, GL n]
theorem G6 {r : Nat} : (48 + ((Int.tmod (r : Int) 10) % 256)) % 256 = 48 + ((r % 10 : Nat) : Int) := by
  rw [Int.tmod_eq_emod_of_nonneg (by omega)]; omega
theorem G8 {r : Nat} (h : r < 4294967296) : (Int.tdiv (r : Int) 10) % 4294967296 = ((r / 10 : Nat) : Int) := by
  rw [Int.tdiv_eq_ediv_of_nonneg (by omega)]; omega
theorem NC {a0 : Bool} {a1 : List Int} {t2 R : ByteArray} {w : Nat} (hw : 0 < w) : ∀ (n : Nat) (out : List Int) (r i : Nat), i + n = 9 → r < 4294967296 → out.length + n < 1000000000 →
    Ev (fun k => (Qp.hs k).l0 a0 a1 t2 (out ++ E48 (padn n r)) (wd w)) R → Ev (fun k => (Qp.hs k).l1 a0 a1 t2 out (wd w) (r : Int) (i : Int)) R
  | 0, out, r, i, ei, hr, hl, H => by
    refine Ev.step (fun k => rfl) ?_
    have : ((decide ((i : Int) < 9)) && ((decide (0 < ((wd w).length : Int))) || (decide (0 < (r : Int))))) = false := by simp; omega
    simp only [Qp.hs, Qp.b1, this, Bool.false_eq_true, if_false]
    simpa [padn, E48] using H
  | n + 1, out, r, i, ei, hr, hl, H => by
    have lw := Zt (n := w) (by omega)
    have : ((decide ((i : Int) < 9)) && ((decide (0 < ((wd w).length : Int))) || (decide (0 < (r : Int))))) = true := by simp; omega
    refine Ev.step (fun k => rfl) ?_
    simp only [Qp.hs, Qp.b1, this, if_true, if_pos (show out.length + 1 ≤ 140737488355200 by omega), G6, G8 hr, wsucc (show i < 1000000000 by omega)]
    refine NC hw n (out ++ [48 + ((r % 10 : Nat) : Int)]) (r / 10) (i + 1) (by omega) (by omega) (by rw [List.length_append, List.length_singleton]; omega) ?_
    rw [List.append_assoc]
    exact H
theorem M7 {a0 : Bool} {a1 : List Int} {t2 R : ByteArray} : ∀ (n : Nat) (out : List Int) (r i : Nat), i + n = 9 → r < 10 ^ n → r < 4294967296 → out.length + n < 1000000000 →
    Ev (fun k => (Qp.hs k).l0 a0 a1 t2 (out ++ E48 (dg r)) []) R → Ev (fun k => (Qp.hs k).l1 a0 a1 t2 out [] (r : Int) (i : Int)) R
  | n, out, 0, i, ei, hr, hr2, hl, H => by
    refine Ev.step (fun k => rfl) ?_
    have : ((decide ((i : Int) < 9)) && ((decide (0 < (([] : List Int).length : Int))) || (decide (0 < ((0 : Nat) : Int))))) = false := by simp
    simp only [Qp.hs, Qp.b1, this, Bool.false_eq_true, if_false]
    rw [YS] at H
    simpa [E48] using H
  | 0, out, r + 1, i, ei, hr, hr2, hl, H => by simp at hr
  | n + 1, out, r + 1, i, ei, hr, hr2, hl, H => by
    have : ((decide ((i : Int) < 9)) && ((decide (0 < (([] : List Int).length : Int))) || (decide (0 < ((r + 1 : Nat) : Int))))) = true := by simp; omega
    refine Ev.step (fun k => rfl) ?_
    simp only [Qp.hs, Qp.b1, this, if_true, if_pos (show out.length + 1 ≤ 140737488355200 by omega), G6, G8 hr2, wsucc (show i < 1000000000 by omega)]
    refine M7 n (out ++ [48 + (((r + 1) % 10 : Nat) : Int)]) ((r + 1) / 10) (i + 1) (by omega) (by rw [Nat.pow_succ] at hr; omega) (by omega) (by rw [List.length_append, List.length_singleton]; omega) ?_
    rw [List.append_assoc]
    rw [Jl (by omega)] at H
    exact H
theorem Vv {a0 : Bool} {a1 : List Int} {t2 : ByteArray} : ∀ (w : Nat) (out : List Int), out.length + (dg w).length < 1000000 → (wd w).length < 1000000 →
    Ev (fun k => (Qp.hs k).l0 a0 a1 t2 out (wd w)) (strOf ((out ++ E48 (dg w)) ++ (if a0 then [45] else [])).reverse) := by
  intro w
  induction w using Nat.strongRecOn with
  | _ w ih =>
    intro out hl hw
    by_cases z : w = 0
    · subst z
      rw [YL, YS]
      refine Ev.step (fun k => rfl) ?_
      simp only [Qp.hs, Qp.b0, List.length_nil, if_neg (show ¬ (0 : Int) < ((0 : Nat) : Int) by decide), show E48 [] = [] from rfl, List.append_nil]
      cases a0 with
      | true =>
        simp only [if_true, if_pos (show out.length + 1 ≤ 140737488355200 by omega)]
        exact Ev.bind (U8 (by rw [List.length_append, List.length_singleton]; omega)) Ev.now
      | false =>
        simp only [Bool.false_eq_true, if_false, List.append_nil]
        exact Ev.bind (U8 (by omega)) Ev.now
    · have lw := Zt z
      refine Ev.step (fun k => rfl) ?_
      simp only [Qp.hs, Qp.b0, if_pos (show (0 : Int) < ((wd w).length : Int) by omega)]
      refine Ev.bind (MT (b := 1000000000) (YW w) (by decide) (by omega)) ?_
      rw [U_wd, show ((w : Int) / 1000000000).toNat = w / 1000000000 by omega, show (w : Int) % 1000000000 = ((w % 1000000000 : Nat) : Int) by omega]
      by_cases z2 : w / 1000000000 = 0
      · have e : w % 1000000000 = w := by omega
        simp only [z2, YL, e]
        refine M7 9 out w 0 rfl (by omega) (by omega) (by omega) ?_
        have h0 := ih 0 (by omega) (out ++ E48 (dg w)) (by rw [List.length_append, Ze, YS]; simpa using hl) (by rw [YL]; decide)
        rw [YL, YS] at h0
        simpa [E48] using h0
      · refine NC (by omega) 9 out (w % 1000000000) 0 rfl (by omega) (by omega) ?_
        have ed := Ux 9 (w % 1000000000) (w / 1000000000) (by omega) (by omega)
        rw [show w % 1000000000 + 10 ^ 9 * (w / 1000000000) = w by omega] at ed
        have lens : (dg w).length = 9 + (dg (w / 1000000000)).length := by rw [ed, List.length_append, GL]
        have := ih (w / 1000000000) (by omega) (out ++ E48 (padn 9 (w % 1000000000))) (by rw [List.length_append, Ze, GL]; omega) (by have := Zd (show w / 1000000000 ≤ w by omega); omega)
        rw [List.append_assoc out, ← Ua, ← ed] at this
        exact this
theorem UG : ∃ z t : ByteArray, (∀ (k : Nat) (a : Qv), Qp.f k a = if (a.f_w.length : Int) = 0 then (some z) else ((Qp.hs k).l0 a.f_neg a.f_w t [] a.f_w)) ∧ z = strOf [48] := ⟨_, _, fun _ _ => rfl, by decide +kernel⟩
theorem N4 {x : Int} (h : Ln x < 1000000) (hw : Wl x < 1000000) : Ev (fun k => Qp.f k (Wb x)) (txt x) := by
  obtain ⟨z, t, h1, h2⟩ := UG
  unfold Ln at h
  unfold Wl at hw
  simp only [h1]
  unfold txt txtL
  by_cases c : x = 0
  · subst c
    simp only [if_pos (show (((Wb 0).f_w.length : Nat) : Int) = 0 by simp [Wb, YL])]
    rw [h2]; simp [Mg, E48]; exact Ev.now
  · have lp := Zt (n := x.natAbs) (by omega)
    simp only [if_neg (show ¬ (((Wb x).f_w.length : Nat) : Int) = 0 by rw [Wb_w]; omega)]
    have := Vv (a0 := (Wb x).f_neg) (a1 := (Wb x).f_w) (t2 := t) x.natAbs [] (by simpa using h) hw
    unfold Mg
    rw [if_neg (show ¬ x.natAbs = 0 by omega)]
    rw [List.nil_append, List.reverse_append] at this
    have e : (if (Wb x).f_neg = true then [(45 : Int)] else []).reverse ++ (E48 (dg x.natAbs)).reverse = (if x < 0 then [45] else []) ++ E48 (dg x.natAbs).reverse := by
      rw [Y2]
      unfold E48
      rw [List.map_reverse]
      by_cases s : x < 0 <;> simp [s]
    rw [e] at this
    exact this
end Go.Proofs.YtkccpkccdbfomaaGreatDoor.Pure

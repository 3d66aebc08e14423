/- Reading a number of its digits. -/
import Derived.Test.YtkccpkccdbfomaaGreatDoorPureW9
namespace Go.Proofs.YtkccpkccdbfomaaGreatDoor.Pure
open Go.RowKit Go.Proofs.YtkccpkccdbfomaaGreatDoorK Go.Proofs.YtkccpkccdbfomaaGreatDoor.GBH
set_option linter.unusedVariables false
set_option linter.unusedSimpArgs false
/-- the value of digits, the highest first -/
def valM (v : Nat) : List Int → Nat
  | [] => v
  | d :: l => valM (v * 10 + d.toNat) l
theorem JR : ∀ (l m : List Int) (v : Nat), valM v (l ++ m) = valM (valM v l) m
  | [], m, v => rfl
  | d :: l, m, v => by simp only [List.cons_append, valM]; exact JR l m _
theorem Nq : ∀ (l : List Int), Dg l → (valM 0 l.reverse : Int) = V l
  | [], _ => rfl
  | d :: l, h => by
    obtain ⟨hd, hl⟩ := ZH.1 h
    rw [List.reverse_cons, JR]
    simp only [valM, V]
    have := Nq l hl
    omega
theorem WD (n : Nat) : valM 0 (Mg n) = n := by
  unfold Mg
  split
  · rename_i h; subst h; rfl
  · have := Nq (dg n) (ZD n)
    rw [V_dg] at this; omega
theorem Oo : ∀ (l : List Int) (v : Nat), Dg l → valM v l < (v + 1) * 10 ^ l.length
  | [], v, _ => by simp [valM]
  | d :: l, v, h => by
    obtain ⟨hd, hl⟩ := ZH.1 h
    have := Oo l (v * 10 + d.toNat) hl
    simp only [valM, List.length_cons]
    rw [Nat.pow_succ, Nat.mul_comm (10 ^ l.length) 10, ← Nat.mul_assoc]
    exact Nat.lt_of_lt_of_le this (Nat.mul_le_mul_right _ (by omega))
theorem GS {l : List Int} (h : Dg l) : (wd (valM 0 l)).length ≤ l.length := by
  refine Z4 ?_
  have h1 := Oo l 0 h
  have h2 : (10 : Nat) ^ l.length ≤ 4294967296 ^ l.length := Nat.pow_le_pow_left (by decide) _
  omega
theorem Gl (l : List Int) (i : Nat) (h : i < l.length) : rd (E48 l) (i : Int) = 48 + rd l (i : Int) := by
  unfold rd E48
  rw [Int.toNat_natCast, List.getD_eq_getElem?_getD, List.getD_eq_getElem?_getD, List.getElem?_map, List.getElem?_eq_getElem h]; rfl
theorem Na {M : List Int} (h : Dg M) (hl : M.length < 1000000) (t2 : Bool) : ∀ (n i : Nat), M.length = i + n → Ev (fun k => (Xf.hs k).l0 t2 (E48 M) (M.length : Int) (i : Int)) true
  | 0, i, e => by
    refine Ev.step (fun k => rfl) ?_
    simp only [Xf.hs, Xf.b0, if_neg (show ¬ (i : Int) < (M.length : Int) by omega)]
    exact Ev.now
  | n + 1, i, e => by
    have r := YY h i
    refine Ev.step (fun k => rfl) ?_
    have e2 := Gl M i (by omega)
    have c : ((decide ((rd (E48 M) (i : Int)) < 48)) || (decide (57 < (rd (E48 M) (i : Int))))) = false := by rw [e2]; simp; omega
    simp only [Xf.hs, Xf.b0, if_pos (show (i : Int) < (M.length : Int) by omega), ZL, if_pos (show (0 : Int) ≤ (i : Int) ∧ (i : Int) < (M.length : Int) by omega), c, Bool.false_eq_true, if_false, wsucc (show i < 1000000000 by omega)]
    exact Na h hl t2 n (i + 1) (by omega)
theorem Va {M : List Int} (h : Dg M) (hl : 1 ≤ M.length ∧ M.length ≤ 1300) (h0 : 1 < M.length → rd M (0 : Int) ≠ 0) : Ev (fun k => Xf.f k (strOf (E48 M))) true := by
  have hb := N1 h
  have c2 : bt (strOf (E48 M)) 0 = 48 + rd M 0 := by
    have h1 := G0 hb 0 (by rw [ZL]; omega)
    have h2 := Gl M 0 (by omega)
    exact h1.trans h2
  have r0 := YY h 0
  have c : (((decide (((strOf (E48 M)).size : Int) = 0)) || (decide (1300 < ((strOf (E48 M)).size : Int)))) || ((decide ((bt (strOf (E48 M)) 0) = 48)) && (decide (1 < ((strOf (E48 M)).size : Int))))) = false := by
    rw [c2, ZU, ZL]
    rw [show ((0 : Nat) : Int) = 0 from rfl] at r0
    by_cases g : 1 < M.length
    · have := h0 g
      have e1 : decide ((M.length : Int) = 0) = false := decide_eq_false (by omega)
      have e2 : decide (1300 < (M.length : Int)) = false := decide_eq_false (by omega)
      have e3 : decide (48 + rd M 0 = 48) = false := decide_eq_false (by omega)
      rw [e1, e2, e3]; rfl
    · have e1 : decide ((M.length : Int) = 0) = false := decide_eq_false (by omega)
      have e2 : decide (1300 < (M.length : Int)) = false := decide_eq_false (by omega)
      have e3 : decide (1 < (M.length : Int)) = false := decide_eq_false (by omega)
      rw [e1, e2, e3, Bool.and_false]; rfl
  simp only [Xf.f, c, Bool.false_eq_true, if_false]
  have c3 : (!((decide (((strOf (E48 M)).size : Int) = 0)) || (decide (1300 < ((strOf (E48 M)).size : Int))))) = true → (0 : Int) ≤ 0 ∧ 0 < ((strOf (E48 M)).size : Int) := fun _ => by rw [ZU, ZL]; omega
  simp only [if_pos c3, ZG hb, ZL]
  exact Na h (by omega) false M.length 0 (by omega)
theorem Nm {M : List Int} {neg : Bool} (h : Dg M) (hl : M.length ≤ 1300) : ∀ (n i : Nat), M.length = i + n → Ev (fun k => (QY.hs k).l0 neg (wd (valM 0 (M.take i))) (E48 M) (M.length : Int) (i : Int)) (res (if neg then -((valM 0 M : Nat) : Int) else ((valM 0 M : Nat) : Int)))
  | 0, i, e => by
    rw [List.take_of_length_le (by omega)]
    have := GS h
    refine Ev.step (fun k => rfl) ?_
    simp only [QY.hs, QY.b0, if_neg (show ¬ (i : Int) < (M.length : Int) by omega)]
    exact Ev.bind (Jx (by omega) (YX _) (by rw [U_wd])) Ev.now
  | n + 1, i, e => by
    have r := YY h i
    have e2 := Gl M i (by omega)
    have lt := GS (l := M.take i) (fun d hd => h d (List.mem_of_mem_take hd))
    rw [List.length_take] at lt
    obtain ⟨d, hd⟩ := Int.eq_ofNat_of_zero_le r.1
    obtain ⟨R, t1, t2, t3, t4⟩ := M3 (a := wd (valM 0 (M.take i))) (b := [10]) (YX _) (ZJ.2 ⟨by decide, Jb⟩) (by omega) (by decide)
    have e10 : U [10] = 10 := by decide
    rw [U_wd, e10] at t4
    have ed : (((rd (E48 M) (i : Int)) - 48) % 256) % 4294967296 = (d : Int) := by rw [e2, hd]; omega
    have tr := Zp (l := [(d : Int)]) (show 1 < 4611686018427387904 by decide) (ZJ.2 ⟨by omega, Jb⟩)
    rw [show (U [(d : Int)]).toNat = d by simp only [U]; omega] at tr
    have l1 : (wd d).length ≤ 1 := Z4 (by omega)
    obtain ⟨L, p1, p2, p3, p4⟩ := NZ t2 (YX d) (by rw [t3]; simp; omega) (by omega)
    rw [t4, U_wd] at p4
    have ev : valM 0 (M.take (i + 1)) = valM 0 (M.take i) * 10 + d := by
      rw [List.take_succ_eq_append_getElem (by omega), JR]
      simp only [valM]
      congr 1
      have : rd M (i : Int) = M[i] := by unfold rd; rw [Int.toNat_natCast, List.getD_eq_getElem?_getD, List.getElem?_eq_getElem (by omega)]; rfl
      rw [← this, hd]; rfl
    have tr2 := Zp (l := L) (by rw [p3, t3]; simp; omega) p2
    rw [p4, show (((valM 0 (M.take i) : Nat) : Int) * 10 + (d : Int)).toNat = valM 0 (M.take i) * 10 + d by omega, ← ev] at tr2
    refine Ev.step (fun k => rfl) ?_
    simp only [QY.hs, QY.b0, if_pos (show (i : Int) < (M.length : Int) by omega), ZL, if_pos (show (0 : Int) ≤ (i : Int) ∧ (i : Int) < (M.length : Int) by omega), ed, wsucc (show i < 1000000000 by omega)]
    exact Ev.bind t1 (Ev.bind tr (Ev.bind p1 (Ev.bind tr2 (Nm h hl n (i + 1) (by omega)))))
theorem Ot {n : Nat} (h : n ≠ 0) : rd (Mg n) (0 : Int) ≠ 0 := by
  obtain ⟨m, d, e, hd⟩ := WY h
  unfold Mg
  rw [if_neg h, e, List.reverse_append]
  exact hd
theorem Qan {n : Nat} (h : 1 < (Mg n).length) : n ≠ 0 := fun e => by subst e; simp [Mg] at h
theorem U7 : ∃ z : ByteArray, (∀ (k : Nat) (h : QY.Hs) (t : ByteArray) (neg : Bool), QY.j1 k h t neg = (Xf.f k t).bind fun y8 => if ((!y8) || (neg && (decide (t = z)))) = true then (some ((⟨false, []⟩ : Qq), some 3)) else (h.l0 neg [] (bytesOf t) ((bytesOf t).length : Int) 0)) ∧ z = strOf [48] := ⟨_, fun _ _ _ _ => rfl, by decide +kernel⟩
theorem N5 {x : Int} {neg : Bool} (hx : x = if neg then -(x.natAbs : Int) else (x.natAbs : Int)) (hn : neg = true → x ≠ 0) (hl : Ln x < 1300) : Ev (fun k => QY.j1 k (QY.hs k) (strOf (E48 (Mg x.natAbs))) neg) (res x) := by
  obtain ⟨z, h1, h2⟩ := U7
  have dM := Wk x.natAbs
  have lM := UD x.natAbs
  unfold Ln at hl
  simp only [h1]
  refine Ev.bind (Va dM ⟨lM.1, by omega⟩ (fun g => Ot (Qan g))) ?_
  have hb := N1 dM
  have c : ((!true) || (neg && (decide (strOf (E48 (Mg x.natAbs)) = z)))) = false := by
    cases neg with
    | false => rfl
    | true =>
      simp only [Bool.not_true, Bool.true_and, Bool.false_or, decide_eq_false_iff_not]
      intro e
      rw [h2] at e
      have e2 : bytesOf (strOf (E48 (Mg x.natAbs))) = bytesOf (strOf [48]) := by rw [e]
      rw [ZG hb, ZG (by intro d hd; rcases List.mem_singleton.1 hd with rfl; decide)] at e2
      have hh := Ot (n := x.natAbs) (by have := hn rfl; omega)
      have e3 := Gl (Mg x.natAbs) 0 (by omega)
      rw [e2] at e3
      have : rd [(48 : Int)] ((0 : Nat) : Int) = 48 := by decide
      apply hh
      have e4 : rd (Mg x.natAbs) ((0 : Nat) : Int) = 0 := by omega
      exact e4
  simp only [c, Bool.false_eq_true, if_false, ZG hb, ZL]
  have := Nm (neg := neg) dM (by omega) (Mg x.natAbs).length 0 (by omega)
  rw [WD, ← hx] at this
  simpa [valM, YP] using this
theorem V4 {x : Int} (hl : Ln x < 1300) : Ev (fun k => QY.f k (txt x)) (res x) := by
  have dM := Wk x.natAbs
  have lM := UD x.natAbs
  have hb := N1 dM
  unfold txt txtL
  by_cases s : x < 0
  · simp only [if_pos s]
    have hb' : Bt ([45] ++ E48 (Mg x.natAbs)) := by
      intro d hd
      rcases List.mem_append.1 hd with h | h
      · rcases List.mem_singleton.1 h with rfl; decide
      · exact hb d h
    have sz : (strOf ([45] ++ E48 (Mg x.natAbs))).size = (Mg x.natAbs).length + 1 := by rw [ZU, List.length_append, ZL]; simp; omega
    have b0 : bt (strOf ([45] ++ E48 (Mg x.natAbs))) 0 = 45 := by
      have := G0 hb' 0 (by simp)
      exact this
    have c1 : (decide (1 < ((strOf ([45] ++ E48 (Mg x.natAbs))).size : Int))) = true := by rw [sz]; exact decide_eq_true (by omega)
    have c2 : ((decide (1 < ((strOf ([45] ++ E48 (Mg x.natAbs))).size : Int))) && (decide ((bt (strOf ([45] ++ E48 (Mg x.natAbs))) 0) = 45))) = true := by rw [c1, b0]; rfl
    have sc : scut (strOf ([45] ++ E48 (Mg x.natAbs))) 1 ((strOf ([45] ++ E48 (Mg x.natAbs))).size : Int) = strOf (E48 (Mg x.natAbs)) := by
      have := O9 ([45] ++ E48 (Mg x.natAbs)) 1 (strOf ([45] ++ E48 (Mg x.natAbs))).size
      rw [show ((1 : Nat) : Int) = 1 from rfl] at this
      rw [this, ZU, List.take_length]; rfl
    simp only [QY.f, if_pos (show (decide (1 < ((strOf ([45] ++ E48 (Mg x.natAbs))).size : Int))) = true → (0 : Int) ≤ 0 ∧ 0 < ((strOf ([45] ++ E48 (Mg x.natAbs))).size : Int) by intro; rw [sz]; omega), c2, if_true, sc,
      if_pos (show (0 : Int) ≤ 1 ∧ (1 : Int) ≤ ((strOf ([45] ++ E48 (Mg x.natAbs))).size : Int) ∧ ((strOf ([45] ++ E48 (Mg x.natAbs))).size : Int) ≤ ((strOf ([45] ++ E48 (Mg x.natAbs))).size : Int) by rw [sz]; omega)]
    exact N5 (by simp; omega) (fun _ => by omega) hl
  · simp only [if_neg s, List.nil_append]
    have sz : (strOf (E48 (Mg x.natAbs))).size = (Mg x.natAbs).length := by rw [ZU, ZL]
    have c2 : ((decide (1 < ((strOf (E48 (Mg x.natAbs))).size : Int))) && (decide ((bt (strOf (E48 (Mg x.natAbs))) 0) = 45))) = false := by
      have b0 : bt (strOf (E48 (Mg x.natAbs))) 0 = 48 + rd (Mg x.natAbs) 0 := (G0 hb 0 (by rw [ZL]; omega)).trans (Gl _ 0 (by omega))
      have r0 := YY dM 0
      rw [b0]
      rw [show ((0 : Nat) : Int) = 0 from rfl] at r0
      have : decide (48 + rd (Mg x.natAbs) 0 = 45) = false := decide_eq_false (by omega)
      rw [this, Bool.and_false]
    simp only [QY.f, if_pos (show (decide (1 < ((strOf (E48 (Mg x.natAbs))).size : Int))) = true → (0 : Int) ≤ 0 ∧ 0 < ((strOf (E48 (Mg x.natAbs))).size : Int) by intro; rw [sz]; omega), c2, Bool.false_eq_true, if_false]
    exact N5 (by simp; omega) (fun h => by cases h) hl
end Go.Proofs.YtkccpkccdbfomaaGreatDoor.Pure

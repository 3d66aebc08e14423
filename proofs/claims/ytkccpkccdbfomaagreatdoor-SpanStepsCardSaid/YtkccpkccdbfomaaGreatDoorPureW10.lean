/- Reading a number of its digits. -/
import Derived.Test.YtkccpkccdbfomaaGreatDoorPureW9
namespace Go.Proofs.YtkccpkccdbfomaaGreatDoor.Pure
open Go.RowKit Go.Proofs.YtkccpkccdbfomaaGreatDoorK Go.Proofs.YtkccpkccdbfomaaGreatDoor.GSS
set_option linter.unusedVariables false
set_option linter.unusedSimpArgs false
/-- the value of digits, the highest first -/
def valM (v : Nat) : List Int → Nat
  | [] => v
  | d :: l => valM (v * 10 + d.toNat) l
theorem J2 : ∀ (l m : List Int) (v : Nat), valM v (l ++ m) = valM (valM v l) m
  | [], m, v => rfl
  | d :: l, m, v => by simp only [List.cons_append, valM]; exact J2 l m _
theorem NS : ∀ (l : List Int), Dg l → (valM 0 l.reverse : Int) = V l
  | [], _ => rfl
  | d :: l, h => by
    obtain ⟨hd, hl⟩ := Z2.1 h
    rw [List.reverse_cons, J2]
    simp only [valM, V]
    have := NS l hl
    omega
theorem Wv (n : Nat) : valM 0 (Mg n) = n := by
  unfold Mg
  split
  · rename_i h; subst h; rfl
  · have := NS (dg n) (ZW n)
    rw [V_dg] at this; omega
theorem OC : ∀ (l : List Int) (v : Nat), Dg l → valM v l < (v + 1) * 10 ^ l.length
  | [], v, _ => by simp [valM]
  | d :: l, v, h => by
    obtain ⟨hd, hl⟩ := Z2.1 h
    have := OC l (v * 10 + d.toNat) hl
    simp only [valM, List.length_cons]
    rw [Nat.pow_succ, Nat.mul_comm (10 ^ l.length) 10, ← Nat.mul_assoc]
    exact Nat.lt_of_lt_of_le this (Nat.mul_le_mul_right _ (by omega))
theorem Ml {l : List Int} (h : Dg l) : (wd (valM 0 l)).length ≤ l.length := by
  refine Jp ?_
  have h1 := OC l 0 h
  have h2 : (10 : Nat) ^ l.length ≤ 4294967296 ^ l.length := Nat.pow_le_pow_left (by decide) _
  omega
theorem GJ (l : List Int) (i : Nat) (h : i < l.length) : rd (E48 l) (i : Int) = 48 + rd l (i : Int) := by
  unfold rd E48
  rw [Int.toNat_natCast, List.getD_eq_getElem?_getD, List.getD_eq_getElem?_getD, List.getElem?_map, List.getElem?_eq_getElem h]; rfl
theorem Nt {M : List Int} (h : Dg M) (hl : M.length < 1000000) (t2 : Bool) : ∀ (n i : Nat), M.length = i + n → Ev (fun k => (Xr.hs k).l0 t2 (E48 M) (M.length : Int) (i : Int)) true
  | 0, i, e => by
    refine Ev.step (fun k => rfl) ?_
    simp only [Xr.hs, Xr.b0, if_neg (show ¬ (i : Int) < (M.length : Int) by omega)]
    exact Ev.now
  | n + 1, i, e => by
    have r := Zm h i
    refine Ev.step (fun k => rfl) ?_
    have e2 := GJ M i (by omega)
    have c : ((decide ((rd (E48 M) (i : Int)) < 48)) || (decide (57 < (rd (E48 M) (i : Int))))) = false := by rw [e2]; simp; omega
    simp only [Xr.hs, Xr.b0, if_pos (show (i : Int) < (M.length : Int) by omega), ZD, if_pos (show (0 : Int) ≤ (i : Int) ∧ (i : Int) < (M.length : Int) by omega), c, Bool.false_eq_true, if_false, wsucc (show i < 1000000000 by omega)]
    exact Nt h hl t2 n (i + 1) (by omega)
theorem UK {M : List Int} (h : Dg M) (hl : 1 ≤ M.length ∧ M.length ≤ 1300) (h0 : 1 < M.length → rd M (0 : Int) ≠ 0) : Ev (fun k => Xr.f k (strOf (E48 M))) true := by
  have hb := Oo h
  have c2 : bt (strOf (E48 M)) 0 = 48 + rd M 0 := by
    have h1 := Mt hb 0 (by rw [ZD]; omega)
    have h2 := GJ M 0 (by omega)
    exact h1.trans h2
  have r0 := Zm h 0
  have c : (((decide (((strOf (E48 M)).size : Int) = 0)) || (decide (1300 < ((strOf (E48 M)).size : Int)))) || ((decide ((bt (strOf (E48 M)) 0) = 48)) && (decide (1 < ((strOf (E48 M)).size : Int))))) = false := by
    rw [c2, Zx, ZD]
    rw [show ((0 : Nat) : Int) = 0 from rfl] at r0
    by_cases g : 1 < M.length
    · have := h0 g
      have e1 : decide ((M.length : Int) = 0) = false := decide_eq_false (by omega)
      have e2 : decide (1300 < (M.length : Int)) = false := decide_eq_false (by omega)
      have e3 : decide (48 + rd M 0 = 48) = false := decide_eq_false (by omega)
      rw [e1, e2, e3]; rfl
    · have e1 : decide ((M.length : Int) = 0) = false := decide_eq_false (by omega)
      have e2 : decide (1300 < (M.length : Int)) = false := decide_eq_false (by omega)
      have e3 : decide (1 < (M.length : Int)) = false := decide_eq_false (by omega)
      rw [e1, e2, e3, Bool.and_false]; rfl
  simp only [Xr.f, c, Bool.false_eq_true, if_false]
  have c3 : (!((decide (((strOf (E48 M)).size : Int) = 0)) || (decide (1300 < ((strOf (E48 M)).size : Int))))) = true → (0 : Int) ≤ 0 ∧ 0 < ((strOf (E48 M)).size : Int) := fun _ => by rw [Zx, ZD]; omega
  simp only [if_pos c3, Z0 hb, ZD]
  exact Nt h (by omega) false M.length 0 (by omega)
theorem Oj {M : List Int} {neg : Bool} (h : Dg M) (hl : M.length ≤ 1300) : ∀ (n i : Nat), M.length = i + n → Ev (fun k => (Xa.hs k).l0 neg (wd (valM 0 (M.take i))) (E48 M) (M.length : Int) (i : Int)) (res (if neg then -((valM 0 M : Nat) : Int) else ((valM 0 M : Nat) : Int)))
  | 0, i, e => by
    rw [List.take_of_length_le (by omega)]
    have := Ml h
    refine Ev.step (fun k => rfl) ?_
    simp only [Xa.hs, Xa.b0, if_neg (show ¬ (i : Int) < (M.length : Int) by omega)]
    exact Ev.bind (Gf (by omega) (Zk _) (by rw [U_wd])) Ev.now
  | n + 1, i, e => by
    have r := Zm h i
    have e2 := GJ M i (by omega)
    have lt := Ml (l := M.take i) (fun d hd => h d (List.mem_of_mem_take hd))
    rw [List.length_take] at lt
    obtain ⟨d, hd⟩ := Int.eq_ofNat_of_zero_le r.1
    obtain ⟨R, t1, t2, t3, t4⟩ := Ns (a := wd (valM 0 (M.take i))) (b := [10]) (Zk _) (Z3.2 ⟨by decide, Jt⟩) (by omega) (by decide)
    have e10 : U [10] = 10 := by decide
    rw [U_wd, e10] at t4
    have ed : (((rd (E48 M) (i : Int)) - 48) % 256) % 4294967296 = (d : Int) := by rw [e2, hd]; omega
    have tr := ZK (l := [(d : Int)]) (show 1 < 4611686018427387904 by decide) (Z3.2 ⟨by omega, Jt⟩)
    rw [show (U [(d : Int)]).toNat = d by simp only [U]; omega] at tr
    have l1 : (wd d).length ≤ 1 := Jp (by omega)
    obtain ⟨L, p1, p2, p3, p4⟩ := Oi t2 (Zk d) (by rw [t3]; simp; omega) (by omega)
    rw [t4, U_wd] at p4
    have ev : valM 0 (M.take (i + 1)) = valM 0 (M.take i) * 10 + d := by
      rw [List.take_succ_eq_append_getElem (by omega), J2]
      simp only [valM]
      congr 1
      have : rd M (i : Int) = M[i] := by unfold rd; rw [Int.toNat_natCast, List.getD_eq_getElem?_getD, List.getElem?_eq_getElem (by omega)]; rfl
      rw [← this, hd]; rfl
    have tr2 := ZK (l := L) (by rw [p3, t3]; simp; omega) p2
    rw [p4, show (((valM 0 (M.take i) : Nat) : Int) * 10 + (d : Int)).toNat = valM 0 (M.take i) * 10 + d by omega, ← ev] at tr2
    refine Ev.step (fun k => rfl) ?_
    simp only [Xa.hs, Xa.b0, if_pos (show (i : Int) < (M.length : Int) by omega), ZD, if_pos (show (0 : Int) ≤ (i : Int) ∧ (i : Int) < (M.length : Int) by omega), ed, wsucc (show i < 1000000000 by omega)]
    exact Ev.bind t1 (Ev.bind tr (Ev.bind p1 (Ev.bind tr2 (Oj h hl n (i + 1) (by omega)))))
theorem OT {n : Nat} (h : n ≠ 0) : rd (Mg n) (0 : Int) ≠ 0 := by
  obtain ⟨m, d, e, hd⟩ := Wo h
  unfold Mg
  rw [if_neg h, e, List.reverse_append]
  exact hd
theorem WR {n : Nat} (h : 1 < (Mg n).length) : n ≠ 0 := fun e => by subst e; simp [Mg] at h
theorem Ul : ∃ z : ByteArray, (∀ (k : Nat) (h : Xa.Hs) (t : ByteArray) (neg : Bool), Xa.j1 k h t neg = (Xr.f k t).bind fun y8 => if ((!y8) || (neg && (decide (t = z)))) = true then (some ((⟨false, []⟩ : Qu), some 3)) else (h.l0 neg [] (bytesOf t) ((bytesOf t).length : Int) 0)) ∧ z = strOf [48] := ⟨_, fun _ _ _ _ => rfl, by decide +kernel⟩
theorem N3 {x : Int} {neg : Bool} (hx : x = if neg then -(x.natAbs : Int) else (x.natAbs : Int)) (hn : neg = true → x ≠ 0) (hl : Ln x < 1300) : Ev (fun k => Xa.j1 k (Xa.hs k) (strOf (E48 (Mg x.natAbs))) neg) (res x) := by
  obtain ⟨z, h1, h2⟩ := Ul
  have dM := VY x.natAbs
  have lM := NI x.natAbs
  unfold Ln at hl
  simp only [h1]
  refine Ev.bind (UK dM ⟨lM.1, by omega⟩ (fun g => OT (WR g))) ?_
  have hb := Oo dM
  have c : ((!true) || (neg && (decide (strOf (E48 (Mg x.natAbs)) = z)))) = false := by
    cases neg with
    | false => rfl
    | true =>
      simp only [Bool.not_true, Bool.true_and, Bool.false_or, decide_eq_false_iff_not]
      intro e
      rw [h2] at e
      have e2 : bytesOf (strOf (E48 (Mg x.natAbs))) = bytesOf (strOf [48]) := by rw [e]
      rw [Z0 hb, Z0 (by intro d hd; rcases List.mem_singleton.1 hd with rfl; decide)] at e2
      have hh := OT (n := x.natAbs) (by have := hn rfl; omega)
      have e3 := GJ (Mg x.natAbs) 0 (by omega)
      rw [e2] at e3
      have : rd [(48 : Int)] ((0 : Nat) : Int) = 48 := by decide
      apply hh
      have e4 : rd (Mg x.natAbs) ((0 : Nat) : Int) = 0 := by omega
      exact e4
  simp only [c, Bool.false_eq_true, if_false, Z0 hb, ZD]
  have := Oj (neg := neg) dM (by omega) (Mg x.natAbs).length 0 (by omega)
  rw [Wv, ← hx] at this
  simpa [valM, Y2] using this
theorem Vy {x : Int} (hl : Ln x < 1300) : Ev (fun k => Xa.f k (txt x)) (res x) := by
  have dM := VY x.natAbs
  have lM := NI x.natAbs
  have hb := Oo dM
  unfold txt txtL
  by_cases s : x < 0
  · simp only [if_pos s]
    have hb' : Bt ([45] ++ E48 (Mg x.natAbs)) := by
      intro d hd
      rcases List.mem_append.1 hd with h | h
      · rcases List.mem_singleton.1 h with rfl; decide
      · exact hb d h
    have sz : (strOf ([45] ++ E48 (Mg x.natAbs))).size = (Mg x.natAbs).length + 1 := by rw [Zx, List.length_append, ZD]; simp; omega
    have b0 : bt (strOf ([45] ++ E48 (Mg x.natAbs))) 0 = 45 := by
      have := Mt hb' 0 (by simp)
      exact this
    have c1 : (decide (1 < ((strOf ([45] ++ E48 (Mg x.natAbs))).size : Int))) = true := by rw [sz]; exact decide_eq_true (by omega)
    have c2 : ((decide (1 < ((strOf ([45] ++ E48 (Mg x.natAbs))).size : Int))) && (decide ((bt (strOf ([45] ++ E48 (Mg x.natAbs))) 0) = 45))) = true := by rw [c1, b0]; rfl
    have sc : scut (strOf ([45] ++ E48 (Mg x.natAbs))) 1 ((strOf ([45] ++ E48 (Mg x.natAbs))).size : Int) = strOf (E48 (Mg x.natAbs)) := by
      have := O5 ([45] ++ E48 (Mg x.natAbs)) 1 (strOf ([45] ++ E48 (Mg x.natAbs))).size
      rw [show ((1 : Nat) : Int) = 1 from rfl] at this
      rw [this, Zx, List.take_length]; rfl
    simp only [Xa.f, if_pos (show (decide (1 < ((strOf ([45] ++ E48 (Mg x.natAbs))).size : Int))) = true → (0 : Int) ≤ 0 ∧ 0 < ((strOf ([45] ++ E48 (Mg x.natAbs))).size : Int) by intro; rw [sz]; omega), c2, if_true, sc,
      if_pos (show (0 : Int) ≤ 1 ∧ (1 : Int) ≤ ((strOf ([45] ++ E48 (Mg x.natAbs))).size : Int) ∧ ((strOf ([45] ++ E48 (Mg x.natAbs))).size : Int) ≤ ((strOf ([45] ++ E48 (Mg x.natAbs))).size : Int) by rw [sz]; omega)]
    exact N3 (by simp; omega) (fun _ => by omega) hl
  · simp only [if_neg s, List.nil_append]
    have sz : (strOf (E48 (Mg x.natAbs))).size = (Mg x.natAbs).length := by rw [Zx, ZD]
    have c2 : ((decide (1 < ((strOf (E48 (Mg x.natAbs))).size : Int))) && (decide ((bt (strOf (E48 (Mg x.natAbs))) 0) = 45))) = false := by
      have b0 : bt (strOf (E48 (Mg x.natAbs))) 0 = 48 + rd (Mg x.natAbs) 0 := (Mt hb 0 (by rw [ZD]; omega)).trans (GJ _ 0 (by omega))
      have r0 := Zm dM 0
      rw [b0]
      rw [show ((0 : Nat) : Int) = 0 from rfl] at r0
      have : decide (48 + rd (Mg x.natAbs) 0 = 45) = false := decide_eq_false (by omega)
      rw [this, Bool.and_false]
    simp only [Xa.f, if_pos (show (decide (1 < ((strOf (E48 (Mg x.natAbs))).size : Int))) = true → (0 : Int) ≤ 0 ∧ 0 < ((strOf (E48 (Mg x.natAbs))).size : Int) by intro; rw [sz]; omega), c2, Bool.false_eq_true, if_false]
    exact N3 (by simp; omega) (fun h => by cases h) hl
end Go.Proofs.YtkccpkccdbfomaaGreatDoor.Pure

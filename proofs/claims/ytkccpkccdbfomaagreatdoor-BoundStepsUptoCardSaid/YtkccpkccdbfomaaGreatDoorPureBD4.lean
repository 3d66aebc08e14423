/- Steps and products, of the program and of the document. -/
import Derived.Test.YtkccpkccdbfomaaGreatDoorPureBD3
namespace Go.Proofs.YtkccpkccdbfomaaGreatDoor.Pure
open Go.RowKit Go.Proofs.YtkccpkccdbfomaaGreatDoorK Go.Proofs.YtkccpkccdbfomaaGreatDoor.GBP
set_option linter.unusedVariables false
set_option linter.unusedSimpArgs false
set_option maxRecDepth 100000
/-! ### a step -/
def half : Rat := mkRat 1 2097152
theorem MF : Rs MS half := Jh (by decide) (by decide) (by decide)
theorem bits21 : Ev (fun k => Yg.f k 1 21) (Rb half, none) := (NQ (n := 1) (by decide) (bits := 21) (by decide)).1
def stepR (N off : Int) : Rat := pr off * pr N + half
def SB : Nat := 2 * (M63 * MS * MS)
theorem U4 : SB < LIM := by decide +kernel
theorem OJ {N off : Int} (hN : 0 ≤ N ∧ N ≤ 73786976294838206464) (ho : -9223372036854775808 ≤ off ∧ off ≤ 9223372036854775807) : Rs SB (stepR N off) := U7 (JM (Y5 ho) (Ji hN)) MF
theorem MC {rows : List (List Int)} (h : MOk rows) (hI : ∀ r ∈ rows, I64 r) : 0 ≤ imax rows 0 ∧ imax rows 0 ≤ 73786976294838206464 := by
  have := OL (L := rows) (m := 0) (fun r hr => ⟨hI r hr, by have := h.2.2 r hr; have := h.2.1; omega⟩) (by omega)
  omega
theorem WK {rows : List (List Int)} (h : MOk rows) (hI : ∀ r ∈ rows, I64 r) {off : Int} (ho : -9223372036854775808 ≤ off ∧ off ≤ 9223372036854775807) : Ev (fun k => YF.f k (mm rows) (Rb (pr off))) (if off < 0 then (Z0, some 1) else (Rb (stepR (imax rows 0) off), none)) := by
  obtain ⟨a, h1, h2⟩ := OZ h hI
  have hN := MC h hI
  unfold YF.f
  refine Ev.bind h2 ?_
  simp only [Option.isSome_none, Bool.false_eq_true, if_false]
  refine Ev.bind (Nx (G4 (pr off))) ?_
  by_cases c : off < 0
  · simp only [decide_eq_true ((prn off).2 c), if_true, if_pos c, MA]; exact Ev.now
  · simp only [decide_eq_false (fun x => c ((prn off).1 x)), Bool.false_eq_true, if_false, if_neg c]
    refine Ev.bind bits21 ?_
    simp only [Option.isSome_none, Bool.false_eq_true, if_false]
    have hg : Ev (fun k => Yw.f k (Rb (pr off)) a (Rb half)) (Rb (stepR (imax rows 0) off), none) := by
      unfold Yw.f
      refine Ev.bind (VT h1 (Y5 ho) (Ji hN) (by decide +kernel)) ?_
      simp only [Option.isSome_none, Bool.false_eq_true, if_false]
      exact Ev.bind (O0 (JM (Y5 ho) (Ji hN)) MF (by decide +kernel)) Ev.now
    exact Ev.bind hg Ev.now
theorem VG (b : Qf) : Ev (fun k => YF.f k M0 b) (Z0, some 1) := by
  unfold YF.f
  refine Ev.bind Nq ?_
  simp only [Option.isSome_some, if_true, MA]; exact Ev.now
theorem VF {rows : List (List Int)} (h : MOk rows) (hI : ∀ r ∈ rows, I64 r) {off : Int} (ho : -9223372036854775808 ≤ off ∧ off ≤ 9223372036854775807) : Ev (fun k => YD.f k rows (Fb (pr off))) (Fb (stepR (imax rows 0) off)) := by
  have hN := MC h hI
  have t := Mm (n := 21) (by decide)
  have f1 : Fit 1 := by unfold Fit; decide +kernel
  have f2 : Fit ((2 : Int) ^ 21) := by unfold Fit; decide +kernel
  have l1 := YN f1; have l2 := YN f2
  unfold YD.f
  refine Ev.bind (N9 h hI) ?_
  refine Ev.bind (Md (Ji hN) (Y5 ho) (by decide +kernel)) ?_
  refine Ev.bind (JA (x := 1) (by decide)) ?_
  refine Ev.bind (t : Ev (fun k => Qq.f k 21) _) ?_
  refine Ev.bind (JN (by decide) (by omega) (by omega)) ?_
  rw [show ((2 : Int) ^ 21) = ((2097152 : Nat) : Int) by decide, Rat.divInt_ofNat]
  refine Ev.bind (M8 (JM (Ji hN) (Y5 ho)) MF (by decide +kernel)) ?_
  rw [Rat.mul_comm (pr (imax rows 0)) (pr off)]
  exact Ev.now
/-! ### products -/
def dotR : List Int → List Int → Rat → Rat
  | x :: r, y :: v, m => dotR r v (m + pr x * pr y)
  | _, _, m => m
def dB : Nat → Nat
  | 0 => 1
  | n + 1 => 2 * (dB n * (M63 * M63))
theorem G7 : ∀ n, n < 7 → 2 * (dB n * (M63 * M63)) < LIM ∧ dB n ≤ dB 6 := by decide +kernel
theorem OQ : dB 6 < LIM := by decide +kernel
theorem GQ {x y : Int} {n : Nat} {m : Rat} (hm : Rs (dB n) m) (hx : -9223372036854775808 ≤ x ∧ x ≤ 9223372036854775807) (hy : -9223372036854775808 ≤ y ∧ y ≤ 9223372036854775807) : Rs (dB (n + 1)) (m + pr x * pr y) := U7 hm (JM (Y5 hx) (Y5 hy))
theorem U9 : ∀ {r v : List Int} {n : Nat} {m : Rat}, I64 r → I64 v → Rs (dB n) m → n + r.length ≤ 6 → Rs (dB 6) (dotR r v m)
  | [], _, n, m, _, _, hm, hn => by unfold dotR; exact hm.mono (G7 n (by simp at hn; omega)).2
  | x :: r, [], n, m, _, _, hm, hn => by unfold dotR; exact hm.mono (G7 n (by simp at hn; omega)).2
  | x :: r, y :: v, n, m, hr, hv, hm, hn => by
    unfold dotR
    exact U9 (n := n + 1) (fun z hz => hr z (List.mem_cons_of_mem _ hz)) (fun z hz => hv z (List.mem_cons_of_mem _ hz)) (GQ hm (hr x (List.mem_cons_self ..)) (hv y (List.mem_cons_self ..))) (by simp at hn; omega)
theorem We {r : List Int} {i : Nat} (hi : i < r.length) : rd (rr r) (i : Int) = Rb (pr r[i]) := by unfold rr; rw [Zx (by rw [List.length_map]; exact hi), List.getElem_map]
theorem Mx (r : List Int) : (rr r).length = r.length := by unfold rr; rw [List.length_map]
theorem Vj {r v : List Int} (hr : I64 r) (hv : I64 v) (hn : r.length ≤ 6) (hl : v.length = r.length) : ∀ (d i : Nat) (a : Qf) (m : Rat), r.length = i + d → Lk a m → Rs (dB i) m →
    ∃ a', ((d = 0 → a' = a) ∧ (1 ≤ d → a' = Rb (dotR (r.drop i) (v.drop i) m))) ∧ Ev (fun k => (XB.hs k).l0 (rr v) false [] false [] none a.f_n.f_neg a.f_n.f_w a.f_d.f_neg a.f_d.f_w (rr r) (r.length : Int) (i : Int)) (a', none)
  | 0, i, a, m, e, ha, hm => by
    refine ⟨a, ⟨fun _ => rfl, fun h => by omega⟩, ?_⟩
    refine Ev.step (fun k => rfl) ?_
    simp only [XB.hs, XB.b0, if_neg (show ¬ (i : Int) < (r.length : Int) by omega), reta]
    exact Ev.now
  | d + 1, i, a, m, e, ha, hm => by
    have hi : i < r.length := by omega
    have hi2 : i < v.length := by omega
    have hx := hr _ (List.getElem_mem hi)
    have hy := hv _ (List.getElem_mem hi2)
    have lim := G7 i (by omega)
    have hs := GQ hm hx hy
    obtain ⟨a', h1, hev⟩ := Vj hr hv hn hl d (i + 1) (Rb (m + pr r[i] * pr v[i])) (m + pr r[i] * pr v[i]) (by omega) (G4 _) hs
    have e1 : dotR (r.drop i) (v.drop i) m = dotR (r.drop (i + 1)) (v.drop (i + 1)) (m + pr r[i] * pr v[i]) := by rw [List.drop_eq_getElem_cons hi, List.drop_eq_getElem_cons hi2]; rfl
    refine ⟨a', ⟨fun h => by omega, fun _ => ?_⟩, ?_⟩
    · cases d with
      | zero =>
        have hd : r.drop (i + 1) = [] := List.drop_of_length_le (by omega)
        rw [e1, hd, h1.1 rfl]; rfl
      | succ d => rw [h1.2 (by omega), e1]
    · refine Ev.step (fun k => rfl) ?_
      simp only [XB.hs, XB.b0, if_pos (show (i : Int) < (r.length : Int) by omega), Mx, if_pos (show (0 : Int) ≤ (i : Int) ∧ (i : Int) < (r.length : Int) by omega), if_pos (show (0 : Int) ≤ (i : Int) ∧ (i : Int) < (v.length : Int) by omega), We hi, We hi2, wsucc (show i < 1000000000 by omega), reta]
      refine Ev.bind (Oq (Y5 hx) (Y5 hy) (by decide +kernel)) ?_
      simp only [Option.isSome_none, Bool.false_eq_true, if_false]
      refine Ev.bind (Ow ha hm (JM (Y5 hx) (Y5 hy)) lim.1) ?_
      simp only [Option.isSome_none, Bool.false_eq_true, if_false]
      exact hev
theorem GI : Rs (dB 0) (0 : Rat) := Gv
theorem Qak {r v : List Int} (hr : I64 r) (hv : I64 v) (hn : 1 ≤ r.length ∧ r.length ≤ 6) (hl : v.length = r.length) : Ev (fun k => XB.f k (rr r) (rr v)) (Rb (dotR r v 0), none) := by
  obtain ⟨a', h1, h2⟩ := Vj hr hv hn.2 hl r.length 0 Z0 0 (by omega) lk_z GI
  rw [h1.2 hn.1, ZF.1, ZF.2.1, ZF.2.2.1, ZF.2.2.2, List.drop_zero, List.drop_zero] at h2
  unfold XB.f
  simp only [Mx]
  exact h2
def ee (rows : List (List Int)) (v : List Int) : List Rat := rows.map fun r => dotR r v 0
theorem Nm {rows : List (List Int)} (h : MOk rows) (hI : ∀ r ∈ rows, I64 r) {v : List Int} (hv : I64 v) (hl : v.length = Cn rows) : ∀ (d i : Nat), rows.length = i + d →
    Ev (fun k => (Q7.hs k).l0 (rr v) (mm rows) [] none ((ee (rows.take i) v).map Rb) (rows.length : Int) (i : Int)) ((ee rows v).map Rb, none)
  | 0, i, e => by
    refine Ev.step (fun k => rfl) ?_
    simp only [Q7.hs, Q7.b0, if_neg (show ¬ (i : Int) < (rows.length : Int) by omega)]
    rw [List.take_of_length_le (by omega)]; exact Ev.now
  | d + 1, i, e => by
    have hi : i < rows.length := by omega
    have hr := hI _ (List.getElem_mem hi)
    have hc := h.2.2 _ (List.getElem_mem hi)
    have hC := h.2.1
    have hR := h.1
    have ih := Nm h hI hv hl d (i + 1) (by omega)
    rw [List.take_succ_eq_append_getElem hi] at ih
    unfold ee at ih ⊢
    rw [List.map_append, List.map_append] at ih
    refine Ev.step (fun k => rfl) ?_
    simp only [Q7.hs, Q7.b0, if_pos (show (i : Int) < (rows.length : Int) by omega), wsucc (show i < 1000000000 by omega)]
    refine Ev.bind (U3 h hI hi) ?_
    simp only [Option.isSome_none, Bool.false_eq_true, if_false]
    refine Ev.bind (Qak hr hv (by omega) (by omega)) ?_
    simp only [Option.isSome_none, Bool.false_eq_true, if_false, List.length_map, List.length_take, if_pos (show min i rows.length + 1 ≤ 2199023255424 by omega)]
    exact ih
theorem V7 {rows : List (List Int)} (h : MOk rows) (hI : ∀ r ∈ rows, I64 r) {v : List Int} (hv : I64 v) (hl : v.length = Cn rows) : Ev (fun k => Q7.f k (mm rows) (rr v)) ((ee rows v).map Rb, none) := by
  have hx := Nm h hI hv hl rows.length 0 (by omega)
  unfold Q7.f
  refine Ev.bind (J0 h) ?_
  simp only [Option.isSome_none, Mx, show (mm rows).f_Cols = (Cn rows : Int) from rfl, show (mm rows).f_Rows = (rows.length : Int) from rfl, decide_eq_true (show (v.length : Int) = (Cn rows : Int) by omega), Bool.not_true, Bool.or_self, Bool.false_eq_true, if_false]
  exact hx
theorem Uz {rows : List (List Int)} (h : MOk rows) {v : List Int} (hl : v.length ≠ Cn rows) : Ev (fun k => Q7.f k (mm rows) (rr v)) ([], some 1) := by
  unfold Q7.f
  refine Ev.bind (J0 h) ?_
  simp only [Option.isSome_none, Mx, show (mm rows).f_Cols = (Cn rows : Int) from rfl, decide_eq_false (show ¬ (v.length : Int) = (Cn rows : Int) by omega), Bool.not_false, Bool.or_true, if_true]
  exact Ev.now
theorem Vr (l : List Qf) : Ev (fun k => Q7.f k M0 l) ([], some 1) := by
  unfold Q7.f
  simp only [M3, Option.bind_some, Option.isSome_some, Bool.true_or, if_true]; exact Ev.now
def ff (r : List Int) : List Qh := r.map fun x => Fb (pr x)
theorem QaB {r : List Int} {i : Nat} (hi : i < r.length) : rd (ff r) (i : Int) = Fb (pr r[i]) := by unfold ff; rw [Zx (by rw [List.length_map]; exact hi), List.getElem_map]
theorem Vs (r : List Int) : (ff r).length = r.length := by unfold ff; rw [List.length_map]
theorem MZ {rows : List (List Int)} (h : MOk rows) (hI : ∀ r ∈ rows, I64 r) {v : List Int} (hv : I64 v) (hl : v.length = Cn rows) {i : Nat} (hi : i < rows.length)
    (IH : Ev (fun k => (Qs.hs k).l0 rows (ff v) ((ee (rows.take (i + 1)) v).map Fb) ((i + 1 : Nat) : Int)) ((ee rows v).map Fb)) :
    ∀ (d j : Nat) (m : Rat), v.length = j + d → Rs (dB j) m → dotR (rows[i].drop j) (v.drop j) m = dotR rows[i] v 0 →
    Ev (fun k => (Qs.hs k).l1 rows (ff v) ((ee (rows.take i) v).map Fb) (i : Int) (Fb m).f_N.f_Neg (Fb m).f_N.f_D (Fb m).f_D.f_Neg (Fb m).f_D.f_D (j : Int)) ((ee rows v).map Fb)
  | 0, j, m, e, hm, hd => by
    have hc := h.2.2 _ (List.getElem_mem hi)
    have hR := h.1
    rw [List.drop_of_length_le (show rows[i].length ≤ j by omega)] at hd
    have hd : m = dotR rows[i] v 0 := hd
    rw [List.take_succ_eq_append_getElem hi] at IH
    unfold ee at IH ⊢
    rw [List.map_append, List.map_append] at IH
    refine Ev.step (fun k => rfl) ?_
    simp only [Qs.hs, Qs.b1, Vs, if_neg (show ¬ (j : Int) < (v.length : Int) by omega), feta, List.length_map, List.length_take, List.length_cons, List.length_nil, if_pos (show min i rows.length + (0 + 1) ≤ 2199023255424 by omega), wsucc (show i < 1000000000 by omega)]
    rw [hd]
    exact IH
  | d + 1, j, m, e, hm, hd => by
    have hc := h.2.2 _ (List.getElem_mem hi)
    have hC := h.2.1
    have hR := h.1
    have hj : j < rows[i].length := by omega
    have hj2 : j < v.length := by omega
    have hx := hI _ (List.getElem_mem hi) _ (List.getElem_mem hj)
    have hy := hv _ (List.getElem_mem hj2)
    have lim := G7 j (by omega)
    have ih := MZ h hI hv hl hi IH d (j + 1) (m + pr rows[i][j] * pr v[j]) (by omega) (GQ hm hx hy) (by rw [← hd, List.drop_eq_getElem_cons hj, List.drop_eq_getElem_cons hj2]; rfl)
    refine Ev.step (fun k => rfl) ?_
    simp only [Qs.hs, Qs.b1, Vs, if_pos (show (j : Int) < (v.length : Int) by omega), if_pos (show (0 : Int) ≤ (i : Int) ∧ (i : Int) < (rows.length : Int) by omega), Zx hi, if_pos (show (0 : Int) ≤ (j : Int) ∧ (j : Int) < (rows[i].length : Int) by omega), if_pos (show (0 : Int) ≤ (j : Int) ∧ (j : Int) < (v.length : Int) by omega), Zx hj, QaB hj2, feta, wsucc (show j < 1000000000 by omega)]
    refine Ev.bind (JJ hx) ?_
    refine Ev.bind (Md (Y5 hx) (Y5 hy) (by decide +kernel)) ?_
    refine Ev.bind (M8 hm (JM (Y5 hx) (Y5 hy)) lim.1) ?_
    exact ih
theorem M6 {rows : List (List Int)} (h : MOk rows) (hI : ∀ r ∈ rows, I64 r) {v : List Int} (hv : I64 v) (hl : v.length = Cn rows) : ∀ (d i : Nat), rows.length = i + d → Ev (fun k => (Qs.hs k).l0 rows (ff v) ((ee (rows.take i) v).map Fb) (i : Int)) ((ee rows v).map Fb)
  | 0, i, e => by
    refine Ev.step (fun k => rfl) ?_
    simp only [Qs.hs, Qs.b0, if_neg (show ¬ (i : Int) < (rows.length : Int) by omega)]
    rw [List.take_of_length_le (by omega)]; exact Ev.now
  | d + 1, i, e => by
    have hi : i < rows.length := by omega
    have hx := MZ h hI hv hl hi (M6 h hI hv hl d (i + 1) (by omega)) v.length 0 0 (by omega) GI (by rw [List.drop_zero, List.drop_zero])
    refine Ev.step (fun k => rfl) ?_
    simp only [Qs.hs, Qs.b0, if_pos (show (i : Int) < (rows.length : Int) by omega)]
    refine Ev.bind WN ?_
    exact hx
theorem Vp {rows : List (List Int)} (h : MOk rows) (hI : ∀ r ∈ rows, I64 r) {v : List Int} (hv : I64 v) (hl : v.length = Cn rows) : Ev (fun k => Qs.f k rows (ff v)) ((ee rows v).map Fb) := M6 h hI hv hl rows.length 0 (by omega)
end Go.Proofs.YtkccpkccdbfomaaGreatDoor.Pure

/- Steps and products, of the program and of the document. -/
import Derived.Test.YtkccpkccdbfomaaGreatDoorPureBD3
namespace Go.Proofs.YtkccpkccdbfomaaGreatDoor.Pure
open Go.RowKit Go.Proofs.YtkccpkccdbfomaaGreatDoorK Go.Proofs.YtkccpkccdbfomaaGreatDoor.GBH
set_option linter.unusedVariables false
set_option linter.unusedSimpArgs false
set_option maxRecDepth 100000
/-! ### a step -/
def half : Rat := mkRat 1 2097152
theorem OO : Rs MS half := ZX (by decide) (by decide) (by decide)
theorem bits21 : Ev (fun k => Ye.f k 1 21) (Rb half, none) := (NN (n := 1) (by decide) (bits := 21) (by decide)).1
theorem OG {rows : List (List Int)} (h : MOk rows) (hI : ∀ r ∈ rows, I64 r) : 0 ≤ imax rows 0 ∧ imax rows 0 ≤ 73786976294838206464 := by
  have := OL (L := rows) (m := 0) (fun r hr => ⟨hI r hr, by have := h.2.2 r hr; have := h.2.1; omega⟩) (by omega)
  omega
/-! ### products -/
def dotR : List Int → List Int → Rat → Rat
  | x :: r, y :: v, m => dotR r v (m + pr x * pr y)
  | _, _, m => m
def dB : Nat → Nat
  | 0 => 1
  | n + 1 => 2 * (dB n * (M63 * M63))
theorem NB : ∀ n, n < 7 → 2 * (dB n * (M63 * M63)) < LIM ∧ dB n ≤ dB 6 := by decide +kernel
theorem NO {x y : Int} {n : Nat} {m : Rat} (hm : Rs (dB n) m) (hx : -9223372036854775808 ≤ x ∧ x ≤ 9223372036854775807) (hy : -9223372036854775808 ≤ y ∧ y ≤ 9223372036854775807) : Rs (dB (n + 1)) (m + pr x * pr y) := Uq hm (Mr (Jl hx) (Jl hy))
theorem US : ∀ {r v : List Int} {n : Nat} {m : Rat}, I64 r → I64 v → Rs (dB n) m → n + r.length ≤ 6 → Rs (dB 6) (dotR r v m)
  | [], _, n, m, _, _, hm, hn => by unfold dotR; exact hm.mono (NB n (by simp at hn; omega)).2
  | x :: r, [], n, m, _, _, hm, hn => by unfold dotR; exact hm.mono (NB n (by simp at hn; omega)).2
  | x :: r, y :: v, n, m, hr, hv, hm, hn => by
    unfold dotR
    exact US (n := n + 1) (fun z hz => hr z (List.mem_cons_of_mem _ hz)) (fun z hz => hv z (List.mem_cons_of_mem _ hz)) (NO hm (hr x (List.mem_cons_self ..)) (hv y (List.mem_cons_self ..))) (by simp at hn; omega)
theorem Wd {r : List Int} {i : Nat} (hi : i < r.length) : rd (rr r) (i : Int) = Rb (pr r[i]) := by unfold rr; rw [Jj (by rw [List.length_map]; exact hi), List.getElem_map]
theorem Mt (r : List Int) : (rr r).length = r.length := by unfold rr; rw [List.length_map]
theorem UG {r v : List Int} (hr : I64 r) (hv : I64 v) (hn : r.length ≤ 6) (hl : v.length = r.length) : ∀ (d i : Nat) (a : Qe) (m : Rat), r.length = i + d → Lk a m → Rs (dB i) m →
    ∃ a', ((d = 0 → a' = a) ∧ (1 ≤ d → a' = Rb (dotR (r.drop i) (v.drop i) m))) ∧ Ev (fun k => (Xw.hs k).l0 (rr v) false [] false [] none a.f_n.f_neg a.f_n.f_w a.f_d.f_neg a.f_d.f_w (rr r) (r.length : Int) (i : Int)) (a', none)
  | 0, i, a, m, e, ha, hm => by
    refine ⟨a, ⟨fun _ => rfl, fun h => by omega⟩, ?_⟩
    refine Ev.step (fun k => rfl) ?_
    simp only [Xw.hs, Xw.b0, if_neg (show ¬ (i : Int) < (r.length : Int) by omega), reta]
    exact Ev.now
  | d + 1, i, a, m, e, ha, hm => by
    have hi : i < r.length := by omega
    have hi2 : i < v.length := by omega
    have hx := hr _ (List.getElem_mem hi)
    have hy := hv _ (List.getElem_mem hi2)
    have lim := NB i (by omega)
    have hs := NO hm hx hy
    obtain ⟨a', h1, hev⟩ := UG hr hv hn hl d (i + 1) (Rb (m + pr r[i] * pr v[i])) (m + pr r[i] * pr v[i]) (by omega) (Nh _) hs
    have e1 : dotR (r.drop i) (v.drop i) m = dotR (r.drop (i + 1)) (v.drop (i + 1)) (m + pr r[i] * pr v[i]) := by rw [List.drop_eq_getElem_cons hi, List.drop_eq_getElem_cons hi2]; rfl
    refine ⟨a', ⟨fun h => by omega, fun _ => ?_⟩, ?_⟩
    · cases d with
      | zero =>
        have hd : r.drop (i + 1) = [] := List.drop_of_length_le (by omega)
        rw [e1, hd, h1.1 rfl]; rfl
      | succ d => rw [h1.2 (by omega), e1]
    · refine Ev.step (fun k => rfl) ?_
      simp only [Xw.hs, Xw.b0, if_pos (show (i : Int) < (r.length : Int) by omega), Mt, if_pos (show (0 : Int) ≤ (i : Int) ∧ (i : Int) < (r.length : Int) by omega), if_pos (show (0 : Int) ≤ (i : Int) ∧ (i : Int) < (v.length : Int) by omega), Wd hi, Wd hi2, wsucc (show i < 1000000000 by omega), reta]
      refine Ev.bind (GC (Jl hx) (Jl hy) (by decide +kernel)) ?_
      simp only [Option.isSome_none, Bool.false_eq_true, if_false]
      refine Ev.bind (ON ha hm (Mr (Jl hx) (Jl hy)) lim.1) ?_
      simp only [Option.isSome_none, Bool.false_eq_true, if_false]
      exact hev
theorem ND : Rs (dB 0) (0 : Rat) := Jv
theorem Qay {r v : List Int} (hr : I64 r) (hv : I64 v) (hn : 1 ≤ r.length ∧ r.length ≤ 6) (hl : v.length = r.length) : Ev (fun k => Xw.f k (rr r) (rr v)) (Rb (dotR r v 0), none) := by
  obtain ⟨a', h1, h2⟩ := UG hr hv hn.2 hl r.length 0 Z0 0 (by omega) lk_z ND
  rw [h1.2 hn.1, ZF.1, ZF.2.1, ZF.2.2.1, ZF.2.2.2, List.drop_zero, List.drop_zero] at h2
  unfold Xw.f
  simp only [Mt]
  exact h2
def ee (rows : List (List Int)) (v : List Int) : List Rat := rows.map fun r => dotR r v 0
theorem NJ {rows : List (List Int)} (h : MOk rows) (hI : ∀ r ∈ rows, I64 r) {v : List Int} (hv : I64 v) (hl : v.length = Cn rows) : ∀ (d i : Nat), rows.length = i + d →
    Ev (fun k => (Q5.hs k).l0 (rr v) (mm rows) [] none ((ee (rows.take i) v).map Rb) (rows.length : Int) (i : Int)) ((ee rows v).map Rb, none)
  | 0, i, e => by
    refine Ev.step (fun k => rfl) ?_
    simp only [Q5.hs, Q5.b0, if_neg (show ¬ (i : Int) < (rows.length : Int) by omega)]
    rw [List.take_of_length_le (by omega)]; exact Ev.now
  | d + 1, i, e => by
    have hi : i < rows.length := by omega
    have hr := hI _ (List.getElem_mem hi)
    have hc := h.2.2 _ (List.getElem_mem hi)
    have hC := h.2.1
    have hR := h.1
    have ih := NJ h hI hv hl d (i + 1) (by omega)
    rw [List.take_succ_eq_append_getElem hi] at ih
    unfold ee at ih ⊢
    rw [List.map_append, List.map_append] at ih
    refine Ev.step (fun k => rfl) ?_
    simp only [Q5.hs, Q5.b0, if_pos (show (i : Int) < (rows.length : Int) by omega), wsucc (show i < 1000000000 by omega)]
    refine Ev.bind (Us h hI hi) ?_
    simp only [Option.isSome_none, Bool.false_eq_true, if_false]
    refine Ev.bind (Qay hr hv (by omega) (by omega)) ?_
    simp only [Option.isSome_none, Bool.false_eq_true, if_false, List.length_map, List.length_take, if_pos (show min i rows.length + 1 ≤ 2199023255424 by omega)]
    exact ih
theorem VP {rows : List (List Int)} (h : MOk rows) (hI : ∀ r ∈ rows, I64 r) {v : List Int} (hv : I64 v) (hl : v.length = Cn rows) : Ev (fun k => Q5.f k (mm rows) (rr v)) ((ee rows v).map Rb, none) := by
  have hx := NJ h hI hv hl rows.length 0 (by omega)
  unfold Q5.f
  refine Ev.bind (Z8 h) ?_
  simp only [Option.isSome_none, Mt, show (mm rows).f_Cols = (Cn rows : Int) from rfl, show (mm rows).f_Rows = (rows.length : Int) from rfl, decide_eq_true (show (v.length : Int) = (Cn rows : Int) by omega), Bool.not_true, Bool.or_self, Bool.false_eq_true, if_false]
  exact hx
theorem Uu {rows : List (List Int)} (h : MOk rows) {v : List Int} (hl : v.length ≠ Cn rows) : Ev (fun k => Q5.f k (mm rows) (rr v)) ([], some 1) := by
  unfold Q5.f
  refine Ev.bind (Z8 h) ?_
  simp only [Option.isSome_none, Mt, show (mm rows).f_Cols = (Cn rows : Int) from rfl, decide_eq_false (show ¬ (v.length : Int) = (Cn rows : Int) by omega), Bool.not_false, Bool.or_true, if_true]
  exact Ev.now
theorem UM (l : List Qe) : Ev (fun k => Q5.f k M0 l) ([], some 1) := by
  unfold Q5.f
  simp only [M2, Option.bind_some, Option.isSome_some, Bool.true_or, if_true]; exact Ev.now
end Go.Proofs.YtkccpkccdbfomaaGreatDoor.Pure

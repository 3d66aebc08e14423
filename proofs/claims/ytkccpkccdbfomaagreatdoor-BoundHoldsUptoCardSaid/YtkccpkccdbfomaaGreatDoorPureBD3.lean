/- Norms, steps and products, of the program and of the document. -/
import Derived.Test.YtkccpkccdbfomaaGreatDoorPureBD2
namespace Go.Proofs.YtkccpkccdbfomaaGreatDoor.Pure
open Go.RowKit Go.Proofs.YtkccpkccdbfomaaGreatDoorK Go.Proofs.YtkccpkccdbfomaaGreatDoor.GBH
set_option linter.unusedVariables false
set_option linter.unusedSimpArgs false
set_option maxRecDepth 100000
/-! ### numbers with twenty bits behind the point -/
theorem prn (n : Int) : pr n < 0 ↔ n < 0 := by
  unfold pr
  rw [← Rat.divInt_ofNat, ← Rat.not_le, Rat.divInt_nonneg_iff_of_pos_right (by decide)]; omega
theorem JZ (n : Int) : pr n = (n : Rat) / 1048576 := by unfold pr; rw [Rat.mkRat_eq_div]; rfl
theorem Mo (a b : Int) : pr a + pr b = pr (a + b) := by
  rw [JZ, JZ, JZ, Rat.intCast_add]; grind
theorem J2 : pr 0 = 0 := by decide
theorem Ui (a b : Int) : pr a < pr b ↔ a < b := by
  have h := prn (a - b)
  have e := Mo (a - b) b
  rw [show a - b + b = a by omega] at e
  constructor
  · intro x
    have : pr (a - b) < 0 := by grind
    have := h.1 this; omega
  · intro x
    have := h.2 (by omega)
    grind
theorem UQ (x : Int) : rab (pr x) = pr (x.natAbs : Int) := by
  unfold rab
  by_cases c : x < 0
  · rw [if_pos ((prn x).2 c), show (x.natAbs : Int) = -x by omega]
    have := Mo (-x) x
    rw [show -x + x = 0 by omega, J2] at this
    grind
  · rw [if_neg (fun h => c ((prn x).1 h)), show (x.natAbs : Int) = x by omega]
theorem WA (a b : Int) : rmax (pr a) (pr b) = pr (if a < b then b else a) := by
  unfold rmax
  by_cases c : a < b
  · rw [if_pos ((Ui a b).2 c), if_pos c]
  · rw [if_neg (fun h => c ((Ui a b).1 h)), if_neg c]
def MS : Nat := 73786976294838206464
theorem Vj : MS ^ 8 < LIM := by decide +kernel
theorem GJ {n : Int} (h : 0 ≤ n ∧ n ≤ 73786976294838206464) : Rs MS (pr n) := ZX (by unfold MS; omega) (by decide) (by decide)
theorem ZF : Z0.f_n.f_neg = false ∧ Z0.f_n.f_w = [] ∧ Z0.f_d.f_neg = false ∧ Z0.f_d.f_w = [] := by rw [← Ue]; exact ⟨rfl, rfl, rfl, rfl⟩
theorem VQ {a : Qe} {r s : Rat} {B C : Nat} (ha : Lk a s) (hr : Rs B r) (hs : Rs C s) (h : B * C < LIM) : Ev (fun k => Xx.f k (Rb r) a) (Rb (r * s), none) := by
  have hm := GC hr hs h
  rcases ha with rfl | ⟨rfl, rfl⟩
  · exact hm
  · refine Ev.same Zy (fun k hk => ?_) hm
    have hk : Qx.f k Z0 = some (Wb 1) := hk
    simp only [Xx.f, hk, uR0, Option.bind_some, Zn, R0n]
/-! ### a row -/
theorem bits20 {n : Int} (h : -9223372036854775808 ≤ n ∧ n ≤ 9223372036854775807) : Ev (fun k => Ye.f k n 20) (Rb (pr n), none) := (NN h (bits := 20) (by decide)).1
def rr (r : List Int) : List Qe := r.map fun x => Rb (pr x)
theorem UT {r : List Int} (hr : I64 r) (hn : r.length ≤ 6) : ∀ (d i : Nat), r.length = i + d → Ev (fun k => (Q8.hs k).l0 [] none (rr (r.take i)) r (r.length : Int) (i : Int)) (rr r, none)
  | 0, i, e => by
    refine Ev.step (fun k => rfl) ?_
    simp only [Q8.hs, Q8.b0, if_neg (show ¬ (i : Int) < (r.length : Int) by omega)]
    rw [List.take_of_length_le (by omega)]; exact Ev.now
  | d + 1, i, e => by
    have hi : i < r.length := by omega
    have ih := UT hr hn d (i + 1) (by omega)
    unfold rr at ih ⊢
    rw [List.take_succ_eq_append_getElem hi, List.map_append] at ih
    refine Ev.step (fun k => rfl) ?_
    simp only [Q8.hs, Q8.b0, if_pos (show (i : Int) < (r.length : Int) by omega), if_pos (show (0 : Int) ≤ (i : Int) ∧ (i : Int) < (r.length : Int) by omega), Jj hi, wsucc (show i < 1000000000 by omega)]
    refine Ev.bind (bits20 (hr _ (List.getElem_mem hi))) ?_
    simp only [Option.isSome_none, Bool.false_eq_true, if_false, List.length_map, List.length_take, if_pos (show min i r.length + 1 ≤ 2199023255424 by omega)]
    exact ih
theorem Us {rows : List (List Int)} (h : MOk rows) (hI : ∀ r ∈ rows, I64 r) {i : Nat} (hi : i < rows.length) : Ev (fun k => Q8.f k (mm rows) (i : Int)) (rr rows[i], none) := by
  have hb := Z1 (R := i + 1) (by have := h.1; omega) h.2.1.2
  have hb2 := Z1 h.1.2 h.2.1.2
  have hf := ZP rows h.2.2
  have hcond : (0 : Int) ≤ ((i * Cn rows : Nat) : Int) ∧ ((i * Cn rows : Nat) : Int) ≤ (((i + 1) * Cn rows : Nat) : Int) ∧ (((i + 1) * Cn rows : Nat) : Int) ≤ 36 := ⟨Int.natCast_nonneg _, Int.ofNat_le.2 (Nat.mul_le_mul_right _ (Nat.le_succ i)), Int.ofNat_le.2 hb⟩
  have hl := h.2.2 _ (List.getElem_mem hi)
  unfold Q8.f
  simp only [show (mm rows).f_Cols = (Cn rows : Int) from rfl, show (mm rows).f_A = T73.ofL (fl rows) from rfl, wsucc (show i < 1000000000 by have := h.1; omega), wmul (show i ≤ 7 by have := h.1; omega) h.2.1.2, wmul (show i + 1 ≤ 7 by have := h.1; omega) h.2.1.2, if_pos hcond, T73.toL_ofL (MF (show rows.flatten.length ≤ 36 by omega)), U8 hi h.2.2]
  exact UT (hI _ (List.getElem_mem hi)) (by have := h.2.1; omega) rows[i].length 0 (by omega)
/-! ### norms -/
def isum : List Int → Int
  | [] => 0
  | x :: r => (x.natAbs : Int) + isum r
theorem ML : ∀ {r : List Int}, I64 r → 0 ≤ isum r ∧ isum r ≤ 9223372036854775808 * (r.length : Int)
  | [], _ => ⟨Int.le_refl 0, Int.le_refl 0⟩
  | x :: r, h => by
    have ih := ML (r := r) fun y hy => h y (List.mem_cons_of_mem _ hy)
    have := h x (List.mem_cons_self ..)
    unfold isum; rw [List.length_cons]; omega
theorem NI {r : List Int} (hr : I64 r) (hn : r.length ≤ 6) : ∀ (d i : Nat) (a : Qe) (s : Int), r.length = i + d → Lk a (pr s) → 0 ≤ s ∧ s ≤ 9223372036854775808 * (i : Int) →
    ∃ a', ((d = 0 → a' = a) ∧ (1 ≤ d → a' = Rb (pr (s + isum (r.drop i))))) ∧ Ev (fun k => (QT.hs k).l0 false [] false [] none a.f_n.f_neg a.f_n.f_w a.f_d.f_neg a.f_d.f_w (rr r) (r.length : Int) (i : Int)) (a', none)
  | 0, i, a, s, e, ha, hs => by
    refine ⟨a, ⟨fun _ => rfl, fun h => by omega⟩, ?_⟩
    refine Ev.step (fun k => rfl) ?_
    simp only [QT.hs, QT.b0, if_neg (show ¬ (i : Int) < (r.length : Int) by omega), reta]
    exact Ev.now
  | d + 1, i, a, s, e, ha, hs => by
    have hi : i < r.length := by omega
    have hx := hr _ (List.getElem_mem hi)
    have hl := Vj
    have h2 := Ou
    obtain ⟨a', h1, hev⟩ := NI hr hn d (i + 1) (Rb (pr (s + (r[i].natAbs : Int)))) (s + (r[i].natAbs : Int)) (by omega) (Nh _) (by omega)
    have e1 : isum (r.drop i) = (r[i].natAbs : Int) + isum (r.drop (i + 1)) := by rw [List.drop_eq_getElem_cons hi]; rfl
    have er : rd (rr r) (i : Int) = Rb (pr r[i]) := by unfold rr; rw [Jj (by rw [List.length_map]; exact hi), List.getElem_map]
    have el : (rr r).length = r.length := by unfold rr; rw [List.length_map]
    refine ⟨a', ⟨fun h => by omega, fun _ => ?_⟩, ?_⟩
    · cases d with
      | zero =>
        have hd : r.drop (i + 1) = [] := List.drop_of_length_le (by omega)
        rw [e1, hd, h1.1 rfl, show (r[i].natAbs : Int) + isum [] = (r[i].natAbs : Int) from Int.add_zero _]
      | succ d => rw [h1.2 (by omega), e1, Int.add_assoc]
    · refine Ev.step (fun k => rfl) ?_
      simp only [QT.hs, QT.b0, if_pos (show (i : Int) < (r.length : Int) by omega), el, if_pos (show (0 : Int) ≤ (i : Int) ∧ (i : Int) < (r.length : Int) by omega), er, wsucc (show i < 1000000000 by omega), reta]
      refine Ev.bind (MN (Jl hx) (by decide +kernel)) ?_
      simp only [Option.isSome_none, Bool.false_eq_true, if_false]
      refine Ev.bind (ON ha (GJ (by omega)) (JK (Jl hx)) (by decide +kernel)) ?_
      simp only [Option.isSome_none, Bool.false_eq_true, if_false, UQ, Mo]
      exact hev
theorem VG {r : List Int} (hr : I64 r) (hn : 1 ≤ r.length ∧ r.length ≤ 6) : Ev (fun k => QT.f k (rr r)) (Rb (pr (isum r)), none) := by
  obtain ⟨a', h1, h2⟩ := NI hr hn.2 r.length 0 Z0 0 (by omega) (by rw [J2]; exact lk_z) (by omega)
  rw [h1.2 hn.1, ZF.1, ZF.2.1, ZF.2.2.1, ZF.2.2.2, List.drop_zero, Int.zero_add] at h2
  unfold QT.f
  simp only [show (rr r).length = r.length by unfold rr; rw [List.length_map]]
  exact h2
def imax : List (List Int) → Int → Int
  | [], m => m
  | r :: L, m => imax L (if m < isum r then isum r else m)
theorem OL : ∀ {L : List (List Int)} {m : Int}, (∀ r ∈ L, I64 r ∧ r.length ≤ 6) → 0 ≤ m ∧ m ≤ 55340232221128654848 → 0 ≤ imax L m ∧ imax L m ≤ 55340232221128654848
  | [], m, _, h => h
  | r :: L, m, hL, h => by
    have hr := hL r (List.mem_cons_self ..)
    have := ML hr.1
    unfold imax
    refine OL (fun s hs => hL s (List.mem_cons_of_mem _ hs)) ?_
    split <;> omega
theorem OW {rows : List (List Int)} (h : MOk rows) (hI : ∀ r ∈ rows, I64 r) : ∀ (d i : Nat) (a : Qe) (m : Int), rows.length = i + d → Lk a (pr m) → 0 ≤ m ∧ m ≤ 55340232221128654848 →
    ∃ a', Lk a' (pr (imax (rows.drop i) m)) ∧ Ev (fun k => (QZ.hs k).l0 (mm rows) false [] false [] none a.f_n.f_neg a.f_n.f_w a.f_d.f_neg a.f_d.f_w (rows.length : Int) (i : Int)) (a', none)
  | 0, i, a, m, e, ha, hm => by
    refine ⟨a, by rw [List.drop_of_length_le (by omega)]; exact ha, ?_⟩
    refine Ev.step (fun k => rfl) ?_
    simp only [QZ.hs, QZ.b0, if_neg (show ¬ (i : Int) < (rows.length : Int) by omega), reta]
    exact Ev.now
  | d + 1, i, a, m, e, ha, hm => by
    have hi : i < rows.length := by omega
    have hr := hI _ (List.getElem_mem hi)
    have hc := h.2.2 _ (List.getElem_mem hi)
    have hC := h.2.1
    have hs := ML hr
    have hl := Vj
    have hb : 0 ≤ isum rows[i] ∧ isum rows[i] ≤ 55340232221128654848 := by omega
    obtain ⟨b, hb1, hb2⟩ := Gc ha (GJ (show 0 ≤ m ∧ m ≤ 73786976294838206464 by omega)) (GJ (show 0 ≤ isum rows[i] ∧ isum rows[i] ≤ 73786976294838206464 by omega)) (by decide +kernel)
    rw [WA] at hb1
    obtain ⟨a', h1, h2⟩ := OW h hI d (i + 1) b _ (by omega) hb1 (by split <;> omega)
    refine ⟨a', ?_, ?_⟩
    · rw [List.drop_eq_getElem_cons hi]; exact h1
    · refine Ev.step (fun k => rfl) ?_
      simp only [QZ.hs, QZ.b0, if_pos (show (i : Int) < (rows.length : Int) by omega), wsucc (show i < 1000000000 by have := h.1; omega), reta]
      refine Ev.bind (Us h hI hi) ?_
      simp only [Option.isSome_none, Bool.false_eq_true, if_false]
      refine Ev.bind (VG hr (by omega)) ?_
      simp only [Option.isSome_none, Bool.false_eq_true, if_false]
      refine Ev.bind hb2 ?_
      simp only [Option.isSome_none, Bool.false_eq_true, if_false]
      exact h2
theorem WH {rows : List (List Int)} (h : MOk rows) (hI : ∀ r ∈ rows, I64 r) : ∃ a, Lk a (pr (imax rows 0)) ∧ Ev (fun k => QZ.f k (mm rows)) (a, none) := by
  obtain ⟨a, h1, h2⟩ := OW h hI rows.length 0 Z0 0 (by omega) (by rw [J2]; exact lk_z) (by omega)
  rw [ZF.1, ZF.2.1, ZF.2.2.1, ZF.2.2.2] at h2
  refine ⟨a, h1, ?_⟩
  unfold QZ.f
  refine Ev.bind (Z8 h) ?_
  simp only [Option.isSome_none, Bool.false_eq_true, if_false, show (mm rows).f_Rows = (rows.length : Int) from rfl]
  exact h2
end Go.Proofs.YtkccpkccdbfomaaGreatDoor.Pure

/- Norms, steps and products, of the program and of the document. -/
import Derived.Test.YtkccpkccdbfomaaGreatDoorPureBD2
namespace Go.Proofs.YtkccpkccdbfomaaGreatDoor.Pure
open Go.RowKit Go.Proofs.YtkccpkccdbfomaaGreatDoorK Go.Proofs.YtkccpkccdbfomaaGreatDoor.GBP
set_option linter.unusedVariables false
set_option linter.unusedSimpArgs false
set_option maxRecDepth 100000
/-! ### numbers with twenty bits behind the point -/
theorem prn (n : Int) : pr n < 0 ↔ n < 0 := by
  unfold pr
  rw [← Rat.divInt_ofNat, ← Rat.not_le, Rat.divInt_nonneg_iff_of_pos_right (by decide)]; omega
theorem NY (n : Int) : pr n = (n : Rat) / 1048576 := by unfold pr; rw [Rat.mkRat_eq_div]; rfl
theorem Ny (a b : Int) : pr a + pr b = pr (a + b) := by
  rw [NY, NY, NY, Rat.intCast_add]; grind
theorem ML : pr 0 = 0 := by decide
theorem Wn (a b : Int) : pr a < pr b ↔ a < b := by
  have h := prn (a - b)
  have e := Ny (a - b) b
  rw [show a - b + b = a by omega] at e
  constructor
  · intro x
    have : pr (a - b) < 0 := by grind
    have := h.1 this; omega
  · intro x
    have := h.2 (by omega)
    grind
theorem Qae (x : Int) : rab (pr x) = pr (x.natAbs : Int) := by
  unfold rab
  by_cases c : x < 0
  · rw [if_pos ((prn x).2 c), show (x.natAbs : Int) = -x by omega]
    have := Ny (-x) x
    rw [show -x + x = 0 by omega, ML] at this
    grind
  · rw [if_neg (fun h => c ((prn x).1 h)), show (x.natAbs : Int) = x by omega]
theorem W0 (a b : Int) : rmax (pr a) (pr b) = pr (if a < b then b else a) := by
  unfold rmax
  by_cases c : a < b
  · rw [if_pos ((Wn a b).2 c), if_pos c]
  · rw [if_neg (fun h => c ((Wn a b).1 h)), if_neg c]
def MS : Nat := 73786976294838206464
theorem Oi : MS ^ 8 < LIM := by decide +kernel
theorem Ji {n : Int} (h : 0 ≤ n ∧ n ≤ 73786976294838206464) : Rs MS (pr n) := Jh (by unfold MS; omega) (by decide) (by decide)
theorem ZF : Z0.f_n.f_neg = false ∧ Z0.f_n.f_w = [] ∧ Z0.f_d.f_neg = false ∧ Z0.f_d.f_w = [] := by rw [← MA]; exact ⟨rfl, rfl, rfl, rfl⟩
theorem VT {a : Qf} {r s : Rat} {B C : Nat} (ha : Lk a s) (hr : Rs B r) (hs : Rs C s) (h : B * C < LIM) : Ev (fun k => XO.f k (Rb r) a) (Rb (r * s), none) := by
  have hm := Oq hr hs h
  rcases ha with rfl | ⟨rfl, rfl⟩
  · exact hm
  · refine Ev.same ZT (fun k hk => ?_) hm
    have hk : QA.f k Z0 = some (Wb 1) := hk
    simp only [XO.f, hk, uR0, Option.bind_some, Zn, R0n]
/-! ### a row -/
theorem bits20 {n : Int} (h : -9223372036854775808 ≤ n ∧ n ≤ 9223372036854775807) : Ev (fun k => Yg.f k n 20) (Rb (pr n), none) := (NQ h (bits := 20) (by decide)).1
def rr (r : List Int) : List Qf := r.map fun x => Rb (pr x)
theorem U5 {r : List Int} (hr : I64 r) (hn : r.length ≤ 6) : ∀ (d i : Nat), r.length = i + d → Ev (fun k => (Xf.hs k).l0 [] none (rr (r.take i)) r (r.length : Int) (i : Int)) (rr r, none)
  | 0, i, e => by
    refine Ev.step (fun k => rfl) ?_
    simp only [Xf.hs, Xf.b0, if_neg (show ¬ (i : Int) < (r.length : Int) by omega)]
    rw [List.take_of_length_le (by omega)]; exact Ev.now
  | d + 1, i, e => by
    have hi : i < r.length := by omega
    have ih := U5 hr hn d (i + 1) (by omega)
    unfold rr at ih ⊢
    rw [List.take_succ_eq_append_getElem hi, List.map_append] at ih
    refine Ev.step (fun k => rfl) ?_
    simp only [Xf.hs, Xf.b0, if_pos (show (i : Int) < (r.length : Int) by omega), if_pos (show (0 : Int) ≤ (i : Int) ∧ (i : Int) < (r.length : Int) by omega), Zx hi, wsucc (show i < 1000000000 by omega)]
    refine Ev.bind (bits20 (hr _ (List.getElem_mem hi))) ?_
    simp only [Option.isSome_none, Bool.false_eq_true, if_false, List.length_map, List.length_take, if_pos (show min i r.length + 1 ≤ 2199023255424 by omega)]
    exact ih
theorem U3 {rows : List (List Int)} (h : MOk rows) (hI : ∀ r ∈ rows, I64 r) {i : Nat} (hi : i < rows.length) : Ev (fun k => Xf.f k (mm rows) (i : Int)) (rr rows[i], none) := by
  have hb := Jx (R := i + 1) (by have := h.1; omega) h.2.1.2
  have hb2 := Jx h.1.2 h.2.1.2
  have hf := Z6 rows h.2.2
  have hcond : (0 : Int) ≤ ((i * Cn rows : Nat) : Int) ∧ ((i * Cn rows : Nat) : Int) ≤ (((i + 1) * Cn rows : Nat) : Int) ∧ (((i + 1) * Cn rows : Nat) : Int) ≤ 36 := ⟨Int.natCast_nonneg _, Int.ofNat_le.2 (Nat.mul_le_mul_right _ (Nat.le_succ i)), Int.ofNat_le.2 hb⟩
  have hl := h.2.2 _ (List.getElem_mem hi)
  unfold Xf.f
  simp only [show (mm rows).f_Cols = (Cn rows : Int) from rfl, show (mm rows).f_A = T73.ofL (fl rows) from rfl, wsucc (show i < 1000000000 by have := h.1; omega), wmul (show i ≤ 7 by have := h.1; omega) h.2.1.2, wmul (show i + 1 ≤ 7 by have := h.1; omega) h.2.1.2, if_pos hcond, T73.toL_ofL (NB (show rows.flatten.length ≤ 36 by omega)), Qaw hi h.2.2]
  exact U5 (hI _ (List.getElem_mem hi)) (by have := h.2.1; omega) rows[i].length 0 (by omega)
/-! ### norms -/
def isum : List Int → Int
  | [] => 0
  | x :: r => (x.natAbs : Int) + isum r
theorem MN : ∀ {r : List Int}, I64 r → 0 ≤ isum r ∧ isum r ≤ 9223372036854775808 * (r.length : Int)
  | [], _ => ⟨Int.le_refl 0, Int.le_refl 0⟩
  | x :: r, h => by
    have ih := MN (r := r) fun y hy => h y (List.mem_cons_of_mem _ hy)
    have := h x (List.mem_cons_self ..)
    unfold isum; rw [List.length_cons]; omega
theorem NN {r : List Int} (hr : I64 r) (hn : r.length ≤ 6) : ∀ (d i : Nat) (a : Qf) (s : Int), r.length = i + d → Lk a (pr s) → 0 ≤ s ∧ s ≤ 9223372036854775808 * (i : Int) →
    ∃ a', ((d = 0 → a' = a) ∧ (1 ≤ d → a' = Rb (pr (s + isum (r.drop i))))) ∧ Ev (fun k => (QY.hs k).l0 false [] false [] none a.f_n.f_neg a.f_n.f_w a.f_d.f_neg a.f_d.f_w (rr r) (r.length : Int) (i : Int)) (a', none)
  | 0, i, a, s, e, ha, hs => by
    refine ⟨a, ⟨fun _ => rfl, fun h => by omega⟩, ?_⟩
    refine Ev.step (fun k => rfl) ?_
    simp only [QY.hs, QY.b0, if_neg (show ¬ (i : Int) < (r.length : Int) by omega), reta]
    exact Ev.now
  | d + 1, i, a, s, e, ha, hs => by
    have hi : i < r.length := by omega
    have hx := hr _ (List.getElem_mem hi)
    have hl := Oi
    have h2 := OC
    obtain ⟨a', h1, hev⟩ := NN hr hn d (i + 1) (Rb (pr (s + (r[i].natAbs : Int)))) (s + (r[i].natAbs : Int)) (by omega) (G4 _) (by omega)
    have e1 : isum (r.drop i) = (r[i].natAbs : Int) + isum (r.drop (i + 1)) := by rw [List.drop_eq_getElem_cons hi]; rfl
    have er : rd (rr r) (i : Int) = Rb (pr r[i]) := by unfold rr; rw [Zx (by rw [List.length_map]; exact hi), List.getElem_map]
    have el : (rr r).length = r.length := by unfold rr; rw [List.length_map]
    refine ⟨a', ⟨fun h => by omega, fun _ => ?_⟩, ?_⟩
    · cases d with
      | zero =>
        have hd : r.drop (i + 1) = [] := List.drop_of_length_le (by omega)
        rw [e1, hd, h1.1 rfl, show (r[i].natAbs : Int) + isum [] = (r[i].natAbs : Int) from Int.add_zero _]
      | succ d => rw [h1.2 (by omega), e1, Int.add_assoc]
    · refine Ev.step (fun k => rfl) ?_
      simp only [QY.hs, QY.b0, if_pos (show (i : Int) < (r.length : Int) by omega), el, if_pos (show (0 : Int) ≤ (i : Int) ∧ (i : Int) < (r.length : Int) by omega), er, wsucc (show i < 1000000000 by omega), reta]
      refine Ev.bind (Wv (Y5 hx) (by decide +kernel)) ?_
      simp only [Option.isSome_none, Bool.false_eq_true, if_false]
      refine Ev.bind (Ow ha (Ji (by omega)) (Qap (Y5 hx)) (by decide +kernel)) ?_
      simp only [Option.isSome_none, Bool.false_eq_true, if_false, Qae, Ny]
      exact hev
theorem VI {r : List Int} (hr : I64 r) (hn : 1 ≤ r.length ∧ r.length ≤ 6) : Ev (fun k => QY.f k (rr r)) (Rb (pr (isum r)), none) := by
  obtain ⟨a', h1, h2⟩ := NN hr hn.2 r.length 0 Z0 0 (by omega) (by rw [ML]; exact lk_z) (by omega)
  rw [h1.2 hn.1, ZF.1, ZF.2.1, ZF.2.2.1, ZF.2.2.2, List.drop_zero, Int.zero_add] at h2
  unfold QY.f
  simp only [show (rr r).length = r.length by unfold rr; rw [List.length_map]]
  exact h2
def imax : List (List Int) → Int → Int
  | [], m => m
  | r :: L, m => imax L (if m < isum r then isum r else m)
theorem OL : ∀ {L : List (List Int)} {m : Int}, (∀ r ∈ L, I64 r ∧ r.length ≤ 6) → 0 ≤ m ∧ m ≤ 55340232221128654848 → 0 ≤ imax L m ∧ imax L m ≤ 55340232221128654848
  | [], m, _, h => h
  | r :: L, m, hL, h => by
    have hr := hL r (List.mem_cons_self ..)
    have := MN hr.1
    unfold imax
    refine OL (fun s hs => hL s (List.mem_cons_of_mem _ hs)) ?_
    split <;> omega
theorem OY {rows : List (List Int)} (h : MOk rows) (hI : ∀ r ∈ rows, I64 r) : ∀ (d i : Nat) (a : Qf) (m : Int), rows.length = i + d → Lk a (pr m) → 0 ≤ m ∧ m ≤ 55340232221128654848 →
    ∃ a', Lk a' (pr (imax (rows.drop i) m)) ∧ Ev (fun k => (QZ.hs k).l0 (mm rows) false [] false [] none a.f_n.f_neg a.f_n.f_w a.f_d.f_neg a.f_d.f_w (rows.length : Int) (i : Int)) (a', none)
  | 0, i, a, m, e, ha, hm => by
    refine ⟨a, by rw [List.drop_of_length_le (by omega)]; exact ha, ?_⟩
    refine Ev.step (fun k => rfl) ?_
    simp only [QZ.hs, QZ.b0, if_neg (show ¬ (i : Int) < (rows.length : Int) by omega), reta]
    exact Ev.now
  | d + 1, i, a, m, e, ha, hm => by
    have hi : i < rows.length := by omega
    have hr := hI _ (List.getElem_mem hi)
    have hc := h.2.2 _ (List.getElem_mem hi)
    have hC := h.2.1
    have hs := MN hr
    have hl := Oi
    have hb : 0 ≤ isum rows[i] ∧ isum rows[i] ≤ 55340232221128654848 := by omega
    obtain ⟨b, hb1, hb2⟩ := Un ha (Ji (show 0 ≤ m ∧ m ≤ 73786976294838206464 by omega)) (Ji (show 0 ≤ isum rows[i] ∧ isum rows[i] ≤ 73786976294838206464 by omega)) (by decide +kernel)
    rw [W0] at hb1
    obtain ⟨a', h1, h2⟩ := OY h hI d (i + 1) b _ (by omega) hb1 (by split <;> omega)
    refine ⟨a', ?_, ?_⟩
    · rw [List.drop_eq_getElem_cons hi]; exact h1
    · refine Ev.step (fun k => rfl) ?_
      simp only [QZ.hs, QZ.b0, if_pos (show (i : Int) < (rows.length : Int) by omega), wsucc (show i < 1000000000 by have := h.1; omega), reta]
      refine Ev.bind (U3 h hI hi) ?_
      simp only [Option.isSome_none, Bool.false_eq_true, if_false]
      refine Ev.bind (VI hr (by omega)) ?_
      simp only [Option.isSome_none, Bool.false_eq_true, if_false]
      refine Ev.bind hb2 ?_
      simp only [Option.isSome_none, Bool.false_eq_true, if_false]
      exact h2
theorem OZ {rows : List (List Int)} (h : MOk rows) (hI : ∀ r ∈ rows, I64 r) : ∃ a, Lk a (pr (imax rows 0)) ∧ Ev (fun k => QZ.f k (mm rows)) (a, none) := by
  obtain ⟨a, h1, h2⟩ := OY h hI rows.length 0 Z0 0 (by omega) (by rw [ML]; exact lk_z) (by omega)
  rw [ZF.1, ZF.2.1, ZF.2.2.1, ZF.2.2.2] at h2
  refine ⟨a, h1, ?_⟩
  unfold QZ.f
  refine Ev.bind (J0 h) ?_
  simp only [Option.isSome_none, Bool.false_eq_true, if_false, show (mm rows).f_Rows = (rows.length : Int) from rfl]
  exact h2
theorem Nq : Ev (fun k => QZ.f k M0) (Z0, some 1) := by
  unfold QZ.f
  simp only [M3, Option.bind_some, Option.isSome_some, if_true, MA]; exact Ev.now
theorem WI (x : Int) : (⟨false, (Nb x).f_D⟩ : Qg) = Nb (x.natAbs : Int) := by
  simp only [Nb, Int.natAbs_natCast, decide_eq_false (show ¬ ((x.natAbs : Int) < 0) by omega)]
theorem LnS {m : Int} (h : 0 ≤ m ∧ m ≤ 73786976294838206464) : Ln m ≤ 1300 := YN (by unfold Fit; have := Oi; unfold MS at this; omega)
theorem N6 {rows : List (List Int)} (hI : ∀ r ∈ rows, I64 r) {m : Int} (hm : 0 ≤ m ∧ m ≤ 55340232221128654848) {i : Nat} (hi : i < rows.length) (hR : rows.length ≤ 6) (hC : rows[i].length ≤ 6)
    (IH : ∀ m', 0 ≤ m' ∧ m' ≤ 55340232221128654848 → Ev (fun k => (Qr.hs k).l0 rows (Nb m').f_Neg (Nb m').f_D ((i + 1 : Nat) : Int)) (Fb (pr (imax (rows.drop (i + 1)) m')))) :
    ∀ (d j : Nat) (s : Int), rows[i].length = j + d → 0 ≤ s ∧ s ≤ 9223372036854775808 * (j : Int) →
    Ev (fun k => (Qr.hs k).l1 rows (Nb m).f_Neg (Nb m).f_D (i : Int) (Nb s).f_Neg (Nb s).f_D (j : Int)) (Fb (pr (imax (rows.drop (i + 1)) (if m < s + isum (rows[i].drop j) then s + isum (rows[i].drop j) else m))))
  | 0, j, s, e, hs => by
    have l1 := LnS (m := s) (by omega); have l2 := LnS (m := m) (by omega)
    rw [List.drop_of_length_le (show rows[i].length ≤ j by omega), show s + isum [] = s from Int.add_zero s]
    refine Ev.step (fun k => rfl) ?_
    simp only [Qr.hs, Qr.b1, if_pos (show (0 : Int) ≤ (i : Int) ∧ (i : Int) < (rows.length : Int) by omega), Zx hi, if_neg (show ¬ (j : Int) < (rows[i].length : Int) by omega), ZJ, wsucc (show i < 1000000000 by omega)]
    refine Ev.bind (Qam (by omega) (by omega)) ?_
    by_cases c : m < s
    · rw [if_pos c]
      simp only [if_neg (show ¬ s = m by omega), if_neg (show ¬ s < m by omega), if_pos (show (0 : Int) < 1 by decide)]
      exact IH s (by omega)
    · rw [if_neg c]
      have c' : ¬ (0 : Int) < (if s = m then 0 else if s < m then -1 else 1) := by
        by_cases g : s = m
        · rw [if_pos g]; decide
        · rw [if_neg g, if_pos (show s < m by omega)]; decide
      simp only [if_neg c']
      exact IH m hm
  | d + 1, j, s, e, hs => by
    have hj : j < rows[i].length := by omega
    have hx := hI _ (List.getElem_mem hi) _ (List.getElem_mem hj)
    have ih := N6 hI hm hi hR hC IH d (j + 1) (s + (rows[i][j].natAbs : Int)) (by omega) (by omega)
    have l1 := LnS (m := s) (by omega); have l2 := LnS (m := (rows[i][j].natAbs : Int)) (by omega)
    rw [show s + isum (rows[i].drop j) = s + (rows[i][j].natAbs : Int) + isum (rows[i].drop (j + 1)) by rw [List.drop_eq_getElem_cons hj]; show s + ((rows[i][j].natAbs : Int) + _) = _; omega]
    refine Ev.step (fun k => rfl) ?_
    simp only [Qr.hs, Qr.b1, if_pos (show (0 : Int) ≤ (i : Int) ∧ (i : Int) < (rows.length : Int) by omega), Zx hi, if_pos (show (j : Int) < (rows[i].length : Int) by omega), if_pos (show (0 : Int) ≤ (j : Int) ∧ (j : Int) < (rows[i].length : Int) by omega), Zx hj, ZJ, wsucc (show j < 1000000000 by omega)]
    refine Ev.bind (JA hx) ?_
    simp only [WI]
    refine Ev.bind (Gi (by omega) (by omega)) ?_
    exact ih
theorem NV {rows : List (List Int)} (h : MOk rows) (hI : ∀ r ∈ rows, I64 r) : ∀ (d i : Nat) (m : Int), rows.length = i + d → 0 ≤ m ∧ m ≤ 55340232221128654848 → Ev (fun k => (Qr.hs k).l0 rows (Nb m).f_Neg (Nb m).f_D (i : Int)) (Fb (pr (imax (rows.drop i) m)))
  | 0, i, m, e, hm => by
    have t := Mm (n := 20) (by decide)
    have f2 : Fit ((2 : Int) ^ 20) := by unfold Fit; decide +kernel
    have l1 := LnS (m := m) (by omega); have l2 := YN f2
    rw [List.drop_of_length_le (by omega)]
    refine Ev.step (fun k => rfl) ?_
    simp only [Qr.hs, Qr.b0, if_neg (show ¬ (i : Int) < (rows.length : Int) by omega), ZJ]
    refine Ev.bind (t : Ev (fun k => Qq.f k 20) _) ?_
    refine Ev.bind (JN (by decide) (by omega) (by omega)) ?_
    rw [show ((2 : Int) ^ 20) = ((1048576 : Nat) : Int) by decide, Rat.divInt_ofNat]
    exact Ev.now
  | d + 1, i, m, e, hm => by
    have hi : i < rows.length := by omega
    have hc := h.2.2 _ (List.getElem_mem hi)
    have hl := N6 hI hm hi h.1.2 (by have := h.2.1; omega) (fun m' hm' => NV h hI d (i + 1) m' (by omega) hm') rows[i].length 0 0 (by omega) (by omega)
    rw [List.drop_zero, Int.zero_add] at hl
    rw [List.drop_eq_getElem_cons hi]
    refine Ev.step (fun k => rfl) ?_
    simp only [Qr.hs, Qr.b0, if_pos (show (i : Int) < (rows.length : Int) by omega)]
    rw [← nb0] at hl
    exact hl
theorem N9 {rows : List (List Int)} (h : MOk rows) (hI : ∀ r ∈ rows, I64 r) : Ev (fun k => Qr.f k rows) (Fb (pr (imax rows 0))) := by
  have hl := NV h hI rows.length 0 0 (by omega) (by omega)
  rw [← nb0] at hl
  exact hl
end Go.Proofs.YtkccpkccdbfomaaGreatDoor.Pure

/- Sums of products, rounded: qnum.Dot with twenty bits, mat.Apply. -/
import Derived.Test.YtkccpkccdbfomaaGreatDoorPureQN1
namespace Go.Proofs.YtkccpkccdbfomaaGreatDoor.Pure
open Go.RowKit Go.Proofs.YtkccpkccdbfomaaGreatDoorK Go.Proofs.YtkccpkccdbfomaaGreatDoor.GBH
set_option linter.unusedVariables false
set_option linter.unusedSimpArgs false
set_option maxRecDepth 100000
/-- z is x by 2^20, as near as may be. -/
def Near (z x : Int) : Prop := -1048576 ≤ 2 * (z * 1048576 - x) ∧ 2 * (z * 1048576 - x) ≤ 1048576
def XB (x : Int) : Prop := -500000000000000000000000000000000000000000000000000000000 ≤ x ∧ x ≤ 500000000000000000000000000000000000000000000000000000000
theorem Oc {s0 s1 s2 x : Int} (a0 : 0 ≤ s0 ∧ s0 < 18446744073709551616) (a1 : 0 ≤ s1 ∧ s1 < 18446744073709551616) (a2 : 0 ≤ s2 ∧ s2 < 18446744073709551616) (ae : s0 + 18446744073709551616 * s1 + 340282366920938463463374607431768211456 * s2 = x % 6277101735386680763835789423207666416102355444464034512896) (hx : XB x) :
    Sv ⟨s0 / 1048576 + s1 % 1048576 * 17592186044416, s1 / 1048576 + s2 % 1048576 * 17592186044416, s2 / 1048576 + (if x < 0 then 1048575 else 0) * 17592186044416⟩ (x / 1048576) ∧ s0 % 1048576 = x % 1048576 := by
  unfold XB at hx
  refine ⟨⟨by simp only; omega, by simp only; omega, ?_, ?_⟩, by omega⟩
  · simp only
    split <;> omega
  · simp only
    split <;> omega
theorem OB (k : Nat) {s0 s1 s2 t lost q x : Int} (hs : Sv ⟨s0, s1, ior .u64 (s2 / 1048576) t⟩ q) (hl : lost = x % 1048576) (hq : q = x / 1048576) : ∃ r z, Xb.j1 k (Xb.hs k) 20 s0 s1 s2 lost t = some r ∧ Sv r z ∧ Near z x ∧ (z = q ∨ z = q + 1) := by
  unfold Xb.j1
  have e1 : (2 : Int) ^ shn .u64 20 = 1048576 := by decide
  have e2 : w64 (20 - 1) = 19 := by decide
  have e3 : (1 * 2 ^ shn .u64 19 : Int) % 18446744073709551616 = 524288 := by decide
  simp only [e1, e2, e3, if_pos (show (0 : Int) ≤ 20 by decide), if_pos (show (0 : Int) ≤ 19 by decide)]
  by_cases c : ((decide ((524288 : Int) < lost)) || ((decide (lost = 524288)) && (decide ((iand .u64 s0 1) = 1)))) = true
  · rw [if_pos c]
    have c' : 524288 ≤ lost := by
      simp only [Bool.or_eq_true, Bool.and_eq_true, decide_eq_true_eq] at c
      omega
    obtain ⟨r, h1, h2⟩ := Gb k hs (show Sv ⟨1, 0, 0⟩ 1 from ⟨⟨by decide, by decide⟩, ⟨by decide, by decide⟩, ⟨by decide, by decide⟩, by decide⟩)
    rw [h1]
    exact ⟨r, q + 1, rfl, h2, by unfold Near; omega, .inr rfl⟩
  · rw [if_neg c]
    have c' : lost ≤ 524288 := by
      simp only [Bool.or_eq_true, Bool.and_eq_true, decide_eq_true_eq] at c
      omega
    exact ⟨_, q, rfl, hs, by unfold Near; omega, .inl rfl⟩
theorem W2 (k : Nat) {s : XX} {x : Int} (hs : Sv s x) (hx : XB x) : ∃ r z, Xb.f k s 20 = some r ∧ Sv r z ∧ Near z x ∧ (z = x / 1048576 ∨ z = x / 1048576 + 1) := by
  obtain ⟨s0, s1, s2⟩ := s
  obtain ⟨a0, a1, a2, ae⟩ := hs
  simp only at a0 a1 a2 ae
  obtain ⟨sv, hl⟩ := Oc a0 a1 a2 ae hx
  have e1 : (2 : Int) ^ shn .u64 20 = 1048576 := by decide
  have e2 : w64 (64 - 20) = 44 := by decide
  have e3 : (2 : Int) ^ shn .u64 44 = 17592186044416 := by decide
  have e4 : ((1 * 1048576 : Int) % 18446744073709551616 - 1) % 18446744073709551616 = 1048575 := by decide
  have e5 : (18446744073709551615 * 17592186044416 : Int) % 18446744073709551616 = 1048575 * 17592186044416 := by decide
  have m1 : s1 * 17592186044416 % 18446744073709551616 = s1 % 1048576 * 17592186044416 := by omega
  have m2 : s2 * 17592186044416 % 18446744073709551616 = s2 % 1048576 * 17592186044416 := by omega
  have o1 := qor44 (b := s0 / 1048576) (a := s1 % 1048576) (by omega) (by omega)
  have o2 := qor44 (b := s1 / 1048576) (a := s2 % 1048576) (by omega) (by omega)
  have hb : Yn.f k ⟨ior .u64 (s0 / 1048576) (s1 % 1048576 * 17592186044416), ior .u64 (s1 / 1048576) (s2 % 1048576 * 17592186044416), s2⟩ = some (decide (x < 0)) := by
    unfold Yn.f
    refine congrArg some ?_
    rw [decide_eq_decide]
    unfold XB at hx
    simp only
    omega
  unfold Xb.f
  simp only [if_neg (show ¬ (20 : Int) = 0 by decide), if_pos (show (0 : Int) ≤ 20 by decide), e1, e2, e3, if_pos (show (0 : Int) ≤ 44 by decide), m1, m2, e4, e5, qmask20 a0.1 a0.2, hb, Option.bind_some, decide_eq_true_eq]
  by_cases c : x < 0
  · rw [if_pos c]
    rw [if_pos c] at sv
    have o3 := qor44 (b := s2 / 1048576) (a := 1048575) (by omega) (by omega)
    refine OB k ?_ hl rfl
    rw [o1, o2, o3]; exact sv
  · rw [if_neg c]
    rw [if_neg c] at sv
    have o3 := qor44 (b := s2 / 1048576) (a := 0) (by omega) (by omega)
    refine OB k ?_ hl rfl
    rw [Int.zero_mul] at o3
    rw [o1, o2, o3]; exact sv
theorem Uc (k : Nat) {s : XX} {x : Int} (hs : Sv s x) (hx : XB x) : ∃ z over, Yy.f k s = some (z, over) ∧ (-4611686018427387903 ≤ z ∧ z ≤ 4611686018427387903) ∧ (over = false → z = x) := by
  have hx' := hx
  unfold XB at hx'
  obtain ⟨u, hu, su⟩ := Uv k (a := 4611686018427387903) (by decide)
  obtain ⟨v, hv, sv⟩ := Uv k (a := -4611686018427387904) (by decide)
  obtain ⟨r, hr, sr⟩ := Gb k hs su
  obtain ⟨t, ht, st⟩ := Gb k hs sv
  unfold Yy.f
  simp only [hu, hv, hr, ht, Option.bind_some, NA k sr (by omega), NA k st (by omega), decide_eq_true_eq]
  by_cases c : x + 4611686018427387903 < 0
  · rw [if_pos c]; exact ⟨_, _, rfl, by decide, fun h => by cases h⟩
  · rw [if_neg c]
    by_cases c2 : x + -4611686018427387904 < 0
    · simp only [decide_eq_true c2, Bool.not_true, Bool.false_eq_true, if_false]
      have hw : w64 s.e0 = x := by
        obtain ⟨s0, s1, s2⟩ := s
        obtain ⟨a0, a1, a2, ae⟩ := hs
        simp only at a0 a1 a2 ae
        simp only [w64, IntKind.wrap, IntKind.bits, IntKind.signed]
        simp
        omega
      rw [hw]
      exact ⟨_, _, rfl, by omega, fun _ => rfl⟩
    · simp only [decide_eq_false c2, Bool.not_false, if_true]; exact ⟨_, _, rfl, by decide, fun h => by cases h⟩
/-! ### sums of products -/
def dotZ : List Int → List Int → Int → Int
  | x :: r, y :: v, m => dotZ r v (m + x * y)
  | _, _, m => m
theorem WT {x y : Int} (hx : -9223372036854775808 ≤ x ∧ x ≤ 9223372036854775807) (hy : -9223372036854775808 ≤ y ∧ y ≤ 9223372036854775807) : -85070591730234615865843651857942052864 ≤ x * y ∧ x * y ≤ 85070591730234615865843651857942052864 := by
  have h : (x * y).natAbs ≤ 9223372036854775808 * 9223372036854775808 := by
    rw [Int.natAbs_mul]; exact Nat.mul_le_mul (by omega) (by omega)
  omega
def DB (n : Nat) (m : Int) : Prop := -85070591730234615865843651857942052864 * (n : Int) ≤ m ∧ m ≤ 85070591730234615865843651857942052864 * (n : Int)
theorem DB.xb {n : Nat} {m : Int} (h : DB n m) (hn : n ≤ 6) : XB m := by unfold DB at h; unfold XB; omega
theorem DB.step {n : Nat} {m x y : Int} (h : DB n m) (hx : -9223372036854775808 ≤ x ∧ x ≤ 9223372036854775807) (hy : -9223372036854775808 ≤ y ∧ y ≤ 9223372036854775807) : DB (n + 1) (m + x * y) := by
  have := WT hx hy
  generalize x * y = p at *
  unfold DB at *; omega
theorem OD {r v : List Int} (hr : I64 r) (hv : I64 v) (hn : r.length ≤ 6) (hl : v.length = r.length) : ∀ (d i : Nat) (s : XX) (m : Int), r.length = i + d → Sv s m → DB i m →
    ∃ z over, Ev (fun k => (XN.hs k).l0 v 20 s.e0 s.e1 s.e2 r (r.length : Int) (i : Int)) (z, over, none) ∧ (-4611686018427387903 ≤ z ∧ z ≤ 4611686018427387903) ∧ (over = false → Near z (dotZ (r.drop i) (v.drop i) m))
  | 0, i, s, m, e, hs, hm => by
    obtain ⟨t, q, h1, h2, h3, h4⟩ := W2 0 hs (hm.xb (by omega))
    have hx := hm.xb (n := i) (by omega)
    have hq : XB q := by unfold XB at hx ⊢; omega
    rw [List.drop_of_length_le (by omega)]
    obtain ⟨z, over, g1, g2, g3⟩ := Uc 0 h2 hq
    refine ⟨z, over, ?_, g2, fun ho => by rw [g3 ho]; exact h3⟩
    refine Ev.step (fun k => rfl) ?_
    have H : ∀ k, Xb.f k s 20 = some t := fun k => h1
    have B : ∀ k, Yy.f k t = some (z, over) := fun k => g1
    simp only [XN.hs, XN.b0, if_neg (show ¬ (i : Int) < (r.length : Int) by omega)]
    simp only [show ∀ k, Xb.f k (⟨s.e0, s.e1, s.e2⟩ : XX) 20 = some t from H, B, Option.bind_some]
    exact Ev.now
  | d + 1, i, s, m, e, hs, hm => by
    have hi : i < r.length := by omega
    have hi2 : i < v.length := by omega
    have hx := hr _ (List.getElem_mem hi)
    have hy := hv _ (List.getElem_mem hi2)
    obtain ⟨p, h1, h2⟩ := VD 0 hx hy
    obtain ⟨t, g1, g2⟩ := Gb 0 hs h2
    obtain ⟨z, over, f1, f2, f3⟩ := OD hr hv hn hl d (i + 1) t _ (by omega) g2 (hm.step hx hy)
    refine ⟨z, over, ?_, f2, ?_⟩
    · refine Ev.step (fun k => rfl) ?_
      have P : ∀ k, YN.f k r[i] v[i] = some p := fun k => h1
      have S : ∀ k, XO.f k (⟨s.e0, s.e1, s.e2⟩ : XX) p = some t := fun k => g1
      simp only [XN.hs, XN.b0, if_pos (show (i : Int) < (r.length : Int) by omega), if_pos (show (0 : Int) ≤ (i : Int) ∧ (i : Int) < (r.length : Int) by omega), if_pos (show (0 : Int) ≤ (i : Int) ∧ (i : Int) < (v.length : Int) by omega), Jj hi, Jj hi2, P, S, Option.bind_some, wsucc (show i < 1000000000 by omega)]
      exact f1
    · rw [List.drop_eq_getElem_cons hi, List.drop_eq_getElem_cons hi2]; exact f3
theorem WO {r v : List Int} (hr : I64 r) (hv : I64 v) (hn : r.length ≤ 6) (hl : v.length = r.length) : ∃ z over, Ev (fun k => ZK.f k r v) (z, over) ∧ (-4611686018427387903 ≤ z ∧ z ≤ 4611686018427387903) ∧ (over = false → Near z (dotZ r v 0)) := by
  obtain ⟨z, over, h1, h2, h3⟩ := OD hr hv hn hl r.length 0 ⟨0, 0, 0⟩ 0 (by omega) ⟨⟨by decide, by decide⟩, ⟨by decide, by decide⟩, ⟨by decide, by decide⟩, by decide⟩ (by unfold DB; omega)
  refine ⟨z, over, ?_, h2, h3⟩
  unfold ZK.f
  refine Ev.bind (r := (z, over, none)) ?_ ?_
  · unfold XN.f YS.f
    simp only [Option.bind_some, decide_eq_true (show (0 : Int) ≤ 20 by decide), decide_eq_true (show (20 : Int) ≤ 62 by decide), decide_eq_true (show (r.length : Int) = (v.length : Int) by omega), decide_eq_false (show ¬ 64 < (r.length : Int) by omega), Bool.and_self, Bool.not_true, Bool.or_self, Bool.false_eq_true, if_false]
    exact h1
  · simp only [Option.isNone_none, Bool.and_true]; exact Ev.now
theorem N6 {rows : List (List Int)} (h : MOk rows) (hI : ∀ r ∈ rows, I64 r) {v : List Int} (hv : I64 v) (hl : v.length = Cn rows) : ∀ (d i : Nat) (out : List Int) (any : Bool), rows.length = i + d → out.length = i → (∀ z ∈ out, -4611686018427387903 ≤ z ∧ z ≤ 4611686018427387903) →
    (any = false → ∀ q (h1 : q < out.length) (h2 : q < rows.length), Near out[q] (dotZ rows[q] v 0)) →
    ∃ xs over, Ev (fun k => (Xm.hs k).l0 v (mm rows) out any (rows.length : Int) (i : Int)) (xs, over, none) ∧ xs.length = rows.length ∧ (∀ z ∈ xs, -4611686018427387903 ≤ z ∧ z ≤ 4611686018427387903) ∧ (over = false → ∀ q (h1 : q < xs.length) (h2 : q < rows.length), Near xs[q] (dotZ rows[q] v 0))
  | 0, i, out, any, e, ho, hz, hn => by
    refine ⟨out, any, ?_, by omega, hz, hn⟩
    refine Ev.step (fun k => rfl) ?_
    simp only [Xm.hs, Xm.b0, if_neg (show ¬ (i : Int) < (rows.length : Int) by omega)]; exact Ev.now
  | d + 1, i, out, any, e, ho, hz, hn => by
    have hi : i < rows.length := by omega
    have hr := hI _ (List.getElem_mem hi)
    have hc := h.2.2 _ (List.getElem_mem hi)
    have hC := h.2.1
    have hR := h.1
    have hb := Z1 (R := i + 1) (by omega) hC.2
    have hf := ZP rows h.2.2
    have hb2 := Z1 hR.2 hC.2
    have hcond : (0 : Int) ≤ ((i * Cn rows : Nat) : Int) ∧ ((i * Cn rows : Nat) : Int) ≤ (((i + 1) * Cn rows : Nat) : Int) ∧ (((i + 1) * Cn rows : Nat) : Int) ≤ 36 := ⟨Int.natCast_nonneg _, Int.ofNat_le.2 (Nat.mul_le_mul_right _ (Nat.le_succ i)), Int.ofNat_le.2 hb⟩
    obtain ⟨z, o, h1, h2, h3⟩ := WO hr hv (by omega) (by omega)
    obtain ⟨xs, over, g1, g2, g3, g4⟩ := N6 h hI hv hl d (i + 1) (out ++ [z]) (any || o) (by omega) (by rw [List.length_append]; simp only [List.length_cons, List.length_nil]; omega) (fun y hy => by
      rcases List.mem_append.1 hy with hy | hy
      · exact hz y hy
      · rw [List.mem_singleton.1 hy]; exact h2) (fun ha q q1 q2 => by
      have ha' := Bool.or_eq_false_iff.1 ha
      by_cases c : q < out.length
      · rw [List.getElem_append_left c]; exact hn ha'.1 q c q2
      · have hq : q = i := by rw [List.length_append] at q1; simp only [List.length_cons, List.length_nil] at q1; omega
        subst hq
        rw [List.getElem_append_right (by omega)]
        simp only [ho, Nat.sub_self, List.getElem_cons_zero]
        exact h3 ha'.2)
    refine ⟨xs, over, ?_, g2, g3, g4⟩
    refine Ev.step (fun k => rfl) ?_
    simp only [Xm.hs, Xm.b0, if_pos (show (i : Int) < (rows.length : Int) by omega), show (mm rows).f_Cols = (Cn rows : Int) from rfl, show (mm rows).f_A = T73.ofL (fl rows) from rfl, wsucc (show i < 1000000000 by omega), wmul (show i ≤ 7 by omega) hC.2, wmul (show i + 1 ≤ 7 by omega) hC.2, if_pos hcond, T73.toL_ofL (MF (show rows.flatten.length ≤ 36 by omega)), U8 hi h.2.2]
    refine Ev.bind h1 ?_
    simp only [if_pos (show out.length + 1 ≤ 17592186044288 by omega)]
    exact g1
theorem Vy {rows : List (List Int)} (h : MOk rows) (hI : ∀ r ∈ rows, I64 r) {v : List Int} (hv : I64 v) (hl : v.length = Cn rows) :
    ∃ xs over, Ev (fun k => Xm.f k (mm rows) v) (xs, over, none) ∧ xs.length = rows.length ∧ (∀ z ∈ xs, -4611686018427387903 ≤ z ∧ z ≤ 4611686018427387903) ∧ (over = false → ∀ q (h1 : q < xs.length) (h2 : q < rows.length), Near xs[q] (dotZ rows[q] v 0)) := by
  have hR := h.1
  obtain ⟨xs, over, h1, h2⟩ := N6 h hI hv hl rows.length 0 [] false (by omega) rfl (fun z hz => (List.not_mem_nil hz).elim) (fun _ q q1 => by simp at q1)
  refine ⟨xs, over, ?_, h2⟩
  unfold Xm.f
  refine Ev.bind (Z8 h) ?_
  simp only [Option.isSome_none, show (mm rows).f_Cols = (Cn rows : Int) from rfl, show (mm rows).f_Rows = (rows.length : Int) from rfl, decide_eq_true (show (v.length : Int) = (Cn rows : Int) by omega), Bool.not_true, Bool.or_self, Bool.false_eq_true, if_false, if_pos (show (0 : Nat) ≤ 0 ∧ (0 : Int) ≤ (rows.length : Int) ∧ (rows.length : Int) ≤ 35184372088832 by omega)]
  exact h1
theorem U5 {rows : List (List Int)} (h : MOk rows) {v : List Int} (hl : v.length ≠ Cn rows) : Ev (fun k => Xm.f k (mm rows) v) ([], false, some 1) := by
  unfold Xm.f
  refine Ev.bind (Z8 h) ?_
  simp only [Option.isSome_none, show (mm rows).f_Cols = (Cn rows : Int) from rfl, decide_eq_false (show ¬ (v.length : Int) = (Cn rows : Int) by omega), Bool.not_false, Bool.or_true, if_true]
  exact Ev.now
theorem UN (v : List Int) : Ev (fun k => Xm.f k M0 v) ([], false, some 1) := by
  unfold Xm.f
  simp only [M2, Option.bind_some, Option.isSome_some, Bool.true_or, if_true]; exact Ev.now
end Go.Proofs.YtkccpkccdbfomaaGreatDoor.Pure

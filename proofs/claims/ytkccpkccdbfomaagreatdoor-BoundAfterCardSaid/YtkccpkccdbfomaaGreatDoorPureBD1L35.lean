/- How far errors grow: small functions of bound and of its reference, on core's Rat. -/
import Derived.Test.YtkccpkccdbfomaaGreatDoorPureR3L35
namespace Go.Proofs.YtkccpkccdbfomaaGreatDoor.Pure
open Go.RowKit Go.Proofs.YtkccpkccdbfomaaGreatDoorK Go.Proofs.YtkccpkccdbfomaaGreatDoor.GBA
set_option linter.unusedVariables false
set_option linter.unusedSimpArgs false
set_option maxRecDepth 100000
def Z0 : Qg := ⟨Wb 0, Wb 0⟩
theorem JT : (⟨(⟨false, []⟩ : Qs), (⟨false, []⟩ : Qs)⟩ : Qg) = Z0 := by (try simp only [wb0]); rfl
/-- a value of the program that stands for a fraction -/
def Lk (a : Qg) (r : Rat) : Prop := a = Rb r ∨ (a = Z0 ∧ r = 0)
theorem JY (r : Rat) : Lk (Rb r) r := .inl rfl
theorem lk_z : Lk Z0 0 := .inr ⟨rfl, rfl⟩
theorem Jc : Rs 1 (0 : Rat) := ⟨by decide, by decide⟩
theorem reta (a : Qg) : (⟨(⟨a.f_n.f_neg, a.f_n.f_w⟩ : Qs), (⟨a.f_d.f_neg, a.f_d.f_w⟩ : Qs)⟩ : Qg) = a := rfl
theorem feta (a : Qi) : (⟨(⟨a.f_N.f_Neg, a.f_N.f_D⟩ : Qf), (⟨a.f_D.f_Neg, a.f_D.f_D⟩ : Qf)⟩ : Qi) = a := rfl
theorem Ev.same {α : Type} {f g : Nat → Option α} {r : α} {u : Nat → Option Qs} {v : Qs} (hu : Ev u v) (h : ∀ k, u k = some v → f k = g k) (hg : Ev g r) : Ev f r := by
  obtain ⟨K, hK⟩ := hu
  obtain ⟨K2, hK2⟩ := hg
  exact ⟨max K K2, fun k hk => by rw [h k (hK k (by omega))]; exact hK2 k (by omega)⟩
theorem uR0 (k : Nat) : Qy.f k (Rb 0) = some (Wb 1) := Ja k 0
theorem Zn : Z0.f_n = Wb 0 := rfl
theorem R0n : (Rb 0).f_n = Wb 0 := rfl
theorem VL {a : Qg} {r s : Rat} {B C : Nat} (ha : Lk a r) (hr : Rs B r) (hs : Rs C s) (h : B * C < LIM) : Ev (fun k => X6.f k a (Rb s)) (Rb (r * s), none) := by
  have hm := Wj hr hs h
  rcases ha with rfl | ⟨rfl, rfl⟩
  · exact hm
  · refine Ev.same ZZ (fun k hk => ?_) hm
    have hk : Qy.f k Z0 = some (Wb 1) := hk
    simp only [X6.f, hk, uR0, Option.bind_some, Zn, R0n]
theorem NU {k : Nat} (hk : Qy.f k Z0 = some (Wb 1)) (b : Qg) (l : Bool) : QO.f k Z0 b l = QO.f k (Rb 0) b l := by
  simp only [QO.f, XN.f, QO.j1, reta, hk, uR0, Option.bind_some]
  simp only [Zn, R0n]
theorem Wf {a : Qg} {r s : Rat} {B C : Nat} (ha : Lk a r) (hr : Rs B r) (hs : Rs C s) (h : 2 * (B * C) < LIM) : Ev (fun k => XJ.f k a (Rb s)) (Rb (r - s), none) := by
  have hm := Oh hr hs h
  rcases ha with rfl | ⟨rfl, rfl⟩
  · exact hm
  · exact Ev.same ZZ (fun k hk => by simp only [XJ.f, NU hk]) hm
theorem N0 {a : Qg} {r s : Rat} {B C : Nat} (ha : Lk a r) (hr : Rs B r) (hs : Rs C s) (h : B * C < LIM) : Ev (fun k => Yc.f k a (Rb s)) (rcmp r s, none) := by
  have hm := VQ hr hs h
  rcases ha with rfl | ⟨rfl, rfl⟩
  · exact hm
  · refine Ev.same ZZ (fun k hk => ?_) hm
    have hk : Qy.f k Z0 = some (Wb 1) := hk
    simp only [Yc.f, XN.f, hk, uR0, Option.bind_some, Zn, R0n]
theorem MN : rtxt 0 = strOf [48, 47, 49] := by
  show (txt 0 ++ strOf [47]) ++ txt 1 = _
  rw [NJ, Ob, ← ZL, ← ZL]; rfl
theorem JQ {a : Qg} {r : Rat} {B : Nat} (ha : Lk a r) (h : Rs B r) (hB : B < LIM) : Ev (fun k => Xu.f k a) (rtxt r) := by
  rcases ha with rfl | ⟨rfl, rfl⟩
  · exact OL h hB
  · rw [MN]; exact UU
theorem O0 {a : Qg} {r : Rat} (ha : Lk a r) : Ev (fun k => XW.f k a) (Wb r.num, Wb (r.den : Int)) := by
  rcases ha with rfl | ⟨rfl, rfl⟩
  · exact ⟨0, fun k _ => Vb k r⟩
  · unfold XW.f
    exact Ev.bind ZZ Ev.now
theorem Mt (r : Rat) : r.num < 0 ↔ r < 0 := by
  rw [← Rat.not_le, ← Rat.num_nonneg]; omega
theorem Js {a : Qg} {r : Rat} (ha : Lk a r) : Ev (fun k => Yg.f k a) (decide (r < 0)) := by
  unfold Yg.f
  refine Ev.bind (O0 ha) ?_
  simp only [ZU, Option.bind_some]
  have e : decide ((if r.num = 0 then (0 : Int) else if r.num < 0 then -1 else 1) < 0) = decide (r < 0) := by
    rw [decide_eq_decide, ← Mt]
    split
    · omega
    · split <;> omega
  rw [e]; exact Ev.now
/-- without its sign -/
def rab (r : Rat) : Rat := if r < 0 then 0 - r else r
theorem Gu (r : Rat) : (rab r).num = (r.num.natAbs : Int) ∧ (rab r).den = r.den := by
  unfold rab
  by_cases h : r < 0
  · have := (Mt r).2 h
    rw [if_pos h, show (0 : Rat) - r = -r by grind]
    exact ⟨by show -r.num = _; omega, rfl⟩
  · have : ¬ r.num < 0 := fun e => h ((Mt r).1 e)
    rw [if_neg h]; exact ⟨by omega, rfl⟩
theorem Gh {B : Nat} {r : Rat} (h : Rs B r) : Rs B (rab r) := ⟨by rw [(Gu r).1, Int.natAbs_natCast]; exact h.num, by rw [(Gu r).2]; exact h.den⟩
theorem VW {r : Rat} {B : Nat} (hr : Rs B r) (h : 2 * B < LIM) : Ev (fun k => YC.f k (Rb r)) (Rb (rab r), none) := by
  unfold YC.f rab
  refine Ev.bind (Js (JY r)) ?_
  by_cases g : r < 0
  · simp only [decide_eq_true g, Bool.not_true, Bool.false_eq_true, if_false, JT, if_pos g]
    exact Ev.bind (Wf lk_z Jc hr (by omega)) Ev.now
  · simp only [decide_eq_false g, Bool.not_false, if_true, if_neg g]; exact Ev.now
def rmax (r s : Rat) : Rat := if r < s then s else r
theorem Mz {B : Nat} {r s : Rat} (hr : Rs B r) (hs : Rs B s) : Rs B (rmax r s) := by unfold rmax; split <;> assumption
theorem OC {a : Qg} {r s : Rat} {B C : Nat} (ha : Lk a r) (hr : Rs B r) (hs : Rs C s) (h : B * C < LIM) : ∃ a', Lk a' (rmax r s) ∧ Ev (fun k => Ye.f k a (Rb s)) (a', none) := by
  by_cases g : r < s
  · refine ⟨Rb s, by unfold rmax; rw [if_pos g]; exact JY s, ?_⟩
    unfold Ye.f
    refine Ev.bind (N0 ha hr hs h) ?_
    have := Ou.2 g
    simp only [Option.isSome_none, Bool.false_or, decide_eq_false (show ¬ 0 ≤ rcmp r s by omega), Bool.false_eq_true, if_false]; exact Ev.now
  · refine ⟨a, by unfold rmax; rw [if_neg g]; exact ha, ?_⟩
    unfold Ye.f
    refine Ev.bind (N0 ha hr hs h) ?_
    have : ¬ rcmp r s < 0 := fun e => g (Ou.1 e)
    simp only [Option.isSome_none, Bool.false_or, decide_eq_true (show 0 ≤ rcmp r s by omega), if_true]; exact Ev.now
theorem U1 {a : Qg} {r t m : Rat} {B C D : Nat} (ha : Lk a r) (hr : Rs B r) (ht : Rs C t) (hm : Rs D m) (h : 2 * (B * C * D) < LIM) : Ev (fun k => YE.f k a (Rb t) (Rb m)) (Rb (r * t + m), none) := by
  have := Nat.mul_le_mul (Nat.mul_le_mul hr.pos ht.pos) hm.pos
  have h2 : B * C ≤ B * C * D := Nat.le_mul_of_pos_right _ hm.pos
  unfold YE.f
  refine Ev.bind (VL ha hr ht (by omega)) ?_
  simp only [Option.isSome_none, Bool.false_eq_true, if_false]
  exact Ev.bind (Wq (Na hr ht) hm h) Ev.now
/-! ### the reference -/
def pr (n : Int) : Rat := mkRat n 1048576
def M63 : Nat := 9223372036854775808
theorem VX : M63 ^ 20 < LIM := by decide +kernel
theorem Je {n : Int} (h : -9223372036854775808 ≤ n ∧ n ≤ 9223372036854775807) : Rs M63 (pr n) := JP (by unfold M63; omega) (by decide) (by decide)
theorem JG {n : Int} (h : -9223372036854775808 ≤ n ∧ n ≤ 9223372036854775807) : Ev (fun k => XB.f k n) (Fb (pr n)) := by
  have hl := VX
  unfold XB.f
  refine Ev.bind (Gr h) ?_
  have t := O8 (n := 20) (by decide)
  refine Ev.bind (t : Ev (fun k => Qr.f k 20) _) ?_
  have fn : Fit n := by unfold Fit; unfold M63 at hl; omega
  have f2 : Fit ((2 : Int) ^ 20) := by unfold Fit; decide +kernel
  have l1 := Yw fn; have l2 := Yw f2
  refine Ev.bind (Mf (by decide) (by omega) (by omega)) ?_
  rw [show ((2 : Int) ^ 20) = ((1048576 : Nat) : Int) by decide, Rat.divInt_ofNat]
  exact Ev.now
theorem N4 : Ev (fun k => Ym.f k) (Fb 0) := by
  unfold Ym.f
  refine Ev.bind (Gr (x := 1) (by decide)) ?_
  have f1 : Fit 1 := by unfold Fit; decide +kernel
  have l0 := Yw NL; have l1 := Yw f1
  (try simp only [nb0])
  refine Ev.bind (Mf (n := 0) (d := 1) (by decide) (by omega) (by omega)) ?_
  rw [show Rat.divInt 0 1 = 0 by decide]
  exact Ev.now
theorem Vg {r s : Rat} {B C : Nat} (hr : Rs B r) (hs : Rs C s) (h : B * C < LIM) : Ev (fun k => Xp.f k (Fb r) (Fb s) false) (Fb (r * s), 0) := by
  obtain ⟨-, -, c3, c4⟩ := YW hr hs
  obtain ⟨p1, p2⟩ := ZX hr.pos hs.pos
  have b1 := hr.num; have b2 := hr.den; have b3 := hs.num; have b4 := hs.den
  have J := Ug (a := r.num) (b := (r.den : Int)) (n := s.num) (d := (s.den : Int)) (B := B * C) (by omega) (by rw [Int.natAbs_natCast]; omega) (by omega) (by rw [Int.natAbs_natCast]; omega) (by unfold Fit; omega) (by unfold Fit; rw [← Int.natCast_mul, Int.natAbs_natCast]; omega) h (by have := s.den_nz; omega) (by have := r.den_nz; omega)
  rw [← Int.natCast_mul, Rat.divInt_ofNat, ← Rat.mul_def'] at J
  unfold Xp.f
  simp only [Bool.false_eq_true, if_false]
  exact J
theorem UK {r s : Rat} {B C : Nat} (hr : Rs B r) (hs : Rs C s) (h : 2 * (B * C) < LIM) : Ev (fun k => Yz.f k (Fb r) (Fb s)) (Fb (r + s)) := by
  unfold Yz.f
  exact Ev.bind (V9 hr hs h) Ev.now
theorem OI {r s : Rat} {B C : Nat} (hr : Rs B r) (hs : Rs C s) (h : B * C < LIM) : Ev (fun k => X1.f k (Fb r) (Fb s)) (Fb (r * s)) := by
  unfold X1.f
  exact Ev.bind (Vg hr hs h) Ev.now
theorem WA (r : Rat) : (⟨(⟨false, (Fb r).f_N.f_D⟩ : Qf), (Fb r).f_D⟩ : Qi) = Fb (rab r) := by
  unfold Fb
  rw [(Gu r).1, (Gu r).2]
  simp only [Nb, Int.natAbs_natCast, decide_eq_false (show ¬ ((r.num.natAbs : Int) < 0) by omega)]
/-! ### after so many steps -/
def aft (t m : Rat) : Nat → Rat
  | 0 => 0
  | n + 1 => aft t m n * t + m
def aB : Nat → Nat
  | 0 => 1
  | n + 1 => 2 * (aB n * M63 * M63)
theorem G2 : ∀ n, n ≤ 32 → aB n < LIM := by decide +kernel
theorem Mn {t m : Rat} (ht : Rs M63 t) (hm : Rs M63 m) : ∀ n, Rs (aB n) (aft t m n)
  | 0 => Jc
  | n + 1 => WB (Na (Mn ht hm n) ht) hm
theorem Nn {t m : Rat} (ht : Rs M63 t) (hm : Rs M63 m) {n : Nat} (hn : n ≤ 32) : ∀ (d i : Nat) (a : Qg), n = i + d → Lk a (aft t m i) → ∃ a', Lk a' (aft t m n) ∧ Ev (fun k => (QN.hs k).l0 (Rb t).f_n.f_neg (Rb t).f_n.f_w (Rb t).f_d.f_neg (Rb t).f_d.f_w (Rb m).f_n.f_neg (Rb m).f_n.f_w (Rb m).f_d.f_neg (Rb m).f_d.f_w false [] false [] none a.f_n.f_neg a.f_n.f_w a.f_d.f_neg a.f_d.f_w (n : Int) (i : Int)) (a', none)
  | 0, i, a, e, h => by
    have : i = n := by omega
    subst this
    refine ⟨a, h, ?_⟩
    refine Ev.step (fun k => rfl) ?_
    simp only [QN.hs, QN.b0, if_neg (show ¬ (i : Int) < (i : Int) by omega), reta]; exact Ev.now
  | d + 1, i, a, e, h => by
    have hl : aB (i + 1) < LIM := G2 _ (by omega)
    obtain ⟨a', h1, h2⟩ := Nn ht hm hn d (i + 1) (Rb (aft t m i * t + m)) (by omega) (JY _)
    refine ⟨a', h1, ?_⟩
    refine Ev.step (fun k => rfl) ?_
    simp only [QN.hs, QN.b0, if_pos (show (i : Int) < (n : Int) by omega), reta, wsucc (show i < 1000000000 by omega)]
    refine Ev.bind (U1 h (Mn ht hm i) ht hm hl) ?_
    simp only [Option.isSome_none, Bool.false_eq_true, if_false]
    exact h2
theorem Vd {t m : Rat} (ht : Rs M63 t) (hm : Rs M63 m) (t0 : 0 ≤ t) (m0 : 0 ≤ m) {n : Nat} (hn : n ≤ 32) : ∃ a, Lk a (aft t m n) ∧ Ev (fun k => QN.f k (Rb t) (Rb m) (n : Int)) (a, none) := by
  obtain ⟨a, h1, h2⟩ := Nn ht hm hn n 0 Z0 (by omega) lk_z
  refine ⟨a, h1, ?_⟩
  unfold QN.f
  have b1 := Js (JY t); have b2 := Js (JY m)
  rw [decide_eq_false (Rat.not_lt.2 t0)] at b1
  rw [decide_eq_false (Rat.not_lt.2 m0)] at b2
  refine Ev.bind b1 ?_
  simp only [Bool.not_false, gdt]
  refine Ev.bind b2 ?_
  simp only [decide_eq_false (show ¬ (n : Int) < 0 by omega), decide_eq_false (show ¬ 32 < (n : Int) by omega), Bool.or_self, Bool.false_eq_true, if_false]
  have e : Z0.f_n.f_neg = false ∧ Z0.f_n.f_w = [] ∧ Z0.f_d.f_neg = false ∧ Z0.f_d.f_w = [] := by rw [← JT]; exact ⟨rfl, rfl, rfl, rfl⟩
  rw [e.1, e.2.1, e.2.2.1, e.2.2.2] at h2
  exact h2
theorem UL {t m : Rat} {n : Int} (h : t < 0 ∨ m < 0 ∨ n < 0 ∨ 32 < n) : Ev (fun k => QN.f k (Rb t) (Rb m) n) (Z0, some 1) := by
  unfold QN.f
  refine Ev.bind (Js (JY t)) ?_
  by_cases g : t < 0
  · simp only [decide_eq_true g, Bool.not_true, gdf, Option.bind_some, Bool.true_or, if_true, JT]; exact Ev.now
  · simp only [decide_eq_false g, Bool.not_false, gdt]
    refine Ev.bind (Js (JY m)) ?_
    have e : (((false || decide (m < 0)) || decide (n < 0)) || decide (32 < n)) = true := by
      by_cases g2 : m < 0
      · simp [g2]
      · have : n < 0 ∨ 32 < n := by rcases h with h | h | h | h <;> first | exact absurd h g | exact absurd h g2 | exact .inl h | exact .inr h
        rcases this with h | h <;> simp [h]
    simp only [e, if_true, JT]; exact Ev.now
theorem ME {t m : Rat} (ht : Rs M63 t) (hm : Rs M63 m) {n : Nat} (hn : n ≤ 32) : ∀ (d i : Nat), n = i + d → Ev (fun k => (QQ.hs k).l0 (n : Int) (Fb t).f_N.f_Neg (Fb t).f_N.f_D (Fb t).f_D.f_Neg (Fb t).f_D.f_D (Fb m).f_N.f_Neg (Fb m).f_N.f_D (Fb m).f_D.f_Neg (Fb m).f_D.f_D (Fb (aft t m i)).f_N.f_Neg (Fb (aft t m i)).f_N.f_D (Fb (aft t m i)).f_D.f_Neg (Fb (aft t m i)).f_D.f_D (i : Int)) (Fb (aft t m n))
  | 0, i, e => by
    have : i = n := by omega
    subst this
    refine Ev.step (fun k => rfl) ?_
    simp only [QQ.hs, QQ.b0, if_neg (show ¬ (i : Int) < (i : Int) by omega), feta]; exact Ev.now
  | d + 1, i, e => by
    have hl : aB (i + 1) < LIM := G2 _ (by omega)
    have ha := Mn ht hm i
    have h2 : aB i * M63 ≤ aB i * M63 * M63 := Nat.le_mul_of_pos_right _ (by decide)
    have hl' : 2 * (aB i * M63 * M63) < LIM := hl
    have ih := ME ht hm hn d (i + 1) (by omega)
    refine Ev.step (fun k => rfl) ?_
    simp only [QQ.hs, QQ.b0, if_pos (show (i : Int) < (n : Int) by omega), feta, wsucc (show i < 1000000000 by omega)]
    refine Ev.bind (OI ha ht (by omega)) (Ev.bind (UK (Na ha ht) hm hl') ?_)
    exact ih
theorem UA {t m : Rat} (ht : Rs M63 t) (hm : Rs M63 m) {n : Nat} (hn : n ≤ 32) : Ev (fun k => QQ.f k (Fb t) (Fb m) (n : Int)) (Fb (aft t m n)) := by
  unfold QQ.f
  exact Ev.bind N4 (ME ht hm hn n 0 (by omega))
/-! ### rows of fractions -/
def I64 (l : List Int) : Prop := ∀ x ∈ l, -9223372036854775808 ≤ x ∧ x ≤ 9223372036854775807
theorem GO : M63 < 10 ^ 1200 := by decide +kernel
theorem MX {α : Type} [Inhabited α] {L : List α} {i : Nat} (h : i < L.length) : rd L (i : Int) = L[i] := by
  unfold rd; rw [Int.toNat_natCast, List.getD_eq_getElem?_getD, List.getElem?_eq_getElem h]; rfl
theorem M9 {l : List Int} (hl : I64 l) (hn : l.length ≤ 100000) : ∀ (d i : Nat), l.length = i + d → Ev (fun k => (QI.hs k).l0 l ((l.take i).map fun x => Fb (pr x)) (i : Int)) (l.map fun x => Fb (pr x))
  | 0, i, e => by
    refine Ev.step (fun k => rfl) ?_
    simp only [QI.hs, QI.b0, if_neg (show ¬ (i : Int) < (l.length : Int) by omega)]
    rw [List.take_of_length_le (by omega)]; exact Ev.now
  | d + 1, i, e => by
    have hi : i < l.length := by omega
    have ih := M9 hl hn d (i + 1) (by omega)
    rw [List.take_succ_eq_append_getElem hi, List.map_append] at ih
    refine Ev.step (fun k => rfl) ?_
    simp only [QI.hs, QI.b0, if_pos (show (i : Int) < (l.length : Int) by omega), if_pos (show (0 : Int) ≤ (i : Int) ∧ (i : Int) < (l.length : Int) by omega), MX hi, wsucc (show i < 1000000000 by omega)]
    refine Ev.bind (JG (hl _ (List.getElem_mem hi))) ?_
    simp only [List.length_map, List.length_take, if_pos (show min i l.length + 1 ≤ 2199023255424 by omega)]
    exact ih
theorem JU {l : List Int} (hl : I64 l) (hn : l.length ≤ 100000) : Ev (fun k => QI.f k l) (l.map fun x => Fb (pr x)) := M9 hl hn l.length 0 (by omega)
theorem MK {l : List Int} (hl : I64 l) (hn : l.length ≤ 100000) : ∀ (d i : Nat), l.length = i + d → Ev (fun k => (Qz.hs k).l0 (l.map fun x => Fb (pr x)) ((l.take i).map fun x => Rb (pr x)) (i : Int)) (l.map fun x => Rb (pr x))
  | 0, i, e => by
    refine Ev.step (fun k => rfl) ?_
    simp only [Qz.hs, Qz.b0, List.length_map, if_neg (show ¬ (i : Int) < (l.length : Int) by omega)]
    rw [List.take_of_length_le (by omega)]; exact Ev.now
  | d + 1, i, e => by
    have hi : i < l.length := by omega
    have ih := MK hl hn d (i + 1) (by omega)
    rw [List.take_succ_eq_append_getElem hi, List.map_append] at ih
    have er : rd (l.map fun x => Fb (pr x)) (i : Int) = Fb (pr l[i]) := by rw [MX (by rw [List.length_map]; exact hi), List.getElem_map]
    refine Ev.step (fun k => rfl) ?_
    simp only [Qz.hs, Qz.b0, List.length_map, if_pos (show (i : Int) < (l.length : Int) by omega), if_pos (show (0 : Int) ≤ (i : Int) ∧ (i : Int) < (l.length : Int) by omega), er, wsucc (show i < 1000000000 by omega)]
    refine Ev.bind (L35.giveRatio_ev (Je (hl _ (List.getElem_mem hi))) GO) ?_
    simp only [List.length_map, List.length_take, if_pos (show min i l.length + 1 ≤ 2199023255424 by omega)]
    exact ih
theorem MH {l : List Int} (hl : I64 l) (hn : l.length ≤ 100000) : Ev (fun k => Qz.f k (l.map fun x => Fb (pr x))) (l.map fun x => Rb (pr x)) := MK hl hn l.length 0 (by omega)
/-! ### how far two rows are apart -/
def offR : List (Rat × Rat) → Rat → Rat
  | [], m => m
  | p :: l, m => offR l (rmax m (rab (p.1 - p.2)))
def OM : Nat := 2 * (M63 * M63)
theorem Ua : 2 * (OM * OM) < LIM := by decide +kernel
theorem Oc : ∀ {l : List (Rat × Rat)} {m : Rat}, (∀ p ∈ l, Rs M63 p.1 ∧ Rs M63 p.2) → Rs OM m → Rs OM (offR l m)
  | [], m, _, h => h
  | p :: l, m, hp, h => Oc (l := l) (fun q hq => hp q (List.mem_cons_of_mem _ hq)) (Mz h (Gh (M3 (hp p (List.mem_cons_self ..)).1 (hp p (List.mem_cons_self ..)).2)))
theorem rdm {l : List Rat} {i : Nat} (h : i < l.length) : rd (l.map Rb) (i : Int) = Rb l[i] := by rw [MX (by rw [List.length_map]; exact h), List.getElem_map]
theorem rdf {l : List Rat} {i : Nat} (h : i < l.length) : rd (l.map Fb) (i : Int) = Fb l[i] := by rw [MX (by rw [List.length_map]; exact h), List.getElem_map]
theorem NM {a b : List Rat} {i : Nat} (h1 : i < a.length) (h2 : i < b.length) : (a.drop i).zip (b.drop i) = (a[i], b[i]) :: (a.drop (i + 1)).zip (b.drop (i + 1)) := by
  rw [List.drop_eq_getElem_cons h1, List.drop_eq_getElem_cons h2]; rfl
theorem UJ {a b : List Rat} (hab : a.length = b.length) (hn : a.length ≤ 1000) (ha : ∀ r ∈ a, Rs M63 r) (hb : ∀ r ∈ b, Rs M63 r) : ∀ (d i : Nat) (x : Qg) (m : Rat), a.length = i + d → Lk x m → Rs OM m → ∃ x', Lk x' (offR ((a.drop i).zip (b.drop i)) m) ∧ Ev (fun k => (Xm.hs k).l0 (b.map Rb) false [] false [] none x.f_n.f_neg x.f_n.f_w x.f_d.f_neg x.f_d.f_w (a.map Rb) (a.length : Int) (i : Int)) (x', none)
  | 0, i, x, m, e, hx, hm => by
    refine ⟨x, by rw [List.drop_eq_nil_of_le (by omega)]; exact hx, ?_⟩
    refine Ev.step (fun k => rfl) ?_
    simp only [Xm.hs, Xm.b0, if_neg (show ¬ (i : Int) < (a.length : Int) by omega), reta]; exact Ev.now
  | d + 1, i, x, m, e, hx, hm => by
    have hi : i < a.length := by omega
    have hj : i < b.length := by omega
    have r1 := ha _ (List.getElem_mem hi); have r2 := hb _ (List.getElem_mem hj)
    have hs := M3 r1 r2
    have hl := Ua
    have q1 : 1 ≤ OM := by decide
    have hO : OM ≤ OM * OM := Nat.le_mul_of_pos_right _ q1
    obtain ⟨y, hy, ey⟩ := OC hx hm (Gh hs) (show OM * (2 * (M63 * M63)) < LIM from by show OM * OM < LIM; omega)
    obtain ⟨x', h1, h2⟩ := UJ hab hn ha hb d (i + 1) y _ (by omega) hy (Mz hm (Gh hs))
    rw [NM hi hj]
    refine ⟨x', h1, ?_⟩
    refine Ev.step (fun k => rfl) ?_
    simp only [Xm.hs, Xm.b0, List.length_map, if_pos (show (i : Int) < (a.length : Int) by omega), if_pos (show (0 : Int) ≤ (i : Int) ∧ (i : Int) < (a.length : Int) by omega), if_pos (show (0 : Int) ≤ (i : Int) ∧ (i : Int) < (b.length : Int) by omega), rdm hi, rdm hj, reta, wsucc (show i < 1000000000 by omega)]
    refine Ev.bind (Oh r1 r2 (by show OM < LIM; omega)) ?_
    simp only [Option.isSome_none, Bool.false_eq_true, if_false]
    refine Ev.bind (VW hs (by show 2 * OM < LIM; omega)) ?_
    simp only [Option.isSome_none, Bool.false_eq_true, if_false]
    refine Ev.bind ey ?_
    simp only [Option.isSome_none, Bool.false_eq_true, if_false]
    exact h2
theorem Uv {a b : List Rat} (hab : a.length = b.length) (hn : a.length ≤ 64) (ha : ∀ r ∈ a, Rs M63 r) (hb : ∀ r ∈ b, Rs M63 r) : ∃ x, Lk x (offR (a.zip b) 0) ∧ Ev (fun k => Xm.f k (a.map Rb) (b.map Rb)) (x, none) := by
  obtain ⟨x, h1, h2⟩ := UJ hab (by omega) ha hb a.length 0 Z0 0 (by omega) lk_z (Jc.mono (by decide))
  rw [List.drop_zero, List.drop_zero] at h1
  refine ⟨x, h1, ?_⟩
  unfold Xm.f
  have e : ((!decide ((a.length : Int) = (b.length : Int))) || (decide (64 < (a.length : Int)))) = false := by
    rw [decide_eq_true (by omega), decide_eq_false (by omega)]; rfl
  have ez : Z0.f_n.f_neg = false ∧ Z0.f_n.f_w = [] ∧ Z0.f_d.f_neg = false ∧ Z0.f_d.f_w = [] := by rw [← JT]; exact ⟨rfl, rfl, rfl, rfl⟩
  rw [ez.1, ez.2.1, ez.2.2.1, ez.2.2.2] at h2
  simp only [List.length_map, e, Bool.false_eq_true, if_false]
  exact h2
theorem N1 {a b : List Qg} (h : a.length ≠ b.length ∨ 64 < a.length) : Ev (fun k => Xm.f k a b) (Z0, some 1) := by
  unfold Xm.f
  have e : ((!decide ((a.length : Int) = (b.length : Int))) || (decide (64 < (a.length : Int)))) = true := by
    rcases h with h | h
    · rw [decide_eq_false (by omega)]; rfl
    · rw [decide_eq_true (show 64 < (a.length : Int) by omega), Bool.or_true]
  simp only [e, if_true, JT]; exact Ev.now
theorem NY {a b : List Rat} (hab : a.length = b.length) (hn : a.length ≤ 1000) (ha : ∀ r ∈ a, Rs M63 r) (hb : ∀ r ∈ b, Rs M63 r) : ∀ (d i : Nat) (m : Rat), a.length = i + d → Rs OM m → Ev (fun k => (QX.hs k).l0 (a.map Fb) (b.map Fb) (Fb m).f_N.f_Neg (Fb m).f_N.f_D (Fb m).f_D.f_Neg (Fb m).f_D.f_D (i : Int)) (Fb (offR ((a.drop i).zip (b.drop i)) m))
  | 0, i, m, e, hm => by
    rw [List.drop_eq_nil_of_le (by omega)]
    refine Ev.step (fun k => rfl) ?_
    simp only [QX.hs, QX.b0, List.length_map, if_neg (show ¬ (i : Int) < (a.length : Int) by omega), feta]; exact Ev.now
  | d + 1, i, m, e, hm => by
    have hi : i < a.length := by omega
    have hj : i < b.length := by omega
    have r1 := ha _ (List.getElem_mem hi); have r2 := hb _ (List.getElem_mem hj)
    have hs := M3 r1 r2
    have hl := Ua
    have q1 : 1 ≤ OM := by decide
    have hO : OM ≤ OM * OM := Nat.le_mul_of_pos_right _ q1
    have ih := NY hab hn ha hb d (i + 1) (rmax m (rab (a[i] - b[i]))) (by omega) (Mz hm (Gh hs))
    rw [NM hi hj]
    show Ev _ (Fb (offR ((a.drop (i + 1)).zip (b.drop (i + 1))) (rmax m (rab (a[i] - b[i])))))
    have efr := WA (a[i] - b[i])
    refine Ev.step (fun k => rfl) ?_
    simp only [QX.hs, QX.b0, List.length_map, if_pos (show (i : Int) < (a.length : Int) by omega), if_pos (show (0 : Int) ≤ (i : Int) ∧ (i : Int) < (a.length : Int) by omega), if_pos (show (0 : Int) ≤ (i : Int) ∧ (i : Int) < (b.length : Int) by omega), rdf hi, rdf hj, feta, wsucc (show i < 1000000000 by omega)]
    refine Ev.bind (VT r1 r2 (by show OM < LIM; omega)) ?_
    simp only [efr]
    refine Ev.bind (Wd (Gh hs) hm (show 2 * (M63 * M63) * OM < LIM from by show OM * OM < LIM; omega)) ?_
    have ef1 : (Fb (a[i] - b[i])).f_N.f_D = (Fb (rab (a[i] - b[i]))).f_N.f_D := by rw [← efr]
    have ef2 : (Fb (a[i] - b[i])).f_D.f_Neg = (Fb (rab (a[i] - b[i]))).f_D.f_Neg := by rw [← efr]
    have ef3 : (Fb (a[i] - b[i])).f_D.f_D = (Fb (rab (a[i] - b[i]))).f_D.f_D := by rw [← efr]
    have ef4 : false = (Fb (rab (a[i] - b[i]))).f_N.f_Neg := by rw [← efr]
    by_cases g : m < rab (a[i] - b[i])
    · simp only [if_pos (Od.2 g)]
      rw [ef1, ef2, ef3, ef4]
      unfold rmax at ih ⊢
      rw [if_pos g] at ih ⊢; exact ih
    · simp only [if_neg (fun x => g (Od.1 x))]
      unfold rmax at ih ⊢
      rw [if_neg g] at ih ⊢; exact ih
theorem VV {a b : List Rat} (hab : a.length = b.length) (hn : a.length ≤ 64) (ha : ∀ r ∈ a, Rs M63 r) (hb : ∀ r ∈ b, Rs M63 r) : Ev (fun k => QX.f k (a.map Fb) (b.map Fb)) (Fb (offR (a.zip b) 0)) := by
  unfold QX.f
  exact Ev.bind N4 (by have := NY hab (by omega) ha hb a.length 0 0 (by omega) (Jc.mono (by decide)); rwa [List.drop_zero, List.drop_zero] at this)
end Go.Proofs.YtkccpkccdbfomaaGreatDoor.Pure

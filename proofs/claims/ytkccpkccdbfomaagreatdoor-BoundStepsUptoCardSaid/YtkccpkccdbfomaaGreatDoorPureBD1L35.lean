/- How far errors grow: small functions of bound and of its reference, on core's Rat. -/
import Derived.Test.YtkccpkccdbfomaaGreatDoorPureR3L35
namespace Go.Proofs.YtkccpkccdbfomaaGreatDoor.Pure
open Go.RowKit Go.Proofs.YtkccpkccdbfomaaGreatDoorK Go.Proofs.YtkccpkccdbfomaaGreatDoor.GBP
set_option linter.unusedVariables false
set_option linter.unusedSimpArgs false
set_option maxRecDepth 100000
def Z0 : Qf := ⟨Wb 0, Wb 0⟩
theorem MA : (⟨(⟨false, []⟩ : Qv), (⟨false, []⟩ : Qv)⟩ : Qf) = Z0 := by (try simp only [wb0]); rfl
/-- a value of the program that stands for a fraction -/
def Lk (a : Qf) (r : Rat) : Prop := a = Rb r ∨ (a = Z0 ∧ r = 0)
theorem G4 (r : Rat) : Lk (Rb r) r := .inl rfl
theorem lk_z : Lk Z0 0 := .inr ⟨rfl, rfl⟩
theorem Gv : Rs 1 (0 : Rat) := ⟨by decide, by decide⟩
theorem reta (a : Qf) : (⟨(⟨a.f_n.f_neg, a.f_n.f_w⟩ : Qv), (⟨a.f_d.f_neg, a.f_d.f_w⟩ : Qv)⟩ : Qf) = a := rfl
theorem feta (a : Qh) : (⟨(⟨a.f_N.f_Neg, a.f_N.f_D⟩ : Qg), (⟨a.f_D.f_Neg, a.f_D.f_D⟩ : Qg)⟩ : Qh) = a := rfl
theorem Ev.same {α : Type} {f g : Nat → Option α} {r : α} {u : Nat → Option Qv} {v : Qv} (hu : Ev u v) (h : ∀ k, u k = some v → f k = g k) (hg : Ev g r) : Ev f r := by
  obtain ⟨K, hK⟩ := hu
  obtain ⟨K2, hK2⟩ := hg
  exact ⟨max K K2, fun k hk => by rw [h k (hK k (by omega))]; exact hK2 k (by omega)⟩
theorem uR0 (k : Nat) : QA.f k (Rb 0) = some (Wb 1) := Je k 0
theorem Zn : Z0.f_n = Wb 0 := rfl
theorem R0n : (Rb 0).f_n = Wb 0 := rfl
theorem GC {k : Nat} (hk : QA.f k Z0 = some (Wb 1)) (b : Qf) (l : Bool) : QQ.f k Z0 b l = QQ.f k (Rb 0) b l := by
  simp only [QQ.f, XU.f, QQ.j1, reta, hk, uR0, Option.bind_some]
  simp only [Zn, R0n]
theorem Ow {a : Qf} {r s : Rat} {B C : Nat} (ha : Lk a r) (hr : Rs B r) (hs : Rs C s) (h : 2 * (B * C) < LIM) : Ev (fun k => XV.f k a (Rb s)) (Rb (r + s), none) := by
  have hm := O0 hr hs h
  rcases ha with rfl | ⟨rfl, rfl⟩
  · exact hm
  · exact Ev.same ZT (fun k hk => by simp only [XV.f, GC hk]) hm
theorem WJ {a : Qf} {r s : Rat} {B C : Nat} (ha : Lk a r) (hr : Rs B r) (hs : Rs C s) (h : 2 * (B * C) < LIM) : Ev (fun k => Yb.f k a (Rb s)) (Rb (r - s), none) := by
  have hm := WW hr hs h
  rcases ha with rfl | ⟨rfl, rfl⟩
  · exact hm
  · exact Ev.same ZT (fun k hk => by simp only [Yb.f, GC hk]) hm
theorem OV {a : Qf} {r s : Rat} {B C : Nat} (ha : Lk a r) (hr : Rs B r) (hs : Rs C s) (h : B * C < LIM) : Ev (fun k => Yf.f k a (Rb s)) (rcmp r s, none) := by
  have hm := W5 hr hs h
  rcases ha with rfl | ⟨rfl, rfl⟩
  · exact hm
  · refine Ev.same ZT (fun k hk => ?_) hm
    have hk : QA.f k Z0 = some (Wb 1) := hk
    simp only [Yf.f, XU.f, hk, uR0, Option.bind_some, Zn, R0n]
theorem MU : rtxt 0 = strOf [48, 47, 49] := by
  show (txt 0 ++ strOf [47]) ++ txt 1 = _
  rw [N3, OP, ← ZR, ← ZR]; rfl
theorem GP {a : Qf} {r : Rat} {B : Nat} (ha : Lk a r) (h : Rs B r) (hB : B < LIM) : Ev (fun k => Xp.f k a) (rtxt r) := by
  rcases ha with rfl | ⟨rfl, rfl⟩
  · exact JZ h hB
  · rw [MU]; exact V3
theorem Vh {a : Qf} {r : Rat} (ha : Lk a r) : Ev (fun k => X0.f k a) (Wb r.num, Wb (r.den : Int)) := by
  rcases ha with rfl | ⟨rfl, rfl⟩
  · exact ⟨0, fun k _ => VB k r⟩
  · unfold X0.f
    exact Ev.bind ZT Ev.now
theorem MH (r : Rat) : r.num < 0 ↔ r < 0 := by
  rw [← Rat.not_le, ← Rat.num_nonneg]; omega
theorem Nx {a : Qf} {r : Rat} (ha : Lk a r) : Ev (fun k => Yh.f k a) (decide (r < 0)) := by
  unfold Yh.f
  refine Ev.bind (Vh ha) ?_
  simp only [Z5, Option.bind_some]
  have e : decide ((if r.num = 0 then (0 : Int) else if r.num < 0 then -1 else 1) < 0) = decide (r < 0) := by
    rw [decide_eq_decide, ← MH]
    split
    · omega
    · split <;> omega
  rw [e]; exact Ev.now
/-- without its sign -/
def rab (r : Rat) : Rat := if r < 0 then 0 - r else r
theorem OU (r : Rat) : (rab r).num = (r.num.natAbs : Int) ∧ (rab r).den = r.den := by
  unfold rab
  by_cases h : r < 0
  · have := (MH r).2 h
    rw [if_pos h, show (0 : Rat) - r = -r by grind]
    exact ⟨by show -r.num = _; omega, rfl⟩
  · have : ¬ r.num < 0 := fun e => h ((MH r).1 e)
    rw [if_neg h]; exact ⟨by omega, rfl⟩
theorem Qap {B : Nat} {r : Rat} (h : Rs B r) : Rs B (rab r) := ⟨by rw [(OU r).1, Int.natAbs_natCast]; exact h.num, by rw [(OU r).2]; exact h.den⟩
theorem Wv {r : Rat} {B : Nat} (hr : Rs B r) (h : 2 * B < LIM) : Ev (fun k => YK.f k (Rb r)) (Rb (rab r), none) := by
  unfold YK.f rab
  refine Ev.bind (Nx (G4 r)) ?_
  by_cases g : r < 0
  · simp only [decide_eq_true g, Bool.not_true, Bool.false_eq_true, if_false, MA, if_pos g]
    exact Ev.bind (WJ lk_z Gv hr (by omega)) Ev.now
  · simp only [decide_eq_false g, Bool.not_false, if_true, if_neg g]; exact Ev.now
def rmax (r s : Rat) : Rat := if r < s then s else r
theorem Un {a : Qf} {r s : Rat} {B C : Nat} (ha : Lk a r) (hr : Rs B r) (hs : Rs C s) (h : B * C < LIM) : ∃ a', Lk a' (rmax r s) ∧ Ev (fun k => Yq.f k a (Rb s)) (a', none) := by
  by_cases g : r < s
  · refine ⟨Rb s, by unfold rmax; rw [if_pos g]; exact G4 s, ?_⟩
    unfold Yq.f
    refine Ev.bind (OV ha hr hs h) ?_
    have := OF.2 g
    simp only [Option.isSome_none, Bool.false_or, decide_eq_false (show ¬ 0 ≤ rcmp r s by omega), Bool.false_eq_true, if_false]; exact Ev.now
  · refine ⟨a, by unfold rmax; rw [if_neg g]; exact ha, ?_⟩
    unfold Yq.f
    refine Ev.bind (OV ha hr hs h) ?_
    have : ¬ rcmp r s < 0 := fun e => g (OF.1 e)
    simp only [Option.isSome_none, Bool.false_or, decide_eq_true (show 0 ≤ rcmp r s by omega), if_true]; exact Ev.now
/-! ### the reference -/
def pr (n : Int) : Rat := mkRat n 1048576
def M63 : Nat := 9223372036854775808
theorem OC : M63 ^ 20 < LIM := by decide +kernel
theorem Y5 {n : Int} (h : -9223372036854775808 ≤ n ∧ n ≤ 9223372036854775807) : Rs M63 (pr n) := Jh (by unfold M63; omega) (by decide) (by decide)
theorem JJ {n : Int} (h : -9223372036854775808 ≤ n ∧ n ≤ 9223372036854775807) : Ev (fun k => XJ.f k n) (Fb (pr n)) := by
  have hl := OC
  unfold XJ.f
  refine Ev.bind (JA h) ?_
  have t := Mm (n := 20) (by decide)
  refine Ev.bind (t : Ev (fun k => Qq.f k 20) _) ?_
  have fn : Fit n := by unfold Fit; unfold M63 at hl; omega
  have f2 : Fit ((2 : Int) ^ 20) := by unfold Fit; decide +kernel
  have l1 := YN fn; have l2 := YN f2
  refine Ev.bind (JN (by decide) (by omega) (by omega)) ?_
  rw [show ((2 : Int) ^ 20) = ((1048576 : Nat) : Int) by decide, Rat.divInt_ofNat]
  exact Ev.now
theorem WN : Ev (fun k => YB.f k) (Fb 0) := by
  unfold YB.f
  refine Ev.bind (JA (x := 1) (by decide)) ?_
  have f1 : Fit 1 := by unfold Fit; decide +kernel
  have l0 := YN Nu; have l1 := YN f1
  (try simp only [nb0])
  refine Ev.bind (JN (n := 0) (d := 1) (by decide) (by omega) (by omega)) ?_
  rw [show Rat.divInt 0 1 = 0 by decide]
  exact Ev.now
theorem V6 {r s : Rat} {B C : Nat} (hr : Rs B r) (hs : Rs C s) (h : B * C < LIM) : Ev (fun k => Xs.f k (Fb r) (Fb s) false) (Fb (r * s), 0) := by
  obtain ⟨-, -, c3, c4⟩ := Zj hr hs
  obtain ⟨p1, p2⟩ := Jr hr.pos hs.pos
  have b1 := hr.num; have b2 := hr.den; have b3 := hs.num; have b4 := hs.den
  have J := Uw (a := r.num) (b := (r.den : Int)) (n := s.num) (d := (s.den : Int)) (B := B * C) (by omega) (by rw [Int.natAbs_natCast]; omega) (by omega) (by rw [Int.natAbs_natCast]; omega) (by unfold Fit; omega) (by unfold Fit; rw [← Int.natCast_mul, Int.natAbs_natCast]; omega) h (by have := s.den_nz; omega) (by have := r.den_nz; omega)
  rw [← Int.natCast_mul, Rat.divInt_ofNat, ← Rat.mul_def'] at J
  unfold Xs.f
  simp only [Bool.false_eq_true, if_false]
  exact J
theorem M8 {r s : Rat} {B C : Nat} (hr : Rs B r) (hs : Rs C s) (h : 2 * (B * C) < LIM) : Ev (fun k => Yt.f k (Fb r) (Fb s)) (Fb (r + s)) := by
  unfold Yt.f
  exact Ev.bind (WC hr hs h) Ev.now
theorem Md {r s : Rat} {B C : Nat} (hr : Rs B r) (hs : Rs C s) (h : B * C < LIM) : Ev (fun k => X1.f k (Fb r) (Fb s)) (Fb (r * s)) := by
  unfold X1.f
  exact Ev.bind (V6 hr hs h) Ev.now
/-! ### after so many steps -/
/-! ### rows of fractions -/
def I64 (l : List Int) : Prop := ∀ x ∈ l, -9223372036854775808 ≤ x ∧ x ≤ 9223372036854775807
theorem GT : M63 < 10 ^ 1200 := by decide +kernel
theorem Zx {α : Type} [Inhabited α] {L : List α} {i : Nat} (h : i < L.length) : rd L (i : Int) = L[i] := by
  unfold rd; rw [Int.toNat_natCast, List.getD_eq_getElem?_getD, List.getElem?_eq_getElem h]; rfl
theorem NP {l : List Int} (hl : I64 l) (hn : l.length ≤ 2000000) : ∀ (d i : Nat), l.length = i + d → Ev (fun k => (QP.hs k).l0 l ((l.take i).map fun x => Fb (pr x)) (i : Int)) (l.map fun x => Fb (pr x))
  | 0, i, e => by
    refine Ev.step (fun k => rfl) ?_
    simp only [QP.hs, QP.b0, if_neg (show ¬ (i : Int) < (l.length : Int) by omega)]
    rw [List.take_of_length_le (by omega)]; exact Ev.now
  | d + 1, i, e => by
    have hi : i < l.length := by omega
    have ih := NP hl hn d (i + 1) (by omega)
    rw [List.take_succ_eq_append_getElem hi, List.map_append] at ih
    refine Ev.step (fun k => rfl) ?_
    simp only [QP.hs, QP.b0, if_pos (show (i : Int) < (l.length : Int) by omega), if_pos (show (0 : Int) ≤ (i : Int) ∧ (i : Int) < (l.length : Int) by omega), Zx hi, wsucc (show i < 1000000000 by omega)]
    refine Ev.bind (JJ (hl _ (List.getElem_mem hi))) ?_
    simp only [List.length_map, List.length_take, if_pos (show min i l.length + 1 ≤ 2199023255424 by omega)]
    exact ih
theorem NU {l : List Int} (hl : I64 l) (hn : l.length ≤ 2000000) : Ev (fun k => QP.f k l) (l.map fun x => Fb (pr x)) := NP hl hn l.length 0 (by omega)
theorem MR {l : List Int} (hl : I64 l) (hn : l.length ≤ 2000000) : ∀ (d i : Nat), l.length = i + d → Ev (fun k => (QG.hs k).l0 (l.map fun x => Fb (pr x)) ((l.take i).map fun x => Rb (pr x)) (i : Int)) (l.map fun x => Rb (pr x))
  | 0, i, e => by
    refine Ev.step (fun k => rfl) ?_
    simp only [QG.hs, QG.b0, List.length_map, if_neg (show ¬ (i : Int) < (l.length : Int) by omega)]
    rw [List.take_of_length_le (by omega)]; exact Ev.now
  | d + 1, i, e => by
    have hi : i < l.length := by omega
    have ih := MR hl hn d (i + 1) (by omega)
    rw [List.take_succ_eq_append_getElem hi, List.map_append] at ih
    have er : rd (l.map fun x => Fb (pr x)) (i : Int) = Fb (pr l[i]) := by rw [Zx (by rw [List.length_map]; exact hi), List.getElem_map]
    refine Ev.step (fun k => rfl) ?_
    simp only [QG.hs, QG.b0, List.length_map, if_pos (show (i : Int) < (l.length : Int) by omega), if_pos (show (0 : Int) ≤ (i : Int) ∧ (i : Int) < (l.length : Int) by omega), er, wsucc (show i < 1000000000 by omega)]
    refine Ev.bind (L35.giveRatio_ev (Y5 (hl _ (List.getElem_mem hi))) GT) ?_
    simp only [List.length_map, List.length_take, if_pos (show min i l.length + 1 ≤ 2199023255424 by omega)]
    exact ih
theorem Vq {l : List Int} (hl : I64 l) (hn : l.length ≤ 2000000) : Ev (fun k => QG.f k (l.map fun x => Fb (pr x))) (l.map fun x => Rb (pr x)) := MR hl hn l.length 0 (by omega)
/-! ### how far two rows are apart -/
theorem rdm {l : List Rat} {i : Nat} (h : i < l.length) : rd (l.map Rb) (i : Int) = Rb l[i] := by rw [Zx (by rw [List.length_map]; exact h), List.getElem_map]
theorem rdf {l : List Rat} {i : Nat} (h : i < l.length) : rd (l.map Fb) (i : Int) = Fb l[i] := by rw [Zx (by rw [List.length_map]; exact h), List.getElem_map]
end Go.Proofs.YtkccpkccdbfomaaGreatDoor.Pure

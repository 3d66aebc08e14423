/- Spans: package interval, of fractions as core's Rat. -/
import Derived.Test.YtkccpkccdbfomaaGreatDoorPureR3L34
namespace Go.Proofs.YtkccpkccdbfomaaGreatDoor.Pure
open Go.RowKit Go.Proofs.YtkccpkccdbfomaaGreatDoorK Go.Proofs.YtkccpkccdbfomaaGreatDoor.GSS
set_option linter.unusedVariables false
set_option linter.unusedSimpArgs false
set_option maxRecDepth 100000
def Sb (l h : Rat) : QL := ⟨Rb l, Rb h⟩
def Zs : QL := ⟨⟨Wb 0, Wb 0⟩, ⟨Wb 0, Wb 0⟩⟩
theorem Sb_l (l h : Rat) : (Sb l h).f_Low = Rb l := rfl
theorem Sb_h (l h : Rat) : (Sb l h).f_High = Rb h := rfl
theorem U8 {l h : Rat} {B C : Nat} (hl : Rs B l) (hh : Rs C h) (hb : B * C < LIM) : Ev (fun k => Yi.f k (Rb l) (Rb h)) (if h < l then (Zs, some 1) else (Sb l h, none)) := by
  unfold Yi.f
  refine Ev.bind (J4 hl hh hb) ?_
  simp only [Option.isSome_none, Bool.false_eq_true, if_false, wb0]
  by_cases g : h < l
  · rw [if_pos g]; simp only [if_pos (JD.2 g)]; exact Ev.now
  · rw [if_neg g]; simp only [if_neg (fun x => g (JD.1 x))]; exact Ev.now
theorem UU {L : List QL} {n : Int} {i : Int} (h : ¬ i < n) : Ev (fun k => (QE.hs k).l0 none L n i) none := by
  refine Ev.step (fun k => rfl) ?_
  simp only [QE.hs, QE.b0, if_neg h]
  exact Ev.now
theorem MZ {L : List QL} {n : Nat} {i : Nat} {a b : Rat} {B : Nat} (hn : n = L.length) (hi : i < n) (h9 : n < 1000) (e : rd L (i : Int) = Sb a b) (ha : Rs B a) (hb : Rs B b) (h : B * B < LIM) {r : Option Int} (hr : ¬ b < a → Ev (fun k => (QE.hs k).l0 none L (n : Int) ((i + 1 : Nat) : Int)) r) : Ev (fun k => (QE.hs k).l0 none L (n : Int) (i : Int)) (if b < a then some 1 else r) := by
  refine Ev.step (fun k => rfl) ?_
  subst hn
  simp only [QE.hs, QE.b0, if_pos (show (i : Int) < (L.length : Int) by omega), if_pos (show (0 : Int) ≤ (i : Int) ∧ (i : Int) < (L.length : Int) by omega), e, Sb_l, Sb_h]
  refine Ev.bind (U8 ha hb h) ?_
  by_cases g : b < a
  · rw [if_pos g]; simp only [g, if_true, Option.isSome_some]; exact Ev.now
  · rw [if_neg g]; simp only [g, if_false, Option.isSome_none, Bool.false_eq_true, wsucc (show i < 1000000000 by omega)]; exact hr g
theorem Jl {a b c d : Rat} {B : Nat} (ha : Rs B a) (hb : Rs B b) (hc : Rs B c) (hd : Rs B d) (h : B * B < LIM) : Ev (fun k => QE.f k [Sb a b, Sb c d]) (if b < a then some 1 else if d < c then some 1 else none) := by
  unfold QE.f
  exact MZ (n := 2) (i := 0) rfl (by decide) (by decide) rfl ha hb h fun _ => MZ (n := 2) (i := 1) rfl (by decide) (by decide) rfl hc hd h fun _ => UU (by decide)
theorem UJ : Ev (fun k => QO.f k [none, none]) none := Ev.of (fun k => QO.mono k _) (k := 10) (by simp [QO.f, QO.hs, QO.b0, rd, w64, IntKind.wrap, IntKind.bits, IntKind.signed])
theorem NN (l h : Rat) : Ev (fun k => Yu.f k (Rb l) none (Rb h) none) (Sb l h, none) := by
  unfold Yu.f
  refine Ev.bind UJ ?_
  simp only [Option.isSome_none, Bool.false_eq_true, if_false]
  exact Ev.now
/-- Within, of two Spans that may be. -/
theorem UP {a b c d : Rat} {B : Nat} (ha : Rs B a) (hb : Rs B b) (hc : Rs B c) (hd : Rs B d) (h : B * B < LIM) (h1 : a ≤ b) (h2 : c ≤ d) : Ev (fun k => YR.f k (Sb a b) (Sb c d)) (decide (c ≤ a ∧ b ≤ d), none) := by
  have C := Jl ha hb hc hd h
  rw [if_neg (Rat.not_lt.2 h1), if_neg (Rat.not_lt.2 h2)] at C
  unfold YR.f
  refine Ev.bind C ?_
  simp only [Option.isSome_none, Bool.false_eq_true, if_false, Sb_l, Sb_h]
  refine Ev.bind (J4 ha hc h) (Ev.bind (J4 hb hd h) ?_)
  simp only [Option.isSome_none, Bool.or_false, Bool.false_eq_true, if_false]
  have e1 : (0 ≤ rcmp a c) ↔ c ≤ a := by rw [← Rat.not_lt, ← G5]; omega
  have e2 : (rcmp b d ≤ 0) ↔ b ≤ d := by rw [← Rat.not_lt, ← JD]; omega
  have : ((decide (0 ≤ rcmp a c)) && (decide (rcmp b d ≤ 0))) = decide (c ≤ a ∧ b ≤ d) := by
    rw [decide_eq_decide.2 e1, decide_eq_decide.2 e2, Bool.decide_and]
  rw [this]; exact Ev.now
end Go.Proofs.YtkccpkccdbfomaaGreatDoor.Pure

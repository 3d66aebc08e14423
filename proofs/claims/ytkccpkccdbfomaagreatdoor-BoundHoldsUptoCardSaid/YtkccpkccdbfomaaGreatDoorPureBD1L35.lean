/- How far errors grow: small functions of bound and of its reference, on core's Rat. -/
import Derived.Test.YtkccpkccdbfomaaGreatDoorPureR3L35
namespace Go.Proofs.YtkccpkccdbfomaaGreatDoor.Pure
open Go.RowKit Go.Proofs.YtkccpkccdbfomaaGreatDoorK Go.Proofs.YtkccpkccdbfomaaGreatDoor.GBH
set_option linter.unusedVariables false
set_option linter.unusedSimpArgs false
set_option maxRecDepth 100000
def Z0 : Qe := ⟨Wb 0, Wb 0⟩
theorem Ue : (⟨(⟨false, []⟩ : Qq), (⟨false, []⟩ : Qq)⟩ : Qe) = Z0 := by (try simp only [wb0]); rfl
/-- a value of the program that stands for a fraction -/
def Lk (a : Qe) (r : Rat) : Prop := a = Rb r ∨ (a = Z0 ∧ r = 0)
theorem Nh (r : Rat) : Lk (Rb r) r := .inl rfl
theorem lk_z : Lk Z0 0 := .inr ⟨rfl, rfl⟩
theorem Jv : Rs 1 (0 : Rat) := ⟨by decide, by decide⟩
theorem reta (a : Qe) : (⟨(⟨a.f_n.f_neg, a.f_n.f_w⟩ : Qq), (⟨a.f_d.f_neg, a.f_d.f_w⟩ : Qq)⟩ : Qe) = a := rfl
theorem Ev.same {α : Type} {f g : Nat → Option α} {r : α} {u : Nat → Option Qq} {v : Qq} (hu : Ev u v) (h : ∀ k, u k = some v → f k = g k) (hg : Ev g r) : Ev f r := by
  obtain ⟨K, hK⟩ := hu
  obtain ⟨K2, hK2⟩ := hg
  exact ⟨max K K2, fun k hk => by rw [h k (hK k (by omega))]; exact hK2 k (by omega)⟩
theorem uR0 (k : Nat) : Qx.f k (Rb 0) = some (Wb 1) := JI k 0
theorem Zn : Z0.f_n = Wb 0 := rfl
theorem R0n : (Rb 0).f_n = Wb 0 := rfl
theorem WJ {a : Qe} {r s : Rat} {B C : Nat} (ha : Lk a r) (hr : Rs B r) (hs : Rs C s) (h : B * C < LIM) : Ev (fun k => Xx.f k a (Rb s)) (Rb (r * s), none) := by
  have hm := GC hr hs h
  rcases ha with rfl | ⟨rfl, rfl⟩
  · exact hm
  · refine Ev.same Zy (fun k hk => ?_) hm
    have hk : Qx.f k Z0 = some (Wb 1) := hk
    simp only [Xx.f, hk, uR0, Option.bind_some, Zn, R0n]
theorem GO {k : Nat} (hk : Qx.f k Z0 = some (Wb 1)) (b : Qe) (l : Bool) : QL.f k Z0 b l = QL.f k (Rb 0) b l := by
  simp only [QL.f, XP.f, QL.j1, reta, hk, uR0, Option.bind_some]
  simp only [Zn, R0n]
theorem ON {a : Qe} {r s : Rat} {B C : Nat} (ha : Lk a r) (hr : Rs B r) (hs : Rs C s) (h : 2 * (B * C) < LIM) : Ev (fun k => XQ.f k a (Rb s)) (Rb (r + s), none) := by
  have hm := Ox hr hs h
  rcases ha with rfl | ⟨rfl, rfl⟩
  · exact hm
  · exact Ev.same Zy (fun k hk => by simp only [XQ.f, GO hk]) hm
theorem W4 {a : Qe} {r s : Rat} {B C : Nat} (ha : Lk a r) (hr : Rs B r) (hs : Rs C s) (h : 2 * (B * C) < LIM) : Ev (fun k => XK.f k a (Rb s)) (Rb (r - s), none) := by
  have hm := MX hr hs h
  rcases ha with rfl | ⟨rfl, rfl⟩
  · exact hm
  · exact Ev.same Zy (fun k hk => by simp only [XK.f, GO hk]) hm
theorem MQ {a : Qe} {r s : Rat} {B C : Nat} (ha : Lk a r) (hr : Rs B r) (hs : Rs C s) (h : B * C < LIM) : Ev (fun k => X2.f k a (Rb s)) (rcmp r s, none) := by
  have hm := WV hr hs h
  rcases ha with rfl | ⟨rfl, rfl⟩
  · exact hm
  · refine Ev.same Zy (fun k hk => ?_) hm
    have hk : Qx.f k Z0 = some (Wb 1) := hk
    simp only [X2.f, XP.f, hk, uR0, Option.bind_some, Zn, R0n]
theorem UK {a : Qe} {r : Rat} (ha : Lk a r) : Ev (fun k => XW.f k a) (Wb r.num, Wb (r.den : Int)) := by
  rcases ha with rfl | ⟨rfl, rfl⟩
  · exact ⟨0, fun k _ => Vz k r⟩
  · unfold XW.f
    exact Ev.bind Zy Ev.now
theorem MU (r : Rat) : r.num < 0 ↔ r < 0 := by
  rw [← Rat.not_le, ← Rat.num_nonneg]; omega
theorem NY {a : Qe} {r : Rat} (ha : Lk a r) : Ev (fun k => Yf.f k a) (decide (r < 0)) := by
  unfold Yf.f
  refine Ev.bind (UK ha) ?_
  simp only [ZY, Option.bind_some]
  have e : decide ((if r.num = 0 then (0 : Int) else if r.num < 0 then -1 else 1) < 0) = decide (r < 0) := by
    rw [decide_eq_decide, ← MU]
    split
    · omega
    · split <;> omega
  rw [e]; exact Ev.now
/-- without its sign -/
def rab (r : Rat) : Rat := if r < 0 then 0 - r else r
theorem OQ (r : Rat) : (rab r).num = (r.num.natAbs : Int) ∧ (rab r).den = r.den := by
  unfold rab
  by_cases h : r < 0
  · have := (MU r).2 h
    rw [if_pos h, show (0 : Rat) - r = -r by grind]
    exact ⟨by show -r.num = _; omega, rfl⟩
  · have : ¬ r.num < 0 := fun e => h ((MU r).1 e)
    rw [if_neg h]; exact ⟨by omega, rfl⟩
theorem JK {B : Nat} {r : Rat} (h : Rs B r) : Rs B (rab r) := ⟨by rw [(OQ r).1, Int.natAbs_natCast]; exact h.num, by rw [(OQ r).2]; exact h.den⟩
theorem MN {r : Rat} {B : Nat} (hr : Rs B r) (h : 2 * B < LIM) : Ev (fun k => YA.f k (Rb r)) (Rb (rab r), none) := by
  unfold YA.f rab
  refine Ev.bind (NY (Nh r)) ?_
  by_cases g : r < 0
  · simp only [decide_eq_true g, Bool.not_true, Bool.false_eq_true, if_false, Ue, if_pos g]
    exact Ev.bind (W4 lk_z Jv hr (by omega)) Ev.now
  · simp only [decide_eq_false g, Bool.not_false, if_true, if_neg g]; exact Ev.now
def rmax (r s : Rat) : Rat := if r < s then s else r
theorem GL {B : Nat} {r s : Rat} (hr : Rs B r) (hs : Rs B s) : Rs B (rmax r s) := by unfold rmax; split <;> assumption
theorem Gc {a : Qe} {r s : Rat} {B C : Nat} (ha : Lk a r) (hr : Rs B r) (hs : Rs C s) (h : B * C < LIM) : ∃ a', Lk a' (rmax r s) ∧ Ev (fun k => Yi.f k a (Rb s)) (a', none) := by
  by_cases g : r < s
  · refine ⟨Rb s, by unfold rmax; rw [if_pos g]; exact Nh s, ?_⟩
    unfold Yi.f
    refine Ev.bind (MQ ha hr hs h) ?_
    have := Ow.2 g
    simp only [Option.isSome_none, Bool.false_or, decide_eq_false (show ¬ 0 ≤ rcmp r s by omega), Bool.false_eq_true, if_false]; exact Ev.now
  · refine ⟨a, by unfold rmax; rw [if_neg g]; exact ha, ?_⟩
    unfold Yi.f
    refine Ev.bind (MQ ha hr hs h) ?_
    have : ¬ rcmp r s < 0 := fun e => g (Ow.1 e)
    simp only [Option.isSome_none, Bool.false_or, decide_eq_true (show 0 ≤ rcmp r s by omega), if_true]; exact Ev.now
/-! ### the reference -/
def pr (n : Int) : Rat := mkRat n 1048576
def M63 : Nat := 9223372036854775808
theorem Ou : M63 ^ 20 < LIM := by decide +kernel
theorem Jl {n : Int} (h : -9223372036854775808 ≤ n ∧ n ≤ 9223372036854775807) : Rs M63 (pr n) := ZX (by unfold M63; omega) (by decide) (by decide)
theorem Wv {n : Int} (h : -9223372036854775808 ≤ n ∧ n ≤ 9223372036854775807) : Ev (fun k => Yz.f k n) (Fb (pr n)) := by
  have hl := Ou
  unfold Yz.f
  refine Ev.bind (Mn h) ?_
  have t := Qap (n := 20) (by decide)
  refine Ev.bind (t : Ev (fun k => Qw.f k 20) _) ?_
  have fn : Fit n := by unfold Fit; unfold M63 at hl; omega
  have f2 : Fit ((2 : Int) ^ 20) := by unfold Fit; decide +kernel
  have l1 := UI fn; have l2 := UI f2
  refine Ev.bind (Qau (by decide) (by omega) (by omega)) ?_
  rw [show ((2 : Int) ^ 20) = ((1048576 : Nat) : Int) by decide, Rat.divInt_ofNat]
  exact Ev.now
/-! ### after so many steps -/
/-! ### rows of fractions -/
def I64 (l : List Int) : Prop := ∀ x ∈ l, -9223372036854775808 ≤ x ∧ x ≤ 9223372036854775807
theorem VY : M63 < 10 ^ 1200 := by decide +kernel
theorem Jj {α : Type} [Inhabited α] {L : List α} {i : Nat} (h : i < L.length) : rd L (i : Int) = L[i] := by
  unfold rd; rw [Int.toNat_natCast, List.getD_eq_getElem?_getD, List.getElem?_eq_getElem h]; rfl
theorem Ns {l : List Int} (hl : I64 l) (hn : l.length ≤ 2000000) : ∀ (d i : Nat), l.length = i + d → Ev (fun k => (QG.hs k).l0 l ((l.take i).map fun x => Fb (pr x)) (i : Int)) (l.map fun x => Fb (pr x))
  | 0, i, e => by
    refine Ev.step (fun k => rfl) ?_
    simp only [QG.hs, QG.b0, if_neg (show ¬ (i : Int) < (l.length : Int) by omega)]
    rw [List.take_of_length_le (by omega)]; exact Ev.now
  | d + 1, i, e => by
    have hi : i < l.length := by omega
    have ih := Ns hl hn d (i + 1) (by omega)
    rw [List.take_succ_eq_append_getElem hi, List.map_append] at ih
    refine Ev.step (fun k => rfl) ?_
    simp only [QG.hs, QG.b0, if_pos (show (i : Int) < (l.length : Int) by omega), if_pos (show (0 : Int) ≤ (i : Int) ∧ (i : Int) < (l.length : Int) by omega), Jj hi, wsucc (show i < 1000000000 by omega)]
    refine Ev.bind (Wv (hl _ (List.getElem_mem hi))) ?_
    simp only [List.length_map, List.length_take, if_pos (show min i l.length + 1 ≤ 2199023255424 by omega)]
    exact ih
theorem GV {l : List Int} (hl : I64 l) (hn : l.length ≤ 2000000) : Ev (fun k => QG.f k l) (l.map fun x => Fb (pr x)) := Ns hl hn l.length 0 (by omega)
theorem M8 {l : List Int} (hl : I64 l) (hn : l.length ≤ 2000000) : ∀ (d i : Nat), l.length = i + d → Ev (fun k => (Qu.hs k).l0 (l.map fun x => Fb (pr x)) ((l.take i).map fun x => Rb (pr x)) (i : Int)) (l.map fun x => Rb (pr x))
  | 0, i, e => by
    refine Ev.step (fun k => rfl) ?_
    simp only [Qu.hs, Qu.b0, List.length_map, if_neg (show ¬ (i : Int) < (l.length : Int) by omega)]
    rw [List.take_of_length_le (by omega)]; exact Ev.now
  | d + 1, i, e => by
    have hi : i < l.length := by omega
    have ih := M8 hl hn d (i + 1) (by omega)
    rw [List.take_succ_eq_append_getElem hi, List.map_append] at ih
    have er : rd (l.map fun x => Fb (pr x)) (i : Int) = Fb (pr l[i]) := by rw [Jj (by rw [List.length_map]; exact hi), List.getElem_map]
    refine Ev.step (fun k => rfl) ?_
    simp only [Qu.hs, Qu.b0, List.length_map, if_pos (show (i : Int) < (l.length : Int) by omega), if_pos (show (0 : Int) ≤ (i : Int) ∧ (i : Int) < (l.length : Int) by omega), er, wsucc (show i < 1000000000 by omega)]
    refine Ev.bind (L35.giveRatio_ev (Jl (hl _ (List.getElem_mem hi))) VY) ?_
    simp only [List.length_map, List.length_take, if_pos (show min i l.length + 1 ≤ 2199023255424 by omega)]
    exact ih
theorem Gw {l : List Int} (hl : I64 l) (hn : l.length ≤ 2000000) : Ev (fun k => Qu.f k (l.map fun x => Fb (pr x))) (l.map fun x => Rb (pr x)) := M8 hl hn l.length 0 (by omega)
/-! ### how far two rows are apart -/
def offR : List (Rat × Rat) → Rat → Rat
  | [], m => m
  | p :: l, m => offR l (rmax m (rab (p.1 - p.2)))
def OM : Nat := 2 * (M63 * M63)
theorem Qav : 2 * (OM * OM) < LIM := by decide +kernel
theorem Oh : ∀ {l : List (Rat × Rat)} {m : Rat}, (∀ p ∈ l, Rs M63 p.1 ∧ Rs M63 p.2) → Rs OM m → Rs OM (offR l m)
  | [], m, _, h => h
  | p :: l, m, hp, h => Oh (l := l) (fun q hq => hp q (List.mem_cons_of_mem _ hq)) (GL h (JK (Mj (hp p (List.mem_cons_self ..)).1 (hp p (List.mem_cons_self ..)).2)))
theorem rdm {l : List Rat} {i : Nat} (h : i < l.length) : rd (l.map Rb) (i : Int) = Rb l[i] := by rw [Jj (by rw [List.length_map]; exact h), List.getElem_map]
theorem NC {a b : List Rat} {i : Nat} (h1 : i < a.length) (h2 : i < b.length) : (a.drop i).zip (b.drop i) = (a[i], b[i]) :: (a.drop (i + 1)).zip (b.drop (i + 1)) := by
  rw [List.drop_eq_getElem_cons h1, List.drop_eq_getElem_cons h2]; rfl
theorem Vi {a b : List Rat} (hab : a.length = b.length) (hn : a.length ≤ 1000) (ha : ∀ r ∈ a, Rs M63 r) (hb : ∀ r ∈ b, Rs M63 r) : ∀ (d i : Nat) (x : Qe) (m : Rat), a.length = i + d → Lk x m → Rs OM m → ∃ x', Lk x' (offR ((a.drop i).zip (b.drop i)) m) ∧ Ev (fun k => (Xj.hs k).l0 (b.map Rb) false [] false [] none x.f_n.f_neg x.f_n.f_w x.f_d.f_neg x.f_d.f_w (a.map Rb) (a.length : Int) (i : Int)) (x', none)
  | 0, i, x, m, e, hx, hm => by
    refine ⟨x, by rw [List.drop_eq_nil_of_le (by omega)]; exact hx, ?_⟩
    refine Ev.step (fun k => rfl) ?_
    simp only [Xj.hs, Xj.b0, if_neg (show ¬ (i : Int) < (a.length : Int) by omega), reta]; exact Ev.now
  | d + 1, i, x, m, e, hx, hm => by
    have hi : i < a.length := by omega
    have hj : i < b.length := by omega
    have r1 := ha _ (List.getElem_mem hi); have r2 := hb _ (List.getElem_mem hj)
    have hs := Mj r1 r2
    have hl := Qav
    have q1 : 1 ≤ OM := by decide
    have hO : OM ≤ OM * OM := Nat.le_mul_of_pos_right _ q1
    obtain ⟨y, hy, ey⟩ := Gc hx hm (JK hs) (show OM * (2 * (M63 * M63)) < LIM from by show OM * OM < LIM; omega)
    obtain ⟨x', h1, h2⟩ := Vi hab hn ha hb d (i + 1) y _ (by omega) hy (GL hm (JK hs))
    rw [NC hi hj]
    refine ⟨x', h1, ?_⟩
    refine Ev.step (fun k => rfl) ?_
    simp only [Xj.hs, Xj.b0, List.length_map, if_pos (show (i : Int) < (a.length : Int) by omega), if_pos (show (0 : Int) ≤ (i : Int) ∧ (i : Int) < (a.length : Int) by omega), if_pos (show (0 : Int) ≤ (i : Int) ∧ (i : Int) < (b.length : Int) by omega), rdm hi, rdm hj, reta, wsucc (show i < 1000000000 by omega)]
    refine Ev.bind (MX r1 r2 (by show OM < LIM; omega)) ?_
    simp only [Option.isSome_none, Bool.false_eq_true, if_false]
    refine Ev.bind (MN hs (by show 2 * OM < LIM; omega)) ?_
    simp only [Option.isSome_none, Bool.false_eq_true, if_false]
    refine Ev.bind ey ?_
    simp only [Option.isSome_none, Bool.false_eq_true, if_false]
    exact h2
theorem Qae {a b : List Rat} (hab : a.length = b.length) (hn : a.length ≤ 64) (ha : ∀ r ∈ a, Rs M63 r) (hb : ∀ r ∈ b, Rs M63 r) : ∃ x, Lk x (offR (a.zip b) 0) ∧ Ev (fun k => Xj.f k (a.map Rb) (b.map Rb)) (x, none) := by
  obtain ⟨x, h1, h2⟩ := Vi hab (by omega) ha hb a.length 0 Z0 0 (by omega) lk_z (Jv.mono (by decide))
  rw [List.drop_zero, List.drop_zero] at h1
  refine ⟨x, h1, ?_⟩
  unfold Xj.f
  have e : ((!decide ((a.length : Int) = (b.length : Int))) || (decide (64 < (a.length : Int)))) = false := by
    rw [decide_eq_true (by omega), decide_eq_false (by omega)]; rfl
  have ez : Z0.f_n.f_neg = false ∧ Z0.f_n.f_w = [] ∧ Z0.f_d.f_neg = false ∧ Z0.f_d.f_w = [] := by rw [← Ue]; exact ⟨rfl, rfl, rfl, rfl⟩
  rw [ez.1, ez.2.1, ez.2.2.1, ez.2.2.2] at h2
  simp only [List.length_map, e, Bool.false_eq_true, if_false]
  exact h2
end Go.Proofs.YtkccpkccdbfomaaGreatDoor.Pure

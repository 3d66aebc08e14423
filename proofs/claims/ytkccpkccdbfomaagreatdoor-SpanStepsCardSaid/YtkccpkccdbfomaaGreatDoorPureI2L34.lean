/- Spans: the widest of some numbers, products, and Spans of digits. -/
import Derived.Test.YtkccpkccdbfomaaGreatDoorPureI1L34
import Derived.Test.YtkccpkccdbfomaaGreatDoorPureW12L34
namespace Go.Proofs.YtkccpkccdbfomaaGreatDoor.Pure
open Go.RowKit Go.Proofs.YtkccpkccdbfomaaGreatDoorK Go.Proofs.YtkccpkccdbfomaaGreatDoor.GSS
set_option linter.unusedVariables false
set_option linter.unusedSimpArgs false
set_option maxRecDepth 100000
def wid : Rat → Rat → List Rat → Rat × Rat
  | lo, hi, [] => (lo, hi)
  | lo, hi, n :: t => wid (if n < lo then n else lo) (if hi < n then n else hi) t
theorem GZ : ∀ (L : List Rat) (lo hi : Rat), ((wid lo hi L).1 = lo ∨ (wid lo hi L).1 ∈ L) ∧ ((wid lo hi L).2 = hi ∨ (wid lo hi L).2 ∈ L)
  | [], lo, hi => ⟨.inl rfl, .inl rfl⟩
  | n :: t, lo, hi => by
    obtain ⟨h1, h2⟩ := GZ t (if n < lo then n else lo) (if hi < n then n else hi)
    unfold wid
    constructor
    · rcases h1 with h | h
      · rw [h]; split
        · exact .inr (List.mem_cons_self ..)
        · exact .inl rfl
      · exact .inr (List.mem_cons_of_mem _ h)
    · rcases h2 with h | h
      · rw [h]; split
        · exact .inr (List.mem_cons_self ..)
        · exact .inl rfl
      · exact .inr (List.mem_cons_of_mem _ h)
theorem Np {B : Nat} (hB : B * B < LIM) : ∀ (L : List Rat) (F : List QG) (i : Nat) (lo hi : Rat), (∀ j (h : j < L.length), rd F ((i + j : Nat) : Int) = Rb L[j]) → F.length = i + L.length → F.length < 1000 → Rs B lo → Rs B hi → (∀ x ∈ L, Rs B x) → Ev (fun k => (QC.hs k).l0 false [] false [] false [] false [] none (Rb lo).f_n.f_neg (Rb lo).f_n.f_w (Rb lo).f_d.f_neg (Rb lo).f_d.f_w (Rb hi).f_n.f_neg (Rb hi).f_n.f_w (Rb hi).f_d.f_neg (Rb hi).f_d.f_w F (F.length : Int) (i : Int)) (Sb (wid lo hi L).1 (wid lo hi L).2, none)
  | [], F, i, lo, hi, he, hl, h9, hlo, hhi, hL => by
    refine Ev.step (fun k => rfl) ?_
    simp only [QC.hs, QC.b0, if_neg (show ¬ (i : Int) < (F.length : Int) by simp at hl; omega)]
    exact Ev.now
  | n :: t, F, i, lo, hi, he, hl, h9, hlo, hhi, hL => by
    have e0 := he 0 (by simp)
    rw [show (n :: t)[0] = n from rfl, show i + 0 = i from rfl] at e0
    have hn := hL n (List.mem_cons_self ..)
    have hlt : i < F.length := by rw [hl]; simp
    have ih : ∀ lo hi, Rs B lo → Rs B hi → Ev (fun k => (QC.hs k).l0 false [] false [] false [] false [] none (Rb lo).f_n.f_neg (Rb lo).f_n.f_w (Rb lo).f_d.f_neg (Rb lo).f_d.f_w (Rb hi).f_n.f_neg (Rb hi).f_n.f_w (Rb hi).f_d.f_neg (Rb hi).f_d.f_w F (F.length : Int) ((i + 1 : Nat) : Int)) (Sb (wid lo hi t).1 (wid lo hi t).2, none) := fun lo hi h1 h2 =>
      Np hB t F (i + 1) lo hi (fun j hj => by
        have := he (j + 1) (by simp; omega)
        rw [show i + 1 + j = i + (j + 1) by omega, this]; rfl) (by rw [hl]; simp; omega) h9 h1 h2 (fun x hx => hL x (List.mem_cons_of_mem _ hx))
    refine Ev.step (fun k => rfl) ?_
    simp only [QC.hs, QC.b0, if_pos (show (i : Int) < (F.length : Int) by omega), if_pos (show (0 : Int) ≤ (i : Int) ∧ (i : Int) < (F.length : Int) by omega), e0, Zh]
    refine Ev.bind (J4 hn hlo hB) (Ev.bind (J4 hn hhi hB) ?_)
    simp only [Option.isSome_none, Bool.or_false, Bool.false_eq_true, if_false, QC.j2, wsucc (show i < 1000000000 by omega)]
    unfold wid
    by_cases g1 : n < lo
    · simp only [if_pos (G5.2 g1), if_pos g1]
      by_cases g2 : hi < n
      · simp only [if_pos (JD.2 g2), if_pos g2]; exact ih _ _ hn hn
      · simp only [if_neg (fun x => g2 (JD.1 x)), if_neg g2]; exact ih _ _ hn hhi
    · simp only [if_neg (fun x => g1 (G5.1 x)), if_neg g1]
      by_cases g2 : hi < n
      · simp only [if_pos (JD.2 g2), if_pos g2]; exact ih _ _ hlo hn
      · simp only [if_neg (fun x => g2 (JD.1 x)), if_neg g2]; exact ih _ _ hlo hhi
theorem GS {p q r s : Rat} {B : Nat} (hp : Rs B p) (hq : Rs B q) (hr : Rs B r) (hs : Rs B s) (hB : B * B < LIM) : Ev (fun k => QC.f k [Rb p, Rb q, Rb r, Rb s]) (Sb (wid p p [q, r, s]).1 (wid p p [q, r, s]).2, none) := by
  unfold QC.f
  have c1 : cut [Rb p, Rb q, Rb r, Rb s] 1 (([Rb p, Rb q, Rb r, Rb s] : List QG).length : Int) = [Rb q, Rb r, Rb s] := rfl
  simp only [c1, if_pos (show (0 : Int) ≤ 0 ∧ 0 < (([Rb p, Rb q, Rb r, Rb s] : List QG).length : Int) by simp), if_pos (show (0 : Int) ≤ 1 ∧ (1 : Int) ≤ (([Rb p, Rb q, Rb r, Rb s] : List QG).length : Int) ∧ (([Rb p, Rb q, Rb r, Rb s] : List QG).length : Int) ≤ (([Rb p, Rb q, Rb r, Rb s] : List QG).length : Int) by simp), show rd [Rb p, Rb q, Rb r, Rb s] 0 = Rb p from rfl]
  refine Np hB [q, r, s] [Rb q, Rb r, Rb s] 0 p p (fun j h => ?_) rfl (by simp) hp hp (fun x hx => ?_)
  · match j, h with
    | 0, _ => rfl
    | 1, _ => rfl
    | 2, _ => rfl
  · simp at hx; rcases hx with rfl | rfl | rfl <;> assumption
/-! ### products -/
def four (a b c d : Rat) : Rat × Rat := wid (a * c) (a * c) [a * d, b * c, b * d]
theorem N6 (a b c d : Rat) : ∀ v, (v = (four a b c d).1 ∨ v = (four a b c d).2) → v = a * c ∨ v = a * d ∨ v = b * c ∨ v = b * d := by
  obtain ⟨h1, h2⟩ := GZ [a * d, b * c, b * d] (a * c) (a * c)
  intro v hv
  have key : ∀ w, (w = a * c ∨ w ∈ [a * d, b * c, b * d]) → w = a * c ∨ w = a * d ∨ w = b * c ∨ w = b * d := fun w h => by simpa using h
  rcases hv with rfl | rfl
  · exact key _ h1
  · exact key _ h2
theorem Wt {a b c d : Rat} {B C : Nat} (ha : Rs B a) (hb : Rs B b) (hc : Rs C c) (hd : Rs C d) : Rs (B * C) (four a b c d).1 ∧ Rs (B * C) (four a b c d).2 := by
  have key : ∀ v, (v = a * c ∨ v = a * d ∨ v = b * c ∨ v = b * d) → Rs (B * C) v := fun v h => by
    rcases h with rfl | rfl | rfl | rfl
    · exact ZZ ha hc
    · exact ZZ ha hd
    · exact ZZ hb hc
    · exact ZZ hb hd
  exact ⟨key _ (N6 a b c d _ (.inl rfl)), key _ (N6 a b c d _ (.inr rfl))⟩
theorem V9 {a b c d : Rat} {B : Nat} (ha : Rs B a) (hb : Rs B b) (hc : Rs B c) (hd : Rs B d) (h : B * B * (B * B) < LIM) (h1 : a ≤ b) (h2 : c ≤ d) : Ev (fun k => Y3.f k (Sb a b) (Sb c d)) (Sb (four a b c d).1 (four a b c d).2, none) := by
  have p := ha.pos
  obtain ⟨q1, -⟩ := ZB (show 1 ≤ B * B from Nat.mul_pos p p) (show 1 ≤ B * B from Nat.mul_pos p p)
  have hb' : B * B < LIM := by omega
  have C := Jl ha hb hc hd hb'
  rw [if_neg (Rat.not_lt.2 h1), if_neg (Rat.not_lt.2 h2)] at C
  unfold Y3.f
  refine Ev.bind C ?_
  simp only [Option.isSome_none, Bool.false_eq_true, if_false]
  have W := GS (ZZ ha hc) (ZZ ha hd) (ZZ hb hc) (ZZ hb hd) h
  refine Ev.bind (r := (Sb (four a b c d).1 (four a b c d).2, none)) ?_ Ev.now
  unfold Xh.f
  simp only [Sb_l, Sb_h]
  refine Ev.bind (G2 ha hc hb') ?_
  simp only [Option.isSome_none, Bool.false_eq_true, if_false, if_pos (show (0 : Nat) + 1 ≤ 2199023255424 by decide)]
  refine Ev.bind (G2 ha hd hb') ?_
  simp only [Option.isSome_none, Bool.false_eq_true, if_false, List.length_singleton, if_pos (show (1 : Nat) + 1 ≤ 2199023255424 by decide)]
  refine Ev.bind (G2 hb hc hb') ?_
  simp only [Option.isSome_none, Bool.false_eq_true, if_false, List.length_append, List.length_singleton, if_pos (show (1 : Nat) + 1 + 1 ≤ 2199023255424 by decide)]
  refine Ev.bind (G2 hb hd hb') ?_
  simp only [Option.isSome_none, Bool.false_eq_true, if_false, List.length_append, List.length_singleton, if_pos (show (1 : Nat) + 1 + 1 + 1 ≤ 2199023255424 by decide)]
  exact Ev.bind W Ev.now
theorem V4 {a b c d : Rat} {B : Nat} (ha : Rs B a) (hb : Rs B b) (hc : Rs B c) (hd : Rs B d) (h : 2 * (B * B) < LIM) (h1 : a ≤ b) (h2 : c ≤ d) : Ev (fun k => Yt.f k (Sb a b) (Sb c d)) (Sb (a + c) (b + d), none) := by
  have C := Jl ha hb hc hd (by omega)
  rw [if_neg (Rat.not_lt.2 h1), if_neg (Rat.not_lt.2 h2)] at C
  unfold Yt.f
  refine Ev.bind C ?_
  simp only [Option.isSome_none, Bool.false_eq_true, if_false, Sb_l, Sb_h]
  refine Ev.bind (Ox ha hc h) (Ev.bind (Ox hb hd h) ?_)
  exact Ev.bind (NN _ _) Ev.now
theorem Vh {a b c d : Rat} {B : Nat} (ha : Rs B a) (hb : Rs B b) (hc : Rs B c) (hd : Rs B d) (h : B * B < LIM) (h1 : a ≤ b) (h2 : c ≤ d) : Ev (fun k => YV.f k (Sb a b) (Sb c d)) (Sb (wid a a [b, c, d]).1 (wid a a [b, c, d]).2, none) := by
  have C := Jl ha hb hc hd h
  rw [if_neg (Rat.not_lt.2 h1), if_neg (Rat.not_lt.2 h2)] at C
  unfold YV.f
  refine Ev.bind C ?_
  simp only [Option.isSome_none, Bool.false_eq_true, if_false, Sb_l, Sb_h]
  exact Ev.bind (GS ha hb hc hd h) Ev.now
/-! ### Spans of digits -/
def Gb (l h : Rat) : Xg := ⟨Fb l, Fb h⟩
theorem Gb_l (l h : Rat) : (Gb l h).f_Low = Fb l := rfl
theorem Gb_h (l h : Rat) : (Gb l h).f_High = Fb h := rfl
theorem Mj {l h : Rat} {B : Nat} (hl : Rs B l) (hh : Rs B h) (hB : B < 10 ^ 1200) : Ev (fun k => XJ.f k (Gb l h)) (Sb l h) := by
  unfold XJ.f
  simp only [Gb_l, Gb_h]
  exact Ev.bind (L34.giveRatio_ev hl hB) (Ev.bind (L34.giveRatio_ev hh hB) Ev.now)
theorem WD {l : List Int} : ((0 : Int) ≤ 0 ∧ (0 : Int) ≤ min (l.length : Int) 15 ∧ min (l.length : Int) 15 ≤ (l.length : Int)) := by omega
theorem M1 {l : List Int} (h : ∀ x ∈ l, (Lit.int .u8 x).wf = true) (m : Int) : (∀ x ∈ cut l 0 m, (Lit.int .u8 x).wf = true) := fun x hx => h x (List.mem_of_mem_take (List.mem_of_mem_drop hx))
theorem Mc {l : List Int} (h : l.length < 9000000000000000000) (m : Int) : (cut l 0 m).length < 9000000000000000000 := by unfold cut; simp; omega
theorem JB {r s : Rat} {B : Nat} (hr : Rs B r) (hs : Rs B s) (h : B * B < LIM) : Ev (fun k => X7.f k (Fb r) (Fb s)) (decide (r < s)) := by
  unfold X7.f
  refine Ev.bind (Wm hr hs h) ?_
  rw [show decide ((rcmp r s, (0 : Int)).1 < 0) = decide (r < s) from decide_eq_decide.2 G5]
  exact Ev.now
theorem MH {l h : Rat} {B : Nat} (hl : Rs B l) (hh : Rs B h) (hb : B * B < LIM) : Ev (fun k => Yp.f k (Gb l h)) (decide (l ≤ h)) := by
  unfold Yp.f
  simp only [Gb_l, Gb_h]
  refine Ev.bind (JB hh hl hb) ?_
  rw [show (!decide (h < l)) = decide (l ≤ h) by rw [← decide_not, decide_eq_decide, Rat.not_lt]]
  exact Ev.now
theorem lim120 : 10 ^ 60 * 10 ^ 60 < LIM := by decide +kernel
theorem Nw {e : Yf} {order : Bool} (h0 : ∀ x ∈ e.f_L.e0, (Lit.int .u8 x).wf = true) (h0' : e.f_L.e0.length < 9000000000000000000) (h1 : ∀ x ∈ e.f_L.e1, (Lit.int .u8 x).wf = true) (h1' : e.f_L.e1.length < 9000000000000000000) (h2 : ∀ x ∈ e.f_L.e2, (Lit.int .u8 x).wf = true) (h2' : e.f_L.e2.length < 9000000000000000000) (h3 : ∀ x ∈ e.f_L.e3, (Lit.int .u8 x).wf = true) (h3' : e.f_L.e3.length < 9000000000000000000) : ∃ l h : Rat, Ev (fun k => Xo.f k e order) (Gb l h) ∧ Rs (10 ^ 60) l ∧ Rs (10 ^ 60) h ∧ (order = true → l ≤ h) := by
  obtain ⟨a, wa, ba⟩ := L34.fraction_ev (neg := e.f_Neg.e0) (M1 h0 (min (e.f_L.e0.length : Int) 15)) (Mc h0' _) (M1 h1 (min (e.f_L.e1.length : Int) 15)) (Mc h1' _)
  obtain ⟨b, wb, bb⟩ := L34.fraction_ev (neg := e.f_Neg.e1) (M1 h2 (min (e.f_L.e2.length : Int) 15)) (Mc h2' _) (M1 h3 (min (e.f_L.e3.length : Int) 15)) (Mc h3' _)
  unfold Xo.f
  simp only [if_pos WD]
  by_cases g : order = true ∧ ¬ a ≤ b
  · refine ⟨b, a, ?_, bb, ba, fun _ => Rat.le_of_lt (Rat.not_le.1 g.2)⟩
    refine Ev.bind wa (Ev.bind wb ?_)
    have M := MH ba bb lim120
    rw [show decide (a ≤ b) = false from decide_eq_false g.2] at M
    simp only [g.1, gdt]
    refine Ev.bind M ?_
    simp only [Bool.not_false, Bool.and_self, if_true]
    exact Ev.now
  · refine ⟨a, b, ?_, ba, bb, fun h => Decidable.byContradiction fun x => g ⟨h, x⟩⟩
    refine Ev.bind wa (Ev.bind wb ?_)
    cases order with
    | false =>
      simp only [gdf, Option.bind_some, Bool.false_and, Bool.false_eq_true, if_false]
      exact Ev.now
    | true =>
      have M := MH ba bb lim120
      rw [show decide (a ≤ b) = true from decide_eq_true (Decidable.byContradiction fun x => g ⟨rfl, x⟩)] at M
      simp only [gdt]
      refine Ev.bind M ?_
      simp only [Bool.not_true, Bool.and_false, Bool.false_eq_true, if_false]
      exact Ev.now
end Go.Proofs.YtkccpkccdbfomaaGreatDoor.Pure

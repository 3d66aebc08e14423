/- Spans: the widest of some numbers, products, and Spans of digits. -/
import Derived.Test.YtkccpkccdbfomaaGreatDoorPureI1L34
import Derived.Test.YtkccpkccdbfomaaGreatDoorPureW12L34
namespace Go.Proofs.YtkccpkccdbfomaaGreatDoor.Pure
open Go.RowKit Go.Proofs.YtkccpkccdbfomaaGreatDoorK Go.Proofs.YtkccpkccdbfomaaGreatDoor.GSH
set_option linter.unusedVariables false
set_option linter.unusedSimpArgs false
set_option maxRecDepth 100000
def wid : Rat → Rat → List Rat → Rat × Rat
  | lo, hi, [] => (lo, hi)
  | lo, hi, n :: t => wid (if n < lo then n else lo) (if hi < n then n else hi) t
theorem wid_mem : ∀ (L : List Rat) (lo hi : Rat), ((wid lo hi L).1 = lo ∨ (wid lo hi L).1 ∈ L) ∧ ((wid lo hi L).2 = hi ∨ (wid lo hi L).2 ∈ L)
  | [], lo, hi => ⟨.inl rfl, .inl rfl⟩
  | n :: t, lo, hi => by
    obtain ⟨h1, h2⟩ := wid_mem t (if n < lo then n else lo) (if hi < n then n else hi)
    unfold wid
    constructor
    · rcases h1 with h | h
      · rw [h]; split
        · exact .inr (List.mem_cons_self ..)
        · exact .inl rfl
      · exact .inr (List.mem_cons_of_mem _ h)
    · rcases h2 with h | h
      · rw [h]; split
        · exact .inr (List.mem_cons_self ..)
        · exact .inl rfl
      · exact .inr (List.mem_cons_of_mem _ h)
theorem wid_le : ∀ (L : List Rat) (lo hi : Rat), ((wid lo hi L).1 ≤ lo ∧ hi ≤ (wid lo hi L).2) ∧ ∀ x ∈ L, (wid lo hi L).1 ≤ x ∧ x ≤ (wid lo hi L).2
  | [], lo, hi => ⟨⟨Rat.le_refl, Rat.le_refl⟩, fun x h => by cases h⟩
  | n :: t, lo, hi => by
    obtain ⟨⟨h1, h2⟩, h3⟩ := wid_le t (if n < lo then n else lo) (if hi < n then n else hi)
    unfold wid
    have a1 : (if n < lo then n else lo) ≤ lo ∧ (if n < lo then n else lo) ≤ n := by split <;> grind
    have a2 : hi ≤ (if hi < n then n else hi) ∧ n ≤ (if hi < n then n else hi) := by split <;> grind
    refine ⟨⟨Rat.le_trans h1 a1.1, Rat.le_trans a2.1 h2⟩, fun x hx => ?_⟩
    rcases List.mem_cons.1 hx with rfl | h
    · exact ⟨Rat.le_trans h1 a1.2, Rat.le_trans a2.2 h2⟩
    · exact h3 x h
theorem widest_l0 {B : Nat} (hB : B * B < LIM) : ∀ (L : List Rat) (F : List ratio_Ratio) (i : Nat) (lo hi : Rat), (∀ j (h : j < L.length), rd F ((i + j : Nat) : Int) = Rb L[j]) → F.length = i + L.length → F.length < 1000 → Rs B lo → Rs B hi → (∀ x ∈ L, Rs B x) → Ev (fun k => (interval_widest.hs k).l0 false [] false [] false [] false [] none (Rb lo).f_n.f_neg (Rb lo).f_n.f_w (Rb lo).f_d.f_neg (Rb lo).f_d.f_w (Rb hi).f_n.f_neg (Rb hi).f_n.f_w (Rb hi).f_d.f_neg (Rb hi).f_d.f_w F (F.length : Int) (i : Int)) (Sb (wid lo hi L).1 (wid lo hi L).2, none)
  | [], F, i, lo, hi, he, hl, h9, hlo, hhi, hL => by
    refine Ev.step (fun k => rfl) ?_
    simp only [interval_widest.hs, interval_widest.b0, if_neg (show ¬ (i : Int) < (F.length : Int) by simp at hl; omega)]
    exact Ev.now
  | n :: t, F, i, lo, hi, he, hl, h9, hlo, hhi, hL => by
    have e0 := he 0 (by simp)
    rw [show (n :: t)[0] = n from rfl, show i + 0 = i from rfl] at e0
    have hn := hL n (List.mem_cons_self ..)
    have hlt : i < F.length := by rw [hl]; simp
    have ih : ∀ lo hi, Rs B lo → Rs B hi → Ev (fun k => (interval_widest.hs k).l0 false [] false [] false [] false [] none (Rb lo).f_n.f_neg (Rb lo).f_n.f_w (Rb lo).f_d.f_neg (Rb lo).f_d.f_w (Rb hi).f_n.f_neg (Rb hi).f_n.f_w (Rb hi).f_d.f_neg (Rb hi).f_d.f_w F (F.length : Int) ((i + 1 : Nat) : Int)) (Sb (wid lo hi t).1 (wid lo hi t).2, none) := fun lo hi h1 h2 =>
      widest_l0 hB t F (i + 1) lo hi (fun j hj => by
        have := he (j + 1) (by simp; omega)
        rw [show i + 1 + j = i + (j + 1) by omega, this]; rfl) (by rw [hl]; simp; omega) h9 h1 h2 (fun x hx => hL x (List.mem_cons_of_mem _ hx))
    refine Ev.step (fun k => rfl) ?_
    simp only [interval_widest.hs, interval_widest.b0, if_pos (show (i : Int) < (F.length : Int) by omega), if_pos (show (0 : Int) ≤ (i : Int) ∧ (i : Int) < (F.length : Int) by omega), e0, Rb_eta]
    refine Ev.bind (RCmp_ev hn hlo hB) (Ev.bind (RCmp_ev hn hhi hB) ?_)
    simp only [Option.isSome_none, Bool.or_false, Bool.false_eq_true, if_false, interval_widest.j2, wsucc (show i < 1000000000 by omega)]
    unfold wid
    by_cases g1 : n < lo
    · simp only [if_pos (rcmp_lt.2 g1), if_pos g1]
      by_cases g2 : hi < n
      · simp only [if_pos (rcmp_gt.2 g2), if_pos g2]; exact ih _ _ hn hn
      · simp only [if_neg (fun x => g2 (rcmp_gt.1 x)), if_neg g2]; exact ih _ _ hn hhi
    · simp only [if_neg (fun x => g1 (rcmp_lt.1 x)), if_neg g1]
      by_cases g2 : hi < n
      · simp only [if_pos (rcmp_gt.2 g2), if_pos g2]; exact ih _ _ hlo hn
      · simp only [if_neg (fun x => g2 (rcmp_gt.1 x)), if_neg g2]; exact ih _ _ hlo hhi
theorem widest_ev {p q r s : Rat} {B : Nat} (hp : Rs B p) (hq : Rs B q) (hr : Rs B r) (hs : Rs B s) (hB : B * B < LIM) : Ev (fun k => interval_widest.f k [Rb p, Rb q, Rb r, Rb s]) (Sb (wid p p [q, r, s]).1 (wid p p [q, r, s]).2, none) := by
  unfold interval_widest.f
  have c1 : cut [Rb p, Rb q, Rb r, Rb s] 1 (([Rb p, Rb q, Rb r, Rb s] : List ratio_Ratio).length : Int) = [Rb q, Rb r, Rb s] := rfl
  simp only [c1, if_pos (show (0 : Int) ≤ 0 ∧ 0 < (([Rb p, Rb q, Rb r, Rb s] : List ratio_Ratio).length : Int) by simp), if_pos (show (0 : Int) ≤ 1 ∧ (1 : Int) ≤ (([Rb p, Rb q, Rb r, Rb s] : List ratio_Ratio).length : Int) ∧ (([Rb p, Rb q, Rb r, Rb s] : List ratio_Ratio).length : Int) ≤ (([Rb p, Rb q, Rb r, Rb s] : List ratio_Ratio).length : Int) by simp), show rd [Rb p, Rb q, Rb r, Rb s] 0 = Rb p from rfl]
  refine widest_l0 hB [q, r, s] [Rb q, Rb r, Rb s] 0 p p (fun j h => ?_) rfl (by simp) hp hp (fun x hx => ?_)
  · match j, h with
    | 0, _ => rfl
    | 1, _ => rfl
    | 2, _ => rfl
  · simp at hx; rcases hx with rfl | rfl | rfl <;> assumption
/-! ### products -/
def four (a b c d : Rat) : Rat × Rat := wid (a * c) (a * c) [a * d, b * c, b * d]
theorem four_le (a b c d : Rat) : (four a b c d).1 ≤ a * c ∧ (four a b c d).1 ≤ a * d ∧ (four a b c d).1 ≤ b * c ∧ (four a b c d).1 ≤ b * d ∧ a * c ≤ (four a b c d).2 ∧ a * d ≤ (four a b c d).2 ∧ b * c ≤ (four a b c d).2 ∧ b * d ≤ (four a b c d).2 := by
  obtain ⟨⟨h1, h2⟩, h3⟩ := wid_le [a * d, b * c, b * d] (a * c) (a * c)
  have x := h3 (a * d) (by simp)
  have y := h3 (b * c) (by simp)
  have z := h3 (b * d) (by simp)
  exact ⟨h1, x.1, y.1, z.1, h2, x.2, y.2, z.2⟩
theorem seg_ge {a b x y m : Rat} (h1 : a ≤ x) (h2 : x ≤ b) (ha : m ≤ a * y) (hb : m ≤ b * y) : m ≤ x * y := by
  rcases Rat.le_total (a := 0) (b := y) with h | h
  · exact Rat.le_trans ha (Rat.mul_le_mul_of_nonneg_right h1 h)
  · have := Rat.mul_nonneg (a := b - x) (b := -y) (by grind) (by grind)
    grind
theorem seg_le {a b x y m : Rat} (h1 : a ≤ x) (h2 : x ≤ b) (ha : a * y ≤ m) (hb : b * y ≤ m) : x * y ≤ m := by
  rcases Rat.le_total (a := 0) (b := y) with h | h
  · exact Rat.le_trans (Rat.mul_le_mul_of_nonneg_right h2 h) hb
  · have := Rat.mul_nonneg (a := x - a) (b := -y) (by grind) (by grind)
    grind
theorem four_in {a b c d x y : Rat} (h1 : a ≤ x) (h2 : x ≤ b) (h3 : c ≤ y) (h4 : y ≤ d) : (four a b c d).1 ≤ x * y ∧ x * y ≤ (four a b c d).2 := by
  obtain ⟨l1, l2, l3, l4, u1, u2, u3, u4⟩ := four_le a b c d
  constructor
  · refine seg_ge h1 h2 ?_ ?_
    · rw [Rat.mul_comm]; exact seg_ge h3 h4 (by rw [Rat.mul_comm]; exact l1) (by rw [Rat.mul_comm]; exact l2)
    · rw [Rat.mul_comm]; exact seg_ge h3 h4 (by rw [Rat.mul_comm]; exact l3) (by rw [Rat.mul_comm]; exact l4)
  · refine seg_le h1 h2 ?_ ?_
    · rw [Rat.mul_comm]; exact seg_le h3 h4 (by rw [Rat.mul_comm]; exact u1) (by rw [Rat.mul_comm]; exact u2)
    · rw [Rat.mul_comm]; exact seg_le h3 h4 (by rw [Rat.mul_comm]; exact u3) (by rw [Rat.mul_comm]; exact u4)
theorem four_mem (a b c d : Rat) : ∀ v, (v = (four a b c d).1 ∨ v = (four a b c d).2) → v = a * c ∨ v = a * d ∨ v = b * c ∨ v = b * d := by
  obtain ⟨h1, h2⟩ := wid_mem [a * d, b * c, b * d] (a * c) (a * c)
  intro v hv
  have key : ∀ w, (w = a * c ∨ w ∈ [a * d, b * c, b * d]) → w = a * c ∨ w = a * d ∨ w = b * c ∨ w = b * d := fun w h => by simpa using h
  rcases hv with rfl | rfl
  · exact key _ h1
  · exact key _ h2
theorem four_Rs {a b c d : Rat} {B C : Nat} (ha : Rs B a) (hb : Rs B b) (hc : Rs C c) (hd : Rs C d) : Rs (B * C) (four a b c d).1 ∧ Rs (B * C) (four a b c d).2 := by
  have key : ∀ v, (v = a * c ∨ v = a * d ∨ v = b * c ∨ v = b * d) → Rs (B * C) v := fun v h => by
    rcases h with rfl | rfl | rfl | rfl
    · exact Rs_mul ha hc
    · exact Rs_mul ha hd
    · exact Rs_mul hb hc
    · exact Rs_mul hb hd
  exact ⟨key _ (four_mem a b c d _ (.inl rfl)), key _ (four_mem a b c d _ (.inr rfl))⟩
theorem IMul_ev {a b c d : Rat} {B : Nat} (ha : Rs B a) (hb : Rs B b) (hc : Rs B c) (hd : Rs B d) (h : B * B * (B * B) < LIM) (h1 : a ≤ b) (h2 : c ≤ d) : Ev (fun k => interval_Mul.f k (Sb a b) (Sb c d)) (Sb (four a b c d).1 (four a b c d).2, none) := by
  have p := ha.pos
  obtain ⟨q1, -⟩ := le_prod (show 1 ≤ B * B from Nat.mul_pos p p) (show 1 ≤ B * B from Nat.mul_pos p p)
  have hb' : B * B < LIM := by omega
  have C := check_ev ha hb hc hd hb'
  rw [if_neg (Rat.not_lt.2 h1), if_neg (Rat.not_lt.2 h2)] at C
  unfold interval_Mul.f
  refine Ev.bind C ?_
  simp only [Option.isSome_none, Bool.false_eq_true, if_false]
  have W := widest_ev (Rs_mul ha hc) (Rs_mul ha hd) (Rs_mul hb hc) (Rs_mul hb hd) h
  refine Ev.bind (r := (Sb (four a b c d).1 (four a b c d).2, none)) ?_ Ev.now
  unfold interval_four_ratio_Ratio_Mul.f
  simp only [Sb_l, Sb_h]
  refine Ev.bind (RMul_ev ha hc hb') ?_
  simp only [Option.isSome_none, Bool.false_eq_true, if_false, if_pos (show (0 : Nat) + 1 ≤ 2199023255424 by decide)]
  refine Ev.bind (RMul_ev ha hd hb') ?_
  simp only [Option.isSome_none, Bool.false_eq_true, if_false, List.length_singleton, if_pos (show (1 : Nat) + 1 ≤ 2199023255424 by decide)]
  refine Ev.bind (RMul_ev hb hc hb') ?_
  simp only [Option.isSome_none, Bool.false_eq_true, if_false, List.length_append, List.length_singleton, if_pos (show (1 : Nat) + 1 + 1 ≤ 2199023255424 by decide)]
  refine Ev.bind (RMul_ev hb hd hb') ?_
  simp only [Option.isSome_none, Bool.false_eq_true, if_false, List.length_append, List.length_singleton, if_pos (show (1 : Nat) + 1 + 1 + 1 ≤ 2199023255424 by decide)]
  exact Ev.bind W Ev.now
theorem IAdd_ev {a b c d : Rat} {B : Nat} (ha : Rs B a) (hb : Rs B b) (hc : Rs B c) (hd : Rs B d) (h : 2 * (B * B) < LIM) (h1 : a ≤ b) (h2 : c ≤ d) : Ev (fun k => interval_Add.f k (Sb a b) (Sb c d)) (Sb (a + c) (b + d), none) := by
  have C := check_ev ha hb hc hd (by omega)
  rw [if_neg (Rat.not_lt.2 h1), if_neg (Rat.not_lt.2 h2)] at C
  unfold interval_Add.f
  refine Ev.bind C ?_
  simp only [Option.isSome_none, Bool.false_eq_true, if_false, Sb_l, Sb_h]
  refine Ev.bind (RAdd_ev ha hc h) (Ev.bind (RAdd_ev hb hd h) ?_)
  exact Ev.bind (Imade_ev _ _) Ev.now
theorem IJoin_ev {a b c d : Rat} {B : Nat} (ha : Rs B a) (hb : Rs B b) (hc : Rs B c) (hd : Rs B d) (h : B * B < LIM) (h1 : a ≤ b) (h2 : c ≤ d) : Ev (fun k => interval_Join.f k (Sb a b) (Sb c d)) (Sb (wid a a [b, c, d]).1 (wid a a [b, c, d]).2, none) := by
  have C := check_ev ha hb hc hd h
  rw [if_neg (Rat.not_lt.2 h1), if_neg (Rat.not_lt.2 h2)] at C
  unfold interval_Join.f
  refine Ev.bind C ?_
  simp only [Option.isSome_none, Bool.false_eq_true, if_false, Sb_l, Sb_h]
  exact Ev.bind (widest_ev ha hb hc hd h) Ev.now
/-! ### Spans of digits -/
def Gb (l h : Rat) : radomeref34_Span := ⟨Fb l, Fb h⟩
theorem Gb_l (l h : Rat) : (Gb l h).f_Low = Fb l := rfl
theorem Gb_h (l h : Rat) : (Gb l h).f_High = Fb h := rfl
theorem giveSpan_ev {l h : Rat} {B : Nat} (hl : Rs B l) (hh : Rs B h) (hB : B < 10 ^ 1200) : Ev (fun k => radomelaw34_giveSpan.f k (Gb l h)) (Sb l h) := by
  unfold radomelaw34_giveSpan.f
  simp only [Gb_l, Gb_h]
  exact Ev.bind (L34.giveRatio_ev hl hB) (Ev.bind (L34.giveRatio_ev hh hB) Ev.now)
theorem cut_ok {l : List Int} : ((0 : Int) ≤ 0 ∧ (0 : Int) ≤ min (l.length : Int) 15 ∧ min (l.length : Int) 15 ≤ (l.length : Int)) := by omega
theorem cut_wf {l : List Int} (h : ∀ x ∈ l, (Lit.int .u8 x).wf = true) (m : Int) : (∀ x ∈ cut l 0 m, (Lit.int .u8 x).wf = true) := fun x hx => h x (List.mem_of_mem_take (List.mem_of_mem_drop hx))
theorem cut_len {l : List Int} (h : l.length < 9000000000000000000) (m : Int) : (cut l 0 m).length < 9000000000000000000 := by unfold cut; simp; omega
theorem Iless_ev {r s : Rat} {B : Nat} (hr : Rs B r) (hs : Rs B s) (h : B * B < LIM) : Ev (fun k => radomeref34_less.f k (Fb r) (Fb s)) (decide (r < s)) := by
  unfold radomeref34_less.f
  refine Ev.bind (FCmp_ev hr hs h) ?_
  rw [show decide ((rcmp r s, (0 : Int)).1 < 0) = decide (r < s) from decide_eq_decide.2 rcmp_lt]
  exact Ev.now
theorem May_ev {l h : Rat} {B : Nat} (hl : Rs B l) (hh : Rs B h) (hb : B * B < LIM) : Ev (fun k => radomeref34_May.f k (Gb l h)) (decide (l ≤ h)) := by
  unfold radomeref34_May.f
  simp only [Gb_l, Gb_h]
  refine Ev.bind (Iless_ev hh hl hb) ?_
  rw [show (!decide (h < l)) = decide (l ≤ h) by rw [← decide_not, decide_eq_decide, Rat.not_lt]]
  exact Ev.now
theorem lim120 : 10 ^ 60 * 10 ^ 60 < LIM := by decide +kernel
theorem spanOf_ev {e : radomelaw34_Ends} {order : Bool} (h0 : ∀ x ∈ e.f_L.e0, (Lit.int .u8 x).wf = true) (h0' : e.f_L.e0.length < 9000000000000000000) (h1 : ∀ x ∈ e.f_L.e1, (Lit.int .u8 x).wf = true) (h1' : e.f_L.e1.length < 9000000000000000000) (h2 : ∀ x ∈ e.f_L.e2, (Lit.int .u8 x).wf = true) (h2' : e.f_L.e2.length < 9000000000000000000) (h3 : ∀ x ∈ e.f_L.e3, (Lit.int .u8 x).wf = true) (h3' : e.f_L.e3.length < 9000000000000000000) : ∃ l h : Rat, Ev (fun k => radomelaw34_spanOf.f k e order) (Gb l h) ∧ Rs (10 ^ 60) l ∧ Rs (10 ^ 60) h ∧ (order = true → l ≤ h) := by
  obtain ⟨a, wa, ba⟩ := L34.fraction_ev (neg := e.f_Neg.e0) (cut_wf h0 (min (e.f_L.e0.length : Int) 15)) (cut_len h0' _) (cut_wf h1 (min (e.f_L.e1.length : Int) 15)) (cut_len h1' _)
  obtain ⟨b, wb, bb⟩ := L34.fraction_ev (neg := e.f_Neg.e1) (cut_wf h2 (min (e.f_L.e2.length : Int) 15)) (cut_len h2' _) (cut_wf h3 (min (e.f_L.e3.length : Int) 15)) (cut_len h3' _)
  unfold radomelaw34_spanOf.f
  simp only [if_pos cut_ok]
  by_cases g : order = true ∧ ¬ a ≤ b
  · refine ⟨b, a, ?_, bb, ba, fun _ => Rat.le_of_lt (Rat.not_le.1 g.2)⟩
    refine Ev.bind wa (Ev.bind wb ?_)
    have M := May_ev ba bb lim120
    rw [show decide (a ≤ b) = false from decide_eq_false g.2] at M
    simp only [g.1, gdt]
    refine Ev.bind M ?_
    simp only [Bool.not_false, Bool.and_self, if_true]
    exact Ev.now
  · refine ⟨a, b, ?_, ba, bb, fun h => Decidable.byContradiction fun x => g ⟨h, x⟩⟩
    refine Ev.bind wa (Ev.bind wb ?_)
    cases order with
    | false =>
      simp only [gdf, Option.bind_some, Bool.false_and, Bool.false_eq_true, if_false]
      exact Ev.now
    | true =>
      have M := May_ev ba bb lim120
      rw [show decide (a ≤ b) = true from decide_eq_true (Decidable.byContradiction fun x => g ⟨rfl, x⟩)] at M
      simp only [gdt]
      refine Ev.bind M ?_
      simp only [Bool.not_true, Bool.and_false, Bool.false_eq_true, if_false]
      exact Ev.now
end Go.Proofs.YtkccpkccdbfomaaGreatDoor.Pure

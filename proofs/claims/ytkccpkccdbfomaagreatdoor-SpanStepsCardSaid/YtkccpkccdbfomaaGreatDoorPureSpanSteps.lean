/- The law SpanSteps: of any two Spans all sums, differences, products and quotients, both together, and whether one lies in the other, or the errors. -/
import Derived.Test.YtkccpkccdbfomaaGreatDoorPureI2L34
namespace Go.Proofs.YtkccpkccdbfomaaGreatDoor.Pure
open Go.RowKit Go.Proofs.YtkccpkccdbfomaaGreatDoorK Go.Proofs.YtkccpkccdbfomaaGreatDoor.GSS
set_option linter.unusedVariables false
set_option linter.unusedSimpArgs false
set_option maxRecDepth 100000
theorem O9 {q : Rat} : q.num ≤ 0 ↔ q ≤ 0 := by
  have h := Rat.num_nonneg (q := -q)
  rw [Rat.neg_num] at h
  have : (0 ≤ -q) ↔ q ≤ 0 := by grind
  rw [← this, ← h]; omega
theorem Nr {q : Rat} : ((if q.num = 0 then (0 : Int) else if q.num < 0 then -1 else 1) ≤ 0) ↔ q ≤ 0 := by
  rw [← O9]; split
  · omega
  · split <;> omega
theorem Nk {q : Rat} : (0 ≤ (if q.num = 0 then (0 : Int) else if q.num < 0 then -1 else 1)) ↔ 0 ≤ q := by
  rw [← Rat.num_nonneg]; split
  · omega
  · split <;> omega
theorem Jd {l h : Rat} {B : Nat} (hl : Rs B l) (hh : Rs B h) (hB : B < LIM) : Ev (fun k => XU.f k (Sb l h) (Gb l h)) true := by
  unfold XU.f
  simp only [Sb_l, Sb_h, Gb_l, Gb_h]
  refine Ev.bind (MO hl hB) (Ev.bind (N9 hl hB) ?_)
  simp only [decide_true, gdt]
  refine Ev.bind (MO hh hB) (Ev.bind (N9 hh hB) ?_)
  simp only [decide_true, Bool.and_self]
  exact Ev.now
/-! ### the program's -/
theorem Vw (p : Rat) (t : List Rat) : wid p p (p :: t) = wid p p t := by
  show wid (if p < p then p else p) (if p < p then p else p) t = _
  simp only [ite_self]
theorem Wf {a b c d : Rat} {B : Nat} (ha : Rs B a) (hb : Rs B b) (hc : Rs B c) (hd : Rs B d) (h : 2 * (B * B) < LIM) (h1 : a ≤ b) (h2 : c ≤ d) : Ev (fun k => YZ.f k (Sb a b) (Sb c d)) (Sb (a - d) (b - c), none) := by
  have C := Jl ha hb hc hd (by omega)
  rw [if_neg (Rat.not_lt.2 h1), if_neg (Rat.not_lt.2 h2)] at C
  unfold YZ.f
  refine Ev.bind C ?_
  simp only [Option.isSome_none, Bool.false_eq_true, if_false, Sb_l, Sb_h]
  refine Ev.bind (OE ha hd h) (Ev.bind (OE hb hc h) ?_)
  exact Ev.bind (NN _ _) Ev.now
def quot4 (a b c d : Rat) : Rat × Rat := wid (a / c) (a / c) [a / d, b / c, b / d]
theorem Wu {a b c d : Rat} {B : Nat} (ha : Rs B a) (hb : Rs B b) (hc : Rs B c) (hd : Rs B d) (c0 : c ≠ 0) (d0 : d ≠ 0) : Rs (B * B) (quot4 a b c d).1 ∧ Rs (B * B) (quot4 a b c d).2 := by
  obtain ⟨m1, m2⟩ := GZ [a / d, b / c, b / d] (a / c) (a / c)
  have key : ∀ w, (w = a / c ∨ w ∈ [a / d, b / c, b / d]) → Rs (B * B) w := fun w h => by
    simp at h
    rcases h with rfl | rfl | rfl | rfl
    · exact ZX ha hc c0
    · exact ZX ha hd d0
    · exact ZX hb hc c0
    · exact ZX hb hd d0
  exact ⟨key _ m1, key _ m2⟩
theorem div4 {a b c d : Rat} {B : Nat} (ha : Rs B a) (hb : Rs B b) (hc : Rs B c) (hd : Rs B d) (h : B * B * (B * B) < LIM) (hb' : B * B < LIM) (c0 : c ≠ 0) (d0 : d ≠ 0) : Ev (fun k => Xe.f k (Sb a b) (Sb c d)) (Sb (quot4 a b c d).1 (quot4 a b c d).2, none) := by
  have W := GS (ZX ha hc c0) (ZX ha hd d0) (ZX hb hc c0) (ZX hb hd d0) h
  unfold Xe.f
  simp only [Sb_l, Sb_h]
  refine Ev.bind (GW ha hc hb' c0) ?_
  simp only [Option.isSome_none, Bool.false_eq_true, if_false, if_pos (show (0 : Nat) + 1 ≤ 2199023255424 by decide)]
  refine Ev.bind (GW ha hd hb' d0) ?_
  simp only [Option.isSome_none, Bool.false_eq_true, if_false, List.length_singleton, if_pos (show (1 : Nat) + 1 ≤ 2199023255424 by decide)]
  refine Ev.bind (GW hb hc hb' c0) ?_
  simp only [Option.isSome_none, Bool.false_eq_true, if_false, List.length_append, List.length_singleton, if_pos (show (1 : Nat) + 1 + 1 ≤ 2199023255424 by decide)]
  refine Ev.bind (GW hb hd hb' d0) ?_
  simp only [Option.isSome_none, Bool.false_eq_true, if_false, List.length_append, List.length_singleton, if_pos (show (1 : Nat) + 1 + 1 + 1 ≤ 2199023255424 by decide)]
  exact Ev.bind W Ev.now
theorem Ws {a b c d : Rat} {B : Nat} (ha : Rs B a) (hb : Rs B b) (hc : Rs B c) (hd : Rs B d) (h : B * B * (B * B) < LIM) (h1 : a ≤ b) (h2 : c ≤ d) : Ev (fun k => Y1.f k (Sb a b) (Sb c d)) (if c ≤ 0 ∧ 0 ≤ d then (Zs, some 11) else (Sb (quot4 a b c d).1 (quot4 a b c d).2, none)) := by
  have p := ha.pos
  obtain ⟨q1, -⟩ := ZB (show 1 ≤ B * B from Nat.mul_pos p p) (show 1 ≤ B * B from Nat.mul_pos p p)
  have hb' : B * B < LIM := by omega
  have C := Jl ha hb hc hd hb'
  rw [if_neg (Rat.not_lt.2 h1), if_neg (Rat.not_lt.2 h2)] at C
  unfold Y1.f
  refine Ev.bind C ?_
  simp only [Option.isSome_none, Bool.false_eq_true, if_false, Sb_l, Sb_h, VH, Option.bind_some, Ja, decide_eq_decide.2 (Nr (q := c))]
  by_cases g : c ≤ 0
  · simp only [decide_eq_true g, gdt, Option.bind_some, Bool.true_and, decide_eq_decide.2 (Nk (q := d))]
    by_cases g2 : 0 ≤ d
    · simp only [decide_eq_true g2, if_true, if_pos (show c ≤ 0 ∧ 0 ≤ d from ⟨g, g2⟩), wb0]; exact Ev.now
    · simp only [decide_eq_false g2, Bool.false_eq_true, if_false, if_neg (fun x : c ≤ 0 ∧ 0 ≤ d => g2 x.2)]
      have c0 : c ≠ 0 := by grind
      have d0 : d ≠ 0 := by grind
      exact Ev.bind (div4 ha hb hc hd h hb' c0 d0) Ev.now
  · simp only [decide_eq_false g, gdf, Option.bind_some, Bool.false_and, Bool.false_eq_true, if_false, if_neg (fun x : c ≤ 0 ∧ 0 ≤ d => g x.1)]
    have c0 : c ≠ 0 := by grind
    have d0 : d ≠ 0 := by grind
    exact Ev.bind (div4 ha hb hc hd h hb' c0 d0) Ev.now
/-- where a Span can't be -/
theorem WQ {a b c d : Rat} {B : Nat} (ha : Rs B a) (hb : Rs B b) (hc : Rs B c) (hd : Rs B d) (h : B * B < LIM) (hx : b < a ∨ d < c) : Ev (fun k => Yt.f k (Sb a b) (Sb c d)) (Zs, some 1) ∧ Ev (fun k => YZ.f k (Sb a b) (Sb c d)) (Zs, some 1) ∧ Ev (fun k => Y3.f k (Sb a b) (Sb c d)) (Zs, some 1) ∧ Ev (fun k => Y1.f k (Sb a b) (Sb c d)) (Zs, some 1) ∧ Ev (fun k => YV.f k (Sb a b) (Sb c d)) (Zs, some 1) ∧ Ev (fun k => YR.f k (Sb a b) (Sb c d)) (false, some 1) := by
  have C := Jl ha hb hc hd h
  have e : (if b < a then some (1 : Int) else if d < c then some 1 else none) = some 1 := by
    by_cases g : b < a
    · rw [if_pos g]
    · rw [if_neg g, if_pos (hx.resolve_left g)]
  rw [e] at C
  unfold Yt.f YZ.f Y3.f Y1.f YV.f YR.f
  refine ⟨Ev.bind C ?_, Ev.bind C ?_, Ev.bind C ?_, Ev.bind C ?_, Ev.bind C ?_, Ev.bind C ?_⟩ <;> simp only [Option.isSome_some, if_true, wb0] <;> exact Ev.now
/-! ### the document's -/
theorem VW {B : Nat} (hB : B * B < LIM) : ∀ (T : List Rat) (F : List QJ) (i : Nat) (lo hi : Rat), (∀ j (h : j < T.length), rd F ((i + j : Nat) : Int) = Fb T[j]) → F.length = i + T.length → F.length < 1000 → Rs B lo → Rs B hi → (∀ x ∈ T, Rs B x) → Ev (fun k => (Qr.hs k).l0 F (Fb lo).f_N.f_Neg (Fb lo).f_N.f_D (Fb lo).f_D.f_Neg (Fb lo).f_D.f_D (Fb hi).f_N.f_Neg (Fb hi).f_N.f_D (Fb hi).f_D.f_Neg (Fb hi).f_D.f_D (i : Int)) (Gb (wid lo hi T).1 (wid lo hi T).2)
  | [], F, i, lo, hi, he, hl, h9, hlo, hhi, hL => by
    refine Ev.step (fun k => rfl) ?_
    simp only [Qr.hs, Qr.b0, if_neg (show ¬ (i : Int) < (F.length : Int) by simp at hl; omega)]
    exact Ev.now
  | n :: t, F, i, lo, hi, he, hl, h9, hlo, hhi, hL => by
    have e0 := he 0 (by simp)
    rw [show (n :: t)[0] = n from rfl, show i + 0 = i from rfl] at e0
    have hn := hL n (List.mem_cons_self ..)
    have hlt : i < F.length := by rw [hl]; simp
    have c1 : (0 : Int) ≤ (i : Int) ∧ (i : Int) < (F.length : Int) := by omega
    have ih : ∀ lo hi, Rs B lo → Rs B hi → Ev (fun k => (Qr.hs k).l0 F (Fb lo).f_N.f_Neg (Fb lo).f_N.f_D (Fb lo).f_D.f_Neg (Fb lo).f_D.f_D (Fb hi).f_N.f_Neg (Fb hi).f_N.f_D (Fb hi).f_D.f_Neg (Fb hi).f_D.f_D ((i + 1 : Nat) : Int)) (Gb (wid lo hi t).1 (wid lo hi t).2) := fun lo hi h1 h2 =>
      VW hB t F (i + 1) lo hi (fun j hj => by
        have := he (j + 1) (by simp; omega)
        rw [show i + 1 + j = i + (j + 1) by omega, this]; rfl) (by rw [hl]; simp; omega) h9 h1 h2 (fun x hx => hL x (List.mem_cons_of_mem _ hx))
    refine Ev.step (fun k => rfl) ?_
    simp only [Qr.hs, Qr.b0, if_pos (show (i : Int) < (F.length : Int) by omega), if_pos c1, e0, J3]
    refine Ev.bind (JB hn hlo hB) ?_
    simp only [Qr.j2, if_pos c1, e0, J3, wsucc (show i < 1000000000 by omega), decide_eq_true_eq]
    unfold wid
    by_cases g1 : n < lo
    · simp only [if_pos g1]
      refine Ev.bind (JB hhi hn hB) ?_
      simp only [decide_eq_true_eq]
      by_cases g2 : hi < n
      · simp only [if_pos g2]; exact ih _ _ hn hn
      · simp only [if_neg g2]; exact ih _ _ hn hhi
    · simp only [if_neg g1]
      refine Ev.bind (JB hhi hn hB) ?_
      simp only [decide_eq_true_eq]
      by_cases g2 : hi < n
      · simp only [if_pos g2]; exact ih _ _ hlo hn
      · simp only [if_neg g2]; exact ih _ _ hlo hhi
theorem Gh {p q r s : Rat} {B : Nat} (hp : Rs B p) (hq : Rs B q) (hr : Rs B r) (hs : Rs B s) (hB : B * B < LIM) : Ev (fun k => Qr.f k [Fb p, Fb q, Fb r, Fb s]) (Gb (wid p p [q, r, s]).1 (wid p p [q, r, s]).2) := by
  unfold Qr.f
  simp only [if_pos (show (0 : Int) ≤ 0 ∧ 0 < (([Fb p, Fb q, Fb r, Fb s] : List QJ).length : Int) by simp), show rd [Fb p, Fb q, Fb r, Fb s] 0 = Fb p from rfl]
  rw [← Vw]
  refine VW hB [p, q, r, s] [Fb p, Fb q, Fb r, Fb s] 0 p p (fun j h => ?_) rfl (by simp) hp hp (fun x hx => ?_)
  · match j, h with
    | 0, _ => rfl
    | 1, _ => rfl
    | 2, _ => rfl
    | 3, _ => rfl
  · simp at hx; rcases hx with rfl | rfl | rfl | rfl <;> assumption
theorem Vm {a b c d : Rat} {B : Nat} (ha : Rs B a) (hb : Rs B b) (hc : Rs B c) (hd : Rs B d) (h : 2 * (B * B) < LIM) : Ev (fun k => YD.f k (Gb a b) (Gb c d) false) (Gb (a + c) (b + d)) ∧ Ev (fun k => YD.f k (Gb a b) (Gb c d) true) (Gb (a - d) (b - c)) := by
  unfold YD.f
  simp only [Gb_l, Gb_h, Bool.false_eq_true, if_false, if_true]
  exact ⟨Ev.bind (OM ha hc h) (Ev.bind (OM hb hd h) Ev.now), Ev.bind (OJ ha hd h) (Ev.bind (OJ hb hc h) Ev.now)⟩
theorem VJ {a b c d : Rat} {B : Nat} (ha : Rs B a) (hb : Rs B b) (hc : Rs B c) (hd : Rs B d) (h : B * B * (B * B) < LIM) (hb' : B * B < LIM) : Ev (fun k => YC.f k (Gb a b) (Gb c d) false) (Gb (four a b c d).1 (four a b c d).2) ∧ (c ≠ 0 → d ≠ 0 → Ev (fun k => YC.f k (Gb a b) (Gb c d) true) (Gb (quot4 a b c d).1 (quot4 a b c d).2)) := by
  unfold YC.f
  simp only [Gb_l, Gb_h]
  refine ⟨?_, fun c0 d0 => ?_⟩
  · have W := Gh (ZZ ha hc) (ZZ ha hd) (ZZ hb hc) (ZZ hb hd) h
    exact Ev.bind (G3 ha hc hb') (Ev.bind (G3 ha hd hb') (Ev.bind (G3 hb hc hb') (Ev.bind (G3 hb hd hb') (Ev.bind W Ev.now))))
  · have W := Gh (ZX ha hc c0) (ZX ha hd d0) (ZX hb hc c0) (ZX hb hd d0) h
    exact Ev.bind (Mb ha hc hb' c0) (Ev.bind (Mb ha hd hb' d0) (Ev.bind (Mb hb hc hb' c0) (Ev.bind (Mb hb hd hb' d0) (Ev.bind W Ev.now))))
theorem Uj {a b c d : Rat} {B : Nat} (ha : Rs B a) (hb : Rs B b) (hc : Rs B c) (hd : Rs B d) (h : B * B < LIM) : Ev (fun k => YM.f k (Gb a b) (Gb c d)) (decide (c ≤ a ∧ b ≤ d)) := by
  unfold YM.f
  simp only [Gb_l, Gb_h]
  refine Ev.bind (JB ha hc h) ?_
  by_cases g : a < c
  · rw [show decide (c ≤ a ∧ b ≤ d) = false from decide_eq_false fun x => absurd g (Rat.not_lt.2 x.1)]
    simp only [decide_eq_true g, Bool.not_true, gdf, Option.bind_some, Bool.false_and]; exact Ev.now
  · simp only [decide_eq_false g, Bool.not_false, gdt, Bool.true_and]
    refine Ev.bind (JB hd hb h) ?_
    rw [show (!decide (d < b)) = decide (c ≤ a ∧ b ≤ d) by rw [← decide_not, decide_eq_decide, Rat.not_lt]; exact ⟨fun x => ⟨Rat.not_lt.1 g, x⟩, fun x => x.2⟩]
    exact Ev.now
theorem Up (k : Nat) (c d : Rat) : YN.f k (Gb c d) = some (decide (c ≤ 0 ∧ 0 ≤ d)) := by
  unfold YN.f
  simp only [Gb_l, Gb_h, Gq, Fb_n, Gq, Je, Option.bind_some, decide_eq_decide.2 (Nr (q := c))]
  by_cases g : c ≤ 0
  · simp only [decide_eq_true g, gdt, Je, Option.bind_some, Bool.true_and, decide_eq_decide.2 (Nk (q := d))]
    congr 1; rw [decide_eq_decide]; exact ⟨fun x => ⟨g, x⟩, fun x => x.2⟩
  · simp only [decide_eq_false g, gdf, Option.bind_some, Bool.false_and]
    rw [decide_eq_false fun x => g x.1]
def T60 : Nat := 10 ^ 60
theorem lim60 : T60 * T60 * (T60 * T60) < LIM ∧ 2 * (T60 * T60) < LIM ∧ T60 * T60 < LIM ∧ 1 ≤ T60 := by decide +kernel
theorem UA {l : Option Int} {bad : Int} (h : errN l = bad) : Ev (fun k => radomelaw34_SpanSteps.j1 k Zs.f_Low.f_n.f_neg Zs.f_Low.f_n.f_w Zs.f_Low.f_d.f_neg Zs.f_Low.f_d.f_w Zs.f_High.f_n.f_neg Zs.f_High.f_n.f_w Zs.f_High.f_d.f_neg Zs.f_High.f_d.f_w (some 1) (some 1) (some 1) (some 1) (some 1) false (some 1) l bad) true := by
  unfold radomelaw34_SpanSteps.j1
  subst h
  simp only [show errN (some 1) = 1 from rfl, decide_true, Bool.and_self, Bool.not_false, gdt]
  refine Ev.bind (show Ev _ (strOf [48, 47, 49]) from NW) ?_
  simp only [show decide (strOf [48, 47, 49] = str_10) = true by decide +kernel, Bool.and_self, gdt, Bool.true_and]
  exact Ev.bind L34.sure_ev Ev.now
theorem Ng (p q : Yf) (order : Bool) (h0 : ∀ x ∈ p.f_L.e0, (Lit.int .u8 x).wf = true) (h0' : p.f_L.e0.length < 9000000000000000000) (h1 : ∀ x ∈ p.f_L.e1, (Lit.int .u8 x).wf = true) (h1' : p.f_L.e1.length < 9000000000000000000) (h2 : ∀ x ∈ p.f_L.e2, (Lit.int .u8 x).wf = true) (h2' : p.f_L.e2.length < 9000000000000000000) (h3 : ∀ x ∈ p.f_L.e3, (Lit.int .u8 x).wf = true) (h3' : p.f_L.e3.length < 9000000000000000000)
    (g0 : ∀ x ∈ q.f_L.e0, (Lit.int .u8 x).wf = true) (g0' : q.f_L.e0.length < 9000000000000000000) (g1 : ∀ x ∈ q.f_L.e1, (Lit.int .u8 x).wf = true) (g1' : q.f_L.e1.length < 9000000000000000000) (g2 : ∀ x ∈ q.f_L.e2, (Lit.int .u8 x).wf = true) (g2' : q.f_L.e2.length < 9000000000000000000) (g3 : ∀ x ∈ q.f_L.e3, (Lit.int .u8 x).wf = true) (g3' : q.f_L.e3.length < 9000000000000000000) : Ev (fun k => radomelaw34_SpanSteps.f k p q order) true := by
  obtain ⟨a, b, wp, ra, rb, -⟩ := Nw (order := order) h0 h0' h1 h1' h2 h2' h3 h3'
  obtain ⟨c, d, wq, rc, rd_, -⟩ := Nw (order := order) g0 g0' g1 g1' g2 g2' g3 g3'
  have h1200 : 10 ^ 60 < 10 ^ 1200 := by decide +kernel
  have GP := Mj ra rb h1200
  have GQ := Mj rc rd_ h1200
  change Rs T60 a at ra; change Rs T60 b at rb; change Rs T60 c at rc; change Rs T60 d at rd_
  obtain ⟨k4, k2, k1, kp⟩ := lim60
  have MA := MH ra rb k1
  have MB := MH rc rd_ k1
  have IO := U8 ra rb k1
  unfold radomelaw34_SpanSteps.f
  refine Ev.bind wp (Ev.bind wq (Ev.bind GP (Ev.bind GQ ?_)))
  by_cases ok : a ≤ b ∧ c ≤ d
  · obtain ⟨ab, cd⟩ := ok
    rw [if_neg (Rat.not_lt.2 ab)] at IO
    rw [decide_eq_true ab] at MA
    rw [decide_eq_true cd] at MB
    have ID := Ws ra rb rc rd_ k4 ab cd
    refine Ev.bind (V4 ra rb rc rd_ k2 ab cd) (Ev.bind (Wf ra rb rc rd_ k2 ab cd) (Ev.bind (V9 ra rb rc rd_ k4 ab cd) (Ev.bind ID (Ev.bind (Vh ra rb rc rd_ k1 ab cd) (Ev.bind (UP ra rb rc rd_ k1 ab cd) ?_)))))
    simp only [Sb_l, Sb_h]
    refine Ev.bind IO (Ev.bind MA ?_)
    simp only [Bool.not_true, Bool.not_false, gdt]
    refine Ev.bind MB ?_
    obtain ⟨S1, S2⟩ := Vm ra rb rc rd_ k2
    obtain ⟨F1, F2⟩ := VJ ra rb rc rd_ k4 k1
    have su := UF ra rc; have su' := UF rb rd_
    have sd := U6 ra rd_; have sd' := U6 rb rc
    obtain ⟨fr, fr'⟩ := Wt ra rb rc rd_
    have wr : Rs T60 (wid a a [b, c, d]).1 ∧ Rs T60 (wid a a [b, c, d]).2 := by
      obtain ⟨m1, m2⟩ := GZ [b, c, d] a a
      have key : ∀ w, (w = a ∨ w ∈ [b, c, d]) → Rs T60 w := fun w h => by
        simp at h; rcases h with rfl | rfl | rfl | rfl <;> assumption
      exact ⟨key _ m1, key _ m2⟩
    have k0 : T60 < LIM := by have := (ZB kp kp).1; omega
    simp only [Option.isSome_none, Bool.not_true, Bool.or_false, Bool.false_eq_true, if_false, Bool.not_false, gdt]
    refine Ev.bind (Jd ra rb k0) ?_
    simp only [Bool.not_true, Bool.or_false, Bool.not_false, gdt]
    refine Ev.bind S1 (Ev.bind (Jd su su' k2) ?_)
    simp only [Bool.not_true, Bool.or_false, Bool.not_false, gdt]
    refine Ev.bind S2 (Ev.bind (Jd sd sd' k2) ?_)
    simp only [Bool.not_true, Bool.or_false, Bool.not_false, gdt]
    refine Ev.bind F1 (Ev.bind (Jd fr fr' k1) ?_)
    simp only [Bool.not_true, Bool.or_false, Bool.not_false, gdt, Gb_l, Gb_h]
    refine Ev.bind (Gh ra rb rc rd_ k1) (Ev.bind (Jd wr.1 wr.2 k0) ?_)
    simp only [Bool.not_true, Bool.or_false, Bool.not_false, gdt]
    refine Ev.bind (Uj ra rb rc rd_ k1) ?_
    simp only [beq_self_eq_true, Bool.not_true, Bool.or_false, Bool.false_eq_true, if_false, Up, Option.bind_some, decide_eq_true_eq]
    by_cases g : c ≤ 0 ∧ 0 ≤ d
    · simp only [if_pos g, errN, Option.getD_some, decide_true, gdt]
      refine Ev.bind (show Ev _ (strOf [48, 47, 49]) from NW) ?_
      simp only [show decide (strOf [48, 47, 49] = str_10) = true by decide +kernel, Bool.and_self, gdt, Bool.true_and]
      exact Ev.bind L34.sure_ev Ev.now
    · have c0 : c ≠ 0 := by grind
      have d0 : d ≠ 0 := by grind
      obtain ⟨qr, qr'⟩ := Wu ra rb rc rd_ c0 d0
      simp only [if_neg g, Option.isNone_none, gdt]
      refine Ev.bind (F2 c0 d0) (Ev.bind (Jd qr qr' k1) ?_)
      simp only [Bool.and_self, gdt, Bool.true_and]
      exact Ev.bind L34.sure_ev Ev.now
  · have hx : b < a ∨ d < c := by
      by_cases g : a ≤ b
      · exact .inr (Rat.not_le.1 fun x => ok ⟨g, x⟩)
      · exact .inl (Rat.not_le.1 g)
    obtain ⟨B1, B2, B3, B4, B5, B6⟩ := WQ ra rb rc rd_ k1 hx
    refine Ev.bind B1 (Ev.bind B2 (Ev.bind B3 (Ev.bind B4 (Ev.bind B5 (Ev.bind B6 ?_)))))
    simp only [Sb_l, Sb_h]
    refine Ev.bind IO (Ev.bind MA ?_)
    have fin : Ev (fun k => (Yp.f k (Gb a b)).bind fun y153 => if (!y153) = true then (radomelaw34_SpanSteps.j1 k Zs.f_Low.f_n.f_neg Zs.f_Low.f_n.f_w Zs.f_Low.f_d.f_neg Zs.f_Low.f_d.f_w Zs.f_High.f_n.f_neg Zs.f_High.f_n.f_w Zs.f_High.f_d.f_neg Zs.f_High.f_d.f_w (some 1) (some 1) (some 1) (some 1) (some 1) false (some 1) (if b < a then ((Zs, some 1) : QL × Option Int) else (Sb a b, none)).2 1) else (radomelaw34_SpanSteps.j1 k Zs.f_Low.f_n.f_neg Zs.f_Low.f_n.f_w Zs.f_Low.f_d.f_neg Zs.f_Low.f_d.f_w Zs.f_High.f_n.f_neg Zs.f_High.f_n.f_w Zs.f_High.f_d.f_neg Zs.f_High.f_d.f_w (some 1) (some 1) (some 1) (some 1) (some 1) false (some 1) (if b < a then ((Zs, some 1) : QL × Option Int) else (Sb a b, none)).2 0)) true := by
      refine Ev.bind MA ?_
      by_cases g : a ≤ b
      · simp only [decide_eq_true g, Bool.not_true, Bool.false_eq_true, if_false, if_neg (Rat.not_lt.2 g)]
        exact UA rfl
      · simp only [decide_eq_false g, Bool.not_false, if_true, if_pos (Rat.not_le.1 g)]
        exact UA rfl
    by_cases g : a ≤ b
    · have g2 : ¬ c ≤ d := fun x => ok ⟨g, x⟩
      rw [decide_eq_false g2] at MB
      simp only [decide_eq_true g, Bool.not_true, Bool.not_false, gdt]
      refine Ev.bind MB ?_
      simp only [Bool.not_false, Bool.or_true, if_true]
      exact fin
    · simp only [decide_eq_false g, Bool.not_false, Bool.not_true, gdf, Option.bind_some, Bool.or_true, Bool.true_or, if_true]
      exact fin
theorem SpanSteps : radomelaw34_SpanSteps.Pure := fun p q order h h' => by
  obtain ⟨⟨⟨⟨-, a0⟩, w0⟩, ⟨⟨-, a1⟩, w1⟩, ⟨⟨-, a2⟩, w2⟩, ⟨⟨-, a3⟩, w3⟩⟩, -⟩ := h
  obtain ⟨⟨⟨⟨-, b0⟩, v0⟩, ⟨⟨-, b1⟩, v1⟩, ⟨⟨-, b2⟩, v2⟩, ⟨⟨-, b3⟩, v3⟩⟩, -⟩ := h'
  exact (Ng p q order w0 (by omega) w1 (by omega) w2 (by omega) w3 (by omega) v0 (by omega) v1 (by omega) v2 (by omega) v3 (by omega)).ex
end Go.Proofs.YtkccpkccdbfomaaGreatDoor.Pure

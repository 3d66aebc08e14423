/- How far a step is off: the law's inequality, in fractions. -/
import Derived.Test.YtkccpkccdbfomaaGreatDoorPureQN2
namespace Go.Proofs.YtkccpkccdbfomaaGreatDoor.Pure
open Go.RowKit Go.Proofs.YtkccpkccdbfomaaGreatDoorK Go.Proofs.YtkccpkccdbfomaaGreatDoor.GBH
set_option linter.unusedVariables false
set_option linter.unusedSimpArgs false
set_option maxRecDepth 100000
/-! ### sizes -/
def Ab (u t : Rat) : Prop := -t ≤ u ∧ u ≤ t
theorem Nw {u t : Rat} : rab u ≤ t ↔ Ab u t := by
  unfold rab Ab
  split <;> constructor <;> intro h <;> (try refine ⟨?_, ?_⟩) <;> grind
theorem WN (u : Rat) : Ab u (rab u) := Nw.1 Rat.le_refl
theorem Uo {u v s t : Rat} (h1 : Ab u s) (h2 : Ab v t) : Ab (u + v) (s + t) := by
  unfold Ab at *; constructor <;> grind
theorem Qad {u v s t : Rat} (h1 : Ab u s) (h2 : Ab v t) : Ab (u * v) (s * t) := by
  unfold Ab at *
  have a1 : 0 ≤ s - u := by grind
  have a2 : 0 ≤ s + u := by grind
  have b1 : 0 ≤ t - v := by grind
  have b2 : 0 ≤ t + v := by grind
  have p1 := Rat.mul_nonneg a1 b2
  have p2 := Rat.mul_nonneg a2 b1
  have p3 := Rat.mul_nonneg a2 b2
  have p4 := Rat.mul_nonneg a1 b1
  constructor <;> grind
theorem QaH {u s t : Rat} (h : Ab u s) (hs : s ≤ t) : Ab u t := by unfold Ab at *; constructor <;> grind
theorem Wy (r s : Rat) : r ≤ rmax r s ∧ s ≤ rmax r s := by unfold rmax; split <;> constructor <;> grind
theorem Ws {r s t : Rat} (h1 : r ≤ t) (h2 : s ≤ t) : rmax r s ≤ t := by unfold rmax; split <;> assumption
theorem OV : ∀ {l : List (Rat × Rat)} {m t : Rat}, (∀ p ∈ l, rab (p.1 - p.2) ≤ t) → m ≤ t → offR l m ≤ t
  | [], m, t, _, h => h
  | p :: l, m, t, hp, h => OV (l := l) (fun q hq => hp q (List.mem_cons_of_mem _ hq)) (Ws h (hp p (List.mem_cons_self ..)))
theorem GD : ∀ {l : List (Rat × Rat)} {m : Rat}, m ≤ offR l m ∧ ∀ p ∈ l, rab (p.1 - p.2) ≤ offR l m
  | [], m => ⟨Rat.le_refl, fun p hp => (List.not_mem_nil hp).elim⟩
  | q :: l, m => by
    have ih := GD (l := l) (m := rmax m (rab (q.1 - q.2)))
    have h := Wy m (rab (q.1 - q.2))
    refine ⟨Rat.le_trans h.1 ih.1, fun p hp => ?_⟩
    rcases List.mem_cons.1 hp with rfl | hp
    · exact Rat.le_trans h.2 ih.1
    · exact ih.2 p hp
/-! ### the sum of products -/
def q40 (n : Int) : Rat := (n : Rat) / 1099511627776
theorem Qai (x y : Int) : pr x * pr y = q40 (x * y) := by
  unfold q40; rw [JZ, JZ, Rat.intCast_mul]; grind
theorem WC (x y : Int) : q40 x + q40 y = q40 (x + y) := by
  unfold q40; rw [Rat.intCast_add]; grind
theorem UP : ∀ (r v : List Int) (z : Int), dotR r v (q40 z) = q40 (dotZ r v z)
  | [], _, z => by unfold dotR dotZ; rfl
  | x :: r, [], z => by unfold dotR dotZ; rfl
  | x :: r, y :: v, z => by
    unfold dotR dotZ
    rw [Qai, WC]; exact UP r v _
theorem Vg {x Z : Int} (h : Near x Z) : Ab (pr x - q40 Z) half := by
  unfold Near at h
  have h1 : ((-1048576 : Int) : Rat) ≤ ((2 * (x * 1048576 - Z) : Int) : Rat) := Rat.intCast_le_intCast.2 h.1
  have h2 : ((2 * (x * 1048576 - Z) : Int) : Rat) ≤ ((1048576 : Int) : Rat) := Rat.intCast_le_intCast.2 h.2
  have eh : half = 1 / 2097152 := by unfold half; rw [Rat.mkRat_eq_div]; rfl
  rw [Rat.intCast_mul, Rat.intCast_sub, Rat.intCast_mul] at h1 h2
  unfold Ab q40
  rw [JZ, eh]
  have c1 : ((1048576 : Int) : Rat) = 1048576 := rfl
  have c2 : ((2 : Int) : Rat) = 2 := rfl
  have c3 : ((-1048576 : Int) : Rat) = -1048576 := rfl
  rw [c1, c2] at h1 h2
  rw [c3] at h1
  constructor <;> grind
theorem OE {t : Rat} : ∀ (r a b : List Int) (m n s : Rat), a.length = r.length → b.length = r.length → (∀ p ∈ (a.map pr).zip (b.map pr), rab (p.1 - p.2) ≤ t) → Ab (m - n) s → Ab (dotR r a m - dotR r b n) (s + pr (isum r) * t)
  | [], [], [], m, n, s, _, _, _, h => by
    unfold dotR isum; rw [J2, Rat.zero_mul, Rat.add_zero]; exact h
  | x :: r, y :: a, z :: b, m, n, s, ha, hb, hp, h => by
    have h1 : rab (pr y - pr z) ≤ t := hp (pr y, pr z) (by simp)
    have h2 := Qad (WN (pr x)) (Nw.1 h1)
    rw [UQ] at h2
    have h3 := Uo h h2
    have ih := OE r a b (m + pr x * pr y) (n + pr x * pr z) (s + pr (x.natAbs : Int) * t) (by simpa using ha) (by simpa using hb) (fun p hq => hp p (by simp only [List.map_cons, List.zip_cons_cons, List.mem_cons]; exact .inr hq)) (by
      have e : m + pr x * pr y - (n + pr x * pr z) = m - n + pr x * (pr y - pr z) := by grind
      rw [e]; exact h3)
    unfold dotR isum
    rw [← Mo]
    have e : s + (pr (x.natAbs : Int) + pr (isum r)) * t = s + pr (x.natAbs : Int) * t + pr (isum r) * t := by grind
    rw [e]; exact ih
theorem MT : ∀ {L : List (List Int)} {m : Int}, m ≤ imax L m ∧ ∀ r ∈ L, isum r ≤ imax L m
  | [], m => ⟨Int.le_refl m, fun r hr => (List.not_mem_nil hr).elim⟩
  | q :: L, m => by
    unfold imax
    have ih := MT (L := L) (m := if m < isum q then isum q else m)
    refine ⟨Int.le_trans ?_ ih.1, fun r hr => ?_⟩
    · split <;> omega
    · rcases List.mem_cons.1 hr with rfl | hr
      · refine Int.le_trans ?_ ih.1; split <;> omega
      · exact ih.2 r hr
theorem Wj {a b : Int} (h : a ≤ b) : pr a ≤ pr b := by
  rw [← Rat.not_lt]; intro h2; have := (Ui b a).1 h2; omega
/-- A row's step: no farther than told. -/
theorem WK {r a b : List Int} {x N : Int} {t : Rat} (ha : a.length = r.length) (hb : b.length = r.length) (hp : ∀ p ∈ (a.map pr).zip (b.map pr), rab (p.1 - p.2) ≤ t) (ht : 0 ≤ t) (hN : isum r ≤ N) (hx : Near x (dotZ r a 0)) : rab (pr x - dotR r b 0) ≤ t * pr N + half := by
  rw [Nw]
  have h1 := Vg hx
  have z0 : q40 0 = 0 := by decide +kernel
  have e0 := UP r a 0
  rw [z0] at e0
  rw [← e0] at h1
  have h2 := OE r a b 0 0 0 ha hb hp (by unfold Ab; constructor <;> grind)
  have h3 := Uo h1 h2
  have e : pr x - dotR r a 0 + (dotR r a 0 - dotR r b 0) = pr x - dotR r b 0 := by grind
  rw [e] at h3
  refine QaH h3 ?_
  have hn : 0 ≤ pr N - pr (isum r) := by have := Wj hN; grind
  have := Rat.mul_nonneg hn ht
  grind
/-! ### Off and Step, of what came of a law -/
def O2 : Nat := 2 * (M63 * dB 6)
theorem QaF : 2 * (O2 * O2) < LIM := by decide +kernel
theorem Oe {a b : List Rat} (hab : a.length = b.length) (hn : a.length ≤ 1000) (ha : ∀ r ∈ a, Rs M63 r) (hb : ∀ r ∈ b, Rs (dB 6) r) : ∀ (d i : Nat) (x : Qe) (m : Rat), a.length = i + d → Lk x m → Rs O2 m → ∃ x', Lk x' (offR ((a.drop i).zip (b.drop i)) m) ∧ Ev (fun k => (Xj.hs k).l0 (b.map Rb) false [] false [] none x.f_n.f_neg x.f_n.f_w x.f_d.f_neg x.f_d.f_w (a.map Rb) (a.length : Int) (i : Int)) (x', none)
  | 0, i, x, m, e, hx, hm => by
    refine ⟨x, by rw [List.drop_eq_nil_of_le (by omega)]; exact hx, ?_⟩
    refine Ev.step (fun k => rfl) ?_
    simp only [Xj.hs, Xj.b0, if_neg (show ¬ (i : Int) < (a.length : Int) by omega), reta]; exact Ev.now
  | d + 1, i, x, m, e, hx, hm => by
    have hi : i < a.length := by omega
    have hj : i < b.length := by omega
    have r1 := ha _ (List.getElem_mem hi); have r2 := hb _ (List.getElem_mem hj)
    have hs := Mj r1 r2
    have hl := QaF
    have q1 : 1 ≤ O2 := by decide +kernel
    have hO : O2 ≤ O2 * O2 := Nat.le_mul_of_pos_right _ q1
    obtain ⟨y, hy, ey⟩ := Gc hx hm (JK hs) (show O2 * (2 * (M63 * dB 6)) < LIM from by show O2 * O2 < LIM; omega)
    obtain ⟨x', h1, h2⟩ := Oe hab hn ha hb d (i + 1) y _ (by omega) hy (GL hm (JK hs))
    rw [NC hi hj]
    refine ⟨x', h1, ?_⟩
    refine Ev.step (fun k => rfl) ?_
    simp only [Xj.hs, Xj.b0, List.length_map, if_pos (show (i : Int) < (a.length : Int) by omega), if_pos (show (0 : Int) ≤ (i : Int) ∧ (i : Int) < (a.length : Int) by omega), if_pos (show (0 : Int) ≤ (i : Int) ∧ (i : Int) < (b.length : Int) by omega), rdm hi, rdm hj, reta, wsucc (show i < 1000000000 by omega)]
    refine Ev.bind (MX r1 r2 (by show O2 < LIM; omega)) ?_
    simp only [Option.isSome_none, Bool.false_eq_true, if_false]
    refine Ev.bind (MN hs (by show 2 * O2 < LIM; omega)) ?_
    simp only [Option.isSome_none, Bool.false_eq_true, if_false]
    refine Ev.bind ey ?_
    simp only [Option.isSome_none, Bool.false_eq_true, if_false]
    exact h2
theorem Wo {a b : List Rat} (hab : a.length = b.length) (hn : a.length ≤ 64) (ha : ∀ r ∈ a, Rs M63 r) (hb : ∀ r ∈ b, Rs (dB 6) r) : ∃ x, Lk x (offR (a.zip b) 0) ∧ Ev (fun k => Xj.f k (a.map Rb) (b.map Rb)) (x, none) := by
  obtain ⟨x, h1, h2⟩ := Oe hab (by omega) ha hb a.length 0 Z0 0 (by omega) lk_z (Jv.mono (by decide +kernel))
  rw [List.drop_zero, List.drop_zero] at h1
  refine ⟨x, h1, ?_⟩
  unfold Xj.f
  have e : ((!decide ((a.length : Int) = (b.length : Int))) || (decide (64 < (a.length : Int)))) = false := by
    rw [decide_eq_true (by omega), decide_eq_false (by omega)]; rfl
  rw [ZF.1, ZF.2.1, ZF.2.2.1, ZF.2.2.2] at h2
  simp only [List.length_map, e, Bool.false_eq_true, if_false]
  exact h2
theorem Of : ∀ {l : List (Rat × Rat)} {m : Rat}, (∀ p ∈ l, Rs M63 p.1 ∧ Rs (dB 6) p.2) → Rs O2 m → Rs O2 (offR l m)
  | [], m, _, h => h
  | p :: l, m, hp, h => Of (l := l) (fun q hq => hp q (List.mem_cons_of_mem _ hq)) (GL h (JK (Mj (hp p (List.mem_cons_self ..)).1 (hp p (List.mem_cons_self ..)).2)))
theorem V3 {x a : Qe} {r s : Rat} {B C : Nat} (hx : Lk x r) (ha : Lk a s) (hr : Rs B r) (hs : Rs C s) (h : B * C < LIM) : Ev (fun k => Xx.f k x a) (Rb (r * s), none) := by
  rcases hx with rfl | ⟨rfl, rfl⟩
  · exact VQ ha hr hs h
  · rcases ha with rfl | ⟨rfl, rfl⟩
    · exact WJ lk_z hr hs h
    · refine Ev.same Zy (fun k hk => ?_) (GC hr hs h)
      have hk : Qx.f k Z0 = some (Wb 1) := hk
      simp only [Xx.f, hk, uR0, Option.bind_some, Zn, R0n]
theorem Vv {rows : List (List Int)} (h : MOk rows) (hI : ∀ r ∈ rows, I64 r) {x : Qe} {t : Rat} (hx : Lk x t) (ht : Rs OM t) (t0 : 0 ≤ t) : Ev (fun k => YT.f k (mm rows) x) (Rb (t * pr (imax rows 0) + half), none) := by
  obtain ⟨a, h1, h2⟩ := WH h hI
  have hN := OG h hI
  unfold YT.f
  refine Ev.bind h2 ?_
  simp only [Option.isSome_none, Bool.false_eq_true, if_false]
  refine Ev.bind (NY hx) ?_
  simp only [decide_eq_false (Rat.not_lt.2 t0), Bool.false_eq_true, if_false]
  refine Ev.bind bits21 ?_
  simp only [Option.isSome_none, Bool.false_eq_true, if_false]
  have hg : Ev (fun k => Yu.f k x a (Rb half)) (Rb (t * pr (imax rows 0) + half), none) := by
    unfold Yu.f
    refine Ev.bind (V3 hx h1 ht (GJ hN) (by decide +kernel)) ?_
    simp only [Option.isSome_none, Bool.false_eq_true, if_false]
    exact Ev.bind (Ox (Mr ht (GJ hN)) OO (by decide +kernel)) Ev.now
  exact Ev.bind hg Ev.now
end Go.Proofs.YtkccpkccdbfomaaGreatDoor.Pure

/- Zones: what the program does with them. -/
import Derived.Test.YtoijknggnlbopaaDoorPureZ1
namespace Go.Proofs.YtoijknggnlbopaaDoor.Pure
open Go.RowKit Go.Proofs.YtoijknggnlbopaaDoorK Go.Proofs.YtoijknggnlbopaaDoor.GZH
set_option linter.unusedVariables false
set_option linter.unusedSimpArgs false
set_option maxRecDepth 100000
theorem wi {x : Int} (h : -9223372036854775808 ≤ x ∧ x ≤ 9223372036854775807) : w64 x = x := by
  simp only [w64, IntKind.wrap, IntKind.bits, IntKind.signed]; simp; omega
theorem wsucc {i : Nat} (h : i < 1000000000) : w64 ((i : Int) + 1) = ((i + 1 : Nat) : Int) := wi (by omega)
theorem rd_get {α : Type} [Inhabited α] {L : List α} {i : Nat} (h : i < L.length) : rd L (i : Int) = L[i] := by
  unfold rd; rw [Int.toNat_natCast, List.getD_eq_getElem?_getD, List.getElem?_eq_getElem h]; rfl
theorem drop_cons {α : Type} {L : List α} {i : Nat} (h : i < L.length) : L.drop i = L[i] :: L.drop (i + 1) := List.drop_eq_getElem_cons h
theorem mulb {x y A B : Int} (hx : -A ≤ x ∧ x ≤ A) (hy : -B ≤ y ∧ y ≤ B) : -(A * B) ≤ x * y ∧ x * y ≤ A * B := by
  have h1 : 0 ≤ (A - x) * (B + y) := Int.mul_nonneg (by omega) (by omega)
  have h2 : 0 ≤ (A + x) * (B - y) := Int.mul_nonneg (by omega) (by omega)
  have h3 : 0 ≤ (A - x) * (B - y) := Int.mul_nonneg (by omega) (by omega)
  have h4 : 0 ≤ (A + x) * (B + y) := Int.mul_nonneg (by omega) (by omega)
  rw [Int.sub_mul, Int.mul_add, Int.mul_add] at h1
  rw [Int.add_mul, Int.mul_sub, Int.mul_sub] at h2
  rw [Int.sub_mul, Int.mul_sub, Int.mul_sub] at h3
  rw [Int.add_mul, Int.mul_add, Int.mul_add] at h4
  omega
def Cn (c : Pt) : Prop := (-8388608 ≤ c.1 ∧ c.1 ≤ 8388607) ∧ (-8388608 ≤ c.2 ∧ c.2 ≤ 8388607)
def Pl (p : Pt) : Prop := (-2147483648 ≤ p.1 ∧ p.1 ≤ 2147483647) ∧ (-2147483648 ≤ p.2 ∧ p.2 ≤ 2147483647)
def pt (s : zone_Spot) : Pt := (s.f_X, s.f_Y)
theorem sdb {a b p : Pt} (ha : Cn a) (hb : Cn b) (hp : Pl p) : (-144115188075855872 ≤ (b.1 - a.1) * (p.2 - a.2) ∧ (b.1 - a.1) * (p.2 - a.2) ≤ 144115188075855872) ∧ (-144115188075855872 ≤ (p.1 - a.1) * (b.2 - a.2) ∧ (p.1 - a.1) * (b.2 - a.2) ≤ 144115188075855872) := by
  unfold Cn at ha hb; unfold Pl at hp
  have h1 := mulb (x := b.1 - a.1) (y := p.2 - a.2) (A := 16777216) (B := 8589934592) (by omega) (by omega)
  have h2 := mulb (x := p.1 - a.1) (y := b.2 - a.2) (A := 8589934592) (B := 16777216) (by omega) (by omega)
  constructor
  · exact ⟨by have := h1.1; omega, by have := h1.2; omega⟩
  · exact ⟨by have := h2.1; omega, by have := h2.2; omega⟩
theorem side_eq {k : Nat} {a b p : zone_Spot} (ha : Cn (pt a)) (hb : Cn (pt b)) (hp : Pl (pt p)) : zone_side.f k a b p = some (sd (pt a) (pt b) (pt p)) := by
  have h := sdb ha hb hp
  unfold Cn pt at ha hb; unfold Pl pt at hp
  unfold zone_side.f sd
  unfold pt at h ⊢
  simp only at ha hb hp h ⊢
  simp only [wi (show -9223372036854775808 ≤ a.f_X ∧ a.f_X ≤ 9223372036854775807 by omega), wi (show -9223372036854775808 ≤ a.f_Y ∧ a.f_Y ≤ 9223372036854775807 by omega), wi (show -9223372036854775808 ≤ b.f_X ∧ b.f_X ≤ 9223372036854775807 by omega), wi (show -9223372036854775808 ≤ b.f_Y ∧ b.f_Y ≤ 9223372036854775807 by omega), wi (show -9223372036854775808 ≤ p.f_X ∧ p.f_X ≤ 9223372036854775807 by omega), wi (show -9223372036854775808 ≤ p.f_Y ∧ p.f_Y ≤ 9223372036854775807 by omega)]
  simp only [wi (show -9223372036854775808 ≤ b.f_X - a.f_X ∧ b.f_X - a.f_X ≤ 9223372036854775807 by omega), wi (show -9223372036854775808 ≤ b.f_Y - a.f_Y ∧ b.f_Y - a.f_Y ≤ 9223372036854775807 by omega), wi (show -9223372036854775808 ≤ p.f_X - a.f_X ∧ p.f_X - a.f_X ≤ 9223372036854775807 by omega), wi (show -9223372036854775808 ≤ p.f_Y - a.f_Y ∧ p.f_Y - a.f_Y ≤ 9223372036854775807 by omega)]
  obtain ⟨⟨h1, h2⟩, h3, h4⟩ := h
  generalize (b.f_X - a.f_X) * (p.f_Y - a.f_Y) = m1 at h1 h2 ⊢
  generalize (p.f_X - a.f_X) * (b.f_Y - a.f_Y) = m2 at h3 h4 ⊢
  rw [wi (x := m1) (by omega), wi (x := m2) (by omega), wi (by omega)]
theorem on_eq {k : Nat} {a b p : zone_Spot} (ha : Cn (pt a)) (hb : Cn (pt b)) (hp : Pl (pt p)) : zone_on.f k a b p = some (onE (pt p) (pt a, pt b)) := by
  unfold zone_on.f; rw [side_eq ha hb hp]
  simp only [Option.bind_some]
  congr 1; unfold onE pt; simp only [Bool.decide_and, Bool.and_assoc]
theorem passes_eq {k : Nat} {a b p : zone_Spot} (ha : Cn (pt a)) (hb : Cn (pt b)) (hp : Pl (pt p)) : zone_passes.f k a b p = some (psE (pt p) (pt a, pt b)) := by
  unfold zone_passes.f; rw [side_eq ha hb hp]
  simp only [Option.bind_some, Bool.and_eq_true, decide_eq_true_eq]
  unfold psE
  show _ = some (if a.f_Y ≤ p.f_Y ∧ p.f_Y < b.f_Y then _ else if b.f_Y ≤ p.f_Y ∧ p.f_Y < a.f_Y then _ else _)
  by_cases h1 : a.f_Y ≤ p.f_Y ∧ p.f_Y < b.f_Y
  · rw [if_pos h1, if_pos h1]
  · rw [if_neg h1, if_neg h1]
    by_cases h2 : b.f_Y ≤ p.f_Y ∧ p.f_Y < a.f_Y
    · rw [if_pos h2, if_pos h2]
    · rw [if_neg h2, if_neg h2]
/-! ### the edges, one behind the other -/
def runE {S : Type} (g : zone_Spot → zone_Spot → S → S × Bool) : List (zone_Spot × zone_Spot) → S → S × Bool
  | [], s => (s, false)
  | e :: E, s => if (g e.1 e.2 s).2 = true then g e.1 e.2 s else runE g E (g e.1 e.2 s).1
theorem tmod_nat (i n : Nat) (h : 0 < n) : Int.tmod (i : Int) (n : Int) = ((i % n : Nat) : Int) := by
  rw [Int.tmod_eq_emod_of_nonneg (by omega)]; rfl
theorem zedges_run {S : Type} {st : zone_Spot → zone_Spot → S → Option (S × Bool)} {g : zone_Spot → zone_Spot → S → S × Bool} {z : List zone_Spot} (hst : ∀ a ∈ z, ∀ b ∈ z, ∀ s, st a b s = some (g a b s)) (hl : z.length ≤ 32) : ∀ (n i k : Nat) (s : S), z.length = i + n → n < k → zedges st z k (i : Int) s = some (runE g ((ed z).drop i) s)
  | 0, i, 0, s, _, h => by omega
  | 0, i, k + 1, s, e, _ => by
    unfold zedges
    rw [if_neg (by omega), List.drop_eq_nil_of_le (by rw [ed_len]; omega)]; rfl
  | n + 1, i, 0, s, _, h => by omega
  | n + 1, i, k + 1, s, e, h => by
    have hi : i < z.length := by omega
    have hm : (i + 1) % z.length < z.length := Nat.mod_lt _ (by omega)
    have hw : w64 ((i : Int) + 1) = ((i + 1 : Nat) : Int) := wsucc (by omega)
    unfold zedges
    rw [if_pos (by omega), if_pos (by omega), if_pos (by omega), hw, tmod_nat _ _ (by omega), if_pos (by omega), rd_get hi, rd_get hm, hst _ (List.getElem_mem hi) _ (List.getElem_mem hm)]
    simp only [Option.bind_some]
    rw [drop_cons (L := ed z) (i := i) (by rw [ed_len]; exact hi), ed_at z i hi hm]
    unfold runE
    by_cases hb : (g z[i] z[(i + 1) % z.length] s).2 = true
    · rw [if_pos hb, if_pos hb]
    · rw [if_neg hb, if_neg hb]
      exact zedges_run hst hl n (i + 1) k _ (by omega) (by omega)
def gW (p : Pt) (a b : zone_Spot) (s : Int × Option Int × Bool) : (Int × Option Int × Bool) × Bool := if onE p (pt a, pt b) = true then ((1, none, s.2.2), true) else if psE p (pt a, pt b) = true then ((s.1, s.2.1, !s.2.2), false) else (s, false)
def pe (e : zone_Spot × zone_Spot) : Pt × Pt := (pt e.1, pt e.2)
theorem runW (p : Pt) : ∀ (E : List (zone_Spot × zone_Spot)) (o : Bool), ((E.map pe).any (onE p) = true → (runE (gW p) E (0, none, o)).2 = true ∧ (runE (gW p) E (0, none, o)).1.1 = 1 ∧ (runE (gW p) E (0, none, o)).1.2.1 = none) ∧ ((E.map pe).any (onE p) = false → runE (gW p) E (0, none, o) = ((0, none, Bool.xor o (xr ((E.map pe).map (psE p)))), false))
  | [], o => ⟨fun h => by simp at h, fun _ => by simp [runE, xr]⟩
  | e :: E, o => by
    simp only [List.map_cons, List.any_cons, runE]
    by_cases h1 : onE p (pe e) = true
    · have hg : gW p e.1 e.2 (0, none, o) = ((1, none, o), true) := by unfold gW; rw [if_pos (show onE p (pt e.1, pt e.2) = true from h1)]
      rw [hg, h1, if_pos rfl]
      exact ⟨fun _ => ⟨rfl, rfl, rfl⟩, fun h => by simp at h⟩
    · have h1' := Bool.eq_false_iff.2 h1
      by_cases h2 : psE p (pe e) = true
      · have hg : gW p e.1 e.2 (0, none, o) = ((0, none, !o), false) := by unfold gW; rw [if_neg (show ¬ onE p (pt e.1, pt e.2) = true from h1), if_pos (show psE p (pt e.1, pt e.2) = true from h2)]
        rw [hg, h1', if_neg (by simp), Bool.false_or]
        obtain ⟨a, b⟩ := runW p E (!o)
        refine ⟨a, fun h => ?_⟩
        rw [b h, h2, xr]; cases o <;> simp
      · have h2' := Bool.eq_false_iff.2 h2
        have hg : gW p e.1 e.2 (0, none, o) = ((0, none, o), false) := by unfold gW; rw [if_neg (show ¬ onE p (pt e.1, pt e.2) = true from h1), if_neg (show ¬ psE p (pt e.1, pt e.2) = true from h2)]
        rw [hg, h1', if_neg (by simp), Bool.false_or]
        obtain ⟨a, b⟩ := runW p E o
        refine ⟨a, fun h => ?_⟩
        rw [b h, h2', xr]; cases o <;> simp
/-! ### whether a zone may be -/
def cnB (c : zone_Spot) : Bool := decide (-8388608 ≤ c.f_X ∧ c.f_X ≤ 8388607 ∧ -8388608 ≤ c.f_Y ∧ c.f_Y ≤ 8388607)
theorem cnB_cn {c : zone_Spot} (h : cnB c = true) : Cn (pt c) := by have := of_decide_eq_true h; unfold Cn pt; simp only; omega
def mayZ (z : zone_Zone) : Bool := decide (1 ≤ z.f_Name.size ∧ z.f_Name.size ≤ 32 ∧ 3 ≤ z.f_Corners.length ∧ z.f_Corners.length ≤ 32) && z.f_Corners.all cnB
theorem chk_l0 {L : List zone_Spot} (hl : L.length ≤ 32) : ∀ (n i : Nat), L.length = i + n → Ev (fun k => (zone_Check.hs k).l0 none L (L.length : Int) (i : Int)) (if (L.drop i).all cnB = true then none else some 1)
  | 0, i, e => by
    refine Ev.step (fun k => rfl) ?_
    simp only [zone_Check.hs, zone_Check.b0, if_neg (show ¬ (i : Int) < (L.length : Int) by omega)]
    rw [List.drop_eq_nil_of_le (by omega)]; exact Ev.now
  | n + 1, i, e => by
    have hi : i < L.length := by omega
    have ih := chk_l0 hl n (i + 1) (by omega)
    refine Ev.step (fun k => rfl) ?_
    simp only [zone_Check.hs, zone_Check.b0, if_pos (show (i : Int) < (L.length : Int) by omega), if_pos (show (0 : Int) ≤ (i : Int) ∧ (i : Int) < (L.length : Int) by omega), rd_get hi, wsucc (show i < 1000000000 by omega)]
    rw [drop_cons hi, List.all_cons]
    cases hb : cnB L[i] with
    | true =>
      have := of_decide_eq_true hb
      have e1 : ((((decide ((L[i].f_X) < (-8388608))) || (decide (8388608 ≤ (L[i].f_X)))) || (decide ((L[i].f_Y) < (-8388608)))) || (decide (8388608 ≤ (L[i].f_Y)))) = false := by simp; omega
      simp only [e1, Bool.false_eq_true, if_false, Bool.true_and]; exact ih
    | false =>
      have := of_decide_eq_false hb
      have e1 : ((((decide ((L[i].f_X) < (-8388608))) || (decide (8388608 ≤ (L[i].f_X)))) || (decide ((L[i].f_Y) < (-8388608)))) || (decide (8388608 ≤ (L[i].f_Y)))) = true := by simp; omega
      simp only [e1, if_true, Bool.false_and, Bool.false_eq_true, if_false]; exact Ev.now
theorem Check_ev (z : zone_Zone) : Ev (fun k => zone_Check.f k z) (if mayZ z = true then none else some 1) := by
  unfold zone_Check.f mayZ
  by_cases h : 1 ≤ z.f_Name.size ∧ z.f_Name.size ≤ 32 ∧ 3 ≤ z.f_Corners.length ∧ z.f_Corners.length ≤ 32
  · have e1 : ((((decide ((z.f_Name.size : Int) < 1)) || (decide (32 < (z.f_Name.size : Int)))) || (decide ((z.f_Corners.length : Int) < 3))) || (decide (32 < (z.f_Corners.length : Int)))) = false := by simp; omega
    simp only [e1, Bool.false_eq_true, if_false, decide_eq_true h, Bool.true_and]
    exact chk_l0 h.2.2.2 z.f_Corners.length 0 (by omega)
  · have e1 : ((((decide ((z.f_Name.size : Int) < 1)) || (decide (32 < (z.f_Name.size : Int)))) || (decide ((z.f_Corners.length : Int) < 3))) || (decide (32 < (z.f_Corners.length : Int)))) = true := by simp; omega
    simp only [e1, if_true, decide_eq_false h, Bool.false_and, Bool.false_eq_true, if_false]
    exact Ev.now
theorem may_of {z : zone_Zone} (h : mayZ z = true) : (1 ≤ z.f_Name.size ∧ z.f_Name.size ≤ 32 ∧ 3 ≤ z.f_Corners.length ∧ z.f_Corners.length ≤ 32) ∧ ∀ c ∈ z.f_Corners, Cn (pt c) := by
  unfold mayZ at h; rw [Bool.and_eq_true] at h
  exact ⟨of_decide_eq_true h.1, fun c hc => cnB_cn (List.all_eq_true.1 h.2 c hc)⟩
theorem pe_ed (L : List zone_Spot) : (ed L).map pe = ed (L.map pt) := (ed_map pt L).symm
/-! ### how a place lies; how great it is -/
theorem Where_ev (z : zone_Zone) {p : zone_Spot} (hp : Pl (pt p)) : Ev (fun k => zone_Where.f k z p) (if mayZ z = true then (wh (ed (z.f_Corners.map pt)) (pt p), none) else (0, some 1)) := by
  unfold zone_Where.f
  refine Ev.bind (Check_ev ⟨z.f_Name, z.f_Corners⟩) ?_
  have hz : mayZ ⟨z.f_Name, z.f_Corners⟩ = mayZ z := rfl
  rw [hz]
  cases h : mayZ z with
  | false => simp only [Bool.false_eq_true, if_false, Option.isSome_some, if_true]; exact Ev.now
  | true =>
    simp only [if_true, Option.isSome_none, Bool.false_eq_true, if_false]
    obtain ⟨hn, hc⟩ := may_of h
    have hst : ∀ k, ∀ a ∈ z.f_Corners, ∀ b ∈ z.f_Corners, ∀ s, zone_Where.st k p a b s = some (gW (pt p) a b s) := fun k a ha b hb s => by
      unfold zone_Where.st gW
      rw [on_eq (hc a ha) (hc b hb) hp, passes_eq (hc a ha) (hc b hb) hp]
      simp only [Option.bind_some]
      by_cases h1 : onE (pt p) (pt a, pt b) = true
      · rw [if_pos h1, if_pos h1]
      · rw [if_neg h1, if_neg h1]; by_cases h2 : psE (pt p) (pt a, pt b) = true
        · rw [if_pos h2, if_pos h2]
        · rw [if_neg h2, if_neg h2]
    have hrun : Ev (fun k => zedges (zone_Where.st k p) z.f_Corners k 0 (0, none, false)) (runE (gW (pt p)) (ed z.f_Corners) (0, none, false)) := ⟨40, fun k hk => by
      have := zedges_run (hst k) hn.2.2.2 z.f_Corners.length 0 k (0, none, false) (by omega) (by omega)
      rw [List.drop_zero] at this; exact this⟩
    refine Ev.bind hrun ?_
    obtain ⟨r1, r2⟩ := runW (pt p) (ed z.f_Corners) false
    rw [pe_ed] at r1 r2
    unfold wh
    cases ha : (ed (z.f_Corners.map pt)).any (onE (pt p)) with
    | true =>
      obtain ⟨a, b, c⟩ := r1 ha
      simp only [a, b, c, if_true]; exact Ev.now
    | false =>
      rw [r2 ha]
      simp only [Bool.false_eq_true, if_false, Bool.false_xor]
      cases hx : xr ((ed (z.f_Corners.map pt)).map (psE (pt p))) with
      | true => simp only [if_true]; exact Ev.now
      | false => simp only [Bool.false_eq_true, if_false]; exact Ev.now
/-! ### its box -/
end Go.Proofs.YtoijknggnlbopaaDoor.Pure

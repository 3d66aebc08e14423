/- Where too much is seen: a map's cells, what the program does with them. -/
import Derived.Test.YtoijknggnlbopaaDoorGCSp
namespace Go.Proofs.YtoijknggnlbopaaDoor.Pure
open Go.RowKit Go.Proofs.YtoijknggnlbopaaDoorK Go.Proofs.YtoijknggnlbopaaDoor.GCS
set_option linter.unusedVariables false
set_option linter.unusedSimpArgs false
set_option maxRecDepth 100000
theorem w64_id {x : Int} (h : -9223372036854775808 ≤ x ∧ x ≤ 9223372036854775807) : w64 x = x := by
  simp only [w64, IntKind.wrap, IntKind.bits, IntKind.signed]; simp; omega
theorem wsucc {i : Nat} (h : i < 1000000000) : w64 ((i : Int) + 1) = ((i + 1 : Nat) : Int) := w64_id (by omega)
theorem gdt {α : Type} (x : Option α) (d : α) : gd true x d = x := rfl
theorem i64_wf {x : Int} (h : (Lit.int .i64 x).wf = true) : -9223372036854775808 ≤ x ∧ x ≤ 9223372036854775807 := by
  simpa [Lit.wf, IntKind.min, IntKind.max, IntKind.signed, IntKind.bits] using h
theorem u16_wf {x : Int} (h : (Lit.int .u16 x).wf = true) : 0 ≤ x ∧ x ≤ 65535 := by
  simpa [Lit.wf, IntKind.min, IntKind.max, IntKind.signed, IntKind.bits] using h
theorem rd_get {α : Type} [Inhabited α] {L : List α} {i : Nat} (h : i < L.length) : rd L (i : Int) = L[i] := by
  unfold rd; rw [Int.toNat_natCast, List.getD_eq_getElem?_getD, List.getElem?_eq_getElem h]; rfl
/-! ### sums -/
def sm : List Int → Int
  | [] => 0
  | x :: l => x + sm l
theorem sm_append : ∀ (a b : List Int), sm (a ++ b) = sm a + sm b
  | [], b => by simp [sm]
  | x :: a, b => by simp only [List.cons_append, sm, sm_append a b]; omega
theorem sm_take {l : List Int} {i : Nat} (h : i < l.length) : sm (l.take (i + 1)) = sm (l.take i) + l[i] := by
  rw [List.take_add_one, List.getElem?_eq_getElem h, sm_append]; simp [sm]
def Bd (l : List Int) (B : Int) : Prop := ∀ x ∈ l, 0 ≤ x ∧ x ≤ B
theorem sm_bd {B : Int} : ∀ {l : List Int}, Bd l B → 0 ≤ sm l ∧ sm l ≤ B * (l.length : Int)
  | [], _ => by simp [sm]
  | x :: l, h => by
    have h1 := h x (List.mem_cons_self ..)
    have h2 := sm_bd (l := l) fun y hy => h y (List.mem_cons_of_mem _ hy)
    simp only [sm, List.length_cons]
    rw [show ((l.length + 1 : Nat) : Int) = (l.length : Int) + 1 by omega, Int.mul_add]
    omega
theorem Bd.take {l : List Int} {B : Int} (h : Bd l B) (n : Nat) : Bd (l.take n) B := fun x hx => h x (List.mem_of_mem_take hx)
theorem Bd.get {l : List Int} {B : Int} (h : Bd l B) {i : Nat} (hi : i < l.length) : 0 ≤ l[i] ∧ l[i] ≤ B := h _ (List.getElem_mem hi)
theorem Bd.mono {l : List Int} {B C : Int} (h : Bd l B) (hc : B ≤ C) : Bd l C := fun x hx => by have := h x hx; omega
theorem Bd.set {l : List Int} {B v : Int} (h : Bd l B) (i : Nat) (hv : 0 ≤ v ∧ v ≤ B) : Bd (l.set i v) B := fun x hx => by
  rcases List.mem_or_eq_of_mem_set hx with hx | rfl
  · exact h x hx
  · exact hv
theorem sm_set : ∀ {l : List Int} {i : Nat} (h : i < l.length) (v : Int), sm (l.set i v) = sm l - l[i] + v
  | x :: l, 0, h, v => by simp only [List.set_cons_zero, sm, List.getElem_cons_zero]; omega
  | x :: l, i + 1, h, v => by
    have := sm_set (l := l) (i := i) (by simpa using h) v
    simp only [List.set_cons_succ, sm, List.getElem_cons_succ, this]; omega
/-! ### what a map may be -/
def pwr (q : Int) : Bool := ((((((((((false || decide (q = 1)) || decide (q = 2)) || decide (q = 4)) || decide (q = 8)) || decide (q = 16)) || decide (q = 32)) || decide (q = 64)) || decide (q = 128)) || decide (q = 256)))
structure MOk (R Q W : Int) : Prop where
  r1 : 1 ≤ R
  r2 : R ≤ 64
  q : pwr Q = true
  w1 : 1048576 ≤ W
  w2 : W ≤ 68719476736
theorem MOk.q0 {R Q W : Int} (h : MOk R Q W) : 1 ≤ Q ∧ Q ≤ 256 := by have := h.q; simp [pwr] at this; omega
theorem oc_all : ∀ n : Fin 257, (bits_OnesCount.f 0 (n.val : Int)).map (fun c => decide (c = 1)) = some (pwr (n.val : Int)) := by decide +kernel
theorem oc_eq (k : Nat) {q : Int} (h : 0 ≤ q ∧ q ≤ 256) : ∃ c, bits_OnesCount.f k (q % 18446744073709551616) = some c ∧ decide (c = 1) = pwr q := by
  have h1 := oc_all ⟨q.toNat, by omega⟩
  have e : ((q.toNat : Nat) : Int) = q := by omega
  simp only [e] at h1
  rw [show q % 18446744073709551616 = q by omega]
  cases hc : bits_OnesCount.f 0 q with
  | none => rw [hc] at h1; cases h1
  | some c => rw [hc] at h1; exact ⟨c, hc, by simpa using h1⟩
theorem RQ {R Q W : Int} (h : MOk R Q W) : 1 ≤ R * Q ∧ R * Q ≤ 16384 := by
  have h1 := h.r1; have h2 := h.r2; have h3 := h.q0
  constructor
  · have := Int.mul_le_mul h1 h3.1 (by omega) (by omega); omega
  · have := Int.mul_le_mul h2 h3.2 (by omega) (by omega); omega
theorem new_ok (k : Nat) {R Q W : Int} (h : MOk R Q W) : clutter_New.f k R Q W = some (some ⟨R, Q, W, List.replicate (R * Q).toNat 0⟩, none) := by
  have h1 := h.r1; have h2 := h.r2; have h3 := h.q0; have h4 := h.w1; have h5 := h.w2; have h6 := RQ h
  obtain ⟨c, hc, he⟩ := oc_eq k (q := Q) (by omega)
  unfold clutter_New.f
  have e1 : ((((decide (R < 1)) || (decide (64 < R))) || (decide (Q < 1))) || (decide (256 < Q))) = false := by simp; omega
  have e2 : (decide (W < 1048576)) = false := decide_eq_false (by omega)
  have e3 : (decide (68719476736 < W)) = false := decide_eq_false (by omega)
  simp only [e1, Bool.not_false, gdt, hc, Option.bind_some, he, h.q, Bool.not_true, e2, e3, Bool.or_self, Bool.false_eq_true, if_false, w64_id (show -9223372036854775808 ≤ R * Q ∧ R * Q ≤ 9223372036854775807 by omega)]
  rw [if_pos (by omega)]
/-! ### cells -/
theorem idiv_lt {r W R : Int} (hW : 0 < W) (hr : r < R * W) : r / W < R := Int.ediv_lt_of_lt_mul hW hr
theorem part_lt {a Q : Int} (ha : 0 ≤ a ∧ a ≤ 65535) (hQ : 1 ≤ Q ∧ Q ≤ 256) : 0 ≤ a * Q ∧ a * Q ≤ 16776960 ∧ 0 ≤ a * Q / 65536 ∧ a * Q / 65536 < Q := by
  have h1 : 0 ≤ a * Q := Int.mul_nonneg ha.1 (by omega)
  have h2 : a * Q ≤ 65535 * Q := Int.mul_le_mul_of_nonneg_right ha.2 (by omega)
  generalize a * Q = s at *
  exact ⟨h1, by omega, by omega, by omega⟩
structure In_ (R Q W r a : Int) : Prop where
  m : MOk R Q W
  r : 0 ≤ r ∧ r < R * W
  a : 0 ≤ a ∧ a ≤ 65535
def ixo (Q W r a : Int) : Int := r / W * Q + a * Q / 65536
theorem In_.ring {R Q W r a : Int} (h : In_ R Q W r a) : 0 ≤ r / W ∧ r / W < R := ⟨Int.ediv_nonneg h.r.1 (by have := h.m.w1; omega), idiv_lt (by have := h.m.w1; omega) h.r.2⟩
theorem mul_ix {R Q x y : Int} (hx : 0 ≤ x ∧ x < R) (hy : 0 ≤ y ∧ y < Q) : 0 ≤ x * Q ∧ x * Q + y < R * Q ∧ 0 ≤ x * Q + y := by
  have h1 : 0 ≤ x * Q := Int.mul_nonneg hx.1 (by omega)
  have h2 : x * Q ≤ (R - 1) * Q := Int.mul_le_mul_of_nonneg_right (by omega) (by omega)
  rw [Int.sub_mul] at h2
  exact ⟨h1, by omega, by omega⟩
theorem In_.ix {R Q W r a : Int} (h : In_ R Q W r a) : 0 ≤ ixo Q W r a ∧ ixo Q W r a < R * Q := by
  have h1 := mul_ix h.ring (part_lt h.a h.m.q0).2.2
  unfold ixo; exact ⟨h1.2.2, h1.2.1⟩
theorem cell_bad (k : Nat) {R Q W r a t : Int} {cs : List Int} (h : MOk R Q W) (hr : r < 0 ∨ R * W ≤ r) (hr2 : r ≤ 9223372036854775807) : clutter_Map_Cell.f k ⟨R, Q, W, cs⟩ ⟨r, a, t⟩ = some (0, 0, some 5) := by
  have hw := h.w1
  unfold clutter_Map_Cell.f
  rw [if_pos (fun _ => by show W ≠ 0; omega), if_pos]
  rcases hr with hr | hr
  · simp [decide_eq_true hr]
  · by_cases h0 : r < 0
    · simp [decide_eq_true h0]
    · have h1 : R ≤ r / W := (Int.le_ediv_iff_mul_le (by omega)).2 hr
      have h2 : r / W ≤ r := Int.ediv_le_self _ (by omega)
      have h3 := h.r1
      have e1 : w64 (Int.tdiv r W) = r / W := by rw [Int.tdiv_eq_ediv_of_nonneg (by omega), w64_id (by omega)]
      show (decide (r < 0) || decide (R ≤ w64 (Int.tdiv r W))) = true
      rw [e1, decide_eq_true h1, Bool.or_true]
theorem cell_ok (k : Nat) {R Q W r a t : Int} {cs : List Int} (h : In_ R Q W r a) (hr2 : r ≤ 9223372036854775807) : clutter_Map_Cell.f k ⟨R, Q, W, cs⟩ ⟨r, a, t⟩ = some (r / W, a * Q / 65536, none) := by
  have hw := h.m.w1; have h1 := h.ring; have h2 := h.r; have h3 := part_lt h.a h.m.q0; have h5 := h.a; have h4 : r / W ≤ r := Int.ediv_le_self _ h2.1
  unfold clutter_Map_Cell.f
  have e1 : w64 (Int.tdiv r W) = r / W := by rw [Int.tdiv_eq_ediv_of_nonneg h2.1, w64_id (by omega)]
  have e2 : w64 (w64 a * Q) = a * Q := by rw [w64_id (x := a) (by omega), w64_id (by omega)]
  simp only [e1, e2]
  rw [if_pos (fun _ => by omega), if_neg (by simp; omega), if_pos (by omega)]
theorem place_bad (k : Nat) {R Q W r a t : Int} {cs : List Int} (h : MOk R Q W) (hr : r < 0 ∨ R * W ≤ r) (hr2 : r ≤ 9223372036854775807) : clutter_Map_place.f k ⟨R, Q, W, cs⟩ ⟨r, a, t⟩ = some (0, some 5) := by
  unfold clutter_Map_place.f
  rw [cell_bad k h hr hr2]; rfl
theorem ix_w {R Q W x y : Int} (h : MOk R Q W) (hx : 0 ≤ x ∧ x < R) (hy : 0 ≤ y ∧ y < Q) : w64 (w64 (x * Q) + y) = x * Q + y := by
  have h1 := mul_ix hx hy; have h2 := RQ h; have h3 := h.q0
  rw [w64_id (x := x * Q) (by omega), w64_id (by omega)]
theorem place_ok (k : Nat) {R Q W r a t : Int} {cs : List Int} (h : In_ R Q W r a) (hr2 : r ≤ 9223372036854775807) : clutter_Map_place.f k ⟨R, Q, W, cs⟩ ⟨r, a, t⟩ = some (ixo Q W r a, none) := by
  unfold clutter_Map_place.f
  rw [cell_ok k h hr2]
  simp only [Option.bind_some, Option.isSome_none, Bool.false_eq_true, if_false]
  rw [ix_w h.m h.ring (part_lt h.a h.m.q0).2.2]; rfl
theorem add_bad (k : Nat) {R Q W r a t : Int} {cs : List Int} (h : MOk R Q W) (hr : r < 0 ∨ R * W ≤ r) (hr2 : r ≤ 9223372036854775807) : clutter_Map_Add.f k ⟨R, Q, W, cs⟩ ⟨r, a, t⟩ = some (some 5, ⟨R, Q, W, cs⟩) := by
  unfold clutter_Map_Add.f
  rw [place_bad k h hr hr2]; rfl
theorem rd_nat {cs : List Int} {x : Int} (h : 0 ≤ x ∧ x < (cs.length : Int)) : ∃ i : Nat, (i : Int) = x ∧ i < cs.length := ⟨x.toNat, by omega, by omega⟩
theorem add_ok (k : Nat) {R Q W r a t B : Int} {cs : List Int} (h : In_ R Q W r a) (hr2 : r ≤ 9223372036854775807) (hl : (cs.length : Int) = R * Q) (hb : Bd cs B) (hB : B ≤ 1000000) : clutter_Map_Add.f k ⟨R, Q, W, cs⟩ ⟨r, a, t⟩ = some (none, ⟨R, Q, W, cs.set (ixo Q W r a).toNat (rd cs (ixo Q W r a) + 1)⟩) := by
  have hi := h.ix
  unfold clutter_Map_Add.f
  rw [place_ok k h hr2]
  obtain ⟨i, he, hl2⟩ := rd_nat (cs := cs) (x := ixo Q W r a) (by omega)
  simp only [Option.bind_some, Option.isSome_none, Bool.false_eq_true, if_false]
  rw [← he, if_pos (by omega), if_pos (by omega), rd_get hl2]
  have := hb.get hl2
  rw [w64_id (by omega), show min (cs[i] + 1) 1099511627776 = cs[i] + 1 by omega]
theorem at_ok (k : Nat) {R Q W x y : Int} {cs : List Int} (h : MOk R Q W) (hl : (cs.length : Int) = R * Q) (hx : 0 ≤ x ∧ x < R) (hy : 0 ≤ y ∧ y < Q) : clutter_Map_At.f k ⟨R, Q, W, cs⟩ x y = some (rd cs (x * Q + y), none) := by
  have h1 := mul_ix hx hy
  unfold clutter_Map_At.f
  simp only [ix_w h hx hy]
  rw [if_neg (by simp; omega), if_pos (by omega)]
/-! ### loops -/
theorem total_l0 {cs : List Int} {B : Int} (hb : Bd cs B) (hB : B ≤ 1000000) (hB0 : 0 ≤ B) (hl : cs.length ≤ 16384) : ∀ (n i : Nat), cs.length = i + n → Ev (fun k => (clutter_Map_Total.hs k).l0 (sm (cs.take i)) cs (cs.length : Int) (i : Int)) (sm cs)
  | 0, i, e => by
    refine Ev.step (fun k => rfl) ?_
    simp only [clutter_Map_Total.hs, clutter_Map_Total.b0, if_neg (show ¬ (i : Int) < (cs.length : Int) by omega)]
    rw [List.take_of_length_le (by omega)]; exact Ev.now
  | n + 1, i, e => by
    have hi : i < cs.length := by omega
    have h1 := sm_bd (hb.take (i + 1)); have h2 : ((cs.take (i + 1)).length : Int) ≤ 16384 := by simp; omega
    have h3 : B * ((cs.take (i + 1)).length : Int) ≤ 1000000 * 16384 := Int.mul_le_mul hB h2 (by omega) (by omega)
    refine Ev.step (fun k => rfl) ?_
    simp only [clutter_Map_Total.hs, clutter_Map_Total.b0, if_pos (show (i : Int) < (cs.length : Int) by omega), if_pos (show (0 : Int) ≤ (i : Int) ∧ (i : Int) < (cs.length : Int) by omega), rd_get hi, wsucc (show i < 1000000000 by omega)]
    rw [← sm_take hi, w64_id (by omega)]
    exact total_l0 hb hB hB0 hl n (i + 1) (by omega)
theorem total_ev {R Q W B : Int} {cs : List Int} (hb : Bd cs B) (hB : B ≤ 1000000) (hB0 : 0 ≤ B) (hl : cs.length ≤ 16384) : Ev (fun k => clutter_Map_Total.f k ⟨R, Q, W, cs⟩) (sm cs) := by
  unfold clutter_Map_Total.f
  exact total_l0 hb hB hB0 hl cs.length 0 (by omega)
/-- The first i halved. -/
def hv (cs : List Int) (i : Nat) : List Int := (cs.take i).map (· / 2) ++ cs.drop i
theorem hv_len (cs : List Int) (i : Nat) : (hv cs i).length = cs.length := by simp [hv]; omega
theorem hv_get {cs : List Int} {i : Nat} (h : i < cs.length) : (hv cs i)[i]'(by rw [hv_len]; exact h) = cs[i] := by
  unfold hv
  rw [List.getElem_append_right (by simp; omega)]
  simp [Nat.min_eq_left (Nat.le_of_lt h)]
theorem hv_set {cs : List Int} {i : Nat} (h : i < cs.length) : (hv cs i).set i (cs[i] / 2) = hv cs (i + 1) := by
  unfold hv
  rw [List.set_append_right (h := by simp; omega), List.drop_eq_getElem_cons h]
  simp only [List.length_map, List.length_take, Nat.min_eq_left (Nat.le_of_lt h), Nat.sub_self, List.set_cons_zero]
  rw [List.take_add_one, List.getElem?_eq_getElem h, List.map_append]
  simp only [Option.toList, List.map_cons, List.map_nil, List.append_assoc, List.singleton_append]
theorem hv_all (cs : List Int) : hv cs cs.length = cs.map (· / 2) := by simp [hv]
theorem half_eq {x B : Int} (h : 0 ≤ x ∧ x ≤ B) (hB : B ≤ 1000000) : w64 (Int.tdiv x 2) = x / 2 := by rw [Int.tdiv_eq_ediv_of_nonneg h.1, w64_id (by omega)]
theorem fade_l0 {R Q W B : Int} {cs : List Int} (hb : Bd cs B) (hB : B ≤ 1000000) (hl : cs.length ≤ 16384) : ∀ (n i : Nat), cs.length = i + n → Ev (fun k => (clutter_Map_Fade.hs k).l0 R Q W (hv cs i) (cs.length : Int) (i : Int)) ⟨R, Q, W, cs.map (· / 2)⟩
  | 0, i, e => by
    refine Ev.step (fun k => rfl) ?_
    simp only [clutter_Map_Fade.hs, clutter_Map_Fade.b0, if_neg (show ¬ (i : Int) < (cs.length : Int) by omega)]
    rw [show i = cs.length by omega, hv_all]; exact Ev.now
  | n + 1, i, e => by
    have hi : i < cs.length := by omega
    have hi2 : i < (hv cs i).length := by rw [hv_len]; exact hi
    refine Ev.step (fun k => rfl) ?_
    simp only [clutter_Map_Fade.hs, clutter_Map_Fade.b0, if_pos (show (i : Int) < (cs.length : Int) by omega), if_pos (show (0 : Int) ≤ (i : Int) ∧ (i : Int) < ((hv cs i).length : Int) by omega), rd_get hi2, hv_get hi, half_eq (hb.get hi) hB, Int.toNat_natCast, hv_set hi, wsucc (show i < 1000000000 by omega)]
    exact fade_l0 hb hB hl n (i + 1) (by omega)
theorem fade_ev {R Q W B : Int} {cs : List Int} (hb : Bd cs B) (hB : B ≤ 1000000) (hl : cs.length ≤ 16384) : Ev (fun k => clutter_Map_Fade.f k ⟨R, Q, W, cs⟩) ⟨R, Q, W, cs.map (· / 2)⟩ := by
  unfold clutter_Map_Fade.f
  exact fade_l0 hb hB hl cs.length 0 (by omega)
theorem bd_half {cs : List Int} {B : Int} (h : Bd cs B) (hB : 0 ≤ B) : Bd (cs.map (· / 2)) B := fun x hx => by
  obtain ⟨y, hy, rfl⟩ := List.mem_map.1 hx
  have := h y hy; omega
theorem sure37 : ∃ k, radomelaw37_sure.f k = some true := ⟨100, by decide +kernel⟩
theorem sure_ev37 : Ev (fun k => radomelaw37_sure.f k) true := let ⟨k, h⟩ := sure37; Ev.of (fun k => radomelaw37_sure.mono k) h
theorem bd_zero (n : Nat) : Bd (List.replicate n (0 : Int)) 0 := fun x hx => by rw [(List.mem_replicate.1 hx).2]; omega
end Go.Proofs.YtoijknggnlbopaaDoor.Pure

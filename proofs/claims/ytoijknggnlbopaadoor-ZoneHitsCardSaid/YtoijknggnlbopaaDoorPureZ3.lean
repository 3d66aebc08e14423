/- Zones: what the document says of them. -/
import Derived.Test.YtoijknggnlbopaaDoorPureZ2
namespace Go.Proofs.YtoijknggnlbopaaDoor.Pure
open Go.RowKit Go.Proofs.YtoijknggnlbopaaDoorK Go.Proofs.YtoijknggnlbopaaDoor.GZH
set_option linter.unusedVariables false
set_option linter.unusedSimpArgs false
set_option maxRecDepth 100000
theorem sure_ev39 : Ev (fun k => radomelaw39_sure.f k) true := Ev.of radomelaw39_sure.mono (k := 50) (by decide +kernel)
def cs (s : radomeref39_Spot) : zone_Spot := ⟨s.f_X, s.f_Y⟩
def gz (z : radomeref39_Zone) : zone_Zone := ⟨z.f_Name, z.f_Corners.map cs⟩
theorem rmay_l0 {nm : ByteArray} {L : List radomeref39_Spot} (hl : L.length ≤ 32) : ∀ (n i : Nat), L.length = i + n → Ev (fun k => (radomeref39_May.hs k).l0 nm L true (i : Int)) ((L.drop i).all fun s => cnB (cs s))
  | 0, i, e => by
    refine Ev.step (fun k => rfl) ?_
    have e1 : (decide ((i : Int) < (L.length : Int)) && true) = false := by simp; omega
    simp only [radomeref39_May.hs, radomeref39_May.b0, e1, Bool.false_eq_true, if_false]
    rw [List.drop_eq_nil_of_le (by omega)]; exact Ev.now
  | n + 1, i, e => by
    have hi : i < L.length := by omega
    have ih := rmay_l0 hl (nm := nm) n (i + 1) (by omega)
    have e1 : (decide ((i : Int) < (L.length : Int)) && true) = true := by simp; omega
    refine Ev.step (fun k => rfl) ?_
    simp only [radomeref39_May.hs, radomeref39_May.b0, e1, if_true, if_pos (show (0 : Int) ≤ (i : Int) ∧ (i : Int) < (L.length : Int) by omega), rd_get hi, wsucc (show i < 1000000000 by omega)]
    rw [drop_cons hi, List.all_cons]
    have e2 : ((((decide ((-8388608) ≤ (L[i].f_X))) && (decide ((L[i].f_X) ≤ 8388607))) && (decide ((-8388608) ≤ (L[i].f_Y)))) && (decide ((L[i].f_Y) ≤ 8388607))) = cnB (cs L[i]) := by
      unfold cnB cs; simp only [Bool.decide_and, Bool.and_assoc]
    rw [e2]
    cases hb : cnB (cs L[i]) with
    | true => rw [Bool.true_and]; exact ih
    | false =>
      refine Ev.step (fun k => rfl) ?_
      simp only [radomeref39_May.hs, radomeref39_May.b0, Bool.and_false, Bool.false_eq_true, if_false, Bool.false_and]; exact Ev.now
theorem rmay_ev (z : radomeref39_Zone) : Ev (fun k => radomeref39_May.f k z) (mayZ (gz z)) := by
  unfold radomeref39_May.f mayZ gz
  simp only [List.length_map, List.all_map]
  by_cases h : 1 ≤ z.f_Name.size ∧ z.f_Name.size ≤ 32 ∧ 3 ≤ z.f_Corners.length ∧ z.f_Corners.length ≤ 32
  · have e1 : ((((decide (1 ≤ (z.f_Name.size : Int))) && (decide ((z.f_Name.size : Int) ≤ 32))) && (decide (3 ≤ (z.f_Corners.length : Int)))) && (decide ((z.f_Corners.length : Int) ≤ 32))) = true := by simp; omega
    simp only [e1, decide_eq_true h, Bool.true_and]
    exact rmay_l0 h.2.2.2 z.f_Corners.length 0 (by omega)
  · have e1 : ((((decide (1 ≤ (z.f_Name.size : Int))) && (decide ((z.f_Name.size : Int) ≤ 32))) && (decide (3 ≤ (z.f_Corners.length : Int)))) && (decide ((z.f_Corners.length : Int) ≤ 32))) = false := by simp; omega
    simp only [e1, decide_eq_false h, Bool.false_and]
    refine Ev.step (fun k => rfl) ?_
    simp only [radomeref39_May.hs, radomeref39_May.b0, Bool.and_false, Bool.false_eq_true, if_false]; exact Ev.now
theorem give_l0 {nm : ByteArray} {L : List radomeref39_Spot} {t : ByteArray} (hl : L.length ≤ 1000000) : ∀ (n i : Nat), L.length = i + n → Ev (fun k => (radomelaw39_give.hs k).l0 nm L t nm ((L.take i).map cs) (i : Int)) ⟨nm, L.map cs⟩
  | 0, i, e => by
    refine Ev.step (fun k => rfl) ?_
    simp only [radomelaw39_give.hs, radomelaw39_give.b0, if_neg (show ¬ (i : Int) < (L.length : Int) by omega)]
    rw [List.take_of_length_le (by omega)]; exact Ev.now
  | n + 1, i, e => by
    have hi : i < L.length := by omega
    have ih := give_l0 hl (nm := nm) (t := t) n (i + 1) (by omega)
    have e2 : (L.take i).map cs ++ [(⟨(L[i]).f_X, (L[i]).f_Y⟩ : zone_Spot)] = (L.take (i + 1)).map cs := by
      rw [List.take_succ_eq_append_getElem hi, List.map_append]; rfl
    refine Ev.step (fun k => rfl) ?_
    simp only [radomelaw39_give.hs, radomelaw39_give.b0, if_pos (show (i : Int) < (L.length : Int) by omega), if_pos (show (0 : Int) ≤ (i : Int) ∧ (i : Int) < (L.length : Int) by omega), rd_get hi, wsucc (show i < 1000000000 by omega), e2]
    simp only [if_pos (show ((L.take i).map cs).length + [(⟨(L[i]).f_X, (L[i]).f_Y⟩ : zone_Spot)].length ≤ 17592186044288 by simp; omega)]; exact ih
theorem give_ev {z : radomeref39_Zone} (hl : z.f_Corners.length ≤ 1000000) : Ev (fun k => radomelaw39_give.f k z) (gz z) := by
  unfold radomelaw39_give.f; exact give_l0 hl z.f_Corners.length 0 (by omega)
theorem i32_wf {x : Int} (h : (Lit.int .i32 x).wf = true) : -2147483648 ≤ x ∧ x ≤ 2147483647 := by
  simpa [Lit.wf, IntKind.min, IntKind.max, IntKind.signed, IntKind.bits] using h
/-! ### the document's way of an edge -/
theorem e_out {lo hi p : Pt} (h : lo.2 ≤ hi.2) (ho : p.2 < lo.2 ∨ hi.2 < p.2) : onE p (lo, hi) = false ∧ psE p (lo, hi) = false := by
  constructor
  · unfold onE; refine decide_eq_false ?_; simp only []; omega
  · unfold psE; simp only []; rw [if_neg (by omega), if_neg (by omega)]
theorem e_flat {lo hi p : Pt} (h : lo.2 = hi.2) (h1 : lo.2 ≤ p.2) (h2 : p.2 ≤ hi.2) : onE p (lo, hi) = decide (min lo.1 hi.1 ≤ p.1 ∧ p.1 ≤ max lo.1 hi.1) ∧ psE p (lo, hi) = false := by
  constructor
  · unfold onE sd; refine decide_eq_decide.2 ?_
    simp only []
    rw [show p.2 - lo.2 = 0 by omega, show hi.2 - lo.2 = 0 by omega, Int.mul_zero, Int.mul_zero]
    constructor
    · rintro ⟨_, a, b, _⟩; exact ⟨a, b⟩
    · rintro ⟨a, b⟩; exact ⟨rfl, a, b, by omega, by omega⟩
  · unfold psE; simp only []; rw [if_neg (by omega), if_neg (by omega)]
theorem between {q D t H : Int} (h : q * H = D * t) (h0 : 0 ≤ t) (h1 : t ≤ H) (h2 : 0 < H) : min 0 D ≤ q ∧ q ≤ max 0 D := by
  rcases Int.le_total 0 D with hD | hD
  · have a : 0 ≤ q * H := by rw [h]; exact Int.mul_nonneg hD h0
    have b : q * H ≤ D * H := by rw [h]; exact Int.mul_le_mul_of_nonneg_left h1 hD
    have a' := Int.nonneg_of_mul_nonneg_left a h2
    have b' := Int.le_of_mul_le_mul_right b h2
    omega
  · have a : (-q) * H = (-D) * t := by rw [Int.neg_mul, Int.neg_mul, h]
    have a1 : 0 ≤ (-q) * H := by rw [a]; exact Int.mul_nonneg (by omega) h0
    have b : (-q) * H ≤ (-D) * H := by rw [a]; exact Int.mul_le_mul_of_nonneg_left h1 (by omega)
    have a' := Int.nonneg_of_mul_nonneg_left a1 h2
    have b' := Int.le_of_mul_le_mul_right b h2
    omega
theorem e_slope {lo hi p : Pt} (h : lo.2 < hi.2) (h1 : lo.2 ≤ p.2) (h2 : p.2 ≤ hi.2) : onE p (lo, hi) = decide (sd lo hi p = 0) ∧ psE p (lo, hi) = decide (p.2 < hi.2 ∧ 0 < sd lo hi p) := by
  constructor
  · unfold onE; refine decide_eq_decide.2 ?_
    simp only []
    refine ⟨fun a => a.1, fun a => ⟨a, ?_⟩⟩
    have := between (q := p.1 - lo.1) (D := hi.1 - lo.1) (t := p.2 - lo.2) (H := hi.2 - lo.2) (by unfold sd at a; omega) (by omega) (by omega) (by omega)
    omega
  · unfold psE; simp only []
    by_cases h3 : p.2 < hi.2
    · rw [if_pos ⟨h1, h3⟩]; exact decide_eq_decide.2 ⟨fun a => ⟨h3, a⟩, fun a => a.2⟩
    · rw [if_neg (by omega), if_neg (by omega)]; exact (decide_eq_false (by omega)).symm
end Go.Proofs.YtoijknggnlbopaaDoor.Pure

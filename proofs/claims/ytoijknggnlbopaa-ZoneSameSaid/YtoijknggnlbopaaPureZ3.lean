/- Zones: what the document says of them. -/
import Derived.Test.YtoijknggnlbopaaPureZ2
namespace Go.Proofs.Ytoijknggnlbopaa.Pure
open Go.RowKit Go.Proofs.YtoijknggnlbopaaK Go.Proofs.Ytoijknggnlbopaa.GZS
set_option linter.unusedVariables false
set_option linter.unusedSimpArgs false
set_option maxRecDepth 100000
theorem gdt {α : Type} (x : Option α) (d : α) : gd true x d = x := rfl
theorem gdf {α : Type} (x : Option α) (d : α) : gd false x d = some d := rfl
theorem sure_ev39 : Ev (fun k => radomelaw39_sure.f k) true := Ev.of radomelaw39_sure.mono (k := 50) (by decide +kernel)
def cs (s : radomeref39_Spot) : zone_Spot := ⟨s.f_X, s.f_Y⟩
def gz (z : radomeref39_Zone) : zone_Zone := ⟨z.f_Name, z.f_Corners.map cs⟩
theorem rmay_l0 {nm : ByteArray} {L : List radomeref39_Spot} (hl : L.length ≤ 32) : ∀ (n i : Nat), L.length = i + n → Ev (fun k => (radomeref39_May.hs k).l0 nm L true (i : Int)) ((L.drop i).all fun s => cnB (cs s))
  | 0, i, e => by
    refine Ev.step (fun k => rfl) ?_
    have e1 : (decide ((i : Int) < (L.length : Int)) && true) = false := by simp; omega
    simp only [radomeref39_May.hs, radomeref39_May.b0, e1, Bool.false_eq_true, if_false]
    rw [List.drop_eq_nil_of_le (by omega)]; exact Ev.now
  | n + 1, i, e => by
    have hi : i < L.length := by omega
    have ih := rmay_l0 hl (nm := nm) n (i + 1) (by omega)
    have e1 : (decide ((i : Int) < (L.length : Int)) && true) = true := by simp; omega
    refine Ev.step (fun k => rfl) ?_
    simp only [radomeref39_May.hs, radomeref39_May.b0, e1, if_true, if_pos (show (0 : Int) ≤ (i : Int) ∧ (i : Int) < (L.length : Int) by omega), rd_get hi, wsucc (show i < 1000000000 by omega)]
    rw [drop_cons hi, List.all_cons]
    have e2 : ((((decide ((-8388608) ≤ (L[i].f_X))) && (decide ((L[i].f_X) ≤ 8388607))) && (decide ((-8388608) ≤ (L[i].f_Y)))) && (decide ((L[i].f_Y) ≤ 8388607))) = cnB (cs L[i]) := by
      unfold cnB cs; simp only [Bool.decide_and, Bool.and_assoc]
    rw [e2]
    cases hb : cnB (cs L[i]) with
    | true => rw [Bool.true_and]; exact ih
    | false =>
      refine Ev.step (fun k => rfl) ?_
      simp only [radomeref39_May.hs, radomeref39_May.b0, Bool.and_false, Bool.false_eq_true, if_false, Bool.false_and]; exact Ev.now
theorem rmay_ev (z : radomeref39_Zone) : Ev (fun k => radomeref39_May.f k z) (mayZ (gz z)) := by
  unfold radomeref39_May.f mayZ gz
  simp only [List.length_map, List.all_map]
  by_cases h : 1 ≤ z.f_Name.size ∧ z.f_Name.size ≤ 32 ∧ 3 ≤ z.f_Corners.length ∧ z.f_Corners.length ≤ 32
  · have e1 : ((((decide (1 ≤ (z.f_Name.size : Int))) && (decide ((z.f_Name.size : Int) ≤ 32))) && (decide (3 ≤ (z.f_Corners.length : Int)))) && (decide ((z.f_Corners.length : Int) ≤ 32))) = true := by simp; omega
    simp only [e1, decide_eq_true h, Bool.true_and]
    exact rmay_l0 h.2.2.2 z.f_Corners.length 0 (by omega)
  · have e1 : ((((decide (1 ≤ (z.f_Name.size : Int))) && (decide ((z.f_Name.size : Int) ≤ 32))) && (decide (3 ≤ (z.f_Corners.length : Int)))) && (decide ((z.f_Corners.length : Int) ≤ 32))) = false := by simp; omega
    simp only [e1, decide_eq_false h, Bool.false_and]
    refine Ev.step (fun k => rfl) ?_
    simp only [radomeref39_May.hs, radomeref39_May.b0, Bool.and_false, Bool.false_eq_true, if_false]; exact Ev.now
theorem give_l0 {nm : ByteArray} {L : List radomeref39_Spot} {t : ByteArray} (hl : L.length ≤ 1000000) : ∀ (n i : Nat), L.length = i + n → Ev (fun k => (radomelaw39_give.hs k).l0 nm L t nm ((L.take i).map cs) (i : Int)) ⟨nm, L.map cs⟩
  | 0, i, e => by
    refine Ev.step (fun k => rfl) ?_
    simp only [radomelaw39_give.hs, radomelaw39_give.b0, if_neg (show ¬ (i : Int) < (L.length : Int) by omega)]
    rw [List.take_of_length_le (by omega)]; exact Ev.now
  | n + 1, i, e => by
    have hi : i < L.length := by omega
    have ih := give_l0 hl (nm := nm) (t := t) n (i + 1) (by omega)
    have e2 : (L.take i).map cs ++ [(⟨(L[i]).f_X, (L[i]).f_Y⟩ : zone_Spot)] = (L.take (i + 1)).map cs := by
      rw [List.take_succ_eq_append_getElem hi, List.map_append]; rfl
    refine Ev.step (fun k => rfl) ?_
    simp only [radomelaw39_give.hs, radomelaw39_give.b0, if_pos (show (i : Int) < (L.length : Int) by omega), if_pos (show (0 : Int) ≤ (i : Int) ∧ (i : Int) < (L.length : Int) by omega), rd_get hi, wsucc (show i < 1000000000 by omega), e2]
    simp only [if_pos (show ((L.take i).map cs).length + [(⟨(L[i]).f_X, (L[i]).f_Y⟩ : zone_Spot)].length ≤ 17592186044288 by simp; omega)]; exact ih
theorem give_ev {z : radomeref39_Zone} (hl : z.f_Corners.length ≤ 1000000) : Ev (fun k => radomelaw39_give.f k z) (gz z) := by
  unfold radomelaw39_give.f; exact give_l0 hl z.f_Corners.length 0 (by omega)
theorem i32_wf {x : Int} (h : (Lit.int .i32 x).wf = true) : -2147483648 ≤ x ∧ x ≤ 2147483647 := by
  simpa [Lit.wf, IntKind.min, IntKind.max, IntKind.signed, IntKind.bits] using h
/-! ### the document's way of an edge -/
end Go.Proofs.Ytoijknggnlbopaa.Pure

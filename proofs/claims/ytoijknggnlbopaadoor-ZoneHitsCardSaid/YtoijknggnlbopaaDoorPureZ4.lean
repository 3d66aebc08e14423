/- Zones: how the document reckons where a place lies, and how great a zone is. -/
import Derived.Test.YtoijknggnlbopaaDoorPureZ3
namespace Go.Proofs.YtoijknggnlbopaaDoor.Pure
open Go.RowKit Go.Proofs.YtoijknggnlbopaaDoorK Go.Proofs.YtoijknggnlbopaaDoor.GZH
set_option linter.unusedVariables false
set_option linter.unusedSimpArgs false
set_option maxRecDepth 100000
def rpt (s : radomeref39_Spot) : Pt := (s.f_X, s.f_Y)
def whO (E : List (Pt × Pt)) (p : Pt) (odd : Bool) : Int := if E.any (onE p) = true then 1 else if Bool.xor odd (xr (E.map (psE p))) = true then 2 else 0
theorem whO_out {e : Pt × Pt} {E : List (Pt × Pt)} {p : Pt} {odd : Bool} (h1 : onE p e = false) (h2 : psE p e = false) : whO (e :: E) p odd = whO E p odd := by
  unfold whO; rw [List.any_cons, h1, Bool.false_or, List.map_cons, h2, xr]; simp
theorem whO_on {e : Pt × Pt} {E : List (Pt × Pt)} {p : Pt} {odd : Bool} (h1 : onE p e = true) : whO (e :: E) p odd = 1 := by
  unfold whO; rw [List.any_cons, h1, Bool.true_or, if_pos rfl]
theorem whO_ps {e : Pt × Pt} {E : List (Pt × Pt)} {p : Pt} {odd : Bool} (h1 : onE p e = false) (h2 : psE p e = true) : whO (e :: E) p odd = whO E p (!odd) := by
  unfold whO; rw [List.any_cons, h1, Bool.false_or, List.map_cons, h2, xr]; cases odd <;> simp
theorem rwh_j2 {nm : ByteArray} {L : List radomeref39_Spot} {odd : Bool} {x y : Int} {i : Nat} {lo hi : Pt} {E : List (Pt × Pt)} (hi0 : i < 1000000000) (h1 : Cn lo) (h2 : Cn hi) (hs : lo.2 ≤ hi.2) (hp : Pl (x, y)) {n : Int}
    (ih : ∀ o, Ev (fun k => (radomeref39_Where.hs k).l0 nm L 0 n o x y ((i + 1 : Nat) : Int)) (whO E (x, y) o)) :
    Ev (fun k => radomeref39_Where.j2 k (radomeref39_Where.hs k) nm L 0 n odd x y (i : Int) lo.1 lo.2 hi.1 hi.2) (whO ((lo, hi) :: E) (x, y) odd) := by
  have hb := sdb h1 h2 hp
  have hb2 := mulb (x := lo.1) (y := hi.2 - lo.2) (A := 8388608) (B := 16777216) (by unfold Cn at h1; omega) (by unfold Cn at h1 h2; omega)
  have hb3 := mulb (x := x) (y := hi.2 - lo.2) (A := 2147483648) (B := 16777216) (by unfold Pl at hp; simp only at hp; omega) (by unfold Cn at h1 h2; omega)
  unfold Cn at h1 h2; unfold Pl at hp; simp only at hp hb
  unfold radomeref39_Where.j2
  simp only [wi (x := lo.1) (by omega), wi (x := lo.2) (by omega), wi (x := hi.1) (by omega), wi (x := hi.2) (by omega), wsucc hi0]
  by_cases c1 : y < lo.2 ∨ hi.2 < y
  · obtain ⟨a, b⟩ := e_out (p := (x, y)) hs c1
    have e1 : (decide (y < lo.2) || decide (hi.2 < y)) = true := by simp; exact c1
    simp only [e1, if_true]
    rw [whO_out a b]; exact ih odd
  · have e1 : (decide (y < lo.2) || decide (hi.2 < y)) = false := by simp; omega
    simp only [e1, Bool.false_eq_true, if_false]
    by_cases c2 : lo.2 = hi.2
    · obtain ⟨a, b⟩ := e_flat (p := (x, y)) c2 (show lo.2 ≤ y by omega) (show y ≤ hi.2 by omega)
      simp only [if_pos c2]
      by_cases c3 : min lo.1 hi.1 ≤ x ∧ x ≤ max lo.1 hi.1
      · have e2 : (decide (min lo.1 hi.1 ≤ x) && decide (x ≤ max lo.1 hi.1)) = true := by rw [decide_eq_true c3.1, decide_eq_true c3.2]; rfl
        simp only [e2, if_true]
        rw [whO_on (by rw [a]; exact decide_eq_true c3)]; exact Ev.now
      · have e2 : (decide (min lo.1 hi.1 ≤ x) && decide (x ≤ max lo.1 hi.1)) = false := by rw [← Bool.decide_and]; exact decide_eq_false c3
        simp only [e2, Bool.false_eq_true, if_false]
        rw [whO_out (by rw [a]; exact decide_eq_false c3) b]; exact ih odd
    · obtain ⟨a, b⟩ := e_slope (lo := lo) (hi := hi) (p := (x, y)) (by omega) (show lo.2 ≤ y by omega) (show y ≤ hi.2 by omega)
      simp only [if_neg c2]
      have hd : w64 (w64 (w64 (lo.1 * w64 (hi.2 - lo.2)) + w64 (w64 (hi.1 - lo.1) * w64 (y - lo.2))) - w64 (x * w64 (hi.2 - lo.2))) = sd lo hi (x, y) := by
        rw [wi (x := hi.2 - lo.2) (by omega), wi (x := hi.1 - lo.1) (by omega), wi (x := y - lo.2) (by omega)]
        unfold sd; simp only
        rw [Int.sub_mul x]
        obtain ⟨⟨h3, h4⟩, -⟩ := hb
        generalize (hi.1 - lo.1) * (y - lo.2) = m1 at h3 h4 ⊢
        generalize lo.1 * (hi.2 - lo.2) = m2 at hb2 ⊢
        generalize x * (hi.2 - lo.2) = m3 at hb3 ⊢
        rw [wi (x := m2) (by omega), wi (x := m1) (by omega), wi (x := m3) (by omega), wi (x := m2 + m1) (by omega), wi (by omega)]; omega
      simp only [hd]
      by_cases c3 : sd lo hi (x, y) = 0
      · simp only [if_pos c3]
        rw [whO_on (by rw [a]; exact decide_eq_true c3)]; exact Ev.now
      · simp only [if_neg c3]
        have a' : onE (x, y) (lo, hi) = false := by rw [a]; exact decide_eq_false c3
        by_cases c4 : y < hi.2 ∧ 0 < sd lo hi (x, y)
        · have e2 : (decide (y < hi.2) && decide (0 < sd lo hi (x, y))) = true := by rw [decide_eq_true c4.1, decide_eq_true c4.2]; rfl
          simp only [e2, if_true]
          rw [whO_ps a' (by rw [b]; exact decide_eq_true c4)]; exact ih (!odd)
        · have e2 : (decide (y < hi.2) && decide (0 < sd lo hi (x, y))) = false := by rw [← Bool.decide_and]; exact decide_eq_false c4
          simp only [e2, Bool.false_eq_true, if_false]
          rw [whO_out a' (by rw [b]; exact decide_eq_false c4)]; exact ih odd
theorem rwh_l0 {nm : ByteArray} {L : List radomeref39_Spot} {x y : Int} (hl : L.length ≤ 32) (hc : ∀ s ∈ L, Cn (rpt s)) (hp : Pl (x, y)) : ∀ (n i : Nat) (odd : Bool), L.length = i + n → Ev (fun k => (radomeref39_Where.hs k).l0 nm L 0 (L.length : Int) odd x y (i : Int)) (whO ((ed (L.map rpt)).drop i) (x, y) odd)
  | 0, i, odd, e => by
    refine Ev.step (fun k => rfl) ?_
    simp only [radomeref39_Where.hs, radomeref39_Where.b0, if_neg (show ¬ (i : Int) < (L.length : Int) by omega)]
    rw [List.drop_eq_nil_of_le (by rw [ed_len, List.length_map]; omega)]
    unfold whO
    cases odd
    · simp only [List.any_nil, Bool.false_eq_true, if_false, List.map_nil, xr, Bool.xor_false]; exact Ev.now
    · simp only [List.any_nil, Bool.false_eq_true, if_false, List.map_nil, xr, Bool.xor_false, if_true]; exact Ev.now
  | n + 1, i, odd, e => by
    have hi : i < L.length := by omega
    have hm : (i + 1) % L.length < L.length := Nat.mod_lt _ (by omega)
    have ih := fun o => rwh_l0 hl hc hp (nm := nm) n (i + 1) o (by omega)
    have hw : w64 ((i : Int) + 1) = ((i + 1 : Nat) : Int) := wsucc (by omega)
    refine Ev.step (fun k => rfl) ?_
    simp only [radomeref39_Where.hs, radomeref39_Where.b0, if_pos (show (i : Int) < (L.length : Int) by omega), if_pos (show (0 : Int) ≤ (i : Int) ∧ (i : Int) < (L.length : Int) by omega), if_pos (show (L.length : Int) ≠ 0 by omega), hw, tmod_nat _ _ (show 0 < L.length by omega), if_pos (show (0 : Int) ≤ (((i + 1) % L.length : Nat) : Int) ∧ (((i + 1) % L.length : Nat) : Int) < (L.length : Int) by omega), rd_get hi, rd_get hm]
    have hml : (L.map rpt).length = L.length := List.length_map ..
    have hE : (ed (L.map rpt)).drop i = (rpt L[i], rpt L[(i + 1) % L.length]) :: (ed (L.map rpt)).drop (i + 1) := by
      rw [drop_cons (by rw [ed_len, hml]; exact hi), ed_at _ _ (by rw [hml]; exact hi) (by rw [hml]; exact hm)]
      simp only [List.getElem_map, hml]
    rw [hE]
    have h1 := hc _ (List.getElem_mem hi)
    have h2 := hc _ (List.getElem_mem hm)
    by_cases c : (L[(i + 1) % L.length]).f_Y < (L[i]).f_Y
    · simp only [if_pos c]
      have := rwh_j2 (nm := nm) (L := L) (odd := odd) (x := x) (y := y) (i := i) (lo := rpt L[(i + 1) % L.length]) (hi := rpt L[i]) (E := (ed (L.map rpt)).drop (i + 1)) (n := (L.length : Int)) (by omega) h2 h1 (Int.le_of_lt c) hp ih
      have e2 : whO ((rpt L[(i + 1) % L.length], rpt L[i]) :: (ed (L.map rpt)).drop (i + 1)) (x, y) odd = whO ((rpt L[i], rpt L[(i + 1) % L.length]) :: (ed (L.map rpt)).drop (i + 1)) (x, y) odd := by
        unfold whO
        rw [List.any_cons, List.any_cons, List.map_cons, List.map_cons, show (rpt L[(i + 1) % L.length], rpt L[i]) = sw (rpt L[i], rpt L[(i + 1) % L.length]) from rfl, on_sw, ps_sw]
      rw [e2] at this; exact this
    · simp only [if_neg c]
      exact rwh_j2 (lo := rpt L[i]) (hi := rpt L[(i + 1) % L.length]) (by omega) h1 h2 (show (L[i]).f_Y ≤ (L[(i + 1) % L.length]).f_Y by omega) hp ih
theorem map_rpt (L : List radomeref39_Spot) : (L.map cs).map pt = L.map rpt := by rw [List.map_map]; rfl
theorem rwhere_ev {z : radomeref39_Zone} {p : radomeref39_Spot} (hz : mayZ (gz z) = true) (hp : Pl (rpt p)) : Ev (fun k => radomeref39_Where.f k z p) (wh (ed ((gz z).f_Corners.map pt)) (rpt p)) := by
  obtain ⟨hn, hc⟩ := may_of hz
  have hll : (gz z).f_Corners.length = z.f_Corners.length := by unfold gz; simp
  unfold radomeref39_Where.f
  have h1 : Pl (p.f_X, p.f_Y) := hp
  unfold Pl at h1; simp only at h1
  simp only [wi (x := p.f_X) (by omega), wi (x := p.f_Y) (by omega)]
  have := rwh_l0 (nm := z.f_Name) (L := z.f_Corners) (x := p.f_X) (y := p.f_Y) (by omega) (fun s hs => hc (cs s) (List.mem_map.2 ⟨s, hs, rfl⟩)) hp z.f_Corners.length 0 false (by omega)
  rw [List.drop_zero, ← map_rpt] at this
  have e : whO (ed ((z.f_Corners.map cs).map pt)) (p.f_X, p.f_Y) false = wh (ed ((gz z).f_Corners.map pt)) (rpt p) := by
    unfold whO wh; simp only [Bool.false_xor]; rfl
  rw [e] at this; exact this
end Go.Proofs.YtoijknggnlbopaaDoor.Pure

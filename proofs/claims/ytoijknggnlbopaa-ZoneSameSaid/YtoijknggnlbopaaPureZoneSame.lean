/- The plain law of ZoneSame. -/
import Derived.Test.YtoijknggnlbopaaPureZ3
namespace Go.Proofs.Ytoijknggnlbopaa.Pure
open Go.RowKit Go.Proofs.YtoijknggnlbopaaK Go.Proofs.Ytoijknggnlbopaa.GZS
set_option linter.unusedVariables false
set_option linter.unusedSimpArgs false
set_option maxRecDepth 100000
theorem w32i {x : Int} (h : -2147483648 ≤ x ∧ x ≤ 2147483647) : w32 x = x := by
  simp only [w32, IntKind.wrap, IntKind.bits, IntKind.signed]; simp; omega
def shf (s : zone_Spot) : zone_Spot := ⟨w32 (s.f_X + 7), w32 (s.f_Y - 5)⟩
theorem pt_shf {s : zone_Spot} (h : Cn (pt s)) : pt (shf s) = mv (7, -5) (pt s) := by
  unfold Cn pt at h; simp only at h
  unfold pt shf mv; simp only
  rw [w32i (by omega), w32i (by omega)]; rfl
theorem take_s {α : Type} {L : List α} {i : Nat} (h : i < L.length) : L.take i ++ [L[i]] = L.take (i + 1) := by rw [List.take_succ_eq_append_getElem h]
theorem rot_take {α : Type} {L : List α} {k i : Nat} (hk : k < L.length) (hi : i < L.length) (hm : (i + k) % L.length < L.length) : (L.drop k ++ L.take k).take i ++ [L[(i + k) % L.length]] = (L.drop k ++ L.take k).take (i + 1) := by
  have hl : i < (L.drop k ++ L.take k).length := by rw [List.length_append, List.length_drop, List.length_take]; omega
  rw [← take_s hl]
  congr 2
  rw [List.getElem_append]
  split
  · rename_i h2
    rw [List.length_drop] at h2
    rw [List.getElem_drop]; congr 1; rw [Nat.mod_eq_of_lt (by omega)]; omega
  · rename_i h2
    rw [List.length_drop] at h2
    rw [List.getElem_take]; congr 1
    rw [List.length_drop, show i + k = (i + k - L.length) + L.length by omega, Nat.add_mod_right, Nat.mod_eq_of_lt (by omega)]; omega
theorem rev_take {α : Type} {L : List α} {i : Nat} (hi : i < L.length) (h : L.length - 1 - i < L.length) : L.reverse.take i ++ [L[L.length - 1 - i]] = L.reverse.take (i + 1) := by
  have hl : i < L.reverse.length := by simpa using hi
  rw [← take_s hl, List.getElem_reverse]
theorem any_all {α : Type} {l l' : List α} {f : α → Bool} (h : l.Perm l') : l.all f = l'.all f := by
  rw [Bool.eq_iff_iff, List.all_eq_true, List.all_eq_true]
  exact ⟨fun a x hx => a x (h.mem_iff.2 hx), fun a x hx => a x (h.mem_iff.1 hx)⟩
theorem may_perm {a b : ByteArray} {L L' : List zone_Spot} (hb : 1 ≤ b.size ∧ b.size ≤ 32) (hp : L'.Perm L) (h : mayZ ⟨a, L⟩ = true) : mayZ ⟨b, L'⟩ = true := by
  unfold mayZ at h ⊢
  rw [Bool.and_eq_true] at h ⊢
  refine ⟨decide_eq_true ?_, by rw [any_all hp]; exact h.2⟩
  have := of_decide_eq_true h.1
  simp only at this ⊢
  rw [hp.length_eq]; omega
theorem whB (z : zone_Zone) {p : zone_Spot} (hp : Pl (pt p)) (h : mayZ z = true) : Ev (fun k => zone_Where.f k z p) (wh (ed (z.f_Corners.map pt)) (pt p), none) := by
  have := Where_ev z hp; rw [h] at this; exact this
theorem arB (z : zone_Zone) (h : mayZ z = true) : Ev (fun k => zone_Area.f k z) (max (ar (ed (z.f_Corners.map pt))) (- ar (ed (z.f_Corners.map pt))), none) := by
  have := (Area_ev z).1; rw [h] at this; exact this
theorem same_end {X : List zone_Spot} {nm nt nb nm' : ByteArray} {p : zone_Spot} {kk : Nat} {fine : Bool} (hz : mayZ ⟨nm, X⟩ = true) (hp : Pl (pt p)) (hk : kk < X.length) (ht : 1 ≤ nt.size ∧ nt.size ≤ 32) (hb : 1 ≤ nb.size ∧ nb.size ≤ 32) (hm : 1 ≤ nm'.size ∧ nm'.size ≤ 32)
    (hf : fine = ((((decide ((-1073741824) < p.f_X)) && (decide (p.f_X < 1073741824))) && (decide ((-1073741824) < p.f_Y))) && (decide (p.f_Y < 1073741824)))) :
    Ev (fun k => (radomelaw39_ZoneSame.hs k).l0 p.f_X p.f_Y nm X (X.length : Int) nt X.reverse nb (X.drop kk ++ X.take kk) nm' (X.map shf) (kk : Int) fine (X.length : Int)) true := by
  obtain ⟨hn, hc⟩ := may_of hz
  simp only at hn hc
  refine Ev.step (fun k => rfl) ?_
  simp only [radomelaw39_ZoneSame.hs, radomelaw39_ZoneSame.b0, if_neg (show ¬ (X.length : Int) < (X.length : Int) by omega), if_pos (show (0 : Int) ≤ (kk : Int) ∧ (kk : Int) < (X.length : Int) by omega), rd_get hk]
  have zt : mayZ ⟨nt, X.reverse⟩ = true := may_perm ht (List.reverse_perm X) hz
  have zb : mayZ ⟨nb, X.drop kk ++ X.take kk⟩ = true := may_perm hb (List.perm_append_comm.trans (by rw [List.take_append_drop])) hz
  refine Ev.bind (whB ⟨nm, X⟩ (p := ⟨p.f_X, p.f_Y⟩) hp hz) ?_
  refine Ev.bind (whB ⟨nt, X.reverse⟩ (p := ⟨p.f_X, p.f_Y⟩) hp zt) ?_
  refine Ev.bind (whB ⟨nb, X.drop kk ++ X.take kk⟩ (p := ⟨p.f_X, p.f_Y⟩) hp zb) ?_
  refine Ev.bind (arB ⟨nm, X⟩ hz) ?_
  refine Ev.bind (arB ⟨nt, X.reverse⟩ zt) ?_
  refine Ev.bind (whB ⟨nm, X⟩ (cn_pl (hc _ (List.getElem_mem hk))) hz) ?_
  obtain ⟨r, hr, hbox, -, -, -, -⟩ := Box_ev hz
  refine Ev.bind hr ?_
  have c1 : wh (ed (X.reverse.map pt)) (pt ⟨p.f_X, p.f_Y⟩) = wh (ed (X.map pt)) (pt ⟨p.f_X, p.f_Y⟩) := by rw [List.map_reverse, wh_rev]
  have c2 : wh (ed ((X.drop kk ++ X.take kk).map pt)) (pt ⟨p.f_X, p.f_Y⟩) = wh (ed (X.map pt)) (pt ⟨p.f_X, p.f_Y⟩) := by
    rw [List.map_append, wh_rot, ← List.map_append, List.take_append_drop]
  have c3 : max (ar (ed (X.reverse.map pt))) (- ar (ed (X.reverse.map pt))) = max (ar (ed (X.map pt))) (- ar (ed (X.map pt))) := by rw [List.map_reverse, ar_rev, Int.neg_neg, Int.max_comm]
  have c4 : wh (ed (X.map pt)) (pt X[kk]) = 1 := by
    have := wh_corner (X.map pt) kk (by simpa using hk); rwa [List.getElem_map] at this
  simp only [c1, c2, c3, c4, Option.isSome_none, Bool.or_self, decide_true, Bool.not_true, Bool.false_eq_true, if_false]
  have hout : (((((decide (p.f_X < r.1.f_X)) || (decide (p.f_Y < r.1.f_Y))) || (decide (r.2.f_X < p.f_X))) || (decide (r.2.f_Y < p.f_Y))) && (!decide (wh (ed (X.map pt)) (pt ⟨p.f_X, p.f_Y⟩) = 0))) = false := by
    by_cases ho : p.f_X < r.1.f_X ∨ p.f_Y < r.1.f_Y ∨ r.2.f_X < p.f_X ∨ r.2.f_Y < p.f_Y
    · have := wh_out (z := X.map pt) (lo := pt r.1) (hi := pt r.2) (p := pt ⟨p.f_X, p.f_Y⟩) (fun c hc => by
        obtain ⟨s, hs, rfl⟩ := List.mem_map.1 hc
        exact hbox s hs) ho
      rw [this]; simp
    · have : ((((decide (p.f_X < r.1.f_X)) || (decide (p.f_Y < r.1.f_Y))) || (decide (r.2.f_X < p.f_X))) || (decide (r.2.f_Y < p.f_Y))) = false := by simp; omega
      rw [this, Bool.false_and]
  simp only [hout, Bool.false_eq_true, if_false]
  cases hfi : fine with
  | false =>
    simp only [gdf]
    refine Ev.bind Ev.now ?_
    simp only [Bool.false_and, Bool.false_eq_true, if_false]
    exact Ev.bind sure_ev39 Ev.now
  | true =>
    simp only [gdt]
    refine Ev.bind (Check_ev ⟨nm', X.map shf⟩) ?_
    cases hmv : mayZ ⟨nm', X.map shf⟩ with
    | false =>
      simp only [Bool.false_eq_true, if_false, Option.isNone_some, Bool.and_false]
      exact Ev.bind sure_ev39 Ev.now
    | true =>
      simp only [if_true, Option.isNone_none, Bool.and_self]
      rw [hfi] at hf
      have hf' : -1073741824 < p.f_X ∧ p.f_X < 1073741824 ∧ -1073741824 < p.f_Y ∧ p.f_Y < 1073741824 := by
        have := hf.symm; simp only [Bool.and_eq_true, decide_eq_true_eq] at this; omega
      have hpm : pt ⟨w32 (p.f_X + 7), w32 (p.f_Y - 5)⟩ = mv (7, -5) (pt ⟨p.f_X, p.f_Y⟩) := by
        unfold pt mv; simp only; rw [w32i (by omega), w32i (by omega)]; rfl
      have hxm : (X.map shf).map pt = (X.map pt).map (mv (7, -5)) := by
        rw [List.map_map, List.map_map]; exact List.map_congr_left fun s hs => pt_shf (hc s hs)
      refine Ev.bind (whB ⟨nm', X.map shf⟩ (p := ⟨w32 (p.f_X + 7), w32 (p.f_Y - 5)⟩) (by rw [hpm]; unfold Pl mv pt; simp only; omega) hmv) ?_
      refine Ev.bind (arB ⟨nm', X.map shf⟩ hmv) ?_
      simp only [hxm, hpm, wh_mv, ar_mv, Option.isSome_none, Bool.or_self, decide_true, Bool.not_true, Bool.false_eq_true, if_false]
      exact Ev.bind sure_ev39 Ev.now
theorem same_l0 {X : List zone_Spot} {nm nt nb nm' : ByteArray} {p : zone_Spot} {kk : Nat} {fine : Bool} {r : Bool} (hl : X.length ≤ 32) (hk : kk < X.length)
    (hend : Ev (fun k => (radomelaw39_ZoneSame.hs k).l0 p.f_X p.f_Y nm X (X.length : Int) nt X.reverse nb (X.drop kk ++ X.take kk) nm' (X.map shf) (kk : Int) fine (X.length : Int)) r) :
    ∀ (n i : Nat), X.length = i + n → Ev (fun k => (radomelaw39_ZoneSame.hs k).l0 p.f_X p.f_Y nm X (X.length : Int) nt (X.reverse.take i) nb ((X.drop kk ++ X.take kk).take i) nm' ((X.take i).map shf) (kk : Int) fine (i : Int)) r
  | 0, i, e => by
    rw [List.take_of_length_le (l := X.reverse) (by simp; omega), List.take_of_length_le (l := X.drop kk ++ X.take kk) (by simp; omega), List.take_of_length_le (l := X) (i := i) (by omega), show i = X.length by omega]
    exact hend
  | n + 1, i, e => by
    have hi : i < X.length := by omega
    have ih := same_l0 (nm := nm) (nt := nt) (nb := nb) (nm' := nm') (p := p) (fine := fine) hl hk hend n (i + 1) (by omega)
    have hm : (i + kk) % X.length < X.length := Nat.mod_lt _ (by omega)
    have hq : X.length - 1 - i < X.length := by omega
    have w1 : w64 (w64 ((X.length : Int) - 1) - (i : Int)) = ((X.length - 1 - i : Nat) : Int) := by rw [wi (x := (X.length : Int) - 1) (by omega), wi (by omega)]; omega
    have w2 : w64 ((i : Int) + (kk : Int)) = ((i + kk : Nat) : Int) := by rw [wi (by omega)]; omega
    refine Ev.step (fun k => rfl) ?_
    simp only [radomelaw39_ZoneSame.hs, radomelaw39_ZoneSame.b0, if_pos (show (i : Int) < (X.length : Int) by omega), if_pos (show (0 : Int) ≤ (i : Int) ∧ (i : Int) < (X.length : Int) by omega), rd_get hi, wsucc (show i < 1000000000 by omega), w1, w2, tmod_nat _ _ (show 0 < X.length by omega), if_pos (show (0 : Int) ≤ ((X.length - 1 - i : Nat) : Int) ∧ ((X.length - 1 - i : Nat) : Int) < (X.length : Int) by omega), if_pos (show (0 : Int) ≤ (((i + kk) % X.length : Nat) : Int) ∧ (((i + kk) % X.length : Nat) : Int) < (X.length : Int) by omega), rd_get hq, rd_get hm, rev_take hi hq, rot_take hk hi hm,
      if_pos (show (X.length : Int) ≠ 0 by omega), if_pos (show (X.reverse.take i).length + 1 ≤ 17592186044288 by simp; omega), if_pos (show ((X.drop kk ++ X.take kk).take i).length + 1 ≤ 17592186044288 by simp; omega), if_pos (show ((X.take i).map shf).length + [(⟨w32 ((X[i]).f_X + 7), w32 ((X[i]).f_Y - 5)⟩ : zone_Spot)].length ≤ 17592186044288 by simp; omega)]
    have e2 : (X.take i).map shf ++ [(⟨w32 ((X[i]).f_X + 7), w32 ((X[i]).f_Y - 5)⟩ : zone_Spot)] = (X.take (i + 1)).map shf := by
      rw [← take_s hi, List.map_append]; rfl
    simp only [e2]; exact ih
theorem ZoneSame : radomelaw39_ZoneSame.Pure := by
  intro z p at_ hz hp ha
  have hp1 := i32_wf hp.1
  have hp2 := i32_wf hp.2
  have hpl : Pl (pt ⟨p.f_X, p.f_Y⟩) := ⟨hp1, hp2⟩
  suffices h : Ev (fun k => radomelaw39_ZoneSame.f k z p at_) true from h.ex
  unfold radomelaw39_ZoneSame.f
  refine Ev.bind (rmay_ev z) ?_
  cases hm : mayZ (gz z) with
  | false => simp only [Bool.not_false, if_true]; exact Ev.bind sure_ev39 Ev.now
  | true =>
    simp only [Bool.not_true, Bool.false_eq_true, if_false]
    obtain ⟨hn, hc⟩ := may_of hm
    have hll : (gz z).f_Corners.length = z.f_Corners.length := by unfold gz; simp
    rw [hll] at hn
    refine Ev.bind (give_ev (by omega)) ?_
    have hmod : (z.f_Corners.length : Int) % 18446744073709551616 = (z.f_Corners.length : Int) := by omega
    simp only [hmod, if_pos (show (z.f_Corners.length : Int) ≠ 0 by omega)]
    have hat : 0 ≤ at_ % 18446744073709551616 := Int.emod_nonneg _ (by omega)
    obtain ⟨A, hA⟩ : ∃ A : Nat, at_ % 18446744073709551616 = (A : Int) := ⟨(at_ % 18446744073709551616).toNat, by omega⟩
    have hkk : A % z.f_Corners.length < z.f_Corners.length := Nat.mod_lt _ (by omega)
    rw [hA, tmod_nat _ _ (by omega), wi (by omega)]
    have hX : (gz z).f_Corners = z.f_Corners.map cs := rfl
    have key := same_l0 (X := (gz z).f_Corners) (nm := (gz z).f_Name) (nt := str_2) (nb := str_3) (nm' := str_4) (p := ⟨p.f_X, p.f_Y⟩) (kk := A % z.f_Corners.length) (by omega) (by omega) (same_end hm hpl (by omega) (by decide) (by decide) (by decide) rfl) (gz z).f_Corners.length 0 (by omega)
    rw [hll] at key
    simpa using key
end Go.Proofs.Ytoijknggnlbopaa.Pure

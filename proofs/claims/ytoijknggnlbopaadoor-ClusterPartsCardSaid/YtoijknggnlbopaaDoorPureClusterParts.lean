/- The plain law of ClusterParts. -/
import Derived.Test.YtoijknggnlbopaaDoorPureCU5
namespace Go.Proofs.YtoijknggnlbopaaDoor.Pure
open Go.RowKit Go.Proofs.YtoijknggnlbopaaDoorK Go.Proofs.YtoijknggnlbopaaDoor.GCP
set_option linter.unusedVariables false
set_option linter.unusedSimpArgs false
set_option linter.unusedSectionVars false
set_option maxRecDepth 100000
/-- The mark of a group: its place and one more. -/
def mk (R : List Nat) (i t : Nat) : Int := if t ∈ R.take i then ((R.idxOf t + 1 : Nat) : Int) else 0
theorem mk_zero (R : List Nat) (t : Nat) : mk R 0 t = 0 := by unfold mk; rw [List.take_zero, if_neg (by simp)]
theorem mk_succ {R : List Nat} (hR : R.Nodup) {i : Nat} (hi : i < R.length) (t : Nat) : mk R (i + 1) t = if t = R[i] then ((i + 1 : Nat) : Int) else mk R i t := by
  unfold mk
  have e : R.take (i + 1) = R.take i ++ [R[i]] := by rw [List.take_add_one, List.getElem?_eq_getElem hi]; rfl
  rw [e]
  by_cases c : t = R[i]
  · rw [if_pos c, if_pos (by rw [c]; exact List.mem_append_right _ (List.mem_singleton.2 rfl)), c, hR.idxOf_getElem i hi]
  · rw [if_neg c]
    by_cases c2 : t ∈ R.take i
    · rw [if_pos c2, if_pos (List.mem_append_left _ c2)]
    · rw [if_neg c2, if_neg fun h => (List.mem_append.1 h).elim c2 fun h => c (List.mem_singleton.1 h)]
theorem mk_self {R : List Nat} (hR : R.Nodup) {i : Nat} (hi : i < R.length) : mk R i R[i] = 0 := by
  unfold mk
  refine if_neg fun h => ?_
  obtain ⟨j, hj, e⟩ := List.getElem_of_mem h
  rw [List.getElem_take] at e
  rw [List.length_take] at hj
  have := (List.getElem_inj hR).1 e
  omega
theorem mk_all {R : List Nat} {t : Nat} : mk R R.length t = if t ∈ R then ((R.idxOf t + 1 : Nat) : Int) else 0 := by unfold mk; rw [List.take_length]
section
variable {pairs : List (List Int)} {m : Nat} {T : Nat → Nat} {fr : List Int}
theorem cp_l0 (hn : pairs.length ≤ 64) (hm : m ≤ 64) {r : Bool} (hgo : Ev (fun q => (radomelaw19_ClusterParts.hs q).l2 pairs (m : Int) false fr (arr pairs.length fun x => mk (Rt T pairs.length) (Rt T pairs.length).length (T x)) (arr m fun p => mk (Rt T pairs.length) (Rt T pairs.length).length (T (pairs.length + p))) 0) r) : ∀ (d i : Nat), (Rt T pairs.length).length = i + d → Ev (fun q => (radomelaw19_ClusterParts.hs q).l0 pairs (m : Int) false (outG T pairs.length pairs.length m (Rt T pairs.length)) fr (arr pairs.length fun x => mk (Rt T pairs.length) i (T x)) (arr m fun p => mk (Rt T pairs.length) i (T (pairs.length + p))) (i : Int)) r
  | 0, i, e => by
    have : i = (Rt T pairs.length).length := by omega
    subst this
    have el : (outG T pairs.length pairs.length m (Rt T pairs.length)).length = (Rt T pairs.length).length := by unfold outG; rw [List.length_map]
    refine Ev.step (fun k => rfl) ?_
    simp only [radomelaw19_ClusterParts.hs, radomelaw19_ClusterParts.b0, el, if_neg (show ¬ ((Rt T pairs.length).length : Int) < ((Rt T pairs.length).length : Int) by omega)]
    exact hgo
  | d + 1, i, e => by
    have hi : i < (Rt T pairs.length).length := by omega
    have hR := Rt_nodup T pairs.length
    have hRl : (Rt T pairs.length).length ≤ pairs.length := flt_len _ _
    have el : (outG T pairs.length pairs.length m (Rt T pairs.length)).length = (Rt T pairs.length).length := by unfold outG; rw [List.length_map]
    have er : rd (outG T pairs.length pairs.length m (Rt T pairs.length)) (i : Int) = ⟨tr T pairs.length (Rt T pairs.length)[i], pl T pairs.length m (Rt T pairs.length)[i]⟩ := by
      rw [rd_get (by rw [el]; exact hi)]; unfold outG; rw [List.getElem_map]
    have ih := cp_l0 hn hm hgo d (i + 1) (by omega)
    have l1 := flt_len (fun j => decide (T j = (Rt T pairs.length)[i])) pairs.length
    have l2 := flt_len (fun j => decide (T (pairs.length + j) = (Rt T pairs.length)[i])) m
    refine Ev.step (fun k => rfl) ?_
    simp only [radomelaw19_ClusterParts.hs, radomelaw19_ClusterParts.b0, el, if_pos (show (i : Int) < ((Rt T pairs.length).length : Int) by omega)]
    refine cp_l1 (A := (List.range pairs.length).filter fun j => decide (T j = (Rt T pairs.length)[i])) (by omega) (by omega) (by rw [er]; rfl) (fun x hx => List.mem_range.1 (List.mem_filter.1 hx).1) (by omega) _ 0 _ (Nat.zero_add _).symm (fun x hx => ?_) (List.Pairwise.filter _ List.nodup_range) ?_
    · have := of_decide_eq_true (List.mem_filter.1 hx).2
      show mk _ _ (T x) = 0; rw [this]; exact mk_self hR hi
    refine cp_l3 (A := (List.range m).filter fun j => decide (T (pairs.length + j) = (Rt T pairs.length)[i])) (by omega) (by omega) (by rw [er]; rfl) (fun x hx => List.mem_range.1 (List.mem_filter.1 hx).1) (by omega) _ 0 _ (Nat.zero_add _).symm (fun x hx => ?_) (List.Pairwise.filter _ List.nodup_range) ?_
    · have := of_decide_eq_true (List.mem_filter.1 hx).2
      show mk _ _ (T (pairs.length + x)) = 0; rw [this]; exact mk_self hR hi
    rw [List.drop_zero, List.drop_zero]
    rw [arr_congr (n := pairs.length) (G := fun x => mk (Rt T pairs.length) (i + 1) (T x)) (fun x hx => ?_), arr_congr (n := m) (G := fun p => mk (Rt T pairs.length) (i + 1) (T (pairs.length + p))) (fun x hx => ?_)]
    · exact ih
    · simp only [put, mk_succ hR hi, List.mem_filter, List.mem_range, decide_eq_true_eq, hx, true_and]
    · simp only [put, mk_succ hR hi, List.mem_filter, List.mem_range, decide_eq_true_eq, hx, true_and]
end
theorem cp_l6 {m : Nat} {S : Nat → Int} (hm : m ≤ 64) (hS : ∀ p, p < m → S p ≠ 0) : ∀ (d p : Nat), m = p + d → Ev (fun q => (radomelaw19_ClusterParts.hs q).l6 (m : Int) false (arr m S) (p : Int)) true
  | 0, p, e => by
    refine Ev.step (fun k => rfl) ?_
    simp only [radomelaw19_ClusterParts.hs, radomelaw19_ClusterParts.b6, if_neg (show ¬ (p : Int) < (m : Int) by omega)]
    exact Ev.bind sure_ev19 Ev.now
  | d + 1, p, e => by
    have ih := cp_l6 hm hS d (p + 1) (by omega)
    refine Ev.step (fun k => rfl) ?_
    simp only [radomelaw19_ClusterParts.hs, radomelaw19_ClusterParts.b6, arr_len, if_pos (show (p : Int) < (m : Int) by omega), if_pos (show (0 : Int) ≤ (p : Int) ∧ (p : Int) < (m : Int) by omega), arr_rd (show p < m by omega), if_neg (hS p (by omega)), wsucc (show p < 4611686018427387904 by omega)]
    exact ih
theorem cp_l5 {pairs : List (List Int)} {m : Nat} {F S : Nat → Int} {t : Nat} {r : Bool} (ht : t < pairs.length) (hn : pairs.length ≤ 64) (hl : (pairs[t]).length ≤ 17592186044416) (hE : ∀ x ∈ pairs[t], ∃ p : Nat, x = (p : Int) ∧ p < m ∧ S p = F t) (hgo : Ev (fun q => (radomelaw19_ClusterParts.hs q).l4 pairs (m : Int) false (arr pairs.length F) (arr m S) ((t + 1 : Nat) : Int)) r) : ∀ (d k : Nat), (pairs[t]).length = k + d → Ev (fun q => (radomelaw19_ClusterParts.hs q).l5 pairs (m : Int) false (arr pairs.length F) (arr m S) (t : Int) (k : Int)) r
  | 0, k, e => by
    refine Ev.step (fun k => rfl) ?_
    simp only [radomelaw19_ClusterParts.hs, radomelaw19_ClusterParts.b5, if_pos (show (0 : Int) ≤ (t : Int) ∧ (t : Int) < (pairs.length : Int) by omega), rd_get ht, if_neg (show ¬ (k : Int) < ((pairs[t]).length : Int) by omega), wsucc (show t < 4611686018427387904 by omega)]
    exact hgo
  | d + 1, k, e => by
    have hk : k < (pairs[t]).length := by omega
    have ih := cp_l5 ht hn hl hE hgo d (k + 1) (by omega)
    obtain ⟨p, e1, e2, e3⟩ := hE _ (List.getElem_mem hk)
    refine Ev.step (fun k => rfl) ?_
    simp only [radomelaw19_ClusterParts.hs, radomelaw19_ClusterParts.b5, arr_len, if_pos (show (0 : Int) ≤ (t : Int) ∧ (t : Int) < (pairs.length : Int) by omega), rd_get ht, rd_get hk, if_pos (show (k : Int) < ((pairs[t]).length : Int) by omega), if_pos (show (0 : Int) ≤ (k : Int) ∧ (k : Int) < ((pairs[t]).length : Int) by omega), e1, if_pos (show (0 : Int) ≤ (p : Int) ∧ (p : Int) < (m : Int) by omega), arr_rd e2, arr_rd ht, if_pos e3, wsucc (show k < 4611686018427387904 by omega)]
    exact ih
theorem cp_l4 {pairs : List (List Int)} {m : Nat} {F S : Nat → Int} (hn : pairs.length ≤ 64) (hm : m ≤ 64) (hlen : ∀ l ∈ pairs, l.length ≤ 17592186044416) (hF : ∀ t, t < pairs.length → F t ≠ 0) (hE : ∀ t, (ht : t < pairs.length) → ∀ x ∈ pairs[t], ∃ p : Nat, x = (p : Int) ∧ p < m ∧ S p = F t) (hS : ∀ p, p < m → S p ≠ 0) : ∀ (d t : Nat), pairs.length = t + d → Ev (fun q => (radomelaw19_ClusterParts.hs q).l4 pairs (m : Int) false (arr pairs.length F) (arr m S) (t : Int)) true
  | 0, t, e => by
    refine Ev.step (fun k => rfl) ?_
    simp only [radomelaw19_ClusterParts.hs, radomelaw19_ClusterParts.b4, if_neg (show ¬ (t : Int) < (pairs.length : Int) by omega)]
    exact cp_l6 hm hS m 0 (by omega)
  | d + 1, t, e => by
    have ht : t < pairs.length := by omega
    have ih := cp_l4 hn hm hlen hF hE hS d (t + 1) (by omega)
    refine Ev.step (fun k => rfl) ?_
    simp only [radomelaw19_ClusterParts.hs, radomelaw19_ClusterParts.b4, arr_len, if_pos (show (t : Int) < (pairs.length : Int) by omega), if_pos (show (0 : Int) ≤ (t : Int) ∧ (t : Int) < (pairs.length : Int) by omega), arr_rd ht, if_neg (hF t ht)]
    exact cp_l5 ht hn (hlen _ (List.getElem_mem ht)) (hE t ht) ih _ 0 (Nat.zero_add _).symm
theorem arr_zero {n : Nat} {F : Nat → Int} (h : ∀ x, F x = 0) : List.replicate n (0 : Int) = arr n F := by
  refine (List.eq_replicate_iff.2 ⟨arr_len _ _, fun b hb => ?_⟩).symm
  unfold arr at hb
  obtain ⟨x, -, e⟩ := List.mem_map.1 hb
  rw [← e]; exact h x
theorem ClusterParts : radomelaw19_ClusterParts.Pure := by
  intro pairs plots hp hpl
  have hlen : ∀ l ∈ pairs, l.length ≤ 17592186044416 := fun l hl => by have := (hp.2 l hl).1.2; omega
  show ∃ k, (fun k => radomelaw19_ClusterParts.f k pairs plots) k = some true
  refine Ev.ex ?_
  unfold radomelaw19_ClusterParts.f
  cases hc : chkV pairs plots with
  | some e =>
    refine Ev.bind (Of_bad hlen hc) (Ev.bind (Free_bad hlen hc) ?_)
    simp only [Option.isSome_some, if_true, decide_true, gdt]
    exact Ev.bind sure_ev19 Ev.now
  | none =>
    obtain ⟨hn, hm0, hm1, ok⟩ := chk_none hc
    obtain ⟨m, rfl⟩ : ∃ m : Nat, plots = (m : Int) := ⟨plots.toNat, by omega⟩
    have hm : m ≤ 64 := by omega
    obtain ⟨T, hh, hof⟩ := Of_ev hlen hc
    refine Ev.bind hof (Ev.bind (Free_ev hlen hc) ?_)
    simp only [Option.isSome_none, Bool.false_eq_true, if_false, if_pos (show 0 ≤ (pairs.length : Int) ∧ (pairs.length : Int) ≤ 35184372088832 by omega), if_pos (show 0 ≤ (m : Int) ∧ (m : Int) ≤ 35184372088832 by omega), Int.toNat_natCast]
    have hTR : ∀ t, t < pairs.length → T t ∈ Rt T pairs.length := fun t ht => Rt_mem.2 ⟨by have := hh.le t (by omega); omega, hh.idem t (by omega)⟩
    have hmp : ∀ t, t ∈ Rt T pairs.length → mk (Rt T pairs.length) (Rt T pairs.length).length t = (((Rt T pairs.length).idxOf t + 1 : Nat) : Int) := fun t ht => by rw [mk_all, if_pos ht]
    have r1 : List.replicate pairs.length (0 : Int) = arr pairs.length fun x => mk (Rt T pairs.length) 0 (T x) := arr_zero fun x => mk_zero _ _
    have r2 : List.replicate m (0 : Int) = arr m fun p => mk (Rt T pairs.length) 0 (T (pairs.length + p)) := arr_zero fun x => mk_zero _ _
    rw [r1, r2]
    have hfl := flt_len (fun p => !inP pairs p) m
    have hin : ∀ p, p < m → inP pairs p = true → ∃ t, t < pairs.length ∧ T (pairs.length + p) = T t := fun p hp2 h => by
      obtain ⟨l, hl, hpl2⟩ := List.any_eq_true.1 h
      obtain ⟨t, ht, rfl⟩ := List.getElem_of_mem hl
      exact ⟨t, ht, (hangs_free ok hh hp2).1 t ht (of_decide_eq_true hpl2)⟩
    refine cp_l0 hn hm (fr := freeL pairs m) ?_ _ 0 (Nat.zero_add _).symm
    refine cp_l2 (A := (List.range m).filter fun p => !inP pairs p) (fun x hx => List.mem_range.1 (List.mem_filter.1 hx).1) (by omega) _ 0 _ (Nat.zero_add _).symm (fun x hx => ?_) (List.Pairwise.filter _ List.nodup_range) ?_
    · obtain ⟨h1, h2⟩ := List.mem_filter.1 hx
      have h1 := List.mem_range.1 h1
      have h3 := (hangs_free ok hh h1).2 (by rwa [Bool.not_eq_true'] at h2)
      show mk _ _ (T (pairs.length + x)) = 0
      rw [h3, mk_all]
      exact if_neg fun h => by have := (Rt_mem.1 h).1; omega
    rw [List.drop_zero]
    refine cp_l4 hn hm hlen (fun t ht => ?_) (fun t ht x hx => ?_) (fun p hp2 => ?_) _ 0 (Nat.zero_add _).symm
    · show mk _ _ (T t) ≠ 0
      rw [hmp _ (hTR t ht)]; omega
    · have hb := okL_mem (List.all_eq_true.1 ok _ (List.getElem_mem ht)) x hx
      obtain ⟨p, rfl⟩ : ∃ p : Nat, x = (p : Int) := ⟨x.toNat, by omega⟩
      have hpm : p < m := by omega
      refine ⟨p, rfl, hpm, ?_⟩
      have hi : inP pairs p = true := List.any_eq_true.2 ⟨_, List.getElem_mem ht, decide_eq_true hx⟩
      unfold put
      rw [if_neg fun h => by have := (List.mem_filter.1 h).2; rw [hi] at this; cases this]
      show mk _ _ (T (pairs.length + p)) = mk _ _ (T t)
      rw [(hangs_free ok hh hpm).1 t ht hx]
    · unfold put
      by_cases c : p ∈ (List.range m).filter fun p => !inP pairs p
      · rw [if_pos c]; decide
      · rw [if_neg c]
        have hi : inP pairs p = true := by
          cases h : inP pairs p with
          | true => rfl
          | false => exact absurd (List.mem_filter.2 ⟨List.mem_range.2 hp2, by rw [h]; rfl⟩) c
        obtain ⟨t, ht, e⟩ := hin p hp2 hi
        show mk _ _ (T (pairs.length + p)) ≠ 0
        rw [e, hmp _ (hTR t ht)]; omega
end Go.Proofs.YtoijknggnlbopaaDoor.Pure

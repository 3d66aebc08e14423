/- The plain law of ClusterOf. -/
import Derived.Test.YtoijknggnlbopaaDoorPureCU4
namespace Go.Proofs.YtoijknggnlbopaaDoor.Pure
open Go.RowKit Go.Proofs.YtoijknggnlbopaaDoorK Go.Proofs.YtoijknggnlbopaaDoor.GCF
set_option linter.unusedVariables false
set_option linter.unusedSimpArgs false
set_option linter.unusedSectionVars false
set_option maxRecDepth 100000
theorem ints_l0 {a b : List Int} (hl : a.length = b.length) (hb : a.length ≤ 1000000) : ∀ (n i : Nat), a.length = i + n → Ev (fun k => (radomelaw19_ints.hs k).l0 a b false (i : Int)) (decide (a.drop i = b.drop i))
  | 0, i, e => by
    refine Ev.step (fun k => rfl) ?_
    simp only [radomelaw19_ints.hs, radomelaw19_ints.b0, if_neg (show ¬ (i : Int) < (a.length : Int) by omega)]
    rw [List.drop_eq_nil_of_le (by omega), List.drop_eq_nil_of_le (by omega), decide_eq_true rfl]
    exact Ev.now
  | n + 1, i, e => by
    have hi : i < a.length := by omega
    have hj : i < b.length := by omega
    refine Ev.step (fun k => rfl) ?_
    simp only [radomelaw19_ints.hs, radomelaw19_ints.b0, if_pos (show (i : Int) < (a.length : Int) by omega), if_pos (show (0 : Int) ≤ (i : Int) ∧ (i : Int) < (a.length : Int) by omega), if_pos (show (0 : Int) ≤ (i : Int) ∧ (i : Int) < (b.length : Int) by omega), rd_get hi, rd_get hj, wsucc (show i < 4611686018427387904 by omega)]
    rw [drop_cons hi, drop_cons hj]
    by_cases h : a[i] = b[i]
    · simp only [if_pos h]
      have e2 : decide (a[i] :: a.drop (i + 1) = b[i] :: b.drop (i + 1)) = decide (a.drop (i + 1) = b.drop (i + 1)) := by
        rw [decide_eq_decide]; exact ⟨fun x => (List.cons.inj x).2, fun x => by rw [h, x]⟩
      rw [e2]
      exact ints_l0 hl hb n (i + 1) (by omega)
    · simp only [if_neg h]
      have e2 : decide (a[i] :: a.drop (i + 1) = b[i] :: b.drop (i + 1)) = false := decide_eq_false fun x => h (List.cons.inj x).1
      rw [e2]; exact Ev.now
theorem ints_ev {a b : List Int} (hb : a.length ≤ 1000000) : Ev (fun k => radomelaw19_ints.f k a b) (decide (a = b)) := by
  unfold radomelaw19_ints.f
  by_cases h : a.length = b.length
  · simp only [if_pos (show (a.length : Int) = (b.length : Int) by omega)]
    have := ints_l0 h hb a.length 0 (by omega)
    rw [List.drop_zero, List.drop_zero] at this
    exact this
  · simp only [if_neg (show ¬ (a.length : Int) = (b.length : Int) by omega)]
    rw [decide_eq_false (fun x : a = b => h (by rw [x]))]
    exact Ev.now
theorem co_l0 {R : List Nat} {F : Nat → cluster_Group} {F' : Nat → radomeref19_Group} (hR : R.length ≤ 64) (hs : ∀ r ∈ R, (F r).f_Tracks = (F' r).f_Tracks ∧ (F r).f_Plots = (F' r).f_Plots ∧ (F r).f_Tracks.length ≤ 1000000 ∧ (F r).f_Plots.length ≤ 1000000) : ∀ (d i : Nat), R.length = i + d → Ev (fun k => (radomelaw19_ClusterOf.hs k).l0 false (R.map F) (R.map F') (i : Int)) true
  | 0, i, e => by
    refine Ev.step (fun k => rfl) ?_
    simp only [radomelaw19_ClusterOf.hs, radomelaw19_ClusterOf.b0, List.length_map, if_neg (show ¬ (i : Int) < (R.length : Int) by omega)]
    exact Ev.bind sure_ev19 Ev.now
  | d + 1, i, e => by
    have hi : i < R.length := by omega
    have ih := co_l0 hR hs d (i + 1) (by omega)
    obtain ⟨h1, h2, h3, h4⟩ := hs _ (List.getElem_mem hi)
    have r1 : rd (R.map F) (i : Int) = F R[i] := by rw [rd_get (by rw [List.length_map]; exact hi), List.getElem_map]
    have r2 : rd (R.map F') (i : Int) = F' R[i] := by rw [rd_get (by rw [List.length_map]; exact hi), List.getElem_map]
    have e1 := ints_ev (a := (F R[i]).f_Tracks) (b := (F' R[i]).f_Tracks) h3
    have e2 := ints_ev (a := (F R[i]).f_Plots) (b := (F' R[i]).f_Plots) h4
    rw [decide_eq_true h1] at e1
    rw [decide_eq_true h2] at e2
    refine Ev.step (fun k => rfl) ?_
    simp only [radomelaw19_ClusterOf.hs, radomelaw19_ClusterOf.b0, List.length_map, if_pos (show (i : Int) < (R.length : Int) by omega), if_pos (show (0 : Int) ≤ (i : Int) ∧ (i : Int) < (R.length : Int) by omega), r1, r2, wsucc (show i < 4611686018427387904 by omega)]
    refine Ev.bind e1 ?_
    simp only [Bool.not_true, Bool.not_false, Bool.false_or, gdt, if_pos (show (True → (0 : Int) ≤ (i : Int) ∧ (i : Int) < (R.length : Int)) from fun _ => by omega)]
    refine Ev.bind e2 ?_
    simp only [Bool.not_true, Bool.false_eq_true, if_false]
    exact ih
theorem ClusterOf : radomelaw19_ClusterOf.Pure := by
  intro pairs plots hp hpl
  have hlen : ∀ l ∈ pairs, l.length ≤ 17592186044416 := fun l hl => by have := (hp.2 l hl).1.2; omega
  show ∃ k, (fun k => radomelaw19_ClusterOf.f k pairs plots) k = some true
  refine Ev.ex ?_
  unfold radomelaw19_ClusterOf.f
  have hck := Check_ev (plots := plots) hlen
  have hrk := RCheck_ev (plots := plots) hlen
  cases hc : chkV pairs plots with
  | some e =>
    rw [hc] at hck hrk
    refine Ev.bind (Of_bad hlen hc) (Ev.bind (Free_bad hlen hc) (Ev.bind hrk ?_))
    simp only [decide_true, Bool.not_true, Bool.or_self, Bool.not_false, gdt]
    refine Ev.bind hck ?_
    have hne : errN (some e) ≠ 0 := by
      unfold chkV at hc
      by_cases c1 : 64 < pairs.length
      · rw [if_pos c1] at hc; cases hc; decide
      · rw [if_neg c1] at hc
        by_cases c2 : plots < 0 ∨ 64 < plots
        · rw [if_pos c2] at hc; cases hc; decide
        · rw [if_neg c2] at hc
          by_cases c3 : pairs.all (okL plots (-1)) = true
          · rw [if_pos c3] at hc; cases hc
          · rw [if_neg c3] at hc; cases hc; decide
    simp only [decide_true, Bool.not_true, Bool.or_self, Bool.false_eq_true, if_false, if_neg hne, List.length_nil, Int.natCast_zero, Bool.and_self, gdt]
    exact Ev.bind sure_ev19 Ev.now
  | none =>
    obtain ⟨hn, hm0, hm1, ok⟩ := chk_none hc
    obtain ⟨m, rfl⟩ : ∃ m : Nat, plots = (m : Int) := ⟨plots.toNat, by omega⟩
    have hm : m ≤ 64 := by omega
    obtain ⟨T, hh, hof⟩ := Of_ev hlen hc
    have ht := hangs_ht ok hh
    rw [hc] at hck hrk
    refine Ev.bind hof (Ev.bind (Free_ev hlen hc) (Ev.bind hrk ?_))
    simp only [decide_true, Bool.not_true, Bool.or_self, Bool.not_false, gdt]
    refine Ev.bind hck ?_
    simp only [decide_true, Bool.not_true, Bool.or_self, Bool.false_eq_true, if_false, if_pos (show errN none = 0 from rfl)]
    refine Ev.bind (ROf_ev hn hm hlen ht) ?_
    have el : (outG T pairs.length pairs.length m (Rt T pairs.length)).length = (Rt T pairs.length).length := by unfold outG; rw [List.length_map]
    simp only [el, List.length_map, decide_true, Bool.not_true, Bool.not_false, gdt, Bool.false_or]
    refine Ev.bind (RFree_ev hn hm hlen) ?_
    have fl : (freeL pairs m).length ≤ 64 := by unfold freeL ints; rw [List.length_map]; have := flt_len (fun p => !inP pairs p) m; omega
    refine Ev.bind (ints_ev (by omega)) ?_
    simp only [decide_true, Bool.not_true, Bool.false_eq_true, if_false]
    refine co_l0 (F := fun r => ⟨tr T pairs.length r, pl T pairs.length m r⟩) (by have := flt_len (fun j => decide (T j = j)) pairs.length; unfold Rt; omega) (fun r hr => ⟨rfl, plots_same ok hh (Rt_mem.1 hr).1, ?_, ?_⟩) (Rt T pairs.length).length 0 (by omega)
    · have := tr_len T pairs.length r; simp only; omega
    · have := pl_len T pairs.length m r; simp only; omega
end Go.Proofs.YtoijknggnlbopaaDoor.Pure

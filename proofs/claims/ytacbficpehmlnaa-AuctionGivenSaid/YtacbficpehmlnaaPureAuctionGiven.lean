/- The plain law of AuctionGiven. -/
import Derived.Test.YtacbficpehmlnaaPureAU5
namespace Go.Proofs.Ytacbficpehmlnaa.Pure
open Go.RowKit Go.Proofs.YtacbficpehmlnaaK Go.Proofs.Ytacbficpehmlnaa.GAG
set_option linter.unusedVariables false
set_option linter.unusedSimpArgs false
set_option maxRecDepth 100000
theorem AuctionGiven : radomelaw21_AuctionGiven.Pure := by
  intro c ps hc hps
  obtain ⟨rows, miss⟩ := c
  refine Ev.ex ?_
  unfold radomelaw21_AuctionGiven.f
  refine Ev.bind total_ev ?_
  simp only
  generalize hy : (if chkB rows miss = true then (if ps.length = rows.length then totR (tot miss rows ps [] 0) else (0, some 14)) else (0, some 1)) = y
  have c0 : ((!(y.2.isSome || (decide (20 < (rows.length : Int))))) && (decide (0 < (rows.length : Int)))) = true → (0 : Int) ≤ 0 ∧ 0 < (rows.length : Int) := fun h => by simp at h; omega
  simp only [if_pos c0]
  by_cases hs : ((y.2.isSome || (decide (20 < (rows.length : Int)))) || ((decide (0 < (rows.length : Int))) && (decide (20 < ((rd rows 0).length : Int))))) = true
  · simp only [if_pos hs]; exact Ev.bind sure_ev21 Ev.now
  · simp only [if_neg hs]
    have hn : y.2 = none := by
      cases h : y.2 with
      | none => rfl
      | some z => exact absurd (by rw [h]; simp) hs
    have hk : chkB rows miss = true := by
      refine Decidable.byContradiction fun h => ?_
      rw [if_neg h] at hy; subst hy; cases hn
    rw [if_pos hk] at hy
    have hl : ps.length = rows.length := by
      refine Decidable.byContradiction fun h => ?_
      rw [if_neg h] at hy; subst hy; cases hn
    rw [if_pos hl] at hy
    cases ht : tot miss rows ps [] 0 with
    | none => rw [ht] at hy; subst hy; cases hn
    | some m =>
      rw [ht] at hy
      have hy : y = (m, none) := hy.symm
      subst hy
      have h := nm_of hk
      generalize hP : (if rows.length = 0 then 0 else (rd rows 0).length) = P at h
      generalize hS : (rows.length : Int) + 1 = S at h
      generalize hM : -S * miss = M at h
      generalize hD : S * miss + 1 = D at h
      have hpot : pot D (AS.zero rows.length P) = D * P + rows.length := zero_pot
      have hsm := pot_small h
      obtain ⟨f, hf⟩ : ∃ f : Nat, (f : Int) = D * P + rows.length := ⟨(D * P + rows.length).toNat, by omega⟩
      have hr := run_ev h hk hP.symm (f := f) (by omega) (by omega)
      obtain ⟨_, r2, r3, _, _⟩ := run_l0 h f (AS.zero rows.length P) 0 (zero_ai h) (by omega) (by omega)
      have r4 := sale_cs h f (AS.zero rows.length P) (zero_ai h) zero_cs
      generalize sale S M rows f (AS.zero rows.length P) = z at hr r2 r3 r4
      obtain ⟨own, o1, o2⟩ := own_best h r2 r3 r4
      refine Ev.bind hr ?_
      simp only
      refine Ev.bind (total_ev (ps := z.1.ha)) ?_
      simp only [if_pos hk, if_pos (show z.1.ha.length = rows.length from r2.lh), o1, totR]
      simp only [Option.isNone_none, Bool.and_self, Bool.true_and, decide_eq_true (o2 ps m hl.symm ht), gdt]
      exact Ev.bind sure_ev21 Ev.now
end Go.Proofs.Ytacbficpehmlnaa.Pure

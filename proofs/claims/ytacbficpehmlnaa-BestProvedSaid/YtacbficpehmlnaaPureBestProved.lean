/- The plain law of BestProved: the numbers that are told show that nothing costs less than the pairs; whatever matching is handed in costs no less; bids come to the same. -/
import Derived.Test.YtacbficpehmlnaaPureHU5
import Derived.Test.YtacbficpehmlnaaPureBS2
namespace Go.Proofs.Ytacbficpehmlnaa.Pure
open Go.RowKit Go.Proofs.YtacbficpehmlnaaK Go.Proofs.Ytacbficpehmlnaa.GBQ
set_option linter.unusedVariables false
set_option linter.unusedSimpArgs false
set_option maxRecDepth 100000
theorem shc_bd {rows : List (List Int)} {miss : Int} {P : Nat} (h : COk rows miss P) {u v : List Int} {total : Int} (hs : ShC rows miss P u v total) : -9223372036854775808 ≤ total ∧ total ≤ 9223372036854775807 := by
  have h1 := sm_bd h.m hs.hu
  have h2 := sm_bd (show (0 : Int) ≤ 0 ∧ (0 : Int) ≤ 4096 by decide) hs.hv
  have h3 := hs.lu; have h4 := hs.lv; have h5 := h.n; have h6 := h.p; have h7 := hs.sum
  omega
theorem BestProved : radomelaw22_BestProved.Pure := by
  intro c at_ _ hat
  obtain ⟨rows, miss⟩ := c
  suffices h : Ev (fun k => radomelaw22_BestProved.f k ⟨rows, miss⟩ at_) true from h.ex
  unfold radomelaw22_BestProved.f
  refine Ev.bind (chk_ev rows miss) ?_
  cases hc : chkB rows miss with
  | false =>
    simp only [Bool.false_eq_true, if_false, Option.isSome_some, Bool.true_or, Bool.not_true, Bool.false_and, if_true]
    simp only [if_pos (show False → (0 : Int) ≤ 0 ∧ 0 < (rows.length : Int) from fun x => x.elim)]
    exact Ev.bind sure_ev22 Ev.now
  | true =>
    simp only [if_true, Option.isSome_none, Bool.false_or]
    have c0 : ((!(decide (20 < (rows.length : Int)))) && (decide (0 < (rows.length : Int)))) = true → (0 : Int) ≤ 0 ∧ 0 < (rows.length : Int) := fun h => by simp at h; omega
    simp only [if_pos c0]
    by_cases hs : ((decide (20 < (rows.length : Int))) || ((decide (0 < (rows.length : Int))) && (decide (20 < ((rd rows 0).length : Int))))) = true
    · simp only [if_pos hs]; exact Ev.bind sure_ev22 Ev.now
    · simp only [if_neg hs]
      have h := cok_pl hc
      obtain ⟨at2, own, w1, hal, o1, o2, u, v, w2, q⟩ := best_all hc
      obtain ⟨b1, r1, r2⟩ := RShows_ev hc (u := u) (v := v) (shc_bd h q)
      have r2 := r2.2 q
      subst r2
      obtain ⟨b2, s1, s2⟩ := Shows_ev hc (u := u) (v := v) (total := own) (by have := q.lu; have := h.n; omega) (by have := q.lv; have := h.p; omega)
      have s2 := s2.2 q
      subst s2
      refine Ev.bind w1 (Ev.bind w2 ?_)
      simp only [Option.isSome_none, Bool.or_false, Bool.not_false, gdt]
      refine Ev.bind r1 ?_
      simp only [Bool.not_true, Bool.false_eq_true, if_false]
      refine Ev.bind s1 ?_
      -- the bids
      have hN := nm_of hc
      rw [show (if rows.length = 0 then 0 else (rd rows 0).length) = Pl rows from rfl] at hN
      generalize hS : (rows.length : Int) + 1 = S at hN
      generalize hM : -S * miss = M at hN
      generalize hD : S * miss + 1 = D at hN
      have hsm := pot_small hN
      have hpot : pot D (AS.zero rows.length (Pl rows)) = D * (Pl rows) + rows.length := zero_pot
      obtain ⟨f, hf⟩ : ∃ f : Nat, (f : Int) = D * (Pl rows) + rows.length := ⟨(D * (Pl rows) + rows.length).toNat, by omega⟩
      have hr := run_ev hN hc rfl (f := f) (by omega) (by omega)
      obtain ⟨_, z2, z3, z5, z6⟩ := run_l0 hN f (AS.zero rows.length (Pl rows)) 0 (zero_ai hN) (by omega) (by omega)
      have z4 := sale_cs hN f (AS.zero rows.length (Pl rows)) (zero_ai hN) zero_cs
      generalize sale S M rows f (AS.zero rows.length (Pl rows)) = z at hr z2 z3 z4 z5 z6
      obtain ⟨own2, a1, a2⟩ := own_best hN z2 z3 z4
      have hzl := z2.lh
      have e : own2 = own := by
        have x1 := o2 z.1.ha own2 (by omega) a1
        have x2 := a2 at2 own (by omega) o1
        omega
      subst e
      refine Ev.bind hr (Ev.bind total_ev (Ev.bind total_ev ?_))
      simp only [if_pos hc, if_pos hzl, a1, show totR (some own2) = (own2, none) from rfl]
      have fin : ((if at_.length = rows.length then (totR (tot miss rows at_ [] 0)) else (0, some 14)).2.isSome || (decide (own2 ≤ (if at_.length = rows.length then (totR (tot miss rows at_ [] 0)) else (0, some 14)).1))) = true := by
        by_cases hl : at_.length = rows.length
        · rw [if_pos hl]
          cases ht : tot miss rows at_ [] 0 with
          | none => rfl
          | some m => have := o2 at_ m (by omega) ht; simp [totR, this]
        · rw [if_neg hl]; rfl
      simp only [Option.isNone_none, Bool.and_self, decide_true, Bool.true_and, fin, gdt]
      exact Ev.bind sure_ev22 Ev.now
end Go.Proofs.Ytacbficpehmlnaa.Pure

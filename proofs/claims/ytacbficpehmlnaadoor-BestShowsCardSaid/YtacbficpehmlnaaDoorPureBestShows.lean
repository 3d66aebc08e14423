/- The plain law of BestShows: whether any numbers show that nothing costs less than so much, by any costs, or the error. -/
import Derived.Test.YtacbficpehmlnaaDoorPureBS2
namespace Go.Proofs.YtacbficpehmlnaaDoor.Pure
open Go.RowKit Go.Proofs.YtacbficpehmlnaaDoorK Go.Proofs.YtacbficpehmlnaaDoor.GBS
set_option linter.unusedVariables false
set_option linter.unusedSimpArgs false
set_option maxRecDepth 100000
theorem BestShows : radomelaw22_BestShows.Pure := by
  intro c l total hc hl ht
  obtain ⟨rows, miss⟩ := c
  obtain ⟨u, v⟩ := l
  obtain ⟨⟨⟨-, lu⟩, -⟩, ⟨⟨-, lv⟩, -⟩⟩ := hl
  simp only at lu lv
  have ht : -9223372036854775808 ≤ total ∧ total ≤ 9223372036854775807 := by simpa [Lit.wf, IntKind.min, IntKind.max, IntKind.signed, IntKind.bits] using ht
  suffices h : Ev (fun k => radomelaw22_BestShows.f k ⟨rows, miss⟩ ⟨u, v⟩ total) true from h.ex
  unfold radomelaw22_BestShows.f
  have hm := may_ev rows miss
  cases hk : chkB rows miss with
  | false =>
    rw [hk] at hm
    refine Ev.bind (Shows_bad hk) (Ev.bind hm ?_)
    simp only [Bool.not_false, if_true, show (decide (errN (some 1) = 1)) = true from rfl, Bool.and_self, gdt, Bool.true_and]
    exact Ev.bind sure_ev22 Ev.now
  | true =>
    rw [hk] at hm
    obtain ⟨b, h1, h2⟩ := Shows_ev hk (u := u) (v := v) (total := total) (by omega) (by omega)
    obtain ⟨b', h3, h4⟩ := RShows_ev hk (u := u) (v := v) ht
    have e : b = b' := by rw [Bool.eq_iff_iff, h2, h4]
    subst e
    refine Ev.bind h1 (Ev.bind hm ?_)
    simp only [Bool.not_true, Bool.false_eq_true, if_false, Option.isNone_none, gdt]
    refine Ev.bind h3 ?_
    simp only [beq_self_eq_true, Bool.and_self, gdt, Bool.true_and]
    exact Ev.bind sure_ev22 Ev.now
end Go.Proofs.YtacbficpehmlnaaDoor.Pure

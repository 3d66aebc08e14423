/- The plain law of ReportWrites. -/
import Derived.Test.YtlokgnjlnefbbaaDoorPureRP4
namespace Go.Proofs.YtlokgnjlnefbbaaDoor.Pure
open Go.RowKit Go.Proofs.YtlokgnjlnefbbaaDoorK Go.Proofs.YtlokgnjlnefbbaaDoor.GRW
set_option linter.unusedVariables false
set_option linter.unusedSimpArgs false
set_option maxRecDepth 100000
theorem same29 (s : Int) (l : List radomeref29_Report) : (enc29R s l).1 = (encR s (l.map gr)).1 ∧ errN (encR s (l.map gr)).2 = (enc29R s l).2 := by
  unfold enc29R encR
  rw [List.length_map]
  by_cases h : (l.map gr).all mayB = true
  · rw [if_pos h, if_pos h]
    by_cases g : 512 < (l.length : Int)
    · rw [if_pos g, if_pos g]; exact ⟨rfl, rfl⟩
    · rw [if_neg g, if_neg g]; exact ⟨rfl, rfl⟩
  · rw [if_neg h, if_neg h]; exact ⟨rfl, rfl⟩
theorem clamp_w {lo hi v : Int} (h : -9000000000 ≤ lo ∧ lo ≤ hi ∧ hi ≤ 9000000000) : w64 (clamp lo hi v) = clamp lo hi v := wi (by have := clamp_range (v := v) h.2.1; omega)
theorem ReportWrites : radomelaw29_ReportWrites.Pure := by
  intro source l of_ hs hl ho
  have hs : 0 ≤ source ∧ source ≤ 65535 := by simp [Lit.wf, IntKind.min, IntKind.max, IntKind.signed, IntKind.bits] at hs; omega
  have h0 : -9223372036854775808 ≤ of_.e0 ∧ of_.e0 ≤ 9223372036854775807 := by have := ho.1; simp [Lit.wf, IntKind.min, IntKind.max, IntKind.signed, IntKind.bits] at this; omega
  have h1 : -9223372036854775808 ≤ of_.e1 ∧ of_.e1 ≤ 9223372036854775807 := by have := ho.2; simp [Lit.wf, IntKind.min, IntKind.max, IntKind.signed, IntKind.bits] at this; omega
  have hw : ∀ r ∈ l, Wr29 r := fun r hr => wr29 (hl.2 r hr)
  have hw' : ∀ r ∈ l.map gr, Wr r := fun r hr => by obtain ⟨x, hx, rfl⟩ := List.mem_map.1 hr; exact wr29_gr (hw x hx)
  refine Ev.ex ?_
  unfold radomelaw29_ReportWrites.f
  by_cases h6 : 600 < (l.length : Int)
  · simp only [if_pos h6]; exact Ev.bind sure29_ev Ev.now
  simp only [if_neg h6]
  have hll : l.length ≤ 600 := by omega
  refine Ev.bind (give_ev hll) ?_
  refine Ev.bind (enc_ev hs hw' (by simp; omega)) ?_
  refine Ev.bind (enc29_ev hs hw (by omega)) ?_
  obtain ⟨e1, e2⟩ := same29 source l
  have n0 := near_ev h0 (b := 19) (h2 := 262144) (lo := -8388608) (hi := 8388607) (by decide) (by decide) (by decide) (.inl (by decide))
  have n1 := near_ev h1 (b := 18) (h2 := 131072) (lo := -32768) (hi := 32767) (by decide) (by decide) (by decide) (.inr (by decide))
  simp only [e1, e2, decide_true, Bool.and_self, Bool.true_and, gdt', place_ev _ h0, speed_ev _ h1, Option.bind_some]
  refine Ev.bind n0 ?_
  simp only [show (2 : Int) ^ 19 = 524288 by decide, clamp_w (show -9000000000 ≤ (-8388608 : Int) ∧ (-8388608 : Int) ≤ 8388607 ∧ (8388607 : Int) ≤ 9000000000 by decide), decide_true, gdt', Option.bind_some]
  refine Ev.bind n1 ?_
  simp only [show (2 : Int) ^ 18 = 262144 by decide, clamp_w (show -9000000000 ≤ (-32768 : Int) ∧ (-32768 : Int) ≤ 32767 ∧ (32767 : Int) ≤ 9000000000 by decide), decide_true, gdt', Bool.true_and]
  exact Ev.bind sure29_ev Ev.now
end Go.Proofs.YtlokgnjlnefbbaaDoor.Pure

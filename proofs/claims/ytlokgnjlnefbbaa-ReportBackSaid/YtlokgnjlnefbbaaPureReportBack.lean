/- The plain law of ReportBack. -/
import Derived.Test.YtlokgnjlnefbbaaPureRP3
namespace Go.Proofs.Ytlokgnjlnefbbaa.Pure
open Go.RowKit Go.Proofs.YtlokgnjlnefbbaaK Go.Proofs.Ytlokgnjlnefbbaa.GRB
set_option linter.unusedVariables false
set_option linter.unusedSimpArgs false
set_option maxRecDepth 100000
theorem back_j1 {b : List Int} (hb : Byt b) : Ev (fun k => radomelaw29_ReportBack.j1 k b false) true := by
  unfold radomelaw29_ReportBack.j1
  obtain ⟨R, hR, r1, r2⟩ := decode_any hb
  refine Ev.bind hR ?_
  by_cases h : R.2.2.isSome = true
  · obtain ⟨a, c⟩ := r1 h
    simp only [if_pos h, a, c, List.length_nil, show (decide ((((0 : Nat) : Int)) = 0) && decide ((0 : Int) = 0)) = true by decide, gdt']
    exact Ev.bind sure29_ev Ev.now
  · obtain ⟨e1, e2, e3, e4⟩ := r2 (isSome_F h)
    simp only [if_neg h]
    refine Ev.bind (enc_ev e3 e2 (by omega)) ?_
    rw [e1]
    simp only [Option.isNone_none, decide_true, Bool.and_self, gdt']
    exact Ev.bind sure29_ev Ev.now
theorem ReportBack : radomelaw29_ReportBack.Pure := by
  intro source l b hs hl hb
  have hs : 0 ≤ source ∧ source ≤ 65535 := by simp [Lit.wf, IntKind.min, IntKind.max, IntKind.signed, IntKind.bits] at hs; omega
  have hb : Byt b := fun x hx => by have := hb.2 x hx; simp [Lit.wf, IntKind.min, IntKind.max, IntKind.signed, IntKind.bits] at this; omega
  have hw : ∀ r ∈ l.map gr, Wr r := fun r hr => by obtain ⟨x, hx, rfl⟩ := List.mem_map.1 hr; exact wr29_gr (wr29 (hl.2 x hx))
  refine Ev.ex ?_
  unfold radomelaw29_ReportBack.f
  by_cases h6 : 600 < (l.length : Int)
  · simp only [if_pos h6]; exact Ev.bind sure29_ev Ev.now
  simp only [if_neg h6]
  have hll : l.length ≤ 600 := by omega
  refine Ev.bind (give_ev hll) ?_
  refine Ev.bind (enc_ev hs hw (by simp; omega)) ?_
  unfold encR
  by_cases hall : (l.map gr).all mayB = true
  · rw [if_pos hall]
    rw [List.length_map]
    by_cases h5 : 512 < (l.length : Int)
    · simp only [if_pos h5, Option.isNone_some, Bool.false_and, if_neg (show ¬ false = true by decide)]
      exact back_j1 hb
    · simp only [if_neg h5]
      have hg : (l.map gr).length ≤ 512 := by simp; omega
      have d1 := decode_of hs hg (fun r hr => ⟨List.all_eq_true.1 hall r hr, hw r hr⟩)
      obtain ⟨R, d2, d3⟩ := decode_cut (s := source) hg
      have hlen : ((62 :: (be 2 (3 + 20 * (((l.map gr).length : Nat) : Int)) ++ recs source (l.map gr))).length : Int) = 3 + 20 * (l.length : Int) := by simp [be_len, recs_len]; omega
      rw [List.length_map] at d1 d2 hlen
      generalize hB : (62 :: (be 2 (3 + 20 * (l.length : Int)) ++ recs source (l.map gr))) = B at d1 d2 hlen ⊢
      simp only [hlen, Option.isNone_none, Bool.true_and, decide_eq_true_eq, if_neg (show ¬ 3 + 20 * (l.length : Int) = 0 by omega), if_true]
      refine Ev.bind d1 ?_
      simp only [wi (show -9223372036854775808 ≤ 3 + 20 * (l.length : Int) - 1 ∧ 3 + 20 * (l.length : Int) - 1 ≤ 9223372036854775807 by omega), if_pos (show (0 : Int) ≤ 0 ∧ (0 : Int) ≤ 3 + 20 * (l.length : Int) - 1 ∧ 3 + 20 * (l.length : Int) - 1 ≤ 3 + 20 * (l.length : Int) by omega)]
      have c : cut B 0 (3 + 20 * (l.length : Int) - 1) = B.take (2 + 20 * l.length) := by
        rw [show 3 + 20 * (l.length : Int) - 1 = ((2 + 20 * l.length : Nat) : Int) by omega]; unfold cut; rw [Int.toNat_natCast]; rfl
      simp only [c]
      refine Ev.bind d2 ?_
      have d3' : R.2.2.isNone = false := by cases hh : R.2.2 with
        | none => rw [hh] at d3; cases d3
        | some x => rfl
      simp only [d3', Option.isSome_none, Bool.or_self, Bool.not_false, gdt']
      refine Ev.bind (are_ev hll) ?_
      have e : ((((false || !true) || (decide (0 < (l.length : Int))) && (!decide ((if l.map gr = [] then 0 else source) = source))) || ((decide ((l.length : Int) = 0)) && (!decide ((if l.map gr = [] then 0 else source) = 0))))) = false := by
        cases l with
        | nil => simp
        | cons r l => simp; omega
      simp only [e, if_neg (show ¬ false = true by decide)]
      exact back_j1 hb
  · rw [if_neg hall]
    simp only [Option.isNone_some, Bool.false_and, if_neg (show ¬ false = true by decide)]
    exact back_j1 hb
end Go.Proofs.Ytlokgnjlnefbbaa.Pure

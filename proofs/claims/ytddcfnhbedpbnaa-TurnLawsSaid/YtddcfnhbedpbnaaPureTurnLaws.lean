/- The plain law of turns: as far from another one as it from that, the other way; a plot's direction found again; halfway between. -/
import Derived.Test.YtddcfnhbedpbnaaQTurnLawsx2
namespace Go.Proofs.Ytddcfnhbedpbnaa.Pure
open Go.RowKit Go.Proofs.Ytddcfnhbedpbnaa.QTurnLaws Go.Proofs.YtddcfnhbedpbnaaW.PrintWords Go.Proofs.YtddcfnhbedpbnaaW.PrintLast Go.Proofs.YtddcfnhbedpbnaaW.PrintMore

theorem sure_turn : radomelaw04_sure.f 5 = some true := by decide +kernel

theorem TurnLaws : radomelaw04_TurnLaws.Pure := by
  intro a b s ha hb hs
  have ha' : 0 ≤ a ∧ a ≤ 4294967295 := by simpa [Lit.wf, IntKind.min, IntKind.max, IntKind.signed, IntKind.bits] using ha
  have hb' : 0 ≤ b ∧ b ≤ 4294967295 := by simpa [Lit.wf, IntKind.min, IntKind.max, IntKind.signed, IntKind.bits] using hb
  have hs' : 0 ≤ s ∧ s ≤ 65535 := by simpa [Lit.wf, IntKind.min, IntKind.max, IntKind.signed, IntKind.bits] using hs
  clear ha hb hs
  refine ⟨6, ?_⟩
  have e1 : wrap32 ((a - b) % 4294967296) = wrap32 (-(wrap32 ((b - a) % 4294967296))) ∨ (a - b) % 4294967296 = 2147483648 := by unfold wrap32; omega
  have e1' : wrap32 ((a - b) % 4294967296) = wrap32 (-(wrap32 ((b - a) % 4294967296))) := by unfold wrap32; omega
  have e2 : (b + wrap32 ((a - b) % 4294967296) % 4294967296) % 4294967296 = a := by unfold wrap32; omega
  have e3 : ((s % 4294967296 * 65536 % 4294967296 + 32768) % 4294967296) / 65536 = s := by omega
  have e4 : (((a + (b - a) % 4294967296 / 2) % 4294967296 - a) % 4294967296 ≤ (b - a) % 4294967296) := by omega
  have e5 : ((a - a) % 4294967296 ≤ (b - a) % 4294967296) := by omega
  have e6 : ((b - a) % 4294967296 ≤ (b - a) % 4294967296) := by omega
  have e7 : (decide ((b - a) % 4294967296 ≤ (a - a) % 4294967296) == (a == b)) = true := by
    by_cases h : a = b
    · subst h; simp
    · have h1 : ¬ ((b - a) % 4294967296 ≤ (a - a) % 4294967296) := by omega
      rw [decide_eq_false h1, beq_eq_false_iff_ne.mpr h]; rfl
  have e8 : (((a + (b - a) % 4294967296 / 2) % 4294967296 - a) % 4294967296 = (b - (a + (b - a) % 4294967296 / 2) % 4294967296) % 4294967296) ∨ ((((a + (b - a) % 4294967296 / 2) % 4294967296 - a) % 4294967296 + 1) % 4294967296 = (b - (a + (b - a) % 4294967296 / 2) % 4294967296) % 4294967296) := by omega
  unfold radomelaw04_TurnLaws.f
  simp only [turn_From.f, turn_Middle.f, turn_Of.f, turn_Short.f, turn_Between.f, Option.bind_some]
  rw [if_pos e1', if_pos e2, if_pos e3]
  simp only [e4, e5, e6, decide_true, if_true, Bool.not_true]
  simp only [radomelaw04_TurnLaws.j0, turn_Between.f, Option.bind_some, e7, if_true, sure_turn, Bool.false_eq_true, if_false]
  rcases e8 with h | h
  · rw [if_pos h]
  · split
    · rfl
    · rfl
end Go.Proofs.Ytddcfnhbedpbnaa.Pure

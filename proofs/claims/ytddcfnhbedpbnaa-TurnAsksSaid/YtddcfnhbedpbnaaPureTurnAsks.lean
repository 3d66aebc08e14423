/- The plain law of what is asked of turns: the program's answers are the reference's. -/
import Derived.Test.YtddcfnhbedpbnaaQTurnAsksx1
namespace Go.Proofs.Ytddcfnhbedpbnaa.Pure
open Go.RowKit Go.Proofs.Ytddcfnhbedpbnaa.QTurnAsks Go.Proofs.YtddcfnhbedpbnaaW.PrintWords Go.Proofs.YtddcfnhbedpbnaaW.PrintLast Go.Proofs.YtddcfnhbedpbnaaW.PrintMore

theorem sure_turn2 : radomelaw04_sure.f 5 = some true := by decide +kernel
theorem mod_eq (n : Int) (h : -9223372036854775808 ≤ n ∧ n ≤ 9223372036854775807) : radomeref04_mod.f n = some (n % 4294967296) := by
  unfold radomeref04_mod.f
  split
  · rename_i h1
    congr 1
    have h2 : Int.tmod n 4294967296 = n - 4294967296 * Int.tdiv n 4294967296 := by have := Int.mul_tdiv_add_tmod n 4294967296; omega
    have h3 : n < 0 := by
      by_cases h : n < 0
      · exact h
      · have := Int.tmod_nonneg 4294967296 (show 0 ≤ n by omega); omega
    have h4 : -4294967296 < Int.tmod n 4294967296 := by have := Int.lt_tmod_of_pos n (show (0 : Int) < 4294967296 by decide); omega
    have e : wrap64 (Int.tmod n 4294967296 + 4294967296) = Int.tmod n 4294967296 + 4294967296 := by unfold wrap64; omega
    rw [e]
    omega
  · rename_i h1
    congr 1
    have h2 : Int.tmod n 4294967296 = n - 4294967296 * Int.tdiv n 4294967296 := by have := Int.mul_tdiv_add_tmod n 4294967296; omega
    have h4 : Int.tmod n 4294967296 < 4294967296 := Int.tmod_lt_of_pos n (by decide)
    omega

theorem TurnAsks : radomelaw04_TurnAsks.Pure := by
  intro a b c ha hb hc
  have ha' : 0 ≤ a ∧ a ≤ 4294967295 := by simpa [Lit.wf, IntKind.min, IntKind.max, IntKind.signed, IntKind.bits] using ha
  have hb' : 0 ≤ b ∧ b ≤ 4294967295 := by simpa [Lit.wf, IntKind.min, IntKind.max, IntKind.signed, IntKind.bits] using hb
  have hc' : 0 ≤ c ∧ c ≤ 4294967295 := by simpa [Lit.wf, IntKind.min, IntKind.max, IntKind.signed, IntKind.bits] using hc
  clear ha hb hc
  refine ⟨6, ?_⟩
  have w1 : ∀ x : Int, 0 ≤ x ∧ x ≤ 4294967295 → wrap64 x = x := by intro x hx; unfold wrap64; omega
  have wd : ∀ x y : Int, 0 ≤ x ∧ x ≤ 4294967295 → 0 ≤ y ∧ y ≤ 4294967295 → wrap64 (x - y) = x - y := by intro x y hx hy; unfold wrap64; omega
  have m1 : ∀ x y : Int, 0 ≤ x ∧ x ≤ 4294967295 → 0 ≤ y ∧ y ≤ 4294967295 → radomeref04_mod.f (x - y) = some ((x - y) % 4294967296) := fun x y hx hy => mod_eq _ (by omega)
  have s1 : turn_Short.f a = some ((a + 32768) % 4294967296 / 65536) := rfl
  have s2 : radomeref04_Short.f a = some ((a + 32768) % 4294967296 / 65536) := by
    unfold radomeref04_Short.f
    congr 1
    have e1 : wrap64 (a + 32768) = a + 32768 := by unfold wrap64; omega
    have e2 : Int.tdiv (a + 32768) 65536 = (a + 32768) / 65536 := Int.tdiv_eq_ediv_of_nonneg (by omega)
    have e3 : wrap64 ((a + 32768) / 65536) = (a + 32768) / 65536 := by unfold wrap64; omega
    rw [e1, e2, e3, Int.tmod_eq_emod_of_nonneg (by omega)]
    omega
  have q1 : wrap64 ((a + 32768) % 4294967296 / 65536) = (a + 32768) % 4294967296 / 65536 := by unfold wrap64; omega
  have o1 : turn_Of.f (IntKind.u16.wrap a) = some (65536 * (a % 65536)) := by
    unfold turn_Of.f
    congr 1
    have : IntKind.u16.wrap a = a % 65536 := by simp [IntKind.wrap, IntKind.bits, IntKind.signed]
    rw [this]; omega
  have q2 : wrap64 (65536 * (a % 65536)) = 65536 * (a % 65536) := by unfold wrap64; omega
  have q3 : Int.tmod a 65536 = a % 65536 := Int.tmod_eq_emod_of_nonneg (by omega)
  have f1 : turn_From.f a b = some (wrap32 ((a - b) % 4294967296)) := rfl
  have f2 : radomeref04_From.f a b = some (wrap32 ((a - b) % 4294967296)) := by
    unfold radomeref04_From.f
    rw [wd a b ha' hb', m1 a b ha' hb']
    simp only [Option.bind_some]
    split
    · congr 1; unfold wrap64 wrap32; omega
    · congr 1; unfold wrap32; omega
  have q4 : wrap64 (wrap32 ((a - b) % 4294967296)) = wrap32 ((a - b) % 4294967296) := by unfold wrap64 wrap32; omega
  have b1 : turn_Between.f a b c = some (decide ((a - b) % 4294967296 ≤ (c - b) % 4294967296)) := rfl
  have b2 : radomeref04_Between.f a b c = some (decide ((a - b) % 4294967296 ≤ (c - b) % 4294967296)) := by
    unfold radomeref04_Between.f
    rw [wd a b ha' hb', wd c b hc' hb', m1 a b ha' hb', m1 c b hc' hb']
    rfl
  have d1 : turn_Middle.f a b = some ((a + (b - a) % 4294967296 / 2) % 4294967296) := rfl
  have d2 : radomeref04_Middle.f a b = some ((a + (b - a) % 4294967296 / 2) % 4294967296) := by
    unfold radomeref04_Middle.f
    rw [wd b a hb' ha', m1 b a hb' ha']
    simp only [Option.bind_some]
    have e1 : Int.tdiv ((b - a) % 4294967296) 2 = (b - a) % 4294967296 / 2 := Int.tdiv_eq_ediv_of_nonneg (by omega)
    have e2 : wrap64 ((b - a) % 4294967296 / 2) = (b - a) % 4294967296 / 2 := by unfold wrap64; omega
    have e3 : wrap64 (a + (b - a) % 4294967296 / 2) = a + (b - a) % 4294967296 / 2 := by unfold wrap64; omega
    rw [e1, e2, e3, mod_eq _ (by omega)]
    rfl
  have q5 : wrap64 ((a + (b - a) % 4294967296 / 2) % 4294967296) = (a + (b - a) % 4294967296 / 2) % 4294967296 := by unfold wrap64; omega
  unfold radomelaw04_TurnAsks.f
  rw [w1 a ha', w1 b hb', w1 c hc']
  simp only [s1, s2, o1, f1, f2, b1, b2, d1, d2, Option.bind_some, q1, q2, q3, q4, q5, if_true, beq_self_eq_true]
  have := Go.Proofs.YtddcfnhbedpbnaaW.PrintWords.at_rounds (g := fun k => radomelaw04_sure.f k) (fun k => radomelaw04_sure.mono k) (show 5 ≤ 6 by omega) sure_turn2
  rw [this]; rfl
end Go.Proofs.Ytddcfnhbedpbnaa.Pure

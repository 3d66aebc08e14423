/- The plain law of the clock: so much later is so much since, there and back is nothing; for all times and parts (each taken into a day, and into half a day). -/
import Derived.Test.YtddcfnhbedpbnaaPClockLawsx1
namespace Go.Proofs.Ytddcfnhbedpbnaa.Pure
open Go.RowKit Go.Proofs.Ytddcfnhbedpbnaa.PClockLaws Go.Proofs.YtddcfnhbedpbnaaW.PrintWords Go.Proofs.YtddcfnhbedpbnaaW.PrintLast

theorem timed_of {n : Int} (h0 : 0 ≤ n) (h1 : n < 11059200) : clock_timed.f n = some true := by
  unfold clock_timed.f; rw [if_pos h0]; simp [h1]

theorem add_of {t p : Int} (h0 : 0 ≤ t) (h1 : t < 11059200) (h2 : -11059200 < p) (h3 : p < 11059200) :
    clock_Add.f t p = some ((t + p + 11059200) % 11059200, none) := by
  have e1 : wrap64 (-p) = -p := by unfold wrap64; omega
  have e2 : clock_timed.f (mx p (-p)) = some true := timed_of (by unfold mx; split <;> omega) (by unfold mx; split <;> omega)
  have e3 : wrap64 (wrap64 (t + p) + 11059200) = t + p + 11059200 := by unfold wrap64; omega
  unfold clock_Add.f
  rw [timed_of h0 h1, e1]
  simp only [Option.bind_some, if_true]
  rw [e2, e3]
  simp only [Option.bind_some, if_true]
  rw [Int.tmod_eq_emod_of_nonneg (by omega)]

theorem since_of (k : Nat) {s t : Int} (h0 : 0 ≤ s) (h1 : s < 11059200) (h2 : 0 ≤ t) (h3 : t < 11059200) :
    clock_Since.f (k + 1) s t = some (if t - s ≥ 5529600 then t - s - 11059200 else if t - s < -5529600 then t - s + 11059200 else t - s, none) := by
  have e : wrap64 (t - s) = t - s := by unfold wrap64; omega
  unfold clock_Since.f
  rw [timed_of h0 h1]
  simp only [Option.bind_some, if_true]
  rw [timed_of h2 h3]
  simp only [Option.bind_some]
  simp only [clock_Since.j0, Bool.not_true]
  rw [if_neg (by simp), e]
  have e4 : wrap64 (t - s - 11059200) = t - s - 11059200 := by unfold wrap64; omega
  have e5 : wrap64 (t - s + 11059200) = t - s + 11059200 := by unfold wrap64; omega
  rw [e4, e5]
  split
  · rfl
  · split <;> rfl

theorem sure_clock : radomelaw31_sure.f 3 = some true := by decide +kernel

theorem ClockLaws : radomelaw31_ClockLaws.Pure := by
  intro a0 a1 _ _
  refine ⟨3, ?_⟩
  unfold radomelaw31_ClockLaws.f
  have ht : ∃ t, wrap64 (Int.tmod (IntKind.u64.wrap a0) 11059200) = t ∧ 0 ≤ t ∧ t < 11059200 := by
    refine ⟨_, rfl, ?_, ?_⟩ <;> (simp only [IntKind.wrap, wrap64, IntKind.bits, IntKind.signed]; rw [Int.tmod_eq_emod_of_nonneg (by simp; omega)]; simp; omega)
  have hp : ∃ p, wrap64 (Int.tmod (IntKind.u64.wrap a1) 5529600) = p ∧ 0 ≤ p ∧ p < 5529600 := by
    refine ⟨_, rfl, ?_, ?_⟩ <;> (simp only [IntKind.wrap, wrap64, IntKind.bits, IntKind.signed]; rw [Int.tmod_eq_emod_of_nonneg (by simp; omega)]; simp; omega)
  obtain ⟨t, et, t0, t1⟩ := ht
  obtain ⟨p, ep, p0, p1⟩ := hp
  rw [et, ep]
  have en : wrap64 (-p) = -p := by unfold wrap64; omega
  rw [en, add_of t0 t1 (by omega) (by omega)]
  simp only [Option.bind_some]
  have ha : ∃ a, (t + p + 11059200) % 11059200 = a ∧ 0 ≤ a ∧ a < 11059200 ∧ (a = t + p ∨ a = t + p - 11059200) := ⟨_, rfl, by omega, by omega, by omega⟩
  obtain ⟨a, ea, a0', a1', hor⟩ := ha
  rw [ea, since_of 2 t0 t1 a0' a1', add_of a0' a1' (by omega) (by omega), since_of 2 t0 t1 t0 t1, since_of 2 a0' a1' t0 t1]
  simp only [Option.bind_some, Option.isNone_none, if_true]
  rw [if_pos (by split <;> first | omega | (split <;> omega)), if_pos (by omega), if_pos (by split <;> first | omega | (split <;> omega)), if_pos (by split <;> first | omega | (split <;> omega)), if_pos a0', if_pos a1', sure_clock]
  rfl

end Go.Proofs.Ytddcfnhbedpbnaa.Pure

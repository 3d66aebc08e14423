/- The plain law of the clock's answers: what the program tells of any two times, of so many parts, and of bounds is what the document's reference tells, or the errors. -/
import Derived.Test.YtddcfnhbedpbnaaDoorQClockAsksx3
namespace Go.Proofs.YtddcfnhbedpbnaaDoor.Pure
open Go.RowKit Go.Proofs.YtddcfnhbedpbnaaDoor.QClockAsks Go.Proofs.YtddcfnhbedpbnaaDoorW.PrintWords Go.Proofs.YtddcfnhbedpbnaaDoorW.PrintLast Go.Proofs.YtddcfnhbedpbnaaDoorW.PrintMore

def Tm (n : Int) : Prop := 0 ≤ n ∧ n < 11059200
instance (n : Int) : Decidable (Tm n) := by unfold Tm; infer_instance
theorem timed_eq (n : Int) : clock_timed.f n = some (decide (Tm n)) := by
  unfold clock_timed.f Tm; by_cases h : 0 ≤ n <;> simp [h]
theorem time_eq (n : Int) : radomeref31_Time.f n = some (decide (Tm n)) := by
  unfold radomeref31_Time.f Tm; by_cases h : 0 ≤ n <;> simp [h]
def sv (s t : Int) : Int := if t - s ≥ 5529600 then t - s - 11059200 else if t - s < -5529600 then t - s + 11059200 else t - s
theorem since_yes (k : Nat) {s t : Int} (hs : Tm s) (ht : Tm t) : clock_Since.f (k + 1) s t = some (sv s t, none) := by
  have hs' := hs; have ht' := ht; unfold Tm at hs' ht'
  have e : wrap64 (t - s) = t - s := by unfold wrap64; omega
  have e4 : wrap64 (t - s - 11059200) = t - s - 11059200 := by unfold wrap64; omega
  have e5 : wrap64 (t - s + 11059200) = t - s + 11059200 := by unfold wrap64; omega
  simp only [clock_Since.f, timed_eq, hs, ht, decide_true, Option.bind_some, if_true, Bool.not_true, clock_Since.j0, Bool.false_eq_true, if_false, e, e4, e5, sv]
  repeat' split
  all_goals rfl
theorem since_no (k : Nat) {s t : Int} (h : ¬ (Tm s ∧ Tm t)) : clock_Since.f (k + 1) s t = some (0, some 1) := by
  by_cases hs : Tm s
  · have ht : ¬ Tm t := fun ht => h ⟨hs, ht⟩
    simp [clock_Since.f, timed_eq, hs, ht, clock_Since.j0]
  · simp [clock_Since.f, timed_eq, hs, clock_Since.j0]
theorem rsince_yes (k : Nat) {s t : Int} (hs : Tm s) (ht : Tm t) : radomeref31_Since.f (k + 4) s t = some (sv s t) := by
  have hs' := hs; have ht' := ht; unfold Tm at hs' ht'
  have e : wrap64 (t - s) = t - s := by unfold wrap64; omega
  have e4 : wrap64 (t - s - 11059200) = t - s - 11059200 := by unfold wrap64; omega
  have e5 : wrap64 (t - s + 11059200) = t - s + 11059200 := by unfold wrap64; omega
  unfold radomeref31_Since.f sv
  rw [e]
  by_cases h1 : t - s ≥ 5529600
  · rw [if_pos h1]
    simp only [radomeref31_Since.l0, radomeref31_Since.l1]
    rw [if_neg (by omega), if_pos (by omega), e4, if_neg (by omega)]
  · rw [if_neg h1]
    by_cases h2 : t - s < -5529600
    · rw [if_pos h2]
      simp only [radomeref31_Since.l0, radomeref31_Since.l1]
      rw [if_pos (by omega), e5, if_neg (by omega), if_neg (by omega)]
    · rw [if_neg h2]
      simp only [radomeref31_Since.l0, radomeref31_Since.l1]
      rw [if_neg (by omega), if_neg (by omega)]
theorem seconds_yes {p : Int} (h : Tm p) : clock_Seconds.f p = some (8192 * p, none) := by
  have h' := h; unfold Tm at h'
  have e : wrap64 (p * 8192) = 8192 * p := by unfold wrap64; omega
  simp only [clock_Seconds.f, timed_eq, h, decide_true, Option.bind_some, if_true, e]
theorem seconds_no {p : Int} (h : ¬ Tm p) : clock_Seconds.f p = some (0, some 1) := by
  simp [clock_Seconds.f, timed_eq, h]
theorem add_yes {t p : Int} (h : Tm t) (h2 : -11059200 < p) (h3 : p < 11059200) : clock_Add.f t p = some (Int.tmod (wrap64 (wrap64 (t + p) + 11059200)) 11059200, none) := by
  have e1 : wrap64 (-p) = -p := by unfold wrap64; omega
  have e2 : Tm (mx p (-p)) := by unfold mx Tm; split <;> omega
  simp only [clock_Add.f, timed_eq, h, e1, e2, decide_true, Option.bind_some, if_true]
theorem add_no {t p : Int} (hw : -9223372036854775808 ≤ p ∧ p ≤ 9223372036854775807) (h : ¬ (Tm t ∧ -11059200 < p ∧ p < 11059200)) : clock_Add.f t p = some (0, some 1) := by
  by_cases ht : Tm t
  · have e2 : ¬ Tm (mx p (wrap64 (-p))) := by
      intro e
      apply h
      refine ⟨ht, ?_⟩
      unfold mx wrap64 Tm at e
      split at e <;> omega
    simp [clock_Add.f, timed_eq, ht, e2]
  · simp [clock_Add.f, timed_eq, ht]
theorem kind_same (k : Nat) (s t l m : Int) : ∃ a e, clock_Kind.f (k + 1) s t l m = some (a, e) ∧ radomeref31_Kind.f (k + 5) s t l m = some (a, e.getD 0) := by
  by_cases hs : Tm s
  · by_cases ht : Tm t
    · simp only [clock_Kind.f, since_yes k hs ht, radomeref31_Kind.f, time_eq, hs, ht, decide_true, Option.bind_some, Option.isNone_none, if_true]
      by_cases h1 : l < 1
      · exact ⟨0, some 1, by simp [h1, clock_Kind.j0], by simp [h1, radomeref31_Kind.j0]⟩
      · by_cases h2 : l > m
        · exact ⟨0, some 1, by simp [h1, h2, clock_Kind.j0], by simp [h1, h2, radomeref31_Kind.j0]⟩
        · by_cases h3 : m ≥ 5529600
          · exact ⟨0, some 1, by simp [h1, h2, h3, clock_Kind.j0], by simp [h1, h2, show m > 5529599 by omega, radomeref31_Kind.j0]⟩
          · have h3' : ¬ m > 5529599 := by omega
            simp only [h1, h2, h3, h3', if_false, decide_false, clock_Kind.j0, radomeref31_Kind.j0, Bool.false_eq_true, rsince_yes k hs ht, Option.bind_some]
            by_cases h4 : sv s t < l
            · exact ⟨0, none, by rw [if_pos h4], by rw [if_pos h4]; rfl⟩
            · by_cases h5 : sv s t > m
              · exact ⟨2, none, by rw [if_neg h4, if_pos h5], by rw [if_neg h4, if_pos h5]; rfl⟩
              · exact ⟨1, none, by rw [if_neg h4, if_neg h5], by rw [if_neg h4, if_neg h5]; rfl⟩
    · have hn : ¬ (Tm s ∧ Tm t) := fun h => ht h.2
      exact ⟨0, some 1, by simp [clock_Kind.f, since_no k hn], by simp [radomeref31_Kind.f, time_eq, hs, ht, radomeref31_Kind.j0]⟩
  · have hn : ¬ (Tm s ∧ Tm t) := fun h => hs h.1
    exact ⟨0, some 1, by simp [clock_Kind.f, since_no k hn], by simp [radomeref31_Kind.f, time_eq, hs, radomeref31_Kind.j0]⟩
theorem sure_yes (k : Nat) : radomelaw31_sure.f (k + 1) = some true := by
  have h1 : clock_Since.f (k + 1) 11059199 0 = some (1, none) := since_yes k (by decide) (by decide)
  have h2 : clock_Seconds.f 128 = some (1048576, none) := by decide +kernel
  have h3 : clock_Add.f 11059199 2 = some (1, none) := by decide +kernel
  have h4 : clock_Since.f (k + 1) 5 10 = some (5, none) := since_yes k (by decide) (by decide)
  simp [radomelaw31_sure.f, clock_Kind.f, clock_Kind.j0, h1, h2, h3, h4]

/-- The last step: since. -/
theorem last_ok (k : Nat) (s t : Int) : ∃ d e, clock_Since.f (k + 6) s t = some (d, e) ∧ radomelaw31_ClockAsks.j3 (k + 7) s t d e = some true := by
  by_cases hs : Tm s
  · by_cases ht : Tm t
    · refine ⟨sv s t, none, since_yes _ hs ht, ?_⟩
      simp only [radomelaw31_ClockAsks.j3, time_eq, hs, ht, decide_true, Option.bind_some, if_true, Bool.not_true, radomelaw31_ClockAsks.j4, Bool.false_eq_true, if_false, Option.isNone_none, rsince_yes (k + 1) hs ht, sure_yes]
    · refine ⟨0, some 1, since_no _ (fun h => ht h.2), ?_⟩
      simp [radomelaw31_ClockAsks.j3, time_eq, hs, ht, radomelaw31_ClockAsks.j4, radomelaw31_num.f, sure_yes]
  · refine ⟨0, some 1, since_no _ (fun h => hs h.1), ?_⟩
    simp [radomelaw31_ClockAsks.j3, time_eq, hs, radomelaw31_ClockAsks.j4, radomelaw31_num.f, sure_yes]

theorem mid_ok (k : Nat) (s t p m : Int) (hw : -9223372036854775808 ≤ p ∧ p ≤ 9223372036854775807) (d : Int) (e : Option Int) (h3 : radomelaw31_ClockAsks.j3 k s t d e = some true) :
    ∃ a g, clock_Add.f s p = some (a, g) ∧ radomelaw31_ClockAsks.j1 (k + 2) s t d e a g p m = some true := by
  by_cases hs : Tm s
  · by_cases h1 : p < -11059199
    · refine ⟨0, some 1, add_no hw (fun h => by omega), ?_⟩
      simp [radomelaw31_ClockAsks.j1, time_eq, hs, h1, radomelaw31_ClockAsks.j2, radomelaw31_num.f, h3]
    · by_cases h2 : p > 11059199
      · refine ⟨0, some 1, add_no hw (fun h => by omega), ?_⟩
        simp [radomelaw31_ClockAsks.j1, time_eq, hs, h1, h2, radomelaw31_ClockAsks.j2, radomelaw31_num.f, h3]
      · refine ⟨_, none, add_yes hs (by omega) (by omega), ?_⟩
        simp [radomelaw31_ClockAsks.j1, time_eq, hs, h1, h2, radomelaw31_ClockAsks.j2, h3]
  · refine ⟨0, some 1, add_no hw (fun h => hs h.1), ?_⟩
    simp [radomelaw31_ClockAsks.j1, time_eq, hs, radomelaw31_ClockAsks.j2, radomelaw31_num.f, h3]

theorem ClockAsks : radomelaw31_ClockAsks.Pure := by
  intro s t p m hws hwt hwp hwm
  have hwp' : -9223372036854775808 ≤ p ∧ p ≤ 9223372036854775807 := by simpa [Lit.wf, IntKind.min, IntKind.max, IntKind.signed, IntKind.bits] using hwp
  refine ⟨10, ?_⟩
  obtain ⟨d, e, hd, h3⟩ := last_ok 4 s t
  obtain ⟨d', e', hd', h3'⟩ := last_ok 0 s t
  have hde : (d, e) = (d', e') := by
    have h1 := Go.Proofs.YtddcfnhbedpbnaaDoorW.PrintWords.at_rounds (g := fun k => clock_Since.f k s t) (fun k => clock_Since.mono s t k) (show 6 ≤ 10 by omega) hd'
    exact Option.some.inj (hd.symm.trans h1)
  injection hde with hd1 he1
  subst hd1 he1
  obtain ⟨a, g, ha, h1⟩ := mid_ok 7 s t p m hwp' d e h3'
  obtain ⟨kd, ke, hk1, hk2⟩ := kind_same 5 s t p m
  have hk3 : clock_Kind.f 10 s t p m = some (kd, ke) := Go.Proofs.YtddcfnhbedpbnaaDoorW.PrintWords.at_rounds (g := fun k => clock_Kind.f k s t p m) (fun k => clock_Kind.mono s t p m k) (show 6 ≤ 10 by omega) hk1
  unfold radomelaw31_ClockAsks.f
  rw [hd, ha, hk3, hk2]
  by_cases ht : Tm t
  · rw [seconds_yes ht]
    have ht' := ht; unfold Tm at ht'
    have ew : wrap64 (8192 * t) = 8192 * t := by unfold wrap64; omega
    simp [radomelaw31_num.f, radomelaw31_ClockAsks.j0, time_eq, ht, ew, h1]
  · rw [seconds_no ht]
    simp [radomelaw31_num.f, radomelaw31_ClockAsks.j0, time_eq, ht, h1]

end Go.Proofs.YtddcfnhbedpbnaaDoor.Pure

/- The plain law of LifeRaw. -/
import Derived.Test.YtddcfnhbedpbnaaDoorPureLife
namespace Go.Proofs.YtddcfnhbedpbnaaDoor.Pure
open Go.RowKit Go.Proofs.YtddcfnhbedpbnaaDoorK Go.Proofs.YtddcfnhbedpbnaaDoor.GTR
set_option linter.unusedVariables false
set_option linter.unusedSimpArgs false
theorem shr_step (s : Int) {a : Int} (h : 1 ≤ a) (h2 : a < 32) (hs : 0 ≤ s) : shr s a = 0 ↔ (Int.tmod (shr s a) 2 = 0 ∧ shr s (a + 1) = 0) := by
  have e : shr s (a + 1) = shr s a / 2 := by
    unfold shr shn
    rw [show (a + 1).toNat = a.toNat + 1 by omega]
    simp only [IntKind.bits]
    rw [Nat.min_eq_left (by omega), Nat.min_eq_left (by omega), Int.pow_succ, ← Int.ediv_ediv_of_nonneg (Int.pow_nonneg (by omega))]
  have p : 0 ≤ shr s a := Int.ediv_nonneg hs (Int.pow_nonneg (by omega))
  rw [e, Int.tmod_eq_emod_of_nonneg p]
  omega
section
variable {kind h w m age missed s : Int} {t6 R : Bool}
theorem j4_ev (hs : 0 ≤ s ∧ s < 40) (H : Ev (fun k => (radomelaw23_LifeRaw.hs k).l0 kind h w m t6 age missed (s + 1)) R) :
    Ev (fun k => radomelaw23_LifeRaw.j4 k (radomelaw23_LifeRaw.hs k) kind h w m t6 age missed s kind s age missed (decide (My h w m kind s age missed))) R := by
  obtain ⟨K, hK⟩ := H
  refine ⟨K, fun k hk => ?_⟩
  have hj := hK k hk
  obtain ⟨l, hn⟩ := next_err k h w m kind s age missed true
  rw [show s + 1 = (s + 1) % 4294967296 by omega] at hj
  simp only [radomelaw23_LifeRaw.j4, may_eq, hn, gone_eq, Option.bind_some]
  by_cases g : My h w m kind s age missed
  · by_cases g1 : kind = 3 ∨ kind = 4
    · simpa [g, g1, gd, errN] using hj
    · simpa [g, g1, gd, errN] using hj
  · simpa [g, gd, errN] using hj
theorem b1_tail (hs : 0 ≤ s ∧ s < 40) {f : Bool} (hf : f = true → Rl h w m ∧ 1 ≤ age ∧ age ≤ w ∧ shr s age = 0) (hf2 : f = false → ¬ My h w m kind s age missed)
    (H : Ev (fun k => (radomelaw23_LifeRaw.hs k).l0 kind h w m t6 age missed (s + 1)) R) :
    Ev (fun k => if kind = 0 then (radomelaw23_LifeRaw.j3 k (radomelaw23_LifeRaw.hs k) kind h w m t6 age missed s kind s age missed f kind (decide (kind = 0))) else (radomelaw23_LifeRaw.j3 k (radomelaw23_LifeRaw.hs k) kind h w m t6 age missed s kind s age missed f kind (decide (kind = 3)))) R := by
  have J := j4_ev hs H
  have e : f = true → (My h w m kind s age missed ↔ Ms kind missed m) := fun q => by
    obtain ⟨q1, q2, q3, q4⟩ := hf q
    exact ⟨fun q => q.2.2.2.2, fun q => ⟨q1, q2, q3, q4, q⟩⟩
  have key : ∀ v : Bool, v = (f && decide (Ms kind missed m)) → Ev (fun k => radomelaw23_LifeRaw.j4 k (radomelaw23_LifeRaw.hs k) kind h w m t6 age missed s kind s age missed v) R := fun v hv => by
    rw [show v = decide (My h w m kind s age missed) by
      rw [hv]; cases f
      · simp [hf2 rfl]
      · simp [e rfl]]
    exact J
  simp only [radomelaw23_LifeRaw.j3, decide_eq_true_eq]
  have bi : ∀ {a b : Bool}, (a = true ↔ b = true) → a = b := fun h => Bool.eq_iff_iff.2 h
  by_cases c0 : kind = 0
  · simp only [c0, if_true]; rw [← c0]; refine key _ ?_; cases f
    · simp
    · refine bi ?_; simp only [Bool.true_and, Bool.and_eq_true, decide_eq_true_eq, ms_iff]; omega
  simp only [c0, if_false]
  by_cases c3 : kind = 3
  · simp only [c3, if_true]; rw [← c3]; refine key _ ?_; cases f
    · simp
    · refine bi ?_; simp only [Bool.true_and, Bool.and_eq_true, decide_eq_true_eq, ms_iff]; omega
  simp only [c3, if_false]
  by_cases c1 : kind = 1
  · simp only [c1, if_true]; rw [← c1]; refine key _ ?_; cases f
    · simp
    · refine bi ?_; simp only [Bool.true_and, Bool.and_eq_true, decide_eq_true_eq, ms_iff]; omega
  simp only [c1, if_false]
  by_cases c2 : kind = 2
  · simp only [c2, if_true]; rw [← c2]; refine key _ ?_; cases f
    · simp
    · refine bi ?_; simp only [Bool.true_and, Bool.and_eq_true, decide_eq_true_eq, ms_iff]; omega
  simp only [c2, if_false]
  by_cases c4 : kind = 4
  · simp only [c4, if_true]; rw [← c4]; refine key _ ?_; cases f
    · simp
    · refine bi ?_; simp only [Bool.true_and, Bool.and_eq_true, decide_eq_true_eq, ms_iff]; omega
  simp only [c4, if_false]
  refine key _ ?_; cases f
  · simp
  · refine bi ?_; simp only [Bool.true_and, Bool.and_eq_true, decide_eq_true_eq, ms_iff, Bool.false_eq_true, false_iff]; omega
theorem l1_stop {x12 : Int} (H : Ev (fun k => if kind = 0 then (radomelaw23_LifeRaw.j3 k (radomelaw23_LifeRaw.hs k) kind h w m t6 age missed s kind s age missed false kind (decide (kind = 0))) else (radomelaw23_LifeRaw.j3 k (radomelaw23_LifeRaw.hs k) kind h w m t6 age missed s kind s age missed false kind (decide (kind = 3)))) R) :
    Ev (fun k => (radomelaw23_LifeRaw.hs k).l1 kind h w m t6 age missed s kind s age missed false x12) R := by
  refine Ev.step (fun k => rfl) ?_
  simpa only [radomelaw23_LifeRaw.hs, radomelaw23_LifeRaw.b1, Bool.and_false, Bool.false_eq_true, if_false] using H
theorem l1_ev (hs : 0 ≤ s ∧ s < 4294967296) : ∀ (n : Nat) (x12 : Int), x12 = 32 - n → 1 ≤ x12 →
    Ev (fun k => if kind = 0 then (radomelaw23_LifeRaw.j3 k (radomelaw23_LifeRaw.hs k) kind h w m t6 age missed s kind s age missed (decide (shr s x12 = 0)) kind (decide (kind = 0))) else (radomelaw23_LifeRaw.j3 k (radomelaw23_LifeRaw.hs k) kind h w m t6 age missed s kind s age missed (decide (shr s x12 = 0)) kind (decide (kind = 3)))) R →
    Ev (fun k => (radomelaw23_LifeRaw.hs k).l1 kind h w m t6 age missed s kind s age missed true x12) R
  | 0, x12, e, h1, H => by
    have z : shr s x12 = 0 := by
      subst e; simp only [shr, shn, IntKind.bits]; exact Int.ediv_eq_zero_of_lt hs.1 (by simpa using hs.2)
    rw [show (decide (shr s x12 = 0)) = true by simpa using z] at H
    refine Ev.step (fun k => rfl) ?_
    simpa only [radomelaw23_LifeRaw.hs, radomelaw23_LifeRaw.b1, show decide (x12 < 32) = false by simp; omega, Bool.false_and, Bool.false_eq_true, if_false] using H
  | n + 1, x12, e, h1, H => by
    refine Ev.step (fun k => rfl) ?_
    simp only [radomelaw23_LifeRaw.hs, radomelaw23_LifeRaw.b1, show decide (x12 < 32) = true by simp; omega, Bool.true_and, if_true, if_pos (show 0 ≤ x12 by omega), w64_id (show -9223372036854775808 ≤ x12 + 1 ∧ x12 + 1 ≤ 9223372036854775807 by omega)]
    have st := shr_step s h1 (show x12 < 32 by omega) hs.1
    by_cases g : Int.tmod (shr s x12) 2 = 0
    · rw [show decide (Int.tmod (s / 2 ^ shn .u32 x12) 2 = 0) = true from decide_eq_true g]
      refine l1_ev hs n (x12 + 1) (by omega) (by omega) ?_
      rwa [show decide (shr s (x12 + 1) = 0) = decide (shr s x12 = 0) by rw [decide_eq_decide]; exact ⟨fun q => st.mpr ⟨g, q⟩, fun q => (st.mp q).2⟩]
    · rw [show decide (Int.tmod (s / 2 ^ shn .u32 x12) 2 = 0) = false from decide_eq_false g]
      refine l1_stop ?_
      rwa [show decide (shr s x12 = 0) = false by simpa using fun q => g (st.mp q).1] at H
theorem l1_all (hs : 0 ≤ s ∧ s < 40) (H : Ev (fun k => (radomelaw23_LifeRaw.hs k).l0 kind h w m t6 age missed (s + 1)) R) {f : Bool} (hf : f = decide (Rl h w m ∧ 1 ≤ age ∧ age ≤ w ∧ 0 ≤ kind ∧ kind ≤ 4)) :
    Ev (fun k => (radomelaw23_LifeRaw.hs k).l1 kind h w m t6 age missed s kind s age missed f age) R := by
  cases f
  · have n := of_decide_eq_false hf.symm
    refine l1_stop (b1_tail hs (fun q => by cases q) (fun _ y => n ⟨y.1, y.2.1, y.2.2.1, ?_⟩) H)
    have := y.2.2.2.2
    unfold Ms at this
    omega
  · have p := of_decide_eq_true hf.symm
    have p1 := p.1
    unfold Rl at p1
    exact l1_ev ⟨hs.1, by omega⟩ (32 - age).toNat age (by omega) p.2.1 (b1_tail hs (fun q => ⟨p.1, p.2.1, p.2.2.1, of_decide_eq_true q⟩) (fun q y => of_decide_eq_false q y.2.2.2.1) H)
end
theorem l0_ev {kind h w m age missed : Int} {t6 : Bool} : ∀ (n : Nat) (s : Int), s = 40 - n → 0 ≤ s →
    Ev (fun k => (radomelaw23_LifeRaw.hs k).l0 kind h w m t6 age missed s) true
  | 0, s, e, h0 => by
    refine Ev.step (fun k => rfl) ?_
    simp only [radomelaw23_LifeRaw.hs, radomelaw23_LifeRaw.b0, if_neg (show ¬ s < 40 by omega)]
    exact Ev.bind sure_ev Ev.now
  | n + 1, s, e, h0 => by
    have H := l0_ev (kind := kind) (h := h) (w := w) (m := m) (age := age) (missed := missed) (t6 := t6) n (s + 1) (by omega) (by omega)
    refine Ev.step (fun k => rfl) ?_
    simp only [radomelaw23_LifeRaw.hs, radomelaw23_LifeRaw.b0, if_pos (show s < 40 by omega), rcheck_eq, Option.bind_some]
    refine l1_all ⟨h0, by omega⟩ H ?_
    rw [Bool.eq_iff_iff]; simp only [Bool.and_eq_true, decide_eq_true_eq]; constructor
    · rintro ⟨⟨⟨⟨a, b⟩, c⟩, d⟩, e⟩; exact ⟨a, b, c, d, e⟩
    · rintro ⟨a, b, c, d, e⟩; exact ⟨⟨⟨⟨a, b⟩, c⟩, d⟩, e⟩
theorem LifeRaw : radomelaw23_LifeRaw.Pure := by
  intro r kind of_ _ _ _
  exact (l0_ev 40 0 (by omega) (by omega)).ex
end Go.Proofs.YtddcfnhbedpbnaaDoor.Pure

/- Pairs by bids: what pairs cost, by the program. -/
import Derived.Test.YtacbficpehmlnaaPureAU4
namespace Go.Proofs.Ytacbficpehmlnaa.Pure
open Go.RowKit Go.Proofs.YtacbficpehmlnaaK Go.Proofs.Ytacbficpehmlnaa.GBQ
set_option linter.unusedVariables false
set_option linter.unusedSimpArgs false
set_option maxRecDepth 100000
theorem run_ev {rows : List (List Int)} {miss : Int} {n P : Nat} {S M D : Int} (h : Nm rows miss n P S M D) (hc : chkB rows miss = true) (hP : P = if rows.length = 0 then 0 else (rd rows 0).length) {f : Nat} (hf : pot D (AS.zero n P) ≤ (f : Int)) (hf2 : f ≤ 100000000) : Ev (fun k => auction_Run.f k ⟨rows, miss⟩) ((sale S M rows f (AS.zero n P)).1.ha, ((sale S M rows f (AS.zero n P)).2 : Int), none) := by
  have h1 := chk_ev rows miss
  rw [hc, if_pos rfl] at h1
  unfold auction_Run.f
  refine Ev.bind h1 ?_
  simp only [Option.isSome_none, Bool.false_eq_true, if_false]
  refine Ev.bind (opened_ev h hP) ?_
  have := (run_l0 h f (AS.zero n P) 0 (zero_ai h) hf (by omega)).1
  rw [Nat.zero_add] at this
  exact this
def totR (x : Option Int) : Int × Option Int := match x with
  | some s => (s, none)
  | none => (0, some 14)
theorem total_l0 {rows : List (List Int)} {miss : Int} {P : Nat} (hc : COk rows miss P) {ps : List Int} (hl : ps.length = rows.length) : ∀ (n i : Nat) (tk : List (Int × Bool)) (s : Int), ps.length = i + n → -(5000 * (i : Int)) ≤ s ∧ s ≤ 5000 * (i : Int) →
    Ev (fun k => (cost_Total.hs k).l0 rows miss 0 none tk s ps (ps.length : Int) (i : Int)) (totR (tot miss (rows.drop i) (ps.drop i) tk s))
  | 0, i, tk, s, e, hs => by
    refine Ev.step (fun k => rfl) ?_
    simp only [cost_Total.hs, cost_Total.b0, if_neg (show ¬ (i : Int) < (ps.length : Int) by omega)]
    rw [List.drop_eq_nil_of_le (show rows.length ≤ i by omega), tot]; exact Ev.now
    intro _ _ _ _ h; cases h
  | n + 1, i, tk, s, e, hs => by
    have h64 := hc.n
    have hi : i < ps.length := by omega
    have hi' : i < rows.length := by omega
    have hm := hc.m
    have hrl := hc.row _ (List.getElem_mem hi')
    have hre := hc.ent _ (List.getElem_mem hi')
    refine Ev.step (fun k => rfl) ?_
    rw [drop_cons hi, drop_cons hi', tot]
    simp only [cost_Total.hs, cost_Total.b0, if_pos (show (i : Int) < (ps.length : Int) by omega), if_pos (show (0 : Int) ≤ (i : Int) ∧ (i : Int) < (ps.length : Int) by omega), rd_get hi, rd_get hi', wsucc (show i < 1000000000 by omega)]
    generalize ps[i] = p
    generalize rows[i] = r at hrl hre
    by_cases hp : p = -1
    · simp only [if_pos hp, w64_id (show -9223372036854775808 ≤ s + miss ∧ s + miss ≤ 9223372036854775807 by omega)]
      exact total_l0 hc hl n (i + 1) tk _ (by omega) (by omega)
    · have c1 : (!(decide (p < 0))) = true → (0 : Int) ≤ (i : Int) ∧ (i : Int) < (rows.length : Int) := fun _ => by omega
      have c2 : (!((decide (p < 0)) || (decide ((r.length : Int) ≤ p)))) = true → (0 : Int) ≤ (i : Int) ∧ (i : Int) < (rows.length : Int) := fun _ => by omega
      have c3 : (!((decide (p < 0)) || (decide ((r.length : Int) ≤ p)))) = true → (0 : Int) ≤ p ∧ p < (r.length : Int) := fun h => by simp at h; omega
      simp only [if_neg hp, if_pos c1, if_pos c2, if_pos c3]
      by_cases hb : p < 0 ∨ (r.length : Int) ≤ p ∨ rd r p < 0 ∨ mget tk p false = true
      · have e1 : ((((decide (p < 0)) || (decide ((r.length : Int) ≤ p))) || (decide (rd r p < 0))) || (mget tk p false)) = true := by
          rcases hb with h | h | h | h <;> simp [h]
        simp only [e1, if_true, if_pos hb]; exact Ev.now
      · have hb1 : 0 ≤ p ∧ p < (r.length : Int) := by omega
        have e1 : ((((decide (p < 0)) || (decide ((r.length : Int) ≤ p))) || (decide (rd r p < 0))) || (mget tk p false)) = false := by
          rw [Bool.eq_false_iff]; intro h; apply hb; simpa [or_assoc] using h
        have hx := hre _ (rd_mem hb1)
        simp only [e1, Bool.false_eq_true, if_false, if_neg hb, if_pos (show (0 : Int) ≤ (i : Int) ∧ (i : Int) < (rows.length : Int) by omega), if_pos hb1, w64_id (show -9223372036854775808 ≤ s + rd r p ∧ s + rd r p ≤ 9223372036854775807 by omega)]
        exact total_l0 hc hl n (i + 1) _ _ (by omega) (by omega)
theorem total_ev {rows : List (List Int)} {miss : Int} {ps : List Int} : Ev (fun k => cost_Total.f k ⟨rows, miss⟩ ps) (if chkB rows miss = true then (if ps.length = rows.length then totR (tot miss rows ps [] 0) else (0, some 14)) else (0, some 1)) := by
  unfold cost_Total.f
  refine Ev.bind (chk_ev rows miss) ?_
  by_cases h : chkB rows miss = true
  · simp only [if_pos h, Option.isSome_none, Bool.false_eq_true, if_false]
    by_cases hl : ps.length = rows.length
    · simp only [if_pos hl, if_pos (show (ps.length : Int) = (rows.length : Int) by omega)]
      exact total_l0 (cok_of h) hl ps.length 0 [] 0 (by omega) (by omega)
    · simp only [if_neg hl, if_neg (show ¬ (ps.length : Int) = (rows.length : Int) by omega)]; exact Ev.now
  · simp only [if_neg h, Option.isSome_some, if_true]; exact Ev.now
end Go.Proofs.Ytacbficpehmlnaa.Pure

/- Whether numbers show that nothing costs less: the document's answer. -/
import Derived.Test.YtacbficpehmlnaaPureBS1
namespace Go.Proofs.Ytacbficpehmlnaa.Pure
open Go.RowKit Go.Proofs.YtacbficpehmlnaaK Go.Proofs.Ytacbficpehmlnaa.GBQ
set_option linter.unusedVariables false
set_option linter.unusedSimpArgs false
set_option maxRecDepth 100000
theorem Ln30 {x : Int} (h : -10000000000000000000 ≤ x ∧ x ≤ 10000000000000000000) : Ln x < 8796093022208 := by
  have e : (10 : Nat) ^ 30 = 1000000000000000000000000000000 := by decide
  have := dg_len_le (n := x.natAbs) (m := 30) (by omega)
  unfold Ln; omega
theorem nbe (y : Int) : (⟨(Nb y).f_Neg, (Nb y).f_D⟩ : radomeref01_Num) = Nb y := rfl
theorem nbz : (⟨false, []⟩ : radomeref01_Num) = Nb 0 := by unfold Nb; simp [dg_zero]
section
variable {rows : List (List Int)} {miss : Int} {P : Nat}
theorem rsh_l2 (h : COk rows miss P) {u v : List Int} {total s : Int} {k : Nat} (hu : u.length = rows.length) (hk : k < P) (hv : v.length = P) (huL : ∀ y ∈ u, y ≤ miss ∧ Lw y) (hvL : rd v (k : Int) ≤ 0 ∧ Lw (rd v (k : Int))) {Q : Prop} (hr : ∃ b, Ev (fun k' => (radomeref22_Shows.hs k').l1 u v total rows miss false (Nb s).f_Neg (Nb s).f_D ((k + 1 : Nat) : Int)) b ∧ (b = true ↔ Q)) : ∀ (n i : Nat), u.length = i + n →
    ∃ b, Ev (fun k' => (radomeref22_Shows.hs k').l2 u v total rows miss false (Nb s).f_Neg (Nb s).f_D (k : Int) (i : Int)) b ∧ (b = true ↔ (∀ p : Nat, i ≤ p → p < u.length → 0 ≤ rd (rd rows (p : Int)) (k : Int) → rd u (p : Int) + rd v (k : Int) ≤ rd (rd rows (p : Int)) (k : Int)) ∧ Q)
  | 0, i, e => by
    have h64 := h.n; have hp := h.p
    obtain ⟨b, h1, h2⟩ := hr
    refine ⟨b, ?_, ?_⟩
    · refine Ev.step (fun k => rfl) ?_
      simp only [radomeref22_Shows.hs, radomeref22_Shows.b2, if_neg (show ¬ (i : Int) < (u.length : Int) by omega), wsucc (show k < 1000000000 by omega)]
      exact h1
    · rw [h2]; exact ⟨fun z => ⟨fun q _ _ => by omega, z⟩, fun z => z.2⟩
  | n + 1, i, e => by
    have h64 := h.n; have hp := h.p
    have hi : i < rows.length := by omega
    obtain ⟨rl, re⟩ := cok_row h hi
    obtain ⟨b, h1, h2⟩ := rsh_l2 h (s := s) hu hk hv huL hvL hr n (i + 1) (by omega)
    have hx := huL _ (rd_mem (L := u) (x := (i : Int)) (by omega))
    have hx2 := hx.2; have hv2 := hvL.2; unfold Lw at hx2 hv2
    have hm := h.m
    have hc := re k hk
    have c1 : (0 : Int) ≤ (i : Int) ∧ (i : Int) < (u.length : Int) := by omega
    have c2 : (0 : Int) ≤ (i : Int) ∧ (i : Int) < (rows.length : Int) := by omega
    have c3 : (0 : Int) ≤ (k : Int) ∧ (k : Int) < ((rd rows (i : Int)).length : Int) := by omega
    have c4 : (0 : Int) ≤ (k : Int) ∧ (k : Int) < (v.length : Int) := by omega
    generalize hX : rd (rd rows (i : Int)) (k : Int) = X at hc
    generalize hU : rd u (i : Int) = U at hx hx2
    generalize hV : rd v (k : Int) = W at hvL hv2 h1 h2
    have hs : ∀ (r : Bool), (0 ≤ X → Ev (fun k' => if decide (0 < (if U + W = X then (0 : Int) else if U + W < X then -1 else 1)) = true then some false else (radomeref22_Shows.hs k').l2 u v total rows miss false (Nb s).f_Neg (Nb s).f_D (k : Int) ((i + 1 : Nat) : Int)) r) → (¬ 0 ≤ X → Ev (fun k' => (radomeref22_Shows.hs k').l2 u v total rows miss false (Nb s).f_Neg (Nb s).f_D (k : Int) ((i + 1 : Nat) : Int)) r) → Ev (fun k' => (radomeref22_Shows.hs k').l2 u v total rows miss false (Nb s).f_Neg (Nb s).f_D (k : Int) (i : Int)) r := fun r ha hb => by
      refine Ev.step (fun k => rfl) ?_
      simp only [radomeref22_Shows.hs, radomeref22_Shows.b2, if_pos c1.2, if_pos c2, if_pos c3, hX, if_pos (show decide (0 ≤ X) = true → (0 : Int) ≤ (i : Int) ∧ (i : Int) < (u.length : Int) from fun _ => c1), if_pos (show decide (0 ≤ X) = true → (0 : Int) ≤ (k : Int) ∧ (k : Int) < (v.length : Int) from fun _ => c4), if_pos (show decide (0 ≤ X) = true → (0 : Int) ≤ (i : Int) ∧ (i : Int) < (rows.length : Int) from fun _ => c2), if_pos (show decide (0 ≤ X) = true → (0 : Int) ≤ (k : Int) ∧ (k : Int) < ((rd rows (i : Int)).length : Int) from fun _ => c3), hU, hV, wsucc (show i < 1000000000 by omega)]
      by_cases g : 0 ≤ X
      · simp only [decide_eq_true g, gdt, Bool.true_and]
        refine Ev.bind (Of_ev (x := U) (by omega)) (Ev.bind (Of_ev (x := W) (by omega)) (Ev.bind (Add_ev (Ln30 (by omega)) (Ln30 (by omega))) (Ev.bind (Of_ev (x := X) (by omega)) (Ev.bind (Cmp_ev (Ln30 (by omega)) (Ln30 (by omega))) ?_))))
        exact ha g
      · simp only [decide_eq_false g, gdf, Option.bind_some, Bool.false_and, Bool.false_eq_true, if_false]
        exact hb g
    by_cases g : 0 ≤ X → U + W ≤ X
    · refine ⟨b, hs b (fun g0 => ?_) (fun _ => h1), ?_⟩
      · have := g g0
        have e1 : decide (0 < (if U + W = X then (0 : Int) else if U + W < X then -1 else 1)) = false := by
          rw [decide_eq_false_iff_not]; split
          · omega
          · split <;> omega
        simp only [e1, Bool.false_eq_true, if_false]; exact h1
      · rw [h2]
        constructor
        · rintro ⟨a1, a2⟩
          refine ⟨fun q hq1 hq2 => ?_, a2⟩
          by_cases eq : q = i
          · subst eq; rw [hX, hU]; exact g
          · exact a1 q (by omega) hq2
        · rintro ⟨a1, a2⟩; exact ⟨fun q hq1 hq2 => a1 q (by omega) hq2, a2⟩
    · refine ⟨false, hs false (fun g0 => ?_) (fun g0 => absurd (fun z => absurd z g0) g), ?_⟩
      · have e1 : decide (0 < (if U + W = X then (0 : Int) else if U + W < X then -1 else 1)) = true := by
          rw [decide_eq_true_eq]; rw [if_neg (by omega), if_neg (by omega)]; decide
        simp only [e1, if_true]; exact Ev.now
      · simp only [Bool.false_eq_true, false_iff]
        rintro ⟨a1, _⟩
        have := a1 i (Nat.le_refl _) (by omega)
        rw [hX, hU] at this; exact g this
theorem rsh_l1 (h : COk rows miss P) {u v : List Int} {total : Int} (ht : -9223372036854775808 ≤ total ∧ total ≤ 9223372036854775807) (hu : u.length = rows.length) (hv : v.length = P) (huL : ∀ y ∈ u, y ≤ miss ∧ Lw y) : ∀ (n k : Nat) (s : Int), v.length = k + n → -36028797018963968 * (64 + (k : Int)) ≤ s ∧ s ≤ 4096 * (64 + (k : Int)) →
    ∃ b, Ev (fun k' => (radomeref22_Shows.hs k').l1 u v total rows miss false (Nb s).f_Neg (Nb s).f_D (k : Int)) b ∧ (b = true ↔ (∀ q : Nat, k ≤ q → q < v.length → (rd v (q : Int) ≤ 0 ∧ Lw (rd v (q : Int))) ∧ ∀ p : Nat, p < u.length → 0 ≤ rd (rd rows (p : Int)) (q : Int) → rd u (p : Int) + rd v (q : Int) ≤ rd (rd rows (p : Int)) (q : Int)) ∧ s + sm (v.drop k) = total)
  | 0, k, s, e, hs => by
    have hp := h.p
    refine ⟨decide (s = total), ?_, ?_⟩
    · refine Ev.step (fun k => rfl) ?_
      simp only [radomeref22_Shows.hs, radomeref22_Shows.b1, if_neg (show ¬ (k : Int) < (v.length : Int) by omega), nbe]
      refine Ev.bind (Of_ev ht) (Ev.bind (Cmp_ev (Ln30 (by omega)) (Ln30 (by omega))) ?_)
      have : decide ((if s = total then (0 : Int) else if s < total then -1 else 1) = 0) = decide (s = total) := by
        rw [decide_eq_decide]; split
        · simp [*]
        · split <;> simp [*]
      rw [this]; exact Ev.now
    · rw [decide_eq_true_eq, List.drop_eq_nil_of_le (by omega), sm, Int.add_zero]
      exact ⟨fun z => ⟨fun q _ _ => by omega, z⟩, fun z => z.2⟩
  | n + 1, k, s, e, hs => by
    have hp := h.p
    have hk : k < v.length := by omega
    have c1 : (0 : Int) ≤ (k : Int) ∧ (k : Int) < (v.length : Int) := by omega
    have hst : ∀ k' : Nat, (radomeref22_Shows.hs (k' + 1)).l1 u v total rows miss false (Nb s).f_Neg (Nb s).f_D (k : Int) = if ((decide (0 < (rd v (k : Int)))) || (decide ((rd v (k : Int)) < (-36028797018963968)))) = true then some false else ((radomeref01_Of.f k' (rd v (k : Int))).bind fun y49 => (radomeref01_Add.f k' (Nb s) y49).bind fun y57 => (radomeref22_Shows.hs k').l2 u v total rows miss false y57.f_Neg y57.f_D (k : Int) 0) := fun k' => by
      simp only [radomeref22_Shows.hs, radomeref22_Shows.b1, if_pos c1.2, if_pos c1, if_pos (show (!(decide (0 < (rd v (k : Int))))) = true → (0 : Int) ≤ (k : Int) ∧ (k : Int) < (v.length : Int) from fun _ => c1), nbe]
    by_cases g : rd v (k : Int) ≤ 0 ∧ Lw (rd v (k : Int))
    · have g2 := g.2; unfold Lw at g2
      obtain ⟨b, h1, h2⟩ := rsh_l2 h (s := s + rd v (k : Int)) hu (show k < P by omega) hv huL g (rsh_l1 h ht hu hv huL n (k + 1) (s + rd v (k : Int)) (by omega) (by push_cast; omega)) u.length 0 (by omega)
      refine ⟨b, Ev.step hst ?_, ?_⟩
      · have e1 : ((decide (0 < (rd v (k : Int)))) || (decide ((rd v (k : Int)) < (-36028797018963968)))) = false := by simp; omega
        simp only [e1, Bool.false_eq_true, if_false]
        refine Ev.bind (Of_ev (x := rd v (k : Int)) (by omega)) (Ev.bind (Add_ev (Ln30 (by omega)) (Ln30 (by omega))) ?_)
        exact h1
      · rw [h2, sm_drop hk, rd_get hk]
        constructor
        · rintro ⟨a1, a2, a3⟩
          refine ⟨fun q hq1 hq2 => ?_, by omega⟩
          by_cases eq : q = k
          · subst eq; exact ⟨g, fun p hp hh => by have := a1 p (Nat.zero_le _) hp hh; rw [rd_get hk]; exact this⟩
          · exact a2 q (by omega) hq2
        · rintro ⟨a1, a2⟩
          refine ⟨fun p _ hp hh => ?_, fun q hq1 hq2 => a1 q (by omega) hq2, by omega⟩
          have := (a1 k (Nat.le_refl _) hk).2 p hp hh; rw [rd_get hk] at this; exact this
    · refine ⟨false, Ev.step hst ?_, ?_⟩
      · have e1 : ((decide (0 < (rd v (k : Int)))) || (decide ((rd v (k : Int)) < (-36028797018963968)))) = true := by
          refine Decidable.byContradiction fun hc => g ?_
          rw [Bool.not_eq_true] at hc; simp at hc; unfold Lw; omega
        simp only [e1, if_true]; exact Ev.now
      · simp only [Bool.false_eq_true, false_iff]
        rintro ⟨a1, _⟩; exact g (a1 k (Nat.le_refl _) hk).1
theorem rsh_l0 (h : COk rows miss P) {u v : List Int} {total : Int} (ht : -9223372036854775808 ≤ total ∧ total ≤ 9223372036854775807) (hu : u.length = rows.length) (hv : v.length = P) : ∀ (n i : Nat) (s : Int), u.length = i + n → -36028797018963968 * (i : Int) ≤ s ∧ s ≤ 4096 * (i : Int) → (∀ q : Nat, q < i → rd u (q : Int) ≤ miss ∧ Lw (rd u (q : Int))) →
    ∃ b, Ev (fun k' => (radomeref22_Shows.hs k').l0 u v total rows miss false (Nb s).f_Neg (Nb s).f_D (i : Int)) b ∧ (b = true ↔ (∀ y ∈ u, y ≤ miss ∧ Lw y) ∧ (∀ q : Nat, q < v.length → (rd v (q : Int) ≤ 0 ∧ Lw (rd v (q : Int))) ∧ ∀ p : Nat, p < u.length → 0 ≤ rd (rd rows (p : Int)) (q : Int) → rd u (p : Int) + rd v (q : Int) ≤ rd (rd rows (p : Int)) (q : Int)) ∧ s + sm (u.drop i) + sm v = total)
  | 0, i, s, e, hs, hq => by
    have hn := h.n
    have huL : ∀ y ∈ u, y ≤ miss ∧ Lw y := fun y hy => by
      obtain ⟨j, hj, rfl⟩ := List.getElem_of_mem hy
      have := hq j (by omega); rwa [rd_get hj] at this
    obtain ⟨b, h1, h2⟩ := rsh_l1 h ht hu hv huL v.length 0 s (by omega) (by push_cast; omega)
    refine ⟨b, ?_, ?_⟩
    · refine Ev.step (fun k => rfl) ?_
      simp only [radomeref22_Shows.hs, radomeref22_Shows.b0, if_neg (show ¬ (i : Int) < (u.length : Int) by omega)]
      exact h1
    · rw [h2, List.drop_zero, List.drop_eq_nil_of_le (show u.length ≤ i by omega), sm, Int.add_zero]
      exact ⟨fun z => ⟨huL, fun q hq => z.1 q (Nat.zero_le _) hq, z.2⟩, fun z => ⟨fun q _ hq => z.2.1 q hq, z.2.2⟩⟩
  | n + 1, i, s, e, hs, hq => by
    have hn := h.n; have hm := h.m
    have hi : i < u.length := by omega
    have c1 : (0 : Int) ≤ (i : Int) ∧ (i : Int) < (u.length : Int) := by omega
    have hst : ∀ k' : Nat, (radomeref22_Shows.hs (k' + 1)).l0 u v total rows miss false (Nb s).f_Neg (Nb s).f_D (i : Int) = if ((decide (miss < (rd u (i : Int)))) || (decide ((rd u (i : Int)) < (-36028797018963968)))) = true then some false else ((radomeref01_Of.f k' (rd u (i : Int))).bind fun y25 => (radomeref01_Add.f k' (Nb s) y25).bind fun y33 => (radomeref22_Shows.hs k').l0 u v total rows miss false y33.f_Neg y33.f_D ((i + 1 : Nat) : Int)) := fun k' => by
      simp only [radomeref22_Shows.hs, radomeref22_Shows.b0, if_pos c1.2, if_pos c1, if_pos (show (!(decide (miss < (rd u (i : Int))))) = true → (0 : Int) ≤ (i : Int) ∧ (i : Int) < (u.length : Int) from fun _ => c1), nbe, wsucc (show i < 1000000000 by omega)]
    by_cases g : rd u (i : Int) ≤ miss ∧ Lw (rd u (i : Int))
    · have g2 := g.2; unfold Lw at g2
      obtain ⟨b, h1, h2⟩ := rsh_l0 h ht hu hv n (i + 1) (s + rd u (i : Int)) (by omega) (by push_cast; omega) (fun q hq1 => by
        by_cases eq : q = i
        · subst eq; exact g
        · exact hq q (by omega))
      refine ⟨b, Ev.step hst ?_, ?_⟩
      · have e1 : ((decide (miss < (rd u (i : Int)))) || (decide ((rd u (i : Int)) < (-36028797018963968)))) = false := by simp; omega
        simp only [e1, Bool.false_eq_true, if_false]
        refine Ev.bind (Of_ev (x := rd u (i : Int)) (by omega)) (Ev.bind (Add_ev (Ln30 (by omega)) (Ln30 (by omega))) ?_)
        exact h1
      · rw [h2, sm_drop hi, rd_get hi, Int.add_assoc s]
    · refine ⟨false, Ev.step hst ?_, ?_⟩
      · have e1 : ((decide (miss < (rd u (i : Int)))) || (decide ((rd u (i : Int)) < (-36028797018963968)))) = true := by
          refine Decidable.byContradiction fun hc => g ?_
          rw [Bool.not_eq_true] at hc; simp at hc; unfold Lw; omega
        simp only [e1, if_true]; exact Ev.now
      · simp only [Bool.false_eq_true, false_iff]
        rintro ⟨a1, _⟩; exact g (a1 _ (rd_mem c1))
end
theorem plots_ev (k : Nat) (rows : List (List Int)) (miss : Int) : radomeref22_plots.f k ⟨rows, miss⟩ = some (Pl rows : Int) := by
  unfold radomeref22_plots.f Pl
  by_cases h : rows.length = 0
  · simp only [h, if_true]; rfl
  · simp only [if_neg (show ¬ (rows.length : Int) = 0 by omega), if_pos (show (0 : Int) ≤ 0 ∧ 0 < (rows.length : Int) by omega), if_neg h]
theorem RShows_ev {rows : List (List Int)} {miss : Int} (hc : chkB rows miss = true) {u v : List Int} {total : Int} (ht : -9223372036854775808 ≤ total ∧ total ≤ 9223372036854775807) : ∃ b, Ev (fun k => radomeref22_Shows.f k ⟨rows, miss⟩ u v total) b ∧ (b = true ↔ ShC rows miss (Pl rows) u v total) := by
  have h := cok_pl hc
  unfold radomeref22_Shows.f
  simp only [plots_ev]
  by_cases gu : u.length = rows.length
  · have e1 : decide ((u.length : Int) = (rows.length : Int)) = true := by simp [gu]
    simp only [e1, Bool.not_true, Bool.not_false, gdt, Option.bind_some, Bool.false_or]
    by_cases gv : v.length = Pl rows
    · have e2 : decide ((v.length : Int) = (Pl rows : Int)) = true := by simp [gv]
      simp only [e2, Bool.not_true, Bool.false_eq_true, if_false]
      obtain ⟨b, h1, h2⟩ := rsh_l0 h ht gu gv u.length 0 0 (by omega) (by omega) (fun q hq => by omega)
      refine ⟨b, ?_, ?_⟩
      · rw [← nbz] at h1; exact h1
      · rw [h2, List.drop_zero, Int.zero_add]
        constructor
        · rintro ⟨a1, a2, a3⟩
          exact ⟨gu, gv, a1, fun x hx => by
            obtain ⟨j, hj, rfl⟩ := List.getElem_of_mem hx
            have := (a2 j hj).1; rwa [rd_get hj] at this, fun i k hi hk => (a2 k hk).2 i hi, a3⟩
        · intro z
          exact ⟨z.hu, fun q hq => ⟨z.hv _ (rd_mem (L := v) (x := (q : Int)) (by omega)), fun p hp => z.le p q hp hq⟩, z.sum⟩
    · have e2 : decide ((v.length : Int) = (Pl rows : Int)) = false := by simp; omega
      refine ⟨false, ?_, ?_⟩
      · simp only [e2, Bool.not_false, if_true]; exact Ev.now
      · simp only [Bool.false_eq_true, false_iff]; exact fun z => gv z.lv
  · have e1 : decide ((u.length : Int) = (rows.length : Int)) = false := by simp; omega
    refine ⟨false, ?_, ?_⟩
    · simp only [e1, Bool.not_false, Bool.not_true, gdf, Option.bind_some, Bool.true_or, if_true]; exact Ev.now
    · simp only [Bool.false_eq_true, false_iff]; exact fun z => gu z.lu
theorem sure22 : ∃ k, radomelaw22_sure.f k = some true := ⟨100, by decide +kernel⟩
theorem sure_ev22 : Ev (fun k => radomelaw22_sure.f k) true := let ⟨k, h⟩ := sure22; Ev.of (fun k => radomelaw22_sure.mono k) h
end Go.Proofs.Ytacbficpehmlnaa.Pure

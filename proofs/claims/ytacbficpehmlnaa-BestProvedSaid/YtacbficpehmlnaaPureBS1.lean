/- Whether numbers show that nothing costs less: the program's answer, and the document's. -/
import Derived.Test.YtacbficpehmlnaaPureBS0
namespace Go.Proofs.Ytacbficpehmlnaa.Pure
open Go.RowKit Go.Proofs.YtacbficpehmlnaaK Go.Proofs.Ytacbficpehmlnaa.GBQ
set_option linter.unusedVariables false
set_option linter.unusedSimpArgs false
set_option maxRecDepth 100000
def Lw (x : Int) : Prop := -36028797018963968 ≤ x
/-- Numbers that show it. -/
structure ShC (rows : List (List Int)) (miss : Int) (P : Nat) (u v : List Int) (total : Int) : Prop where
  lu : u.length = rows.length
  lv : v.length = P
  hu : ∀ x ∈ u, x ≤ miss ∧ Lw x
  hv : ∀ x ∈ v, x ≤ 0 ∧ Lw x
  le : ∀ i k : Nat, i < u.length → k < v.length → 0 ≤ rd (rd rows (i : Int)) (k : Int) → rd u (i : Int) + rd v (k : Int) ≤ rd (rd rows (i : Int)) (k : Int)
  sum : sm u + sm v = total
theorem index_l0 {s : List Int} {m : Int} (hl : s.length ≤ 1000000) : ∀ (n i : Nat), s.length = i + n → ∃ x : Int, Ev (fun k => (slices_IndexFunc_int64_int64_best_bounded_1.hs k).l0 s m 0 (s.length : Int) (i : Int)) x ∧ (x < 0 ↔ ∀ y ∈ s.drop i, y ≤ m ∧ Lw y)
  | 0, i, e => by
    refine ⟨-1, ?_, ?_⟩
    · refine Ev.step (fun k => rfl) ?_
      simp only [slices_IndexFunc_int64_int64_best_bounded_1.hs, slices_IndexFunc_int64_int64_best_bounded_1.b0, if_neg (show ¬ (i : Int) < (s.length : Int) by omega)]
      exact Ev.now
    · rw [List.drop_eq_nil_of_le (by omega)]; simp
  | n + 1, i, e => by
    have hi : i < s.length := by omega
    obtain ⟨x, h1, h2⟩ := index_l0 hl (m := m) n (i + 1) (by omega)
    rw [drop_cons hi]
    by_cases g : s[i] ≤ m ∧ Lw s[i]
    · refine ⟨x, ?_, ?_⟩
      · refine Ev.step (fun k => rfl) ?_
        have e1 : (decide (m < s[i]) || decide (s[i] < -36028797018963968)) = false := by
          have := g.2; unfold Lw at this; simp; omega
        simp only [slices_IndexFunc_int64_int64_best_bounded_1.hs, slices_IndexFunc_int64_int64_best_bounded_1.b0, best_bounded_1.f, if_pos (show (i : Int) < (s.length : Int) by omega), if_pos (show (0 : Int) ≤ (i : Int) ∧ (i : Int) < (s.length : Int) by omega), rd_get hi, Option.bind_some, e1, Bool.false_eq_true, if_false, wsucc (show i < 1000000000 by omega)]
        exact h1
      · rw [h2]; simp only [List.mem_cons, forall_eq_or_imp]; exact ⟨fun h => ⟨g, h⟩, fun h => h.2⟩
    · refine ⟨(i : Int), ?_, ?_⟩
      · refine Ev.step (fun k => rfl) ?_
        have e1 : (decide (m < s[i]) || decide (s[i] < -36028797018963968)) = true := by
          refine Decidable.byContradiction fun hc => g ?_
          rw [Bool.not_eq_true] at hc; simp at hc; unfold Lw; omega
        simp only [slices_IndexFunc_int64_int64_best_bounded_1.hs, slices_IndexFunc_int64_int64_best_bounded_1.b0, best_bounded_1.f, if_pos (show (i : Int) < (s.length : Int) by omega), if_pos (show (0 : Int) ≤ (i : Int) ∧ (i : Int) < (s.length : Int) by omega), rd_get hi, Option.bind_some, e1, if_true]
        exact Ev.now
      · constructor
        · intro h; omega
        · intro h; exact absurd (h _ (List.mem_cons_self ..)) g
theorem bounded_ev {s : List Int} {m : Int} (hl : s.length ≤ 1000000) : ∃ b, Ev (fun k => best_bounded.f k s m) b ∧ (b = true ↔ ∀ y ∈ s, y ≤ m ∧ Lw y) := by
  obtain ⟨x, h1, h2⟩ := index_l0 (m := m) hl s.length 0 (by omega)
  refine ⟨!decide (0 ≤ x), ?_, ?_⟩
  · unfold best_bounded.f slices_ContainsFunc_int64_int64_best_bounded_1.f slices_IndexFunc_int64_int64_best_bounded_1.f
    exact Ev.bind (Ev.bind h1 Ev.now) Ev.now
  · rw [List.drop_zero] at h2
    rw [← h2]; simp
section
variable {rows : List (List Int)} {miss : Int} {P : Nat}
/-- A row's numbers. -/
theorem cok_row (h : COk rows miss P) {i : Nat} (hi : i < rows.length) : (rd rows (i : Int)).length = P ∧ ∀ k : Nat, k < P → -1 ≤ rd (rd rows (i : Int)) (k : Int) ∧ rd (rd rows (i : Int)) (k : Int) ≤ 4096 := by
  have hm := List.getElem_mem hi
  rw [rd_get hi]
  have hl := h.row _ hm
  exact ⟨hl, fun k hk => by rw [rd_get (by omega)]; exact h.ent _ hm _ (List.getElem_mem _)⟩
theorem under_l1 (h : COk rows miss P) {u v : List Int} {x : Int} {i : Nat} (hi : i < rows.length) (hv : v.length = P) (hvL : ∀ y ∈ v, y ≤ 0 ∧ Lw y) {Q : Prop} (hr : ∃ b, Ev (fun k => (best_under.hs k).l0 v rows miss false u (u.length : Int) ((i + 1 : Nat) : Int)) b ∧ (b = true ↔ Q)) : ∀ (n k : Nat), P = k + n →
    ∃ b, Ev (fun k' => (best_under.hs k').l1 v rows miss false (i : Int) x u (u.length : Int) (i : Int) v (v.length : Int) (k : Int)) b ∧ (b = true ↔ (∀ q : Nat, k ≤ q → q < P → 0 ≤ rd (rd rows (i : Int)) (q : Int) → x + rd v (q : Int) ≤ rd (rd rows (i : Int)) (q : Int)) ∧ Q)
  | 0, k, e => by
    have h64 := h.n; have hp := h.p
    obtain ⟨b, h1, h2⟩ := hr
    refine ⟨b, ?_, ?_⟩
    · refine Ev.step (fun k => rfl) ?_
      simp only [best_under.hs, best_under.b1, if_neg (show ¬ (k : Int) < (v.length : Int) by omega), wsucc (show i < 1000000000 by omega)]
      exact h1
    · rw [h2]; exact ⟨fun z => ⟨fun q _ _ => by omega, z⟩, fun z => z.2⟩
  | n + 1, k, e => by
    have h64 := h.n; have hp := h.p
    obtain ⟨rl, re⟩ := cok_row h hi
    obtain ⟨b, h1, h2⟩ := under_l1 h (x := x) hi hv hvL hr n (k + 1) (by omega)
    have hk : k < v.length := by omega
    have hvk := hvL _ (rd_mem (L := v) (x := (k : Int)) (by omega))
    have hvk2 := hvk.2; unfold Lw at hvk2
    have hc := re k (by omega)
    have ew : w64 (rd (rd rows (i : Int)) (k : Int) - rd v (k : Int)) = rd (rd rows (i : Int)) (k : Int) - rd v (k : Int) := w64_id (by omega)
    have hs : ∀ k' : Nat, (best_under.hs (k' + 1)).l1 v rows miss false (i : Int) x u (u.length : Int) (i : Int) v (v.length : Int) (k : Int) = if ((decide (0 ≤ rd (rd rows (i : Int)) (k : Int))) && (decide (rd (rd rows (i : Int)) (k : Int) - rd v (k : Int) < x))) = true then some false else (best_under.hs k').l1 v rows miss false (i : Int) x u (u.length : Int) (i : Int) v (v.length : Int) ((k + 1 : Nat) : Int) := fun k' => by
      simp only [best_under.hs, best_under.b1, if_pos (show (k : Int) < (v.length : Int) by omega), if_pos (show (0 : Int) ≤ (k : Int) ∧ (k : Int) < (v.length : Int) by omega), if_pos (show (0 : Int) ≤ (i : Int) ∧ (i : Int) < (rows.length : Int) by omega), if_pos (show (0 : Int) ≤ (k : Int) ∧ (k : Int) < ((rd rows (i : Int)).length : Int) by omega), ew, wsucc (show k < 1000000000 by omega)]
    by_cases g : 0 ≤ rd (rd rows (i : Int)) (k : Int) → x + rd v (k : Int) ≤ rd (rd rows (i : Int)) (k : Int)
    · refine ⟨b, Ev.step hs ?_, ?_⟩
      · have e1 : ((decide (0 ≤ rd (rd rows (i : Int)) (k : Int))) && (decide (rd (rd rows (i : Int)) (k : Int) - rd v (k : Int) < x))) = false := by
          rw [Bool.eq_false_iff]; intro z; simp at z; have := g z.1; omega
        simp only [e1, Bool.false_eq_true, if_false]; exact h1
      · rw [h2]
        constructor
        · rintro ⟨a1, a2⟩
          refine ⟨fun q hq1 hq2 => ?_, a2⟩
          by_cases eq : q = k
          · subst eq; exact g
          · exact a1 q (by omega) hq2
        · rintro ⟨a1, a2⟩; exact ⟨fun q hq1 hq2 => a1 q (by omega) hq2, a2⟩
    · refine ⟨false, Ev.step hs ?_, ?_⟩
      · have e1 : ((decide (0 ≤ rd (rd rows (i : Int)) (k : Int))) && (decide (rd (rd rows (i : Int)) (k : Int) - rd v (k : Int) < x))) = true := by
          simp only [Classical.not_imp] at g; simp; omega
        simp only [e1, if_true]; exact Ev.now
      · simp only [Bool.false_eq_true, false_iff]
        rintro ⟨a1, _⟩; exact g (a1 k (Nat.le_refl _) (by omega))
theorem under_l0 (h : COk rows miss P) {u v : List Int} (hu : u.length = rows.length) (hv : v.length = P) (hvL : ∀ y ∈ v, y ≤ 0 ∧ Lw y) : ∀ (n i : Nat), u.length = i + n →
    ∃ b, Ev (fun k => (best_under.hs k).l0 v rows miss false u (u.length : Int) (i : Int)) b ∧ (b = true ↔ ∀ p q : Nat, i ≤ p → p < u.length → q < P → 0 ≤ rd (rd rows (p : Int)) (q : Int) → rd u (p : Int) + rd v (q : Int) ≤ rd (rd rows (p : Int)) (q : Int))
  | 0, i, e => by
    refine ⟨true, ?_, ?_⟩
    · refine Ev.step (fun k => rfl) ?_
      simp only [best_under.hs, best_under.b0, if_neg (show ¬ (i : Int) < (u.length : Int) by omega)]
      exact Ev.now
    · simp only [true_iff]; intro p q h1 h2; omega
  | n + 1, i, e => by
    obtain ⟨b, h1, h2⟩ := under_l1 h (x := rd u (i : Int)) (i := i) (by omega) hv hvL (under_l0 h hu hv hvL n (i + 1) (by omega)) P 0 (by omega)
    refine ⟨b, ?_, ?_⟩
    · refine Ev.step (fun k => rfl) ?_
      simp only [best_under.hs, best_under.b0, if_pos (show (i : Int) < (u.length : Int) by omega), if_pos (show (0 : Int) ≤ (i : Int) ∧ (i : Int) < (u.length : Int) by omega)]
      exact h1
    · rw [h2]
      constructor
      · rintro ⟨a1, a2⟩ p q hp1 hp2 hq
        by_cases ep : p = i
        · subst ep; exact a1 q (Nat.zero_le _) hq
        · exact a2 p q (by omega) hp2 hq
      · intro a; exact ⟨fun q _ hq => a i q (Nat.le_refl _) (by omega) hq, fun p q hp1 hp2 hq => a p q (by omega) hp2 hq⟩
/-- Sums of few numbers, none of them great. -/
theorem sm_drop {l : List Int} {i : Nat} (hi : i < l.length) : sm (l.drop i) = l[i] + sm (l.drop (i + 1)) := by rw [drop_cons hi, sm]
theorem sm_bd {m : Int} (hm : 0 ≤ m ∧ m ≤ 4096) : ∀ {l : List Int}, (∀ x ∈ l, x ≤ m ∧ Lw x) → -36028797018963968 * (l.length : Int) ≤ sm l ∧ sm l ≤ 4096 * (l.length : Int)
  | [], _ => by simp [sm]
  | x :: l, h => by
    have h1 := h x (by simp); have h2 := sm_bd hm (l := l) fun y hy => h y (by simp [hy])
    have h3 := h1.2; unfold Lw at h3
    simp only [sm, List.length_cons]; push_cast; omega
theorem shows_l1 {total : Int} {v : List Int} (hv : v.length ≤ 64) (hvL : ∀ y ∈ v, y ≤ 0 ∧ Lw y) : ∀ (n k : Nat) (s : Int), v.length = k + n → -36028797018963968 * (64 + (k : Int)) ≤ s ∧ s ≤ 4096 * (64 + (k : Int)) →
    Ev (fun k' => (best_Shows.hs k').l1 total s v (v.length : Int) (k : Int)) (decide (s + sm (v.drop k) = total), none)
  | 0, k, s, e, hs => by
    refine Ev.step (fun k => rfl) ?_
    simp only [best_Shows.hs, best_Shows.b1, if_neg (show ¬ (k : Int) < (v.length : Int) by omega)]
    rw [List.drop_eq_nil_of_le (by omega), sm, Int.add_zero]; exact Ev.now
  | n + 1, k, s, e, hs => by
    have hk : k < v.length := by omega
    have hx := hvL _ (List.getElem_mem hk)
    have hx2 := hx.2; unfold Lw at hx2
    refine Ev.step (fun k => rfl) ?_
    simp only [best_Shows.hs, best_Shows.b1, if_pos (show (k : Int) < (v.length : Int) by omega), if_pos (show (0 : Int) ≤ (k : Int) ∧ (k : Int) < (v.length : Int) by omega), rd_get hk, wsucc (show k < 1000000000 by omega), w64_id (show -9223372036854775808 ≤ s + v[k] ∧ s + v[k] ≤ 9223372036854775807 by omega)]
    rw [sm_drop hk, ← Int.add_assoc]
    exact shows_l1 hv hvL n (k + 1) (s + v[k]) (by omega) (by push_cast; omega)
theorem shows_l0 {total miss : Int} (hm : 0 ≤ miss ∧ miss ≤ 4096) {u v : List Int} (hu : u.length ≤ 64) (huL : ∀ y ∈ u, y ≤ miss ∧ Lw y) (hv : v.length ≤ 64) (hvL : ∀ y ∈ v, y ≤ 0 ∧ Lw y) : ∀ (n k : Nat) (s : Int), u.length = k + n → -36028797018963968 * (k : Int) ≤ s ∧ s ≤ 4096 * (k : Int) →
    Ev (fun k' => (best_Shows.hs k').l0 v total s u (u.length : Int) (k : Int)) (decide (s + sm (u.drop k) + sm v = total), none)
  | 0, k, s, e, hs => by
    refine Ev.step (fun k => rfl) ?_
    simp only [best_Shows.hs, best_Shows.b0, if_neg (show ¬ (k : Int) < (u.length : Int) by omega)]
    rw [List.drop_eq_nil_of_le (by omega), sm, Int.add_zero]
    exact shows_l1 hv hvL v.length 0 s (by omega) (by push_cast; omega)
  | n + 1, k, s, e, hs => by
    have hk : k < u.length := by omega
    have hx := huL _ (List.getElem_mem hk)
    have hx2 := hx.2; unfold Lw at hx2
    refine Ev.step (fun k => rfl) ?_
    simp only [best_Shows.hs, best_Shows.b0, if_pos (show (k : Int) < (u.length : Int) by omega), if_pos (show (0 : Int) ≤ (k : Int) ∧ (k : Int) < (u.length : Int) by omega), rd_get hk, wsucc (show k < 1000000000 by omega), w64_id (show -9223372036854775808 ≤ s + u[k] ∧ s + u[k] ≤ 9223372036854775807 by omega)]
    rw [sm_drop hk, ← Int.add_assoc]
    exact shows_l0 hm hu huL hv hvL n (k + 1) (s + u[k]) (by omega) (by push_cast; omega)
end
/-! ### the begin -/
theorem repeat_n : ∀ c : Nat, c < 129 → slices_Repeat_int_int.f 20 [-1] (c : Int) = some (List.replicate c (-1)) := by decide +kernel
theorem repeat_ev {c : Nat} (h : c ≤ 128) : Ev (fun k => slices_Repeat_int_int.f k [-1] (c : Int)) (List.replicate c (-1)) := Ev.of (fun k => slices_Repeat_int_int.mono k _ _) (repeat_n c (by omega))
/-- The plots. -/
def Pl (rows : List (List Int)) : Nat := if rows.length = 0 then 0 else (rd rows 0).length
theorem cok_pl {rows : List (List Int)} {miss : Int} (h : chkB rows miss = true) : COk rows miss (Pl rows) := by
  have hc := cok_of h
  unfold Pl
  by_cases h0 : rows.length = 0
  · have : rows = [] := List.eq_nil_of_length_eq_zero h0
    subst this
    exact ⟨hc.n, hc.m, by simp, (fun r hr => by cases hr), hc.ent⟩
  · rw [if_neg h0]; exact hc
def B0 (rows : List (List Int)) (miss : Int) : best_search := ⟨⟨rows, miss⟩, rows.length, Pl rows, List.replicate rows.length 0, List.replicate (Pl rows + rows.length) 0, List.replicate (Pl rows + rows.length) (-1)⟩
theorem begun_ev {rows : List (List Int)} {miss : Int} (h : COk rows miss (Pl rows)) : Ev (fun k => best_begun.f k ⟨rows, miss⟩) (B0 rows miss) := by
  have hn := h.n; have hp := h.p
  have J : ∀ p : Nat, p ≤ 64 → Ev (fun k => best_begun.j1 k rows miss rows.length p [] [] []) ⟨⟨rows, miss⟩, rows.length, p, List.replicate rows.length 0, List.replicate (p + rows.length) 0, List.replicate (p + rows.length) (-1)⟩ := fun p h64 => by
    have e : w64 ((p : Int) + (rows.length : Int)) = ((p + rows.length : Nat) : Int) := by rw [w64_id (by omega)]; push_cast; rfl
    unfold best_begun.j1
    simp only [e, if_pos (show 0 ≤ (rows.length : Int) ∧ (rows.length : Int) ≤ 35184372088832 by omega), if_pos (show 0 ≤ ((p + rows.length : Nat) : Int) ∧ ((p + rows.length : Nat) : Int) ≤ 35184372088832 by omega), Int.toNat_natCast]
    exact Ev.bind (repeat_ev (by omega)) Ev.now
  unfold best_begun.f B0 Pl
  by_cases h0 : rows.length = 0
  · simp only [h0, if_neg (show ¬ (0 : Int) < ((0 : Nat) : Int) by omega), if_true]
    have := J 0 (by omega)
    rw [h0] at this; exact this
  · simp only [if_pos (show (0 : Int) < (rows.length : Int) by omega), if_pos (show (0 : Int) ≤ 0 ∧ 0 < (rows.length : Int) by omega), if_neg h0]
    have e : Pl rows = (rd rows 0).length := if_neg h0
    exact J _ (by omega)
/-- The program's answer. -/
theorem Shows_ev {rows : List (List Int)} {miss : Int} (hc : chkB rows miss = true) {u v : List Int} (hu : u.length ≤ 140000000000000) (hv : v.length ≤ 140000000000000) {total : Int} : ∃ b, Ev (fun k => best_Shows.f k ⟨rows, miss⟩ u v total) (b, none) ∧ (b = true ↔ ShC rows miss (Pl rows) u v total) := by
  have h := cok_pl hc
  have hn := h.n; have hp := h.p
  have h1 := chk_ev rows miss
  rw [hc, if_pos rfl] at h1
  have hB : Ev (fun k => best_begun.f k ⟨rows, miss⟩) ⟨⟨rows, miss⟩, rows.length, Pl rows, List.replicate rows.length 0, List.replicate (Pl rows + rows.length) 0, List.replicate (Pl rows + rows.length) (-1)⟩ := begun_ev h
  unfold best_Shows.f
  by_cases g : u.length = rows.length ∧ v.length = Pl rows
  · obtain ⟨gu, gv⟩ := g
    have e1 : (!((!decide ((u.length : Int) = (rows.length : Int))) || (!decide ((v.length : Int) = (Pl rows : Int))))) = true := by simp [gu, gv]
    obtain ⟨b1, w1, q1⟩ := bounded_ev (s := u) (m := miss) (by omega)
    obtain ⟨b2, w2, q2⟩ := bounded_ev (s := v) (m := 0) (by omega)
    cases b1 with
    | false =>
      refine ⟨false, ?_, ?_⟩
      · refine Ev.bind h1 ?_
        simp only [Option.isSome_none, Bool.false_eq_true, if_false]
        refine Ev.bind hB ?_
        simp only [e1, gdt]
        refine Ev.bind w1 ?_
        have e2 : ((!decide ((u.length : Int) = (rows.length : Int))) || (!decide ((v.length : Int) = (Pl rows : Int)))) = false := by simpa using e1
        simp only [e2, Bool.not_false, Bool.or_true, Bool.not_true, gdf, Option.bind_some, Bool.true_or, if_true]
        exact Ev.now
      · simp only [Bool.false_eq_true, false_iff] at q1 ⊢; exact fun z => q1 z.hu
    | true =>
    cases b2 with
    | false =>
      refine ⟨false, ?_, ?_⟩
      · refine Ev.bind h1 ?_
        simp only [Option.isSome_none, Bool.false_eq_true, if_false]
        refine Ev.bind hB ?_
        simp only [e1, gdt]
        refine Ev.bind w1 ?_
        have e2 : ((!decide ((u.length : Int) = (rows.length : Int))) || (!decide ((v.length : Int) = (Pl rows : Int)))) = false := by simpa using e1
        simp only [e2, Bool.not_true, Bool.or_false, Bool.not_false, gdt]
        refine Ev.bind w2 ?_
        simp only [Bool.not_false, Bool.or_true, Bool.not_true, gdf, Option.bind_some, Bool.true_or, if_true]
        exact Ev.now
      · simp only [Bool.false_eq_true, false_iff] at q2 ⊢; exact fun z => q2 z.hv
    | true =>
    have q1 := q1.1 rfl; have q2 := q2.1 rfl
    obtain ⟨b3, w3, q3⟩ := under_l0 h gu gv q2 u.length 0 (by omega)
    have q3 : b3 = true ↔ ∀ i k : Nat, i < u.length → k < v.length → 0 ≤ rd (rd rows (i : Int)) (k : Int) → rd u (i : Int) + rd v (k : Int) ≤ rd (rd rows (i : Int)) (k : Int) := by
      rw [q3]; exact ⟨fun a i k hi hk => a i k (Nat.zero_le _) hi (by omega), fun a i k _ hi hk => a i k hi (by omega)⟩
    have run : ∀ r, Ev (fun k => if (!b3) = true then some (false, none) else (best_Shows.hs k).l0 v total 0 u (u.length : Int) 0) r → Ev (fun k => best_Shows.f k ⟨rows, miss⟩ u v total) r := fun r hr => by
      unfold best_Shows.f
      refine Ev.bind h1 ?_
      simp only [Option.isSome_none, Bool.false_eq_true, if_false]
      refine Ev.bind hB ?_
      simp only [e1, gdt]
      refine Ev.bind w1 ?_
      have e2 : ((!decide ((u.length : Int) = (rows.length : Int))) || (!decide ((v.length : Int) = (Pl rows : Int)))) = false := by simpa using e1
      simp only [e2, Bool.not_true, Bool.or_false, Bool.not_false, gdt]
      refine Ev.bind w2 ?_
      simp only [Bool.not_true, Bool.or_false, Bool.not_false, gdt]
      unfold best_under.f
      refine Ev.bind w3 ?_
      simp only [Bool.false_or]
      exact hr
    unfold best_Shows.f at run
    cases b3 with
    | false =>
      refine ⟨false, run _ ?_, ?_⟩
      · simp only [Bool.not_false, if_true]; exact Ev.now
      · simp only [Bool.false_eq_true, false_iff] at q3 ⊢; exact fun z => q3 z.le
    | true =>
      refine ⟨decide (0 + sm (u.drop 0) + sm v = total), run _ ?_, ?_⟩
      · simp only [Bool.not_true, Bool.false_eq_true, if_false]
        exact shows_l0 h.m (by omega) q1 (by omega) q2 u.length 0 0 (by omega) (by omega)
      · rw [decide_eq_true_eq, List.drop_zero, Int.zero_add]
        exact ⟨fun z => ⟨gu, gv, q1, q2, q3.1 rfl, z⟩, fun z => z.sum⟩
  · refine ⟨false, ?_, ?_⟩
    · refine Ev.bind h1 ?_
      simp only [Option.isSome_none, Bool.false_eq_true, if_false]
      refine Ev.bind hB ?_
      have e2 : ((!decide ((u.length : Int) = (rows.length : Int))) || (!decide ((v.length : Int) = (Pl rows : Int)))) = true := by
        refine Decidable.byContradiction fun hx => g ?_; rw [Bool.not_eq_true] at hx; simp at hx; omega
      simp only [e2, Bool.not_true, gdf, Option.bind_some, Bool.true_or, if_true]
      exact Ev.now
    · simp only [Bool.false_eq_true, false_iff]; exact fun z => g ⟨z.lu, z.lv⟩
end Go.Proofs.Ytacbficpehmlnaa.Pure

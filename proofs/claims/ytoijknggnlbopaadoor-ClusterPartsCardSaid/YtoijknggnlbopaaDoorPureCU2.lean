/- What hangs together: what the program does. -/
import Derived.Test.YtoijknggnlbopaaDoorPureCU1
namespace Go.Proofs.YtoijknggnlbopaaDoor.Pure
open Go.RowKit Go.Proofs.YtoijknggnlbopaaDoorK Go.Proofs.YtoijknggnlbopaaDoor.GCP
set_option linter.unusedVariables false
set_option linter.unusedSimpArgs false
set_option linter.unusedSectionVars false
set_option maxRecDepth 100000
theorem wi {x : Int} (h : -9223372036854775808 ≤ x ∧ x ≤ 9223372036854775807) : w64 x = x := by
  simp only [w64, IntKind.wrap, IntKind.bits, IntKind.signed]; simp; omega
theorem wsucc {i : Nat} (h : i < 4611686018427387904) : w64 ((i : Int) + 1) = ((i + 1 : Nat) : Int) := wi (by omega)
theorem gdt {α : Type} (x : Option α) (d : α) : gd true x d = x := rfl
theorem rd_get {α : Type} [Inhabited α] {L : List α} {i : Nat} (h : i < L.length) : rd L (i : Int) = L[i] := by
  unfold rd; rw [Int.toNat_natCast, List.getD_eq_getElem?_getD, List.getElem?_eq_getElem h]; rfl
theorem drop_cons {α : Type} {L : List α} {i : Nat} (h : i < L.length) : L.drop i = L[i] :: L.drop (i + 1) := List.drop_eq_getElem_cons h
/-! ### whether pairs may be -/
def okL (m : Int) : Int → List Int → Bool
  | _, [] => true
  | la, p :: r => decide (la < p ∧ p < m) && okL m p r
def chkV (pairs : List (List Int)) (plots : Int) : Option Int := if 64 < pairs.length then some 2 else if plots < 0 ∨ 64 < plots then some 1 else if pairs.all (okL plots (-1)) = true then none else some 1
theorem ck_l1 {pairs : List (List Int)} {plots : Int} {l : List Int} {i : Nat} {e0 : Option Int} {r : Option Int} (hl : l.length ≤ 17592186044416) (hi : i < 1000) (hgo : Ev (fun k => (cluster_Check.hs k).l0 plots none pairs (pairs.length : Int) ((i + 1 : Nat) : Int)) r) :
    ∀ (d q : Nat) (la : Int), l.length = q + d → ((q = 0 ∧ la = -1) ∨ ∃ h : q - 1 < l.length, 0 < q ∧ l[q - 1] = la ∧ 0 ≤ la) → Ev (fun k => (cluster_Check.hs k).l1 plots none l pairs (pairs.length : Int) (i : Int) l (l.length : Int) (q : Int)) (if okL plots la (l.drop q) = true then r else some 1)
  | 0, q, la, e, hla => by
    refine Ev.step (fun k => rfl) ?_
    simp only [cluster_Check.hs, cluster_Check.b1, if_neg (show ¬ (q : Int) < (l.length : Int) by omega), wsucc (show i < 4611686018427387904 by omega)]
    rw [List.drop_eq_nil_of_le (by omega), okL, if_pos rfl]; exact hgo
  | d + 1, q, la, e, hla => by
    have hq : q < l.length := by omega
    have ih := ck_l1 (e0 := e0) hl hi hgo d (q + 1) l[q] (by omega)
    refine Ev.step (fun k => rfl) ?_
    have hc : ((!((decide ((rd l (q : Int)) < 0)) || (decide (plots ≤ (rd l (q : Int)))))) && (decide (0 < (q : Int)))) = true → (0 : Int) ≤ w64 ((q : Int) - 1) ∧ w64 ((q : Int) - 1) < (l.length : Int) := fun h => by
      simp only [Bool.and_eq_true, decide_eq_true_eq] at h
      rw [wi (by omega)]; omega
    simp only [cluster_Check.hs, cluster_Check.b1, if_pos (show (q : Int) < (l.length : Int) by omega), if_pos (show (0 : Int) ≤ (q : Int) ∧ (q : Int) < (l.length : Int) by omega), if_pos hc, wsucc (show q < 4611686018427387904 by omega)]
    rw [rd_get hq, drop_cons hq, okL]
    have e1 : (((decide (l[q] < 0)) || (decide (plots ≤ l[q]))) || ((decide (0 < (q : Int))) && (decide (l[q] ≤ (rd l (w64 ((q : Int) - 1))))))) = !decide (la < l[q] ∧ l[q] < plots) := by
      rcases hla with ⟨h0, h1⟩ | ⟨h, h0, h1, h2⟩
      · subst h0; subst h1
        have : decide (0 < ((0 : Nat) : Int)) = false := by decide
        rw [this, Bool.false_and, Bool.or_false]
        by_cases c : (-1 : Int) < l[0] ∧ l[0] < plots
        · rw [decide_eq_true c]; simp; omega
        · rw [decide_eq_false c]; simp; omega
      · have hr : rd l (w64 ((q : Int) - 1)) = la := by rw [wi (by omega), show (q : Int) - 1 = ((q - 1 : Nat) : Int) by omega, rd_get h]; exact h1
        rw [hr, decide_eq_true (show (0 : Int) < (q : Int) by omega), Bool.true_and]
        by_cases c : la < l[q] ∧ l[q] < plots
        · rw [decide_eq_true c]; simp; omega
        · rw [decide_eq_false c]; simp; omega
    rw [e1]
    by_cases c : la < l[q] ∧ l[q] < plots
    · simp only [decide_eq_true c, Bool.not_true, Bool.false_eq_true, if_false, Bool.true_and]
      refine ih (.inr ⟨by omega, by omega, rfl, ?_⟩)
      rcases hla with ⟨h0, h1⟩ | ⟨h, h0, h1, h2⟩ <;> omega
    · simp only [decide_eq_false c, Bool.not_false, if_true, Bool.false_and, Bool.false_eq_true, if_false]; exact Ev.now
theorem ck_l0 {pairs : List (List Int)} {plots : Int} (hn : pairs.length ≤ 64) (hl : ∀ l ∈ pairs, l.length ≤ 17592186044416) : ∀ (d i : Nat), pairs.length = i + d → Ev (fun k => (cluster_Check.hs k).l0 plots none pairs (pairs.length : Int) (i : Int)) (if (pairs.drop i).all (okL plots (-1)) = true then none else some 1)
  | 0, i, e => by
    refine Ev.step (fun k => rfl) ?_
    simp only [cluster_Check.hs, cluster_Check.b0, if_neg (show ¬ (i : Int) < (pairs.length : Int) by omega)]
    rw [List.drop_eq_nil_of_le (by omega)]; exact Ev.now
  | d + 1, i, e => by
    have hi : i < pairs.length := by omega
    have ih := ck_l0 (plots := plots) hn hl d (i + 1) (by omega)
    refine Ev.step (fun k => rfl) ?_
    simp only [cluster_Check.hs, cluster_Check.b0, if_pos (show (i : Int) < (pairs.length : Int) by omega), if_pos (show (0 : Int) ≤ (i : Int) ∧ (i : Int) < (pairs.length : Int) by omega), rd_get hi]
    have := ck_l1 (e0 := none) (hl _ (List.getElem_mem hi)) (by omega) ih (pairs[i]).length 0 (-1) (by omega) (.inl ⟨rfl, rfl⟩)
    rw [List.drop_zero] at this
    rw [drop_cons hi, List.all_cons]
    cases c : okL plots (-1) pairs[i] with
    | true => rw [c] at this; simpa using this
    | false => rw [c] at this; simpa using this
theorem Check_ev {pairs : List (List Int)} {plots : Int} (hl : ∀ l ∈ pairs, l.length ≤ 17592186044416) : Ev (fun k => cluster_Check.f k pairs plots) (chkV pairs plots) := by
  unfold cluster_Check.f chkV
  by_cases h : 64 < pairs.length
  · simp only [if_pos (show 64 < (pairs.length : Int) by omega), if_pos h]; exact Ev.now
  · simp only [if_neg (show ¬ 64 < (pairs.length : Int) by omega), if_neg h]
    by_cases h2 : plots < 0 ∨ 64 < plots
    · have e1 : ((decide (plots < 0)) || (decide (64 < plots))) = true := by simp; exact h2
      simp only [e1, if_true, if_pos h2]; exact Ev.now
    · have e1 : ((decide (plots < 0)) || (decide (64 < plots))) = false := by simp; omega
      simp only [e1, Bool.false_eq_true, if_false, if_neg h2]
      exact ck_l0 (by omega) hl pairs.length 0 (by omega)
theorem okL_mem {m : Int} : ∀ {l : List Int} {la : Int}, okL m la l = true → ∀ p ∈ l, la < p ∧ p < m
  | [], _, _, p, hp => by cases hp
  | a :: r, la, h, p, hp => by
    rw [okL, Bool.and_eq_true] at h
    have h1 := of_decide_eq_true h.1
    rcases List.mem_cons.1 hp with rfl | hp
    · exact h1
    · have := okL_mem h.2 p hp; omega
/-! ### the forest -/
theorem planted_l0 {N : Nat} (hN : N ≤ 1000) : ∀ (d i : Nat) (f : List Int), N = i + d → Fo N f → (∀ j, j < i → fg f j = j) → ∃ f', Ev (fun k => (cluster_planted.hs k).l0 f (N : Int) (i : Int)) f' ∧ Fo N f' ∧ ∀ j, j < N → fg f' j = j
  | 0, i, f, e, h, hj => by
    refine ⟨f, ?_, h, fun j hj2 => hj j (by omega)⟩
    refine Ev.step (fun k => rfl) ?_
    simp only [cluster_planted.hs, cluster_planted.b0, if_neg (show ¬ (i : Int) < (N : Int) by omega)]; exact Ev.now
  | d + 1, i, f, e, h, hj => by
    have hl := h.len
    obtain ⟨f', h1, h2, h3⟩ := planted_l0 hN d (i + 1) (f.set i (i : Int)) (by omega) (h.set (by omega) (by omega) (by omega)) (fun j hj2 => by
      rw [fg_set (by omega)]
      split
      · rename_i e2; rw [e2]; simp
      · exact hj j (by omega))
    refine ⟨f', ?_, h2, h3⟩
    refine Ev.step (fun k => rfl) ?_
    simp only [cluster_planted.hs, cluster_planted.b0, if_pos (show (i : Int) < (N : Int) by omega), if_pos (show (0 : Int) ≤ (i : Int) ∧ (i : Int) < (f.length : Int) by omega), wsucc (show i < 4611686018427387904 by omega), Int.toNat_natCast]
    exact h1
theorem planted_ev {N : Nat} (hN : N ≤ 1000) : ∃ f, Ev (fun k => cluster_planted.f k (N : Int)) f ∧ Fo N f ∧ ∀ j, j < N → fg f j = j := by
  have h0 : Fo N (List.replicate N (0 : Int)) := ⟨by simp, fun x hx => by rw [(List.mem_replicate.1 hx).2]; omega, fun j => by
    unfold fg
    rw [List.getD_eq_getElem?_getD, List.getElem?_replicate]
    split <;> simp⟩
  obtain ⟨f, h1, h2, h3⟩ := planted_l0 hN N 0 _ (by omega) h0 (fun j hj => by omega)
  refine ⟨f, ?_, h2, h3⟩
  unfold cluster_planted.f
  simp only [if_pos (show 0 ≤ (N : Int) ∧ (N : Int) ≤ 35184372088832 by omega), Int.toNat_natCast, List.length_replicate]
  exact h1
theorem top_ev {N : Nat} : ∀ (i : Nat) (f : List Int), i < N → Fo N f → ∃ f', Ev (fun k => cluster_forest_top.f k f (i : Int)) ((Tp f i : Nat), f') ∧ Fo N f' ∧ ∀ j, j < N → Tp f' j = Tp f j := by
  unfold cluster_forest_top.f
  intro i
  induction i using Nat.strongRecOn with
  | _ i ih =>
    intro f hi h
    have hl := h.len
    have hr := h.rd hi
    by_cases e : fg f i = i
    · refine ⟨f, ?_, h, fun _ _ => rfl⟩
      refine Ev.step (fun k => rfl) ?_
      simp only [cluster_forest_top.hs, cluster_forest_top.b0, if_pos (show (0 : Int) ≤ (i : Int) ∧ (i : Int) < (f.length : Int) by omega), hr, if_pos (show ((fg f i : Nat) : Int) = (i : Int) by omega)]
      rw [Tp_fix h e]; exact Ev.now
    · have h1 := h.le i
      have h2 := h.le (fg f i)
      have hr2 := h.rd (show fg f i < N by omega)
      have h' : Fo N (f.set i (fg f (fg f i) : Int)) := h.set hi (by omega) (by rw [Int.toNat_natCast]; omega)
      have hs := Tp_short h hi
      obtain ⟨f', k1, k2, k3⟩ := ih (fg f (fg f i)) (by omega) (f.set i (fg f (fg f i) : Int)) (by omega) h'
      refine ⟨f', ?_, k2, fun j hj => by rw [k3 j hj, hs j hj]⟩
      have hr3 := h'.rd hi
      rw [fg_set (by omega), if_pos rfl, Int.toNat_natCast] at hr3
      refine Ev.step (fun k => rfl) ?_
      simp only [cluster_forest_top.hs, cluster_forest_top.b0, if_pos (show (0 : Int) ≤ (i : Int) ∧ (i : Int) < (f.length : Int) by omega), hr, if_neg (show ¬ ((fg f i : Nat) : Int) = (i : Int) by omega), if_pos (show (0 : Int) ≤ ((fg f i : Nat) : Int) ∧ ((fg f i : Nat) : Int) < (f.length : Int) by omega), hr2, Int.toNat_natCast, List.length_set, hr3]
      have : Tp (f.set i (fg f (fg f i) : Int)) (fg f (fg f i)) = Tp f i := by rw [hs _ (by omega), Tp_fg h, Tp_fg h]
      rw [this] at k1; exact k1
theorem join_ev {N : Nat} {f : List Int} {a b : Nat} (h : Fo N f) (ha : a < N) (hb : b < N) : ∃ f', Ev (fun k => cluster_forest_join.f k f (a : Int) (b : Int)) f' ∧ Fo N f' ∧ ∀ j, j < N → Tp f' j = if Tp f j = max (Tp f a) (Tp f b) then min (Tp f a) (Tp f b) else Tp f j := by
  obtain ⟨f1, e1, h1, t1⟩ := top_ev a f ha h
  obtain ⟨f2, e2, h2, t2⟩ := top_ev b f1 hb h1
  have la := Tp_le h a
  have lb := Tp_le h b
  have ra : Tp f2 a = Tp f a := by rw [t2 a ha, t1 a ha]
  have rb : Tp f2 b = Tp f b := by rw [t2 b hb, t1 b hb]
  obtain ⟨h3, t3⟩ := Tp_join h2 (a := Tp f a) (b := Tp f b) (by omega) (by omega) (by rw [← ra]; exact fg_Tp h2 a) (by rw [← rb]; exact fg_Tp h2 b)
  refine ⟨_, ?_, h3, fun j hj => by rw [t3 j hj, t2 j hj, t1 j hj]⟩
  unfold cluster_forest_join.f
  refine Ev.bind e1 (Ev.bind e2 ?_)
  rw [t1 b hb]
  have hl := h2.len
  have em : max ((Tp f a : Nat) : Int) ((Tp f b : Nat) : Int) = ((max (Tp f a) (Tp f b) : Nat) : Int) := by omega
  have en : min ((Tp f a : Nat) : Int) ((Tp f b : Nat) : Int) = ((min (Tp f a) (Tp f b) : Nat) : Int) := by omega
  simp only [em, en, if_pos (show (0 : Int) ≤ ((max (Tp f a) (Tp f b) : Nat) : Int) ∧ ((max (Tp f a) (Tp f b) : Nat) : Int) < (f2.length : Int) by omega), Int.toNat_natCast]
  exact Ev.now
/-! ### what was joined -/
def Ed (pairs : List (List Int)) (i q : Nat) (t j : Nat) : Prop := (t < i ∧ ∃ p ∈ pairs.getD t [], j = pairs.length + p.toNat) ∨ (t = i ∧ ∃ p ∈ (pairs.getD i []).take q, j = pairs.length + p.toNat)
theorem Hangs.congr {N : Nat} {S S' : Nat → Nat → Prop} {T : Nat → Nat} (h : Hangs N S T) (e : ∀ i j, S i j ↔ S' i j) : Hangs N S' T :=
  ⟨h.le, h.idem, fun i j hs => h.same i j ((e i j).2 hs), fun α g hg => h.only α g fun i j hs => hg i j ((e i j).1 hs)⟩
section
variable {pairs : List (List Int)} {m N : Nat} (hn : pairs.length ≤ 64) (hm : m ≤ 64) (hN : N = pairs.length + m) (ok : pairs.all (okL (m : Int) (-1)) = true) (hlen : ∀ l ∈ pairs, l.length ≤ 17592186044416)
include hn hm hN ok hlen
theorem Ed_lt {i q t j : Nat} (hi : i ≤ pairs.length) (h : Ed pairs i q t j) : t < N ∧ j < N := by
  have mem : ∀ t p, p ∈ pairs.getD t [] → t < pairs.length ∧ p.toNat < m := fun t p hp => by
    rw [List.getD_eq_getElem?_getD] at hp
    rcases Nat.lt_or_ge t pairs.length with h1 | h1
    · rw [List.getElem?_eq_getElem h1] at hp
      have := okL_mem (List.all_eq_true.1 ok _ (List.getElem_mem h1)) p hp
      exact ⟨h1, by omega⟩
    · rw [List.getElem?_eq_none h1] at hp; cases hp
  rcases h with ⟨h1, p, hp, rfl⟩ | ⟨h1, p, hp, rfl⟩
  · have := mem _ p hp; omega
  · have := mem _ p (List.mem_of_mem_take hp); omega
theorem of_l1 {i : Nat} (hi : i < pairs.length) : ∀ (d q : Nat) (f : List Int), (pairs[i]).length = q + d → Fo N f → Hangs N (Ed pairs i q) (Tp f) → ∃ f', Fo N f' ∧ Hangs N (Ed pairs (i + 1) 0) (Tp f') ∧ ∀ r, Ev (fun k => (cluster_Of.hs k).l0 pairs (m : Int) f' pairs (pairs.length : Int) ((i + 1 : Nat) : Int)) r → Ev (fun k => (cluster_Of.hs k).l1 pairs (m : Int) f (i : Int) pairs (pairs.length : Int) (i : Int) pairs[i] ((pairs[i]).length : Int) (q : Int)) r
  | 0, q, f, e, h, hh => by
    refine ⟨f, h, hh.congr fun t j => ?_, fun r hr => ?_⟩
    · have hg : pairs.getD i [] = pairs[i] := by rw [List.getD_eq_getElem?_getD, List.getElem?_eq_getElem hi]; rfl
      unfold Ed
      rw [hg, List.take_of_length_le (by omega)]
      constructor
      · rintro (⟨h1, h2⟩ | ⟨rfl, h2⟩)
        · exact .inl ⟨by omega, h2⟩
        · exact .inl ⟨by omega, by rw [hg]; exact h2⟩
      · rintro (⟨h1, h2⟩ | ⟨h1, p, hp, _⟩)
        · rcases Nat.lt_or_ge t i with h3 | h3
          · exact .inl ⟨h3, h2⟩
          · have : t = i := by omega
            subst this; rw [hg] at h2; exact .inr ⟨rfl, h2⟩
        · simp at hp
    · refine Ev.step (fun k => rfl) ?_
      simp only [cluster_Of.hs, cluster_Of.b1, if_neg (show ¬ (q : Int) < ((pairs[i]).length : Int) by omega), wsucc (show i < 4611686018427387904 by omega)]; exact hr
  | d + 1, q, f, e, h, hh => by
    have hq : q < (pairs[i]).length := by omega
    have hp := okL_mem (List.all_eq_true.1 ok _ (List.getElem_mem hi)) _ (List.getElem_mem hq)
    have hll := hlen _ (List.getElem_mem hi)
    obtain ⟨p, hpe⟩ : ∃ p : Nat, (pairs[i])[q] = (p : Int) := ⟨((pairs[i])[q]).toNat, by omega⟩
    have hg : pairs.getD i [] = pairs[i] := by rw [List.getD_eq_getElem?_getD, List.getElem?_eq_getElem hi]; rfl
    obtain ⟨f1, e1, h1, t1⟩ := join_ev h (a := i) (b := pairs.length + p) (by omega) (by omega)
    have hh1 := hangs_join h hh (x := i) (y := pairs.length + p) (by omega) (by omega) h1 t1 (fun a b hab => Ed_lt hn hm hN ok hlen (by omega) hab)
    obtain ⟨f2, h2, hh2, k2⟩ := of_l1 hi d (q + 1) f1 (by omega) h1 (hh1.congr fun t j => by
      unfold Ed
      rw [hg, List.take_succ_eq_append_getElem hq]
      constructor
      · rintro ((h3 | ⟨rfl, z, hz, rfl⟩) | ⟨rfl, rfl⟩)
        · exact .inl h3
        · exact .inr ⟨rfl, z, List.mem_append_left _ hz, rfl⟩
        · exact .inr ⟨rfl, _, List.mem_append_right _ (List.mem_singleton.2 rfl), by rw [hpe]; simp⟩
      · rintro (h3 | ⟨rfl, z, hz, rfl⟩)
        · exact .inl (.inl h3)
        · rcases List.mem_append.1 hz with hz | hz
          · exact .inl (.inr ⟨rfl, z, hz, rfl⟩)
          · rw [List.mem_singleton] at hz; exact .inr ⟨rfl, by rw [hz, hpe]; simp⟩)
    refine ⟨f2, h2, hh2, fun r hr => ?_⟩
    have ew : w64 ((pairs.length : Int) + (p : Int)) = ((pairs.length + p : Nat) : Int) := by rw [wi (by omega)]; omega
    refine Ev.step (fun k => rfl) ?_
    simp only [cluster_Of.hs, cluster_Of.b1, if_pos (show (q : Int) < ((pairs[i]).length : Int) by omega), if_pos (show (0 : Int) ≤ (q : Int) ∧ (q : Int) < ((pairs[i]).length : Int) by omega), wsucc (show q < 4611686018427387904 by omega)]
    rw [rd_get hq, hpe, ew]
    exact Ev.bind e1 (k2 r hr)
theorem of_l0 : ∀ (d i : Nat) (f : List Int), pairs.length = i + d → Fo N f → Hangs N (Ed pairs i 0) (Tp f) → ∃ f', Fo N f' ∧ Hangs N (Ed pairs pairs.length 0) (Tp f') ∧ ∀ r, Ev (fun k => (cluster_Of.hs k).l2 pairs (m : Int) f' [] [] (pairs.length : Int) 0) r → Ev (fun k => (cluster_Of.hs k).l0 pairs (m : Int) f pairs (pairs.length : Int) (i : Int)) r
  | 0, i, f, e, h, hh => by
    have : i = pairs.length := by omega
    subst this
    refine ⟨f, h, hh, fun r hr => ?_⟩
    refine Ev.step (fun k => rfl) ?_
    simp only [cluster_Of.hs, cluster_Of.b0, if_neg (show ¬ (pairs.length : Int) < (pairs.length : Int) by omega)]; exact hr
  | d + 1, i, f, e, h, hh => by
    have hi : i < pairs.length := by omega
    obtain ⟨f1, h1, hh1, k1⟩ := of_l1 hn hm hN ok hlen hi (pairs[i]).length 0 f (by omega) h hh
    obtain ⟨f2, h2, hh2, k2⟩ := of_l0 d (i + 1) f1 (by omega) h1 hh1
    refine ⟨f2, h2, hh2, fun r hr => ?_⟩
    refine Ev.step (fun k => rfl) ?_
    simp only [cluster_Of.hs, cluster_Of.b0, if_pos (show (i : Int) < (pairs.length : Int) by omega), if_pos (show (0 : Int) ≤ (i : Int) ∧ (i : Int) < (pairs.length : Int) by omega), rd_get hi]
    exact k1 r (k2 r hr)
end
end Go.Proofs.YtoijknggnlbopaaDoor.Pure

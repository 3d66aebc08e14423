/- TableOnce: no number twice, tracks ascend, what is answered is its own. -/
import Derived.Test.YtjhpkkhcgpilfaaDoorPureTB3
namespace Go.Proofs.YtjhpkkhcgpilfaaDoor.Pure
open Go.RowKit Go.Proofs.YtjhpkkhcgpilfaaDoorK Go.Proofs.YtjhpkkhcgpilfaaDoor.GTO
set_option linter.unusedVariables false
set_option linter.unusedSimpArgs false
set_option maxRecDepth 100000
theorem osure_fs : radomelaw25_sure.f 12 = some true := by decide +kernel
theorem osure_ev : Ev (fun k => radomelaw25_sure.f k) true := Ev.of (fun k => radomelaw25_sure.mono k) osure_fs
def aP5 (a : AT) : table_Track := ⟨a.id, ⟨a.kind, B a.S, a.S.length, a.ms⟩, ⟨(PI a.n).f_States, [5]⟩, a.tm⟩
def X5 (A : List AT) (k : Nat) : List table_Track := (A.take k).map aP5 ++ (A.drop k).map aP
theorem X5_len (A : List AT) (k : Nat) : (X5 A k).length = A.length := by
  unfold X5; rw [List.length_append, List.length_map, List.length_map, List.length_take, List.length_drop]; omega
theorem X5_at {A : List AT} {k : Nat} (h : k < A.length) : rd (X5 A k) (k : Int) = aP A[k] := by
  rw [rd_at (by rw [X5_len]; exact h)]
  unfold X5
  rw [List.getElem_append_right (by rw [List.length_map, List.length_take]; omega)]
  simp only [List.length_map, List.length_take, List.getElem_map, List.getElem_drop]
  congr 1
  simp only [show k + (k - min k A.length) = k by omega]
theorem X5_before {A : List AT} {k : Nat} (h : k < A.length) (h0 : 0 < k) (hA : A.length ≤ 100) : w64 ((k : Int) - 1) = ((k - 1 : Nat) : Int) ∧ (rd (X5 A k) ((k - 1 : Nat) : Int)).f_ID = A[k - 1].id := by
  refine ⟨by rw [w64_id (by omega)]; omega, ?_⟩
  rw [rd_at (by rw [X5_len]; omega)]
  unfold X5
  rw [List.getElem_append_left (by rw [List.length_map, List.length_take]; omega), List.getElem_map, List.getElem_take]; rfl
theorem X5_set {A : List AT} {k : Nat} (h : k < A.length) : (X5 A k).set k (aP5 A[k]) = X5 A (k + 1) := by
  unfold X5
  rw [List.set_append_right _ _ (by rw [List.length_map, List.length_take]; omega), List.length_map, List.length_take, show k - min k A.length = 0 by omega, List.drop_eq_getElem_cons h, List.map_cons, List.set_cons_zero, List.take_succ_eq_append_getElem h, List.map_append, List.append_assoc]; rfl
theorem set_rd {α : Type} [Inhabited α] {L : List α} {i : Nat} (h : i < L.length) : L.set i (rd L (i : Int)) = L := by
  rw [rd_at h]; exact List.set_getElem_self h
theorem inner_l1 {l : List radomelaw25_Act} {h w m most fr g : Int} {A : List AT} (t : TOk h w m most fr g A) {i : Nat} (hi : i < 1000000)
    (IH : Ev (fun k => (radomelaw25_TableOnce.hs k).l0 l false most h w m most fr (fr + 1073741824) g (A.map aP) (fr + g - 1) ((i + 1 : Nat) : Int)) true) :
    ∀ (d q : Nat), A.length = q + d → Ev (fun k => (radomelaw25_TableOnce.hs k).l1 l false most h w m most fr (fr + 1073741824) g (A.map aP) (fr + g - 1) (i : Int) (X5 A q) (q : Int)) true
  | 0, q, e => by
    refine Ev.step (fun k => rfl) ?_
    simp only [radomelaw25_TableOnce.hs, radomelaw25_TableOnce.b1, X5_len, if_neg (show ¬ (q : Int) < (A.length : Int) by omega), wsucc (show i < 1000000000 by omega)]
    exact IH
  | d + 1, q, e => by
    have hA := t.len100
    have hq : q < A.length := by omega
    have ih := inner_l1 t hi IH d (q + 1) (by omega)
    have ao := t.ok _ (List.getElem_mem hq)
    have hlt := t.lt _ (List.getElem_mem hq)
    have hb : (0 : Int) ≤ (q : Int) ∧ (q : Int) < (A.length : Int) := by omega
    have hx := X5_at hq
    have hs : (X5 A q).set q (aP A[q]) = X5 A q := by rw [← hx]; exact set_rd (by rw [X5_len]; exact hq)
    have hz : (⟨(aP A[q]).f_ID, (aP A[q]).f_Life, ⟨(aP A[q]).f_Imm.f_States, (aP A[q]).f_Imm.f_Chances.set (0 : Int).toNat 5⟩, (aP A[q]).f_Time⟩ : table_Track) = aP5 A[q] := rfl
    have hr5 : rd (X5 A (q + 1)) (q : Int) = aP5 A[q] := by
      rw [← X5_set hq]; exact rd_set (by rw [X5_len]; exact hq)
    have hg : ¬ (A[q].kind = 3 ∨ A[q].kind = 4) := by have := ao.k3; omega
    rcases find_p t A[q].id with ⟨f1, _⟩ | ⟨p, hp, e1, f2, _⟩
    · exact absurd rfl (f1 _ (List.getElem_mem hq))
    have pq : p = q := by
      have pw := List.pairwise_iff_getElem.1 t.asc
      rcases Nat.lt_trichotomy p q with c | c | c
      · have := pw p q hp hq c; omega
      · exact c
      · have := pw q p hq hp c; omega
    subst pq
    unfold Pt at f2
    refine Ev.step (fun k => rfl) ?_
    have c3 : decide (fr + g - 1 < A[p].id) = false := decide_eq_false (by omega)
    have prev : ((decide (0 < (p : Int))) && (decide (A[p].id ≤ (rd (X5 A p) (w64 ((p : Int) - 1))).f_ID))) = false := by
      by_cases c0 : 0 < p
      · obtain ⟨w1, w2⟩ := X5_before hq c0 hA
        rw [w1, w2, Bool.and_eq_false_iff]
        right
        have := List.pairwise_iff_getElem.1 t.asc (p - 1) p (by omega) hq (by omega)
        exact decide_eq_false (show ¬ A[p].id ≤ A[p - 1].id by omega)
      · rw [decide_eq_false (by omega), Bool.false_and]
    have prevb : ((decide (0 < (p : Int))) = true → (0 : Int) ≤ w64 ((p : Int) - 1) ∧ w64 ((p : Int) - 1) < (A.length : Int)) := fun h0 => by
      have h0 := of_decide_eq_true h0
      rw [w64_id (by omega)]; omega
    simp only [radomelaw25_TableOnce.hs, radomelaw25_TableOnce.b1, X5_len, List.length_set, if_pos (show (p : Int) < (A.length : Int) by omega), if_pos hb, hx, show (aP A[p]).f_Life = ⟨A[p].kind, B A[p].S, A[p].S.length, A[p].ms⟩ from rfl, gone_eq, Option.bind_some, decide_eq_false hg, Bool.not_false, hb, and_self, implies_true, if_true, show (aP A[p]).f_ID = A[p].id from rfl, c3, Bool.or_self, Bool.true_and]
    simp only [if_pos prevb, prev, Bool.or_self, Bool.false_eq_true, if_false]
    simp only [Int.toNat_natCast, hs, hx, show (aP A[p]).f_Imm.f_Chances = [1073741824] from rfl, List.length_cons, List.length_nil, show (((0 + 1 : Nat) : Int) = 1) = True from eq_true rfl, if_true, if_pos (show (0 : Int) ≤ 0 ∧ (0 : Int) < ((0 + 1 : Nat) : Int) by decide)]
    have hz2 : (⟨(aP A[p]).f_ID, (aP A[p]).f_Life, ⟨(aP A[p]).f_Imm.f_States, [1073741824].set (Int.toNat 0) 5⟩, (aP A[p]).f_Time⟩ : table_Track) = aP5 A[p] := rfl
    simp only [hz2, X5_set hq, hr5, show (aP5 A[p]).f_ID = A[p].id from rfl]
    refine Ev.bind f2 ?_
    simp only [Option.isSome_none, show (aP A[p]).f_Imm.f_Chances = [1073741824] from rfl, List.length_cons, List.length_nil, show decide (((0 + 1 : Nat) : Int) = 1) = true from rfl, Bool.not_true, Bool.or_self, Bool.not_false, if_pos (show (true = true → (0 : Int) ≤ 0 ∧ (0 : Int) < ((0 + 1 : Nat) : Int)) from fun _ => by decide), decide_true, Bool.false_eq_true, if_false, wsucc (show p < 1000000000 by omega)]
    exact ih
theorem oj2_ev {l : List radomelaw25_Act} {h w m most fr g : Int} {A : List AT} (t : TOk h w m most fr g A) {i : Nat} (hi : i < 1000000)
    (IH : Ev (fun k => (radomelaw25_TableOnce.hs k).l0 l false most h w m most fr (fr + 1073741824) g (A.map aP) (fr + g - 1) ((i + 1 : Nat) : Int)) true) :
    Ev (fun k => radomelaw25_TableOnce.j2 k (radomelaw25_TableOnce.hs k) l false most h w m most fr (fr + 1073741824) g (A.map aP) (fr + g - 1) (i : Int)) true := by
  have ht := Tracks_ev (h := h) (w := w) (m := m) (most := most) (fr := fr) (g := g) t.len100
  unfold Pt at ht
  unfold radomelaw25_TableOnce.j2
  refine Ev.bind ht ?_
  have hl := t.len
  simp only [List.length_map, if_neg (show ¬ most < (A.length : Int) by omega)]
  have := inner_l1 t hi IH A.length 0 (by omega)
  have e0 : X5 A 0 = A.map aP := by unfold X5; simp
  rw [e0] at this
  exact this
theorem kin_firm {h w m kind : Int} {L : List Bool} {missed : Int} (hk : kind ≠ 0) : kin h w m kind L missed ≠ 3 := by
  unfold kin sure
  rw [if_pos (Or.inl hk)]
  split
  · decide
  · split <;> decide
theorem once_l0 (l : List radomelaw25_Act) (most : Int) : ∀ (d i : Nat) (g : Int) (A : List AT), i + d = 40 → g ≤ i → TOk 2 3 2 most 10 g A →
    Ev (fun k => (radomelaw25_TableOnce.hs k).l0 l false most 2 3 2 most 10 (10 + 1073741824) g (A.map aP) (10 + g - 1) (i : Int)) true
  | 0, i, g, A, e, hg, t => by
    refine Ev.step (fun k => rfl) ?_
    simp only [radomelaw25_TableOnce.hs, radomelaw25_TableOnce.b0, decide_eq_false (show ¬ (i : Int) < 40 by omega), Bool.and_false, Bool.false_eq_true, if_false]
    exact Ev.bind osure_ev Ev.now
  | d + 1, i, g, A, e, hg, t => by
    by_cases c : (i : Int) < (l.length : Int)
    · have hb : (0 : Int) ≤ (i : Int) ∧ (i : Int) < (l.length : Int) := by omega
      have IH := fun g' A' (hg' : g' ≤ g + 1) (t' : TOk 2 3 2 most 10 g' A') => oj2_ev (l := l) (i := i) t' (by omega) (once_l0 l most d (i + 1) g' A' (by omega) (by omega) t')
      have hl := t.len
      refine Ev.step (fun k => rfl) ?_
      simp only [radomelaw25_TableOnce.hs, radomelaw25_TableOnce.b0, decide_eq_true c, decide_eq_true (show (i : Int) < 40 by omega), Bool.and_self, if_true, if_pos hb]
      refine Ev.bind (one_ev _) ?_
      refine Ev.bind (gimm_ev _) ?_
      split
      · obtain ⟨b1, b2⟩ := begin_p t (by omega) (rd l (i : Int)).f_At
        by_cases full : most ≤ (A.length : Int)
        · have b1 := b1 full
          unfold Pt at b1
          refine Ev.bind b1 ?_
          have ht := Tracks_ev (h := 2) (w := 3) (m := 2) (most := most) (fr := 10) (g := g) t.len100
          unfold Pt at ht
          simp only [Option.isNone_some, Bool.false_eq_true, if_false, show errN (some 10) = 10 from rfl, decide_true, Bool.not_true, Bool.not_false, gdt]
          refine Ev.bind ht ?_
          simp only [List.length_map, decide_eq_true (show (A.length : Int) = most by omega), Bool.not_true, Bool.or_self, Bool.false_eq_true, if_false]
          exact IH g A (by omega) t
        · have b2 := b2 full
          have t2 := t.snoc (by omega) full (rd l (i : Int)).f_At 0
          unfold Pt at b2
          refine Ev.bind b2 ?_
          have g1 := t.g1
          have e1 : w64 (10 + g - 1 + 1) = 10 + g := by rw [w64_id (by omega)]; omega
          simp only [Option.isNone_none, if_true, e1]
          have e2 : (10 + g : Int) = 10 + (g + 1) - 1 := by omega
          have := IH (g + 1) _ (by omega) t2
          rw [← e2] at this
          exact this
      · rcases find_p t (w64 (10 + (w64 (Int.tmod (((rd l (i : Int)).f_At) % 18446744073709551616) 20)))) with ⟨_, f1, f2⟩ | ⟨p, hp, e1, f1, f2⟩
        · have f2 := f2 (rd l (i : Int)).f_Hit (rd l (i : Int)).f_At
          unfold Pt at f1 f2
          refine Ev.bind f1 ?_
          refine Ev.bind f2 ?_
          simp only [decide_true, Bool.not_true, Option.isNone_some, Bool.false_and, Bool.or_self, Bool.false_eq_true, if_false]
          exact IH g A (by omega) t
        · obtain ⟨f2, t2⟩ := f2 (rd l (i : Int)).f_Hit (rd l (i : Int)).f_At
          unfold Pt at f1 f2
          refine Ev.bind f1 ?_
          refine Ev.bind f2 ?_
          have cc : ((true && (!decide ((aP A[p]).f_Life.f_Kind = 0))) && (decide ((nx 2 3 2 A[p] (rd l (i : Int)).f_Hit (rd l (i : Int)).f_At 1).kind = 3))) = false := by
            by_cases k0 : A[p].kind = 0
            · simp [show (aP A[p]).f_Life.f_Kind = A[p].kind from rfl, k0]
            · have := kin_firm (h := 2) (w := 3) (m := 2) (L := keep 3 A[p].S (rd l (i : Int)).f_Hit) (missed := miss 2 A[p].ms (rd l (i : Int)).f_Hit) k0
              simp [show (nx 2 3 2 A[p] (rd l (i : Int)).f_Hit (rd l (i : Int)).f_At 1).kind = kin 2 3 2 A[p].kind (keep 3 A[p].S (rd l (i : Int)).f_Hit) (miss 2 A[p].ms (rd l (i : Int)).f_Hit) from rfl, this]
          simp only [decide_true, Bool.not_true, Option.isNone_none, cc, Bool.or_self, Bool.false_eq_true, if_false]
          exact IH g _ (by omega) t2
    · refine Ev.step (fun k => rfl) ?_
      simp only [radomelaw25_TableOnce.hs, radomelaw25_TableOnce.b0, decide_eq_false c, Bool.false_and, Bool.false_eq_true, if_false]
      exact Ev.bind osure_ev Ev.now
theorem onew_eq (k : Nat) {most : Int} (hm : 1 ≤ most ∧ most ≤ 6) : table_New.f k ⟨2, 3, 2⟩ most 10 = some (some (Pt 2 3 2 most 10 0 []), none) := by
  unfold table_New.f
  simp only [check_eq, if_pos (show Rl 2 3 2 by unfold Rl; decide), Option.bind_some, Option.isSome_none, Bool.false_or, decide_eq_false (show ¬ most < 1 by omega), decide_eq_false (show ¬ 64 < most by omega), decide_eq_false (show ¬ (10 : Int) < 1 by decide), decide_eq_false (show ¬ (1073741824 : Int) < 10 by decide), Bool.false_eq_true, if_false, names_New.f, show w64 (10 + 1073741824) = 1073741834 by decide, decide_eq_false (show ¬ (1073741834 : Int) < 10 by decide), decide_eq_false (show ¬ (1099511627776 : Int) < 1073741834 by decide)]
  rfl
theorem TableOnce : radomelaw25_TableOnce.Pure := by
  intro most l h1 h2
  refine Ev.ex ?_
  unfold radomelaw25_TableOnce.f
  have hm : 1 ≤ w64 (1 + (w64 (Int.tmod (most % 18446744073709551616) 6))) ∧ w64 (1 + (w64 (Int.tmod (most % 18446744073709551616) 6))) ≤ 6 := by
    have a1 : 0 ≤ most % 18446744073709551616 := Int.emod_nonneg _ (by decide)
    have a2 : 0 ≤ Int.tmod (most % 18446744073709551616) 6 ∧ Int.tmod (most % 18446744073709551616) 6 < 6 := ⟨Int.tmod_nonneg _ a1, Int.tmod_lt_of_pos _ (by decide)⟩
    rw [w64_id (show -9223372036854775808 ≤ Int.tmod (most % 18446744073709551616) 6 ∧ Int.tmod (most % 18446744073709551616) 6 ≤ 9223372036854775807 by omega), w64_id (by omega)]; omega
  generalize w64 (1 + (w64 (Int.tmod (most % 18446744073709551616) 6))) = n at *
  simp only [onew_eq _ hm, Option.bind_some, oe, Option.isSome_none, Bool.false_eq_true, if_false]
  exact once_l0 l n 40 0 0 [] (by omega) (by omega) ⟨by unfold Rl; decide, by omega, by decide, by decide, by simp only [List.length_nil]; omega, fun a ha => (List.not_mem_nil ha).elim, .nil, fun a ha => (List.not_mem_nil ha).elim⟩
end Go.Proofs.YtjhpkkhcgpilfaaDoor.Pure

/- What hangs together: the document's groups. -/
import Derived.Test.YtoijknggnlbopaaDoorPureCU3
namespace Go.Proofs.YtoijknggnlbopaaDoor.Pure
open Go.RowKit Go.Proofs.YtoijknggnlbopaaDoorK Go.Proofs.YtoijknggnlbopaaDoor.GCF
set_option linter.unusedVariables false
set_option linter.unusedSimpArgs false
set_option linter.unusedSectionVars false
set_option maxRecDepth 100000
theorem rhas_l0 {l : List Int} {n : Int} (hs : l.length ≤ 17592186044416) : ∀ (d i : Nat), l.length = i + d → Ev (fun k => (radomeref19_has.hs k).l0 l n false (i : Int)) (decide (n ∈ l.drop i))
  | 0, i, e => by
    refine Ev.step (fun k => rfl) ?_
    simp only [radomeref19_has.hs, radomeref19_has.b0, if_neg (show ¬ (i : Int) < (l.length : Int) by omega)]
    rw [List.drop_eq_nil_of_le (by omega), decide_eq_false (by simp)]; exact Ev.now
  | d + 1, i, e => by
    have hi : i < l.length := by omega
    have ih := rhas_l0 hs (n := n) d (i + 1) (by omega)
    refine Ev.step (fun k => rfl) ?_
    simp only [radomeref19_has.hs, radomeref19_has.b0, if_pos (show (i : Int) < (l.length : Int) by omega), if_pos (show (0 : Int) ≤ (i : Int) ∧ (i : Int) < (l.length : Int) by omega), rd_get hi, wsucc (show i < 4611686018427387904 by omega)]
    rw [drop_cons hi]
    by_cases c : l[i] = n
    · simp only [if_pos c]
      rw [decide_eq_true (by rw [c]; exact List.mem_cons_self ..)]; exact Ev.now
    · simp only [if_neg c]
      rw [show decide (n ∈ l[i] :: l.drop (i + 1)) = decide (n ∈ l.drop (i + 1)) from decide_eq_decide.2 ⟨fun h => (List.mem_cons.1 h).resolve_left (Ne.symm c), fun h => List.mem_cons_of_mem _ h⟩]
      exact ih
theorem rhas_ev {l : List Int} {n : Int} (hs : l.length ≤ 17592186044416) : Ev (fun k => radomeref19_has.f k l n) (decide (n ∈ l)) := by
  unfold radomeref19_has.f
  have := rhas_l0 hs (n := n) l.length 0 (by omega); rwa [List.drop_zero] at this
theorem rmeet_l0 {a b : List Int} (ha : a.length ≤ 17592186044416) (hb : b.length ≤ 17592186044416) : ∀ (d i : Nat), a.length = i + d → Ev (fun k => (radomeref19_meet.hs k).l0 a b false (i : Int)) ((a.drop i).any fun x => decide (x ∈ b))
  | 0, i, e => by
    refine Ev.step (fun k => rfl) ?_
    simp only [radomeref19_meet.hs, radomeref19_meet.b0, if_neg (show ¬ (i : Int) < (a.length : Int) by omega)]
    rw [List.drop_eq_nil_of_le (by omega)]; exact Ev.now
  | d + 1, i, e => by
    have hi : i < a.length := by omega
    have ih := rmeet_l0 ha hb d (i + 1) (by omega)
    refine Ev.step (fun k => rfl) ?_
    simp only [radomeref19_meet.hs, radomeref19_meet.b0, if_pos (show (i : Int) < (a.length : Int) by omega), if_pos (show (0 : Int) ≤ (i : Int) ∧ (i : Int) < (a.length : Int) by omega), rd_get hi, wsucc (show i < 4611686018427387904 by omega)]
    rw [drop_cons hi, List.any_cons]
    refine Ev.bind (rhas_ev hb) ?_
    by_cases c : a[i] ∈ b
    · simp only [decide_eq_true c, if_true, Bool.true_or]; exact Ev.now
    · simp only [decide_eq_false c, Bool.false_eq_true, if_false, Bool.false_or]; exact ih
theorem rmeet_ev {a b : List Int} (ha : a.length ≤ 17592186044416) (hb : b.length ≤ 17592186044416) : Ev (fun k => radomeref19_meet.f k a b) (a.any fun x => decide (x ∈ b)) := by
  unfold radomeref19_meet.f
  have := rmeet_l0 ha hb a.length 0 (by omega); rwa [List.drop_zero] at this
theorem rck_l1 {pairs : List (List Int)} {plots : Int} {i : Nat} {r : Int} (hi : i < pairs.length) (hn : pairs.length ≤ 64) (hl : (pairs[i]).length ≤ 17592186044416) (hgo : Ev (fun k => (radomeref19_Check.hs k).l0 pairs plots 0 ((i + 1 : Nat) : Int)) r) :
    ∀ (d q : Nat) (la : Int), (pairs[i]).length = q + d → Ev (fun k => (radomeref19_Check.hs k).l1 pairs plots 0 (i : Int) la (q : Int)) (if okL plots la ((pairs[i]).drop q) = true then r else 1)
  | 0, q, la, e => by
    refine Ev.step (fun k => rfl) ?_
    simp only [radomeref19_Check.hs, radomeref19_Check.b1, if_pos (show (0 : Int) ≤ (i : Int) ∧ (i : Int) < (pairs.length : Int) by omega), rd_get hi, if_neg (show ¬ (q : Int) < ((pairs[i]).length : Int) by omega), wsucc (show i < 4611686018427387904 by omega)]
    rw [List.drop_eq_nil_of_le (by omega), okL, if_pos rfl]; exact hgo
  | d + 1, q, la, e => by
    have hq : q < (pairs[i]).length := by omega
    have ih := rck_l1 hi hn hl hgo d (q + 1) (pairs[i])[q] (by omega)
    refine Ev.step (fun k => rfl) ?_
    simp only [radomeref19_Check.hs, radomeref19_Check.b1, if_pos (show (0 : Int) ≤ (i : Int) ∧ (i : Int) < (pairs.length : Int) by omega), rd_get hi, if_pos (show (q : Int) < ((pairs[i]).length : Int) by omega), if_pos (show (0 : Int) ≤ (q : Int) ∧ (q : Int) < ((pairs[i]).length : Int) by omega), wsucc (show q < 4611686018427387904 by omega)]
    rw [rd_get hq, drop_cons hq, okL]
    by_cases c : la < (pairs[i])[q] ∧ (pairs[i])[q] < plots
    · have e1 : ((decide ((pairs[i])[q] ≤ la)) || (decide (plots ≤ (pairs[i])[q]))) = false := by simp; omega
      simp only [e1, Bool.false_eq_true, if_false, decide_eq_true c, Bool.true_and]; exact ih
    · have e1 : ((decide ((pairs[i])[q] ≤ la)) || (decide (plots ≤ (pairs[i])[q]))) = true := by simp; omega
      simp only [e1, if_true, decide_eq_false c, Bool.false_and, Bool.false_eq_true, if_false]; exact Ev.now
theorem rck_l0 {pairs : List (List Int)} {plots : Int} (hn : pairs.length ≤ 64) (hl : ∀ l ∈ pairs, l.length ≤ 17592186044416) : ∀ (d i : Nat), pairs.length = i + d → Ev (fun k => (radomeref19_Check.hs k).l0 pairs plots 0 (i : Int)) (if (pairs.drop i).all (okL plots (-1)) = true then 0 else 1)
  | 0, i, e => by
    refine Ev.step (fun k => rfl) ?_
    simp only [radomeref19_Check.hs, radomeref19_Check.b0, if_neg (show ¬ (i : Int) < (pairs.length : Int) by omega)]
    rw [List.drop_eq_nil_of_le (by omega)]; exact Ev.now
  | d + 1, i, e => by
    have hi : i < pairs.length := by omega
    have ih := rck_l0 (plots := plots) hn hl d (i + 1) (by omega)
    refine Ev.step (fun k => rfl) ?_
    simp only [radomeref19_Check.hs, radomeref19_Check.b0, if_pos (show (i : Int) < (pairs.length : Int) by omega)]
    have := rck_l1 hi hn (hl _ (List.getElem_mem hi)) ih (pairs[i]).length 0 (-1) (by omega)
    rw [List.drop_zero] at this
    rw [drop_cons hi, List.all_cons]
    cases c : okL plots (-1) pairs[i] with
    | true => rw [c] at this; simpa using this
    | false => rw [c] at this; simpa using this
theorem RCheck_ev {pairs : List (List Int)} {plots : Int} (hl : ∀ l ∈ pairs, l.length ≤ 17592186044416) : Ev (fun k => radomeref19_Check.f k pairs plots) (errN (chkV pairs plots)) := by
  unfold radomeref19_Check.f chkV
  by_cases h : 64 < pairs.length
  · simp only [if_pos (show 64 < (pairs.length : Int) by omega), if_pos h]; exact Ev.now
  · simp only [if_neg (show ¬ 64 < (pairs.length : Int) by omega), if_neg h]
    by_cases h2 : plots < 0 ∨ 64 < plots
    · have e1 : ((decide (plots < 0)) || (decide (64 < plots))) = true := by simp; exact h2
      simp only [e1, if_true, if_pos h2]; exact Ev.now
    · have e1 : ((decide (plots < 0)) || (decide (64 < plots))) = false := by simp; omega
      simp only [e1, Bool.false_eq_true, if_false, if_neg h2]
      have := rck_l0 (plots := plots) (by omega) hl pairs.length 0 (by omega)
      rw [List.drop_zero] at this
      cases c : pairs.all (okL plots (-1)) with
      | true => rw [c] at this; exact this
      | false => rw [c] at this; exact this
/-! ### what tracks that meet have in common -/
def mt (pairs : List (List Int)) (i k : Nat) : Bool := (pairs.getD i []).any fun x => decide (x ∈ pairs.getD k [])
theorem mt_iff {pairs : List (List Int)} {i k : Nat} : mt pairs i k = true ↔ ∃ x, x ∈ pairs.getD i [] ∧ x ∈ pairs.getD k [] := by
  unfold mt; rw [List.any_eq_true]
  exact ⟨fun ⟨x, a, b⟩ => ⟨x, a, of_decide_eq_true b⟩, fun ⟨x, a, b⟩ => ⟨x, a, decide_eq_true b⟩⟩
theorem mt_sym {pairs : List (List Int)} {i k : Nat} (h : mt pairs i k = true) : mt pairs k i = true := by
  obtain ⟨x, a, b⟩ := mt_iff.1 h; exact mt_iff.2 ⟨x, b, a⟩
theorem getD_mem {pairs : List (List Int)} {i : Nat} {p : Int} (h : p ∈ pairs.getD i []) : ∃ hi : i < pairs.length, p ∈ pairs[i] := by
  rw [List.getD_eq_getElem?_getD] at h
  rcases Nat.lt_or_ge i pairs.length with h1 | h1
  · rw [List.getElem?_eq_getElem h1] at h; exact ⟨h1, h⟩
  · rw [List.getElem?_eq_none h1] at h; cases h
structure Ht (pairs : List (List Int)) (T : Nat → Nat) : Prop where
  le : ∀ i, i < pairs.length → T i ≤ i
  idem : ∀ i, i < pairs.length → T (T i) = T i
  same : ∀ i k, mt pairs i k = true → T i = T k
  only : ∀ g : Nat → Bool, (∀ i k, mt pairs i k = true → g i = g k) → ∀ i, i < pairs.length → g (T i) = g i
theorem hangs_ht {pairs : List (List Int)} {m : Nat} {T : Nat → Nat} (ok : pairs.all (okL (m : Int) (-1)) = true) (h : Hangs (pairs.length + m) (Ed pairs pairs.length 0) T) : Ht pairs T := by
  refine ⟨fun i hi => h.le i (by omega), fun i hi => h.idem i (by omega), fun i k hm => ?_, fun g hg i hi => ?_⟩
  · obtain ⟨x, a, b⟩ := mt_iff.1 hm
    obtain ⟨h1, _⟩ := getD_mem a
    obtain ⟨h2, _⟩ := getD_mem b
    rw [h.same i (pairs.length + x.toNat) (.inl ⟨h1, x, a, rfl⟩), h.same k (pairs.length + x.toNat) (.inl ⟨h2, x, b, rfl⟩)]
  · have := h.only Bool (fun j => if j < pairs.length then g j else (List.range pairs.length).any fun t => decide (((j - pairs.length : Nat) : Int) ∈ pairs.getD t []) && g t) (fun i j hs => by
      rcases hs with ⟨h1, p, hp, rfl⟩ | ⟨_, q, hq, _⟩
      · obtain ⟨_, hp2⟩ := getD_mem hp
        have := okL_mem (List.all_eq_true.1 ok _ (List.getElem_mem h1)) p hp2
        have e1 : ((pairs.length + p.toNat - pairs.length : Nat) : Int) = p := by omega
        simp only [if_pos h1, if_neg (show ¬ pairs.length + p.toNat < pairs.length by omega), e1]
        rw [Bool.eq_iff_iff, List.any_eq_true]
        constructor
        · intro h3
          exact ⟨i, List.mem_range.2 h1, by rw [decide_eq_true hp, h3]; rfl⟩
        · rintro ⟨t, ht, h3⟩
          rw [Bool.and_eq_true] at h3
          rw [hg i t (mt_iff.2 ⟨p, hp, of_decide_eq_true h3.1⟩)]; exact h3.2
      · simp at hq) i (by omega)
    have hl := h.le i (by omega)
    simp only [if_pos (show T i < pairs.length by omega), if_pos hi] at this
    exact this
/-! ### the least ones -/
def Lv (pairs : List (List Int)) (T : Nat → Nat) (L : List Int) : Prop := Fo pairs.length L ∧ ∀ j, j < pairs.length → T (fg L j) = T j
theorem Lv.ge {pairs : List (List Int)} {T : Nat → Nat} {L : List Int} (ht : Ht pairs T) (h : Lv pairs T L) {j : Nat} (hj : j < pairs.length) : T j ≤ fg L j := by
  have h1 := h.2 j hj
  have h2 := h.1.le j
  have h3 := ht.le (fg L j) (by omega)
  omega
def Inv (pairs : List (List Int)) (T : Nat → Nat) (Ls L : List Int) (i k : Nat) : Prop := Lv pairs T L ∧ (∀ j, fg L j ≤ fg Ls j) ∧ ∀ i' k', (i' < i ∨ i' = i ∧ k' < k) → i' < pairs.length → k' < pairs.length → mt pairs i' k' = true → fg Ls k' = T k' → fg L i' = T i'
section
variable {pairs : List (List Int)} {m : Nat} (hn : pairs.length ≤ 64) (hm : m ≤ 64) (hlen : ∀ l ∈ pairs, l.length ≤ 17592186044416) {T : Nat → Nat} (ht : Ht pairs T)
include hn hm hlen ht
theorem rof_l4 {Ls : List Int} {rnd : Int} {i : Nat} (hi : i < pairs.length) : ∀ (d k : Nat) (L : List Int), pairs.length = k + d → Inv pairs T Ls L i k → ∃ L', Inv pairs T Ls L' (i + 1) 0 ∧ ∀ r, Ev (fun k => (radomeref19_Of.hs k).l2 pairs (m : Int) (pairs.length : Int) L' rnd ((i + 1 : Nat) : Int)) r → Ev (fun q => (radomeref19_Of.hs q).l4 pairs (m : Int) (pairs.length : Int) L rnd (i : Int) (k : Int)) r
  | 0, k, L, e, h => by
    refine ⟨L, ⟨h.1, h.2.1, fun i' k' hc h1 h2 => h.2.2 i' k' (by omega) h1 h2⟩, fun r hr => ?_⟩
    refine Ev.step (fun k => rfl) ?_
    simp only [radomeref19_Of.hs, radomeref19_Of.b4, if_neg (show ¬ (k : Int) < (pairs.length : Int) by omega), wsucc (show i < 4611686018427387904 by omega)]; exact hr
  | d + 1, k, L, e, h => by
    have hk : k < pairs.length := by omega
    have hll := h.1.1.len
    have hri := h.1.1.rd hi
    have hrk := h.1.1.rd hk
    have hgi := h.1.ge ht hi
    have hgk := h.1.ge ht hk
    have hle := h.1.1.le i
    have hme : Ev (fun q => radomeref19_meet.f q (rd pairs (i : Int)) (rd pairs (k : Int))) (mt pairs i k) := by
      have e1 : pairs.getD i [] = pairs[i] := by rw [List.getD_eq_getElem?_getD, List.getElem?_eq_getElem hi]; rfl
      have e2 : pairs.getD k [] = pairs[k] := by rw [List.getD_eq_getElem?_getD, List.getElem?_eq_getElem hk]; rfl
      unfold mt; rw [rd_get hi, rd_get hk, e1, e2]
      exact rmeet_ev (hlen _ (List.getElem_mem hi)) (hlen _ (List.getElem_mem hk))
    by_cases c : mt pairs i k = true ∧ fg L k < fg L i
    · have hsame := ht.same i k c.1
      have h' : Inv pairs T Ls (L.set i (fg L k : Int)) i (k + 1) := by
        have hs := fun j => fg_set (f := L) (i := i) (v := (fg L k : Int)) (by omega) j
        refine ⟨⟨h.1.1.set hi (by omega) (by rw [Int.toNat_natCast]; omega), fun j hj => ?_⟩, fun j => ?_, fun i' k' hc h1 h2 hmt hse => ?_⟩
        · rw [hs]
          split
          · rename_i e2; rw [Int.toNat_natCast, e2, h.1.2 k hk, hsame]
          · exact h.1.2 j hj
        · rw [hs]
          have := h.2.1 j
          split
          · rename_i e2; rw [Int.toNat_natCast]; subst e2; omega
          · exact this
        · rw [hs]
          by_cases e2 : i' = i
          · subst e2
            rw [if_pos rfl, Int.toNat_natCast]
            by_cases e3 : k' = k
            · subst e3
              have := h.2.1 k'
              omega
            · have := h.2.2 i' k' (by omega) h1 h2 hmt hse
              omega
          · rw [if_neg e2]; exact h.2.2 i' k' (by omega) h1 h2 hmt hse
      obtain ⟨L', k1, k2⟩ := rof_l4 hi d (k + 1) _ (by omega) h'
      refine ⟨L', k1, fun r hr => ?_⟩
      refine Ev.step (fun k => rfl) ?_
      simp only [radomeref19_Of.hs, radomeref19_Of.b4, if_pos (show (k : Int) < (pairs.length : Int) by omega), if_pos (show (0 : Int) ≤ (i : Int) ∧ (i : Int) < (pairs.length : Int) by omega), if_pos (show (0 : Int) ≤ (k : Int) ∧ (k : Int) < (pairs.length : Int) by omega)]
      refine Ev.bind hme ?_
      have e5 : (mt pairs i k && decide (rd L (k : Int) < rd L (i : Int))) = true := by rw [hri, hrk, c.1]; simp; omega
      simp only [if_pos (show (mt pairs i k = true → (0 : Int) ≤ (k : Int) ∧ (k : Int) < (L.length : Int)) from fun _ => by omega), if_pos (show (mt pairs i k = true → (0 : Int) ≤ (i : Int) ∧ (i : Int) < (L.length : Int)) from fun _ => by omega), e5, if_true, if_pos (show (0 : Int) ≤ (k : Int) ∧ (k : Int) < (L.length : Int) by omega), if_pos (show (0 : Int) ≤ (i : Int) ∧ (i : Int) < (L.length : Int) by omega), wsucc (show k < 4611686018427387904 by omega), Int.toNat_natCast]
      rw [hrk]; exact k2 r hr
    · have h' : Inv pairs T Ls L i (k + 1) := by
        refine ⟨h.1, h.2.1, fun i' k' hc h1 h2 hmt hse => ?_⟩
        by_cases e2 : i' = i ∧ k' = k
        · obtain ⟨rfl, rfl⟩ := e2
          have hsame := ht.same i' k' hmt
          have := h.2.1 k'
          have : ¬ fg L k' < fg L i' := fun h3 => c ⟨hmt, h3⟩
          omega
        · exact h.2.2 i' k' (by omega) h1 h2 hmt hse
      obtain ⟨L', k1, k2⟩ := rof_l4 hi d (k + 1) L (by omega) h'
      refine ⟨L', k1, fun r hr => ?_⟩
      refine Ev.step (fun k => rfl) ?_
      simp only [radomeref19_Of.hs, radomeref19_Of.b4, if_pos (show (k : Int) < (pairs.length : Int) by omega), if_pos (show (0 : Int) ≤ (i : Int) ∧ (i : Int) < (pairs.length : Int) by omega), if_pos (show (0 : Int) ≤ (k : Int) ∧ (k : Int) < (pairs.length : Int) by omega)]
      refine Ev.bind hme ?_
      have e5 : (mt pairs i k && decide (rd L (k : Int) < rd L (i : Int))) = false := by
        rw [hri, hrk]
        cases hb : mt pairs i k with
        | false => rfl
        | true =>
          rw [Bool.true_and]; refine decide_eq_false fun h3 => c ⟨hb, by omega⟩
      simp only [if_pos (show (mt pairs i k = true → (0 : Int) ≤ (k : Int) ∧ (k : Int) < (L.length : Int)) from fun _ => by omega), if_pos (show (mt pairs i k = true → (0 : Int) ≤ (i : Int) ∧ (i : Int) < (L.length : Int)) from fun _ => by omega), e5, Bool.false_eq_true, if_false, wsucc (show k < 4611686018427387904 by omega)]
      exact k2 r hr
theorem rof_l2 {Ls : List Int} {q : Nat} (hq : q < 1000) : ∀ (d i : Nat) (L : List Int), pairs.length = i + d → Inv pairs T Ls L i 0 → ∃ L', Inv pairs T Ls L' pairs.length 0 ∧ ∀ r, Ev (fun k => (radomeref19_Of.hs k).l1 pairs (m : Int) (pairs.length : Int) L' ((q + 1 : Nat) : Int)) r → Ev (fun k => (radomeref19_Of.hs k).l2 pairs (m : Int) (pairs.length : Int) L (q : Int) (i : Int)) r
  | 0, i, L, e, h => by
    have : i = pairs.length := by omega
    subst this
    refine ⟨L, h, fun r hr => ?_⟩
    refine Ev.step (fun k => rfl) ?_
    simp only [radomeref19_Of.hs, radomeref19_Of.b2, if_neg (show ¬ (pairs.length : Int) < (pairs.length : Int) by omega), wsucc (show q < 4611686018427387904 by omega)]; exact hr
  | d + 1, i, L, e, h => by
    obtain ⟨L1, a1, b1⟩ := rof_l4 hn hm hlen ht (rnd := (q : Int)) (show i < pairs.length by omega) pairs.length 0 L (by omega) h
    obtain ⟨L2, a2, b2⟩ := rof_l2 hq d (i + 1) L1 (by omega) a1
    refine ⟨L2, a2, fun r hr => ?_⟩
    refine Ev.step (fun k => rfl) ?_
    simp only [radomeref19_Of.hs, radomeref19_Of.b2, if_pos (show (i : Int) < (pairs.length : Int) by omega)]
    exact b1 r (b2 r hr)
end
def uns (n : Nat) (T : Nat → Nat) (L : List Int) : Nat := ((List.range n).filter fun i => decide (fg L i ≠ T i)).length
theorem flt_lt {α : Type} {P Q : α → Bool} : ∀ {l : List α}, (∀ x ∈ l, Q x = true → P x = true) → (∃ x ∈ l, P x = true ∧ Q x = false) → (l.filter Q).length < (l.filter P).length
  | [], _, ⟨x, hx, _⟩ => by cases hx
  | a :: l, h, ⟨x, hx, h1, h2⟩ => by
    have hle : (l.filter Q).length ≤ (l.filter P).length := by
      clear hx h1 h2
      induction l with
      | nil => simp
      | cons b l ih =>
        have ih := ih (fun y hy => by
          rcases List.mem_cons.1 hy with rfl | hy
          · exact h _ (List.mem_cons_self ..)
          · exact h _ (List.mem_cons_of_mem _ (List.mem_cons_of_mem _ hy)))
        have hb := h b (List.mem_cons_of_mem _ (List.mem_cons_self ..))
        rw [List.filter_cons, List.filter_cons]
        by_cases c : Q b = true
        · rw [if_pos c, if_pos (hb c)]; simpa using ih
        · rw [if_neg c]; split
          · simp; omega
          · exact ih
    rw [List.filter_cons, List.filter_cons]
    rcases List.mem_cons.1 hx with rfl | hx
    · rw [h1, h2]; simp; omega
    · have ih := flt_lt (fun y hy => h y (List.mem_cons_of_mem _ hy)) ⟨x, hx, h1, h2⟩
      by_cases c : Q a = true
      · rw [if_pos c, if_pos (h a (List.mem_cons_self ..) c)]; simpa using ih
      · rw [if_neg c]; split
        · simp; omega
        · exact ih
section
variable {pairs : List (List Int)} {m : Nat} (hn : pairs.length ≤ 64) (hm : m ≤ 64) (hlen : ∀ l ∈ pairs, l.length ≤ 17592186044416) {T : Nat → Nat} (ht : Ht pairs T)
include hn hm hlen ht
theorem round_less {Ls L : List Int} (h0 : Lv pairs T Ls) (h : Inv pairs T Ls L pairs.length 0) {d : Nat} (hu : uns pairs.length T Ls ≤ d + 1) : uns pairs.length T L ≤ d := by
  have keep : ∀ j, j < pairs.length → fg Ls j = T j → fg L j = T j := fun j hj e => by
    have := h.2.1 j; have := h.1.ge ht hj; omega
  by_cases hz : uns pairs.length T Ls = 0
  · have : uns pairs.length T L = 0 := by
      unfold uns at hz ⊢
      rw [List.length_eq_zero_iff, List.filter_eq_nil_iff] at hz ⊢
      intro j hj
      have h1 := hz j hj
      simp only [decide_eq_true_eq, Decidable.not_not] at h1 ⊢
      exact keep j (List.mem_range.1 hj) h1
    omega
  · have hlt : uns pairs.length T L < uns pairs.length T Ls := by
      unfold uns
      refine flt_lt (fun j hj h1 => ?_) ?_
      · have h1 := of_decide_eq_true h1
        exact decide_eq_true fun e => h1 (keep j (List.mem_range.1 hj) e)
      · refine Classical.byContradiction fun hno => hz ?_
        have hno2 : ∀ i k, i < pairs.length → k < pairs.length → mt pairs i k = true → fg Ls k = T k → fg Ls i = T i := fun i k hi hk hmt hse => by
          refine Classical.byContradiction fun hne => hno ⟨i, List.mem_range.2 hi, decide_eq_true hne, decide_eq_false ?_⟩
          rw [Decidable.not_not]
          exact h.2.2 i k (.inl hi) hi hk hmt hse
        unfold uns
        rw [List.length_eq_zero_iff, List.filter_eq_nil_iff]
        intro j hj
        have hj := List.mem_range.1 hj
        simp only [decide_eq_true_eq, Decidable.not_not]
        have := ht.only (fun j => decide (fg Ls j = T j)) (fun i k hmt => by
          obtain ⟨x, hx1, hx2⟩ := mt_iff.1 hmt
          obtain ⟨hi, _⟩ := getD_mem hx1
          obtain ⟨hk, _⟩ := getD_mem hx2
          exact decide_eq_decide.2 ⟨fun e => hno2 k i hk hi (mt_sym hmt) e, fun e => hno2 i k hi hk hmt e⟩) j hj
        have hTj := ht.le j hj
        have hid := ht.idem j hj
        have e1 : fg Ls (T j) = T (T j) := by
          have a := h0.1.le (T j)
          have b := h0.ge ht (show T j < pairs.length by omega)
          omega
        rw [decide_eq_true e1] at this
        exact of_decide_eq_true this.symm
    omega
theorem rof_l1 : ∀ (d q : Nat) (L : List Int), pairs.length = q + d → Lv pairs T L → uns pairs.length T L ≤ d → ∃ L', Fo pairs.length L' ∧ (∀ j, j < pairs.length → fg L' j = T j) ∧ ∀ r, Ev (fun k => (radomeref19_Of.hs k).l3 pairs (m : Int) (pairs.length : Int) L' [] 0) r → Ev (fun k => (radomeref19_Of.hs k).l1 pairs (m : Int) (pairs.length : Int) L (q : Int)) r
  | 0, q, L, e, h, hu => by
    refine ⟨L, h.1, fun j hj => ?_, fun r hr => ?_⟩
    · have h0 : uns pairs.length T L = 0 := by omega
      unfold uns at h0
      rw [List.length_eq_zero_iff, List.filter_eq_nil_iff] at h0
      have := h0 j (List.mem_range.2 hj)
      simpa using this
    · refine Ev.step (fun k => rfl) ?_
      simp only [radomeref19_Of.hs, radomeref19_Of.b1, if_neg (show ¬ (q : Int) < (pairs.length : Int) by omega)]; exact hr
  | d + 1, q, L, e, h, hu => by
    obtain ⟨L1, a1, b1⟩ := rof_l2 hn hm hlen ht (Ls := L) (show q < 1000 by omega) pairs.length 0 L (by omega) ⟨h, fun j => Nat.le_refl _, fun i' k' hc => by omega⟩
    obtain ⟨L2, a2, a3, b2⟩ := rof_l1 d (q + 1) L1 (by omega) a1.1 (round_less hn hm hlen ht h a1 hu)
    refine ⟨L2, a2, a3, fun r hr => ?_⟩
    refine Ev.step (fun k => rfl) ?_
    simp only [radomeref19_Of.hs, radomeref19_Of.b1, if_pos (show (q : Int) < (pairs.length : Int) by omega)]
    exact b1 r (b2 r hr)
theorem rof_l0 : ∀ (d i : Nat) (L : List Int), pairs.length = i + d → Fo pairs.length L → (∀ j, j < i → fg L j = j) → ∃ L', Fo pairs.length L' ∧ (∀ j, j < pairs.length → fg L' j = T j) ∧ ∀ r, Ev (fun k => (radomeref19_Of.hs k).l3 pairs (m : Int) (pairs.length : Int) L' [] 0) r → Ev (fun k => (radomeref19_Of.hs k).l0 pairs (m : Int) (pairs.length : Int) L (i : Int)) r
  | 0, i, L, e, h, hj => by
    have hu : uns pairs.length T L ≤ pairs.length := flt_len _ _
    obtain ⟨L2, a2, a3, b2⟩ := rof_l1 hn hm hlen ht pairs.length 0 L (by omega) ⟨h, fun j hj2 => by rw [hj j (by omega)]⟩ hu
    refine ⟨L2, a2, a3, fun r hr => ?_⟩
    refine Ev.step (fun k => rfl) ?_
    simp only [radomeref19_Of.hs, radomeref19_Of.b0, if_neg (show ¬ (i : Int) < (pairs.length : Int) by omega)]
    exact b2 r hr
  | d + 1, i, L, e, h, hj => by
    have hl := h.len
    obtain ⟨L2, a2, a3, b2⟩ := rof_l0 d (i + 1) (L.set i (i : Int)) (by omega) (h.set (by omega) (by omega) (by omega)) (fun j hj2 => by
      rw [fg_set (by omega)]
      split
      · rename_i e2; rw [e2]; simp
      · exact hj j (by omega))
    refine ⟨L2, a2, a3, fun r hr => ?_⟩
    refine Ev.step (fun k => rfl) ?_
    simp only [radomeref19_Of.hs, radomeref19_Of.b0, if_pos (show (i : Int) < (pairs.length : Int) by omega), if_pos (show (0 : Int) ≤ (i : Int) ∧ (i : Int) < (L.length : Int) by omega), wsucc (show i < 4611686018427387904 by omega), Int.toNat_natCast]
    exact b2 r hr
/-! ### the groups -/
theorem rof_l7 {least : List Int} {out : List radomeref19_Group} {i p : Nat} {g1 : List Int} {r : List radomeref19_Group} (G : List Nat) (hG : ∀ t ∈ G, t < pairs.length) (hGl : G.length ≤ 64)
    (hgo : Ev (fun k => if (G.any fun t => decide ((p : Int) ∈ pairs.getD t [])) = true then (if g1.length + 1 ≤ 17592186044288 then ((radomeref19_Of.hs k).l6 pairs (m : Int) (pairs.length : Int) least out (i : Int) (ints G) (g1 ++ [(p : Int)]) (w64 ((p : Int) + 1))) else none) else ((radomeref19_Of.hs k).l6 pairs (m : Int) (pairs.length : Int) least out (i : Int) (ints G) g1 (w64 ((p : Int) + 1)))) r) :
    ∀ (d q : Nat) (b : Bool), G.length = q + d → (b || (G.drop q).any fun t => decide ((p : Int) ∈ pairs.getD t [])) = (G.any fun t => decide ((p : Int) ∈ pairs.getD t [])) → Ev (fun k => (radomeref19_Of.hs k).l7 pairs (m : Int) (pairs.length : Int) least out (i : Int) (ints G) g1 (p : Int) b (q : Int)) r
  | 0, q, b, e, hb => by
    have hgl : (ints G).length = G.length := by unfold ints; rw [List.length_map]
    rw [List.drop_eq_nil_of_le (by omega)] at hb
    simp only [List.any_nil, Bool.or_false] at hb
    refine Ev.step (fun k => rfl) ?_
    simp only [radomeref19_Of.hs, radomeref19_Of.b7, hgl, if_neg (show ¬ (q : Int) < (G.length : Int) by omega)]
    rw [hb]; exact hgo
  | d + 1, q, b, e, hb => by
    have hgl : (ints G).length = G.length := by unfold ints; rw [List.length_map]
    have hq : q < G.length := by omega
    have hg := hG _ (List.getElem_mem hq)
    have hr : rd (ints G) (q : Int) = (G[q] : Int) := by
      rw [rd_get (by omega)]; unfold ints; rw [List.getElem_map]
    have eg : pairs.getD G[q] [] = pairs[G[q]] := by rw [List.getD_eq_getElem?_getD, List.getElem?_eq_getElem hg]; rfl
    have ih := rof_l7 G hG hGl hgo d (q + 1) (b || decide ((p : Int) ∈ pairs[G[q]])) (by omega) (by
      rw [← hb, drop_cons hq, List.any_cons, eg, Bool.or_assoc])
    refine Ev.step (fun k => rfl) ?_
    simp only [radomeref19_Of.hs, radomeref19_Of.b7, hgl, if_pos (show (q : Int) < (G.length : Int) by omega), hr, if_pos (show ((!b) = true → (0 : Int) ≤ (q : Int) ∧ (q : Int) < (G.length : Int)) from fun _ => by omega), if_pos (show ((!b) = true → (0 : Int) ≤ ((G[q] : Nat) : Int) ∧ ((G[q] : Nat) : Int) < (pairs.length : Int)) from fun _ => by omega), rd_get hg, wsucc (show q < 4611686018427387904 by omega)]
    cases b with
    | true =>
      simp only [Bool.not_true, gdf, Bool.true_or] at ih ⊢
      exact Ev.bind Ev.now ih
    | false =>
      simp only [Bool.not_false, gdt, Bool.false_or] at ih ⊢
      exact Ev.bind (rhas_ev (n := (p : Int)) (hlen _ (List.getElem_mem hg))) ih
def inG (pairs : List (List Int)) (G : List Nat) (p : Nat) : Bool := G.any fun t => decide ((p : Int) ∈ pairs.getD t [])
theorem rof_l6 {least : List Int} {out : List radomeref19_Group} {i : Nat} {r : List radomeref19_Group} (G : List Nat) (hG : ∀ t ∈ G, t < pairs.length) (hGl : G.length ≤ 64) (ho : out.length ≤ 64) (hi : i < 64)
    (hgo : Ev (fun k => (radomeref19_Of.hs k).l3 pairs (m : Int) (pairs.length : Int) least (out ++ [(⟨ints G, ints ((List.range m).filter (inG pairs G))⟩ : radomeref19_Group)]) ((i + 1 : Nat) : Int)) r) :
    ∀ (d p : Nat), m = p + d → Ev (fun k => (radomeref19_Of.hs k).l6 pairs (m : Int) (pairs.length : Int) least out (i : Int) (ints G) (ints ((List.range p).filter (inG pairs G))) (p : Int)) r
  | 0, p, e => by
    have : p = m := by omega
    subst this
    refine Ev.step (fun k => rfl) ?_
    simp only [radomeref19_Of.hs, radomeref19_Of.b6, if_neg (show ¬ (p : Int) < (p : Int) by omega), List.length_cons, List.length_nil, if_pos (show out.length + (0 + 1) ≤ 2932031007274 by omega), wsucc (show i < 4611686018427387904 by omega)]
    exact hgo
  | d + 1, p, e => by
    have ih := rof_l6 G hG hGl ho hi hgo d (p + 1) (by omega)
    have hl : (ints ((List.range p).filter (inG pairs G))).length ≤ p := by unfold ints; rw [List.length_map]; exact flt_len _ _
    have hs : ints ((List.range (p + 1)).filter (inG pairs G)) = ints ((List.range p).filter (inG pairs G)) ++ (if inG pairs G p = true then [(p : Int)] else []) := by
      unfold ints; rw [flt_succ, List.map_append]; congr 1; split <;> rfl
    refine Ev.step (fun k => rfl) ?_
    simp only [radomeref19_Of.hs, radomeref19_Of.b6, if_pos (show (p : Int) < (m : Int) by omega)]
    refine rof_l7 hn hm hlen ht G hG hGl ?_ G.length 0 false (by omega) (by rw [List.drop_zero, Bool.false_or])
    rw [hs] at ih
    simp only [wsucc (show p < 4611686018427387904 by omega)]
    change Ev (fun k => if inG pairs G p = true then _ else _) r
    cases c : inG pairs G p with
    | true => rw [c] at ih; simp only [if_true, if_pos (show (ints ((List.range p).filter (inG pairs G))).length + 1 ≤ 17592186044288 by omega)] at ih ⊢; exact ih
    | false => rw [c] at ih; simp only [Bool.false_eq_true, if_false, List.append_nil] at ih ⊢; exact ih
theorem rof_l5 {least : List Int} {out : List radomeref19_Group} {i : Nat} {r : List radomeref19_Group} (hL : Fo pairs.length least) (hLT : ∀ j, j < pairs.length → fg least j = T j) (hi : i < 64)
    (hgo : Ev (fun k => (radomeref19_Of.hs k).l6 pairs (m : Int) (pairs.length : Int) least out (i : Int) (tr T pairs.length i) [] 0) r) :
    ∀ (d q : Nat), pairs.length = q + d → Ev (fun k => (radomeref19_Of.hs k).l5 pairs (m : Int) (pairs.length : Int) least out (i : Int) (tr T q i) [] (q : Int)) r
  | 0, q, e => by
    have : q = pairs.length := by omega
    subst this
    refine Ev.step (fun k => rfl) ?_
    simp only [radomeref19_Of.hs, radomeref19_Of.b5, if_neg (show ¬ (pairs.length : Int) < (pairs.length : Int) by omega)]; exact hgo
  | d + 1, q, e => by
    have hq : q < pairs.length := by omega
    have ih := rof_l5 hL hLT hi hgo d (q + 1) (by omega)
    have hl := hL.len
    have hr := hL.rd hq
    rw [hLT q hq] at hr
    have htl := tr_len T q i
    refine Ev.step (fun k => rfl) ?_
    simp only [radomeref19_Of.hs, radomeref19_Of.b5, if_pos (show (q : Int) < (pairs.length : Int) by omega), if_pos (show (0 : Int) ≤ (q : Int) ∧ (q : Int) < (least.length : Int) by omega), hr, wsucc (show q < 4611686018427387904 by omega)]
    rw [tr_succ] at ih
    by_cases c : T q = i
    · rw [if_pos c] at ih
      simp only [if_pos (show ((T q : Nat) : Int) = (i : Int) by omega), if_pos (show (tr T q i).length + 1 ≤ 17592186044288 by omega)]; exact ih
    · rw [if_neg c, List.append_nil] at ih
      simp only [if_neg (show ¬ ((T q : Nat) : Int) = (i : Int) by omega)]; exact ih
def gR (pairs : List (List Int)) (m : Nat) (T : Nat → Nat) (r : Nat) : radomeref19_Group := ⟨tr T pairs.length r, ints ((List.range m).filter (inG pairs ((List.range pairs.length).filter fun j => decide (T j = r))))⟩
theorem rof_l3 {least : List Int} (hL : Fo pairs.length least) (hLT : ∀ j, j < pairs.length → fg least j = T j) : ∀ (d i : Nat), pairs.length = i + d → Ev (fun k => (radomeref19_Of.hs k).l3 pairs (m : Int) (pairs.length : Int) least ((Rt T i).map (gR pairs m T)) (i : Int)) ((Rt T pairs.length).map (gR pairs m T))
  | 0, i, e => by
    have : i = pairs.length := by omega
    subst this
    refine Ev.step (fun k => rfl) ?_
    simp only [radomeref19_Of.hs, radomeref19_Of.b3, if_neg (show ¬ (pairs.length : Int) < (pairs.length : Int) by omega)]; exact Ev.now
  | d + 1, i, e => by
    have hi : i < pairs.length := by omega
    have ih := rof_l3 hL hLT d (i + 1) (by omega)
    have hl := hL.len
    have hr := hL.rd hi
    rw [hLT i hi] at hr
    have hRl : (Rt T i).length ≤ i := flt_len _ _
    refine Ev.step (fun k => rfl) ?_
    simp only [radomeref19_Of.hs, radomeref19_Of.b3, if_pos (show (i : Int) < (pairs.length : Int) by omega), if_pos (show (0 : Int) ≤ (i : Int) ∧ (i : Int) < (least.length : Int) by omega), hr, wsucc (show i < 4611686018427387904 by omega)]
    by_cases c : T i = i
    · simp only [if_pos (show ((T i : Nat) : Int) = (i : Int) by omega)]
      rw [Rt_succ, if_pos c, List.map_append] at ih
      refine rof_l5 hn hm hlen ht hL hLT (by omega) ?_ pairs.length 0 (by omega)
      refine rof_l6 hn hm hlen ht ((List.range pairs.length).filter fun j => decide (T j = i)) (fun t ht2 => List.mem_range.1 (List.mem_filter.1 ht2).1) (by have := flt_len (fun j => decide (T j = i)) pairs.length; omega) (by rw [List.length_map]; omega) (by omega) ih m 0 (by omega)
    · simp only [if_neg (show ¬ ((T i : Nat) : Int) = (i : Int) by omega)]
      rw [Rt_succ, if_neg c, List.append_nil] at ih; exact ih
theorem ROf_ev : Ev (fun k => radomeref19_Of.f k pairs (m : Int)) ((Rt T pairs.length).map (gR pairs m T)) := by
  unfold radomeref19_Of.f
  simp only [if_pos (show 0 ≤ (pairs.length : Int) ∧ (pairs.length : Int) ≤ 35184372088832 by omega), Int.toNat_natCast]
  have h0 : Fo pairs.length (List.replicate pairs.length (0 : Int)) := ⟨by simp, fun x hx => by rw [(List.mem_replicate.1 hx).2]; omega, fun j => by
    unfold fg
    rw [List.getD_eq_getElem?_getD, List.getElem?_replicate]
    split <;> simp⟩
  obtain ⟨L, a, b, c⟩ := rof_l0 hn hm hlen ht pairs.length 0 _ (by omega) h0 (fun j hj => by omega)
  exact c _ (rof_l3 hn hm hlen ht a b pairs.length 0 (by omega))
end
theorem rfree_l1 {pairs : List (List Int)} {m p : Nat} {out : List Int} {r : List Int} (hn : pairs.length ≤ 64) (hs : ∀ l ∈ pairs, l.length ≤ 17592186044416)
    (hgo : Ev (fun k => if (!inP pairs p) = true then (if out.length + 1 ≤ 17592186044288 then ((radomeref19_Free.hs k).l0 pairs (m : Int) (out ++ [(p : Int)]) (w64 ((p : Int) + 1))) else none) else ((radomeref19_Free.hs k).l0 pairs (m : Int) out (w64 ((p : Int) + 1)))) r) :
    ∀ (d i : Nat) (b : Bool), pairs.length = i + d → (b || (pairs.drop i).any fun l => decide ((p : Int) ∈ l)) = inP pairs p → Ev (fun k => (radomeref19_Free.hs k).l1 pairs (m : Int) out (p : Int) b (i : Int)) r
  | 0, i, b, e, hb => by
    rw [List.drop_eq_nil_of_le (by omega)] at hb
    simp only [List.any_nil, Bool.or_false] at hb
    refine Ev.step (fun k => rfl) ?_
    simp only [radomeref19_Free.hs, radomeref19_Free.b1, if_neg (show ¬ (i : Int) < (pairs.length : Int) by omega)]
    rw [hb]; exact hgo
  | d + 1, i, b, e, hb => by
    have hi : i < pairs.length := by omega
    have ih := rfree_l1 hn hs hgo d (i + 1) (b || decide ((p : Int) ∈ pairs[i])) (by omega) (by rw [← hb, drop_cons hi, List.any_cons, Bool.or_assoc])
    refine Ev.step (fun k => rfl) ?_
    simp only [radomeref19_Free.hs, radomeref19_Free.b1, if_pos (show (i : Int) < (pairs.length : Int) by omega), if_pos (show ((!b) = true → (0 : Int) ≤ (i : Int) ∧ (i : Int) < (pairs.length : Int)) from fun _ => by omega), rd_get hi, wsucc (show i < 4611686018427387904 by omega)]
    cases b with
    | true =>
      simp only [Bool.not_true, gdf, Bool.true_or] at ih ⊢
      exact Ev.bind Ev.now ih
    | false =>
      simp only [Bool.not_false, gdt, Bool.false_or] at ih ⊢
      refine Ev.bind (rhas_ev (n := (p : Int)) (hs _ (List.getElem_mem hi))) ?_
      exact ih
theorem rfree_l0 {pairs : List (List Int)} {m : Nat} (hn : pairs.length ≤ 64) (hm : m ≤ 64) (hs : ∀ l ∈ pairs, l.length ≤ 17592186044416) : ∀ (d p : Nat), m = p + d → Ev (fun k => (radomeref19_Free.hs k).l0 pairs (m : Int) (freeL pairs p) (p : Int)) (freeL pairs m)
  | 0, p, e => by
    have : p = m := by omega
    subst this
    refine Ev.step (fun k => rfl) ?_
    simp only [radomeref19_Free.hs, radomeref19_Free.b0, if_neg (show ¬ (p : Int) < (p : Int) by omega)]; exact Ev.now
  | d + 1, p, e => by
    have ih := rfree_l0 hn hm hs d (p + 1) (by omega)
    have hl : (freeL pairs p).length ≤ p := by unfold freeL ints; rw [List.length_map]; exact flt_len _ _
    have hsu : freeL pairs (p + 1) = freeL pairs p ++ (if (!inP pairs p) = true then [(p : Int)] else []) := by
      unfold freeL ints; rw [flt_succ, List.map_append]; congr 1; split <;> rfl
    refine Ev.step (fun k => rfl) ?_
    simp only [radomeref19_Free.hs, radomeref19_Free.b0, if_pos (show (p : Int) < (m : Int) by omega)]
    refine rfree_l1 hn hs ?_ pairs.length 0 false (by omega) (by rw [List.drop_zero, Bool.false_or]; rfl)
    rw [hsu] at ih
    simp only [wsucc (show p < 4611686018427387904 by omega)]
    cases c : inP pairs p with
    | true => rw [c] at ih; simp only [Bool.not_true, Bool.false_eq_true, if_false, List.append_nil] at ih ⊢; exact ih
    | false => rw [c] at ih; simp only [Bool.not_false, if_true, if_pos (show (freeL pairs p).length + 1 ≤ 17592186044288 by omega)] at ih ⊢; exact ih
theorem RFree_ev {pairs : List (List Int)} {m : Nat} (hn : pairs.length ≤ 64) (hm : m ≤ 64) (hs : ∀ l ∈ pairs, l.length ≤ 17592186044416) : Ev (fun k => radomeref19_Free.f k pairs (m : Int)) (freeL pairs m) := by
  unfold radomeref19_Free.f; exact rfree_l0 hn hm hs m 0 (by omega)
/-- The document's plots of a group are the program's. -/
theorem plots_same {pairs : List (List Int)} {m : Nat} {T : Nat → Nat} (ok : pairs.all (okL (m : Int) (-1)) = true) (h : Hangs (pairs.length + m) (Ed pairs pairs.length 0) T) {r : Nat} (hr : r < pairs.length) : pl T pairs.length m r = (gR pairs m T r).f_Plots := by
  unfold pl gR
  simp only
  congr 1
  refine List.filter_congr fun p hp => ?_
  have hp := List.mem_range.1 hp
  obtain ⟨h1, h2⟩ := hangs_free ok h hp
  rw [Bool.eq_iff_iff, decide_eq_true_eq]
  unfold inG
  rw [List.any_eq_true]
  constructor
  · intro e
    cases c : inP pairs p with
    | false => have := h2 c; omega
    | true =>
      obtain ⟨l, hl, hpl⟩ := List.any_eq_true.1 c
      obtain ⟨t, ht, rfl⟩ := List.getElem_of_mem hl
      have hpl := of_decide_eq_true hpl
      refine ⟨t, List.mem_filter.2 ⟨List.mem_range.2 ht, decide_eq_true ?_⟩, decide_eq_true ?_⟩
      · rw [← h1 t ht hpl, e]
      · rw [List.getD_eq_getElem?_getD, List.getElem?_eq_getElem ht]; exact hpl
  · rintro ⟨t, ht, hpt⟩
    obtain ⟨ht1, ht2⟩ := List.mem_filter.1 ht
    obtain ⟨hi, hpm⟩ := getD_mem (of_decide_eq_true hpt)
    rw [h1 t hi hpm]; exact of_decide_eq_true ht2
end Go.Proofs.YtoijknggnlbopaaDoor.Pure

/- Tables: tracks as told, and what the program's and the reference's small functions answer. -/
import Derived.Test.YtjhpkkhcgpilfaaDoorPureLF
namespace Go.Proofs.YtjhpkkhcgpilfaaDoor.Pure
open Go.RowKit Go.Proofs.YtjhpkkhcgpilfaaDoorK Go.Proofs.YtjhpkkhcgpilfaaDoor.GTO
set_option linter.unusedVariables false
set_option linter.unusedSimpArgs false
set_option maxRecDepth 100000
theorem gdt {α : Type} (x : Option α) (d : α) : gd true x d = x := rfl
theorem gdf {α : Type} (x : Option α) (d : α) : gd false x d = some d := rfl
theorem wsucc {i : Nat} (h : i < 1000000000) : w64 ((i : Int) + 1) = ((i + 1 : Nat) : Int) := w64_id (by omega)
theorem rd_at {α : Type} [Inhabited α] {L : List α} {i : Nat} (h : i < L.length) : rd L (i : Int) = L[i] := by
  unfold rd; rw [Int.toNat_natCast, List.getD_eq_getElem?_getD, List.getElem?_eq_getElem h]; rfl
/-! ### numbers that are given -/
structure NOk (a b c : Int) : Prop where
  a1 : 1 ≤ a
  ab : a ≤ b
  b1 : b ≤ 2199023255552
  c0 : 0 ≤ c
  c1 : c ≤ b - a + 1
theorem next_some {a b c : Int} (h : NOk a b c) (hf : ¬ b - a < c) : Ev (fun k => names_Names_Next.f k ⟨a, b, ⟨c⟩⟩) (a + c, none, ⟨a, b, ⟨c + 1⟩⟩) := by
  obtain ⟨h1, h2, h3, h4, h5⟩ := h
  unfold names_Names_Next.f
  refine Ev.step (fun k => rfl) ?_
  simp only [names_Names_Next.hs, names_Names_Next.b0, w64_id (show -9223372036854775808 ≤ b - a ∧ b - a ≤ 9223372036854775807 by omega), if_neg hf, w64_id (show -9223372036854775808 ≤ a + c ∧ a + c ≤ 9223372036854775807 by omega), w64_id (show -9223372036854775808 ≤ c + 1 ∧ c + 1 ≤ 9223372036854775807 by omega)]
  exact Ev.now
/-! ### states -/
def E6 : List (List Int) := [[1, 0, 0, 0, 0, 0], [0, 1, 0, 0, 0, 0], [0, 0, 1, 0, 0, 0], [0, 0, 0, 1, 0, 0], [0, 0, 0, 0, 1, 0], [0, 0, 0, 0, 0, 1]]
def X6 (n : Int) : List Int := [Int.tmod n 1099511627776, 0, 0, 0, 0, 0]
def RI (n : Int) : radomeref17_Imm := ⟨[⟨X6 n, E6⟩], [1073741824]⟩
def M6 : mat_Mat := ⟨6, 6, T173.ofL (E6.flatten)⟩
def PI (n : Int) : imm_Imm := ⟨[⟨T172.ofL (X6 n), M6⟩], [1073741824]⟩
theorem one_ev (n : Int) : Ev (fun k => radomelaw25_one.f k n) (RI n) := Ev.of (fun k => radomelaw25_one.mono k n) (k := 8) rfl
theorem mat6 : Ev (fun k => radomelaw25_matOf.f k E6) M6 := Ev.of (fun k => radomelaw25_matOf.mono k E6) (k := 8) rfl
theorem gstate_ev (n : Int) : Ev (fun k => radomelaw25_giveState.f k ⟨X6 n, E6⟩) ⟨T172.ofL (X6 n), M6⟩ := by
  unfold radomelaw25_giveState.f
  refine Ev.bind mat6 ?_
  simp only [show ((X6 n).length : Int) = 6 from rfl, if_true, if_pos (show (0 : Int) ≤ 0 ∧ (0 : Int) < 6 by decide), if_pos (show (0 : Int) ≤ 1 ∧ (1 : Int) < 6 by decide), if_pos (show (0 : Int) ≤ 2 ∧ (2 : Int) < 6 by decide), if_pos (show (0 : Int) ≤ 3 ∧ (3 : Int) < 6 by decide), if_pos (show (0 : Int) ≤ 4 ∧ (4 : Int) < 6 by decide), if_pos (show (0 : Int) ≤ 5 ∧ (5 : Int) < 6 by decide)]
  exact Ev.now
theorem gimm_ev (n : Int) : Ev (fun k => radomelaw25_giveImm.f k (RI n)) (PI n) := by
  unfold radomelaw25_giveImm.f radomelaw25_giveStates.f
  refine Ev.bind (r := [⟨T172.ofL (X6 n), M6⟩]) ?_ Ev.now
  refine Ev.step (fun k => rfl) ?_
  simp only [radomelaw25_giveStates.hs, radomelaw25_giveStates.b0, RI, List.length_cons, List.length_nil, if_pos (show (0 : Int) < ((0 + 1 : Nat) : Int) by decide), if_pos (show (0 : Int) ≤ 0 ∧ (0 : Int) < ((0 + 1 : Nat) : Int) by decide), show rd [(⟨X6 n, E6⟩ : radomeref12_State)] 0 = ⟨X6 n, E6⟩ from rfl]
  refine Ev.bind (gstate_ev n) ?_
  simp only [if_pos (show 0 + 1 ≤ 399822409972 by decide), List.nil_append, show w64 (0 + 1) = 1 by decide]
  refine Ev.step (fun k => rfl) ?_
  simp only [radomelaw25_giveStates.hs, radomelaw25_giveStates.b0, List.length_cons, List.length_nil, if_neg (show ¬ (1 : Int) < ((0 + 1 : Nat) : Int) by decide)]
  exact Ev.now
/-! ### tracks -/
structure AT where
  id : Int
  kind : Int
  S : List Bool
  ms : Int
  n : Int
  tm : Int
def aP (a : AT) : table_Track := ⟨a.id, ⟨a.kind, B a.S, a.S.length, a.ms⟩, PI a.n, a.tm⟩
def Pt (h w m most fr g : Int) (A : List AT) : table_Table := ⟨⟨h, w, m⟩, most, ⟨fr, fr + 1073741824, ⟨g⟩⟩, A.map aP⟩
structure AOk (h w m : Int) (a : AT) : Prop where
  ok : Ok h w m a.kind a.S a.ms
  k3 : a.kind ≠ 3 ∧ a.kind ≠ 4
structure TOk (h w m most fr g : Int) (A : List AT) : Prop where
  rl : Rl h w m
  mo : 1 ≤ most ∧ most ≤ 64
  f1 : 1 ≤ fr ∧ fr ≤ 1073741824
  g1 : 0 ≤ g ∧ g ≤ 1000
  len : (A.length : Int) ≤ most
  ok : ∀ a ∈ A, AOk h w m a
  asc : A.Pairwise fun a b => a.id < b.id
  lt : ∀ a ∈ A, fr ≤ a.id ∧ a.id < fr + g
theorem rdP {A : List AT} {i : Nat} (h : i < A.length) : rd (A.map aP) (i : Int) = aP A[i] := by rw [rd_at (by rw [List.length_map]; exact h), List.getElem_map]
theorem own_ev (k : Nat) (n : Int) : table_own.f k (PI n) = some (PI n) := by
  unfold table_own.f
  rw [if_pos (show 0 + (PI n).f_States.length ≤ 399822409972 from (by decide : 0 + 1 ≤ 399822409972)), if_pos (show 0 + (PI n).f_Chances.length ≤ 17592186044288 from (by decide : 0 + 1 ≤ 17592186044288))]
theorem town_ev (k : Nat) (a : AT) : table_Track_own.f k (aP a) = some (aP a) := by
  unfold table_Track_own.f
  rw [show (aP a).f_Imm = PI a.n from rfl, own_ev]; rfl
theorem Tracks_l0 {A : List AT} (hA : A.length ≤ 100) : ∀ (d i : Nat), A.length = i + d → Ev (fun k => (table_Table_Tracks.hs k).l0 ((A.take i).map aP) (A.map aP) (A.length : Int) (i : Int)) (A.map aP)
  | 0, i, e => by
    refine Ev.step (fun k => rfl) ?_
    simp only [table_Table_Tracks.hs, table_Table_Tracks.b0, if_neg (show ¬ (i : Int) < (A.length : Int) by omega)]
    rw [List.take_of_length_le (by omega)]; exact Ev.now
  | d + 1, i, e => by
    have hi : i < A.length := by omega
    have ih := Tracks_l0 hA d (i + 1) (by omega)
    rw [List.take_succ_eq_append_getElem hi, List.map_append] at ih
    refine Ev.step (fun k => rfl) ?_
    simp only [table_Table_Tracks.hs, table_Table_Tracks.b0, List.length_map, List.length_take, if_pos (show (i : Int) < (A.length : Int) by omega), if_pos (show (0 : Int) ≤ (i : Int) ∧ (i : Int) < (A.length : Int) by omega), rdP hi, town_ev, Option.bind_some, if_pos (show min i A.length + 1 ≤ 1466015503573 by omega), wsucc (show i < 1000000000 by omega)]
    exact ih
theorem Tracks_ev {h w m most fr g : Int} {A : List AT} (hA : A.length ≤ 100) : Ev (fun k => table_Table_Tracks.f k (Pt h w m most fr g A)) (A.map aP) := by
  have := Tracks_l0 hA A.length 0 (by omega)
  unfold table_Table_Tracks.f
  simp only [Pt, List.length_map]
  exact this
/-! ### where a track stands -/
theorem cmp_ev (k : Nat) (a : AT) (id : Int) : table_Table_at_1.f k (aP a) id = some (if a.id < id then -1 else if id < a.id then 1 else 0) := by
  unfold table_Table_at_1.f
  show (if a.id < id then some (-1) else if id < a.id then some 1 else some 0) = _
  by_cases c : a.id < id
  · rw [if_pos c, if_pos c]
  · rw [if_neg c, if_neg c]
    by_cases c2 : id < a.id
    · rw [if_pos c2, if_pos c2]
    · rw [if_neg c2, if_neg c2]
theorem bs_l0 {A : List AT} {id : Int} (hA : A.length ≤ 100) (asc : A.Pairwise fun a b => a.id < b.id) : ∀ (d i j : Nat), j - i ≤ d → i ≤ j → j ≤ A.length → (∀ q (h : q < A.length), q < i → A[q].id < id) → (∀ q (h : q < A.length), j ≤ q → id ≤ A[q].id) →
    ∃ p, p ≤ A.length ∧ (∀ q (h : q < A.length), q < p → A[q].id < id) ∧ (∀ q (h : q < A.length), p ≤ q → id ≤ A[q].id) ∧ ∃ b, (b = true ↔ ∃ h : p < A.length, A[p].id = id) ∧ Ev (fun k => (slices_BinarySearchFunc_table_Track_table_Track_int64_table_Table_at_1.hs k).l0 (A.map aP) id (A.length : Int) (i : Int) (j : Int)) ((p : Int), b)
  | d, i, j, hd, hij, hj, h1, h2 => by
    by_cases c : i < j
    · cases d with
      | zero => omega
      | succ d =>
        have em : w64 (((w64 ((i : Int) + (j : Int))) % 18446744073709551616) / 2) = (((i + j) / 2 : Nat) : Int) := by
          rw [w64_id (show -9223372036854775808 ≤ (i : Int) + (j : Int) ∧ (i : Int) + (j : Int) ≤ 9223372036854775807 by omega), w64_id (by omega)]; omega
        have hm : (i + j) / 2 < A.length := by omega
        have pw := List.pairwise_iff_getElem.1 asc
        by_cases c2 : A[(i + j) / 2].id < id
        · obtain ⟨p, p1, p2, p3, b, p4, p5⟩ := bs_l0 hA asc d ((i + j) / 2 + 1) j (by omega) (by omega) hj (fun q hq hlt => by
            by_cases e : q = (i + j) / 2
            · subst e; exact c2
            · have := pw q ((i + j) / 2) hq hm (by omega); omega) h2
          refine ⟨p, p1, p2, p3, b, p4, ?_⟩
          refine Ev.step (fun k => rfl) ?_
          simp only [slices_BinarySearchFunc_table_Track_table_Track_int64_table_Table_at_1.hs, slices_BinarySearchFunc_table_Track_table_Track_int64_table_Table_at_1.b0, if_pos (show (i : Int) < (j : Int) by omega), em, List.length_map, if_pos (show (0 : Int) ≤ (((i + j) / 2 : Nat) : Int) ∧ (((i + j) / 2 : Nat) : Int) < (A.length : Int) by omega), rdP hm, cmp_ev, Option.bind_some, if_pos c2, if_pos (show (-1 : Int) < 0 by decide), wsucc (show (i + j) / 2 < 1000000000 by omega)]
          exact p5
        · obtain ⟨p, p1, p2, p3, b, p4, p5⟩ := bs_l0 hA asc d i ((i + j) / 2) (by omega) (by omega) (by omega) h1 (fun q hq hlt => by
            by_cases e : q = (i + j) / 2
            · subst e; omega
            · have := pw ((i + j) / 2) q hm hq (by omega); omega)
          refine ⟨p, p1, p2, p3, b, p4, ?_⟩
          have c3 : ¬ (if A[(i + j) / 2].id < id then (-1 : Int) else if id < A[(i + j) / 2].id then 1 else 0) < 0 := by
            rw [if_neg c2]; split <;> decide
          refine Ev.step (fun k => rfl) ?_
          simp only [slices_BinarySearchFunc_table_Track_table_Track_int64_table_Table_at_1.hs, slices_BinarySearchFunc_table_Track_table_Track_int64_table_Table_at_1.b0, if_pos (show (i : Int) < (j : Int) by omega), em, List.length_map, if_pos (show (0 : Int) ≤ (((i + j) / 2 : Nat) : Int) ∧ (((i + j) / 2 : Nat) : Int) < (A.length : Int) by omega), rdP hm, cmp_ev, Option.bind_some, if_neg c3]
          exact p5
    · have : i = j := by omega
      subst this
      by_cases c2 : i < A.length
      · have h3 := h2 i c2 (by omega)
        refine ⟨i, by omega, h1, h2, decide (A[i].id = id), ⟨fun h => ⟨c2, of_decide_eq_true h⟩, fun ⟨_, h⟩ => decide_eq_true h⟩, ?_⟩
        refine Ev.step (fun k => rfl) ?_
        have c4 : decide ((if A[i].id < id then (-1 : Int) else if id < A[i].id then 1 else 0) = 0) = decide (A[i].id = id) := by
          rw [decide_eq_decide, if_neg (show ¬ A[i].id < id by omega)]
          split
          · constructor
            · intro h; exact absurd h (by decide)
            · intro h; omega
          · constructor
            · intro h; omega
            · intro h; rfl
        simp only [slices_BinarySearchFunc_table_Track_table_Track_int64_table_Table_at_1.hs, slices_BinarySearchFunc_table_Track_table_Track_int64_table_Table_at_1.b0, if_neg (show ¬ (i : Int) < (i : Int) by omega), decide_eq_true (show (i : Int) < (A.length : Int) by omega), List.length_map, if_pos (show (True → (0 : Int) ≤ (i : Int) ∧ (i : Int) < (A.length : Int)) from fun _ => by omega), gdt, rdP c2, cmp_ev, Option.bind_some, c4, Bool.true_and]
        exact Ev.now
      · refine ⟨i, by omega, h1, h2, false, ⟨(fun h => by cases h), (fun ⟨h, _⟩ => absurd h c2)⟩, ?_⟩
        refine Ev.step (fun k => rfl) ?_
        simp only [slices_BinarySearchFunc_table_Track_table_Track_int64_table_Table_at_1.hs, slices_BinarySearchFunc_table_Track_table_Track_int64_table_Table_at_1.b0, if_neg (show ¬ (i : Int) < (i : Int) by omega), decide_eq_false (show ¬ (i : Int) < (A.length : Int) by omega), gdf, Option.bind_some, Bool.false_and, Bool.false_eq_true, if_pos (show (False → (0 : Int) ≤ (i : Int) ∧ (i : Int) < ((A.map aP).length : Int)) from fun h => h.elim)]
        exact Ev.now
theorem at_ev {h w m most fr g : Int} {A : List AT} {id : Int} (hA : A.length ≤ 100) (asc : A.Pairwise fun a b => a.id < b.id) : ∃ (p : Nat) (b : Bool), (b = true → ∃ h : p < A.length, A[p].id = id) ∧ (b = false → ∀ a ∈ A, a.id ≠ id) ∧ Ev (fun k => table_Table_at.f k (Pt h w m most fr g A) id) ((p : Int), b) := by
  obtain ⟨p, p1, p2, p3, b, p4, p5⟩ := bs_l0 (id := id) hA asc A.length 0 A.length (by omega) (by omega) (by omega) (fun q _ h => by omega) (fun q _ h => by omega)
  refine ⟨p, b, p4.1, fun hb a ha e => ?_, ?_⟩
  · obtain ⟨q, hq, rfl⟩ := List.getElem_of_mem ha
    have n1 : ¬ q < p := fun h => by have := p2 q hq h; omega
    by_cases e2 : q = p
    · subst e2
      have := p4.2 ⟨hq, e⟩
      rw [hb] at this; cases this
    · have hp : p < A.length := by omega
      have h3 := p3 p hp (by omega)
      have := List.pairwise_iff_getElem.1 asc p q hp hq (by omega)
      omega
  · unfold table_Table_at.f slices_BinarySearchFunc_table_Track_table_Track_int64_table_Table_at_1.f Pt
    simp only [List.length_map]
    exact Ev.bind p5 Ev.now
/-! ### a track goes -/
theorem Delete_eq (k : Nat) {s : List table_Track} {i : Nat} (hi : i < s.length) : slices_Delete_table_Track_table_Track.f k s (i : Int) ((i + 1 : Nat) : Int) = some (s.take i ++ s.drop (i + 1)) := by
  have dl := del_len (xs := s) (i := (i : Int)) (j := ((i + 1 : Nat) : Int)) ⟨by omega, by omega, by omega⟩
  have e1 : del s (i : Int) ((i + 1 : Nat) : Int) = (s.take i ++ s.drop (i + 1)) ++ s.drop (s.length - 1) := by
    unfold del; rw [Int.toNat_natCast, Int.toNat_natCast, show i + 1 - i = 1 by omega]
  have l1 : (s.take i ++ s.drop (i + 1)).length = s.length - 1 := by simp; omega
  have e2 : (i : Int) + ((s.length : Int) - ((i + 1 : Nat) : Int)) = ((s.length - 1 : Nat) : Int) := by omega
  have e3 : (cut (del s (i : Int) ((i + 1 : Nat) : Int)) 0 (((s.length - 1 : Nat)) : Int)).length = s.length - 1 := by unfold cut; simp only [Int.toNat_natCast, List.length_drop, List.length_take, dl]; show min (s.length - 1) s.length - 0 = _; omega
  unfold slices_Delete_table_Track_table_Track.f
  rw [e2, e3, dl, if_pos (by omega), if_neg (by omega), if_pos (by omega), if_pos (by omega), if_pos (by omega)]
  refine congrArg some ?_
  have e4 : clr (del s (i : Int) ((i + 1 : Nat) : Int)) (((s.length - 1 : Nat)) : Int) (s.length : Int) (⟨0, (⟨0, 0, 0, 0⟩ : life_Life), (⟨[], []⟩ : imm_Imm), 0⟩ : table_Track) = (s.take i ++ s.drop (i + 1)) ++ (List.replicate (s.length - (s.length - 1)) (⟨0, (⟨0, 0, 0, 0⟩ : life_Life), (⟨[], []⟩ : imm_Imm), 0⟩ : table_Track) ++ (del s (i : Int) ((i + 1 : Nat) : Int)).drop s.length) := by
    unfold clr
    rw [Int.toNat_natCast, Int.toNat_natCast, List.append_assoc]
    congr 1
    rw [e1, List.take_append_of_le_length (by omega), List.take_of_length_le (by omega)]
  rw [e4]
  unfold cut
  rw [Int.toNat_natCast, show (0 : Int).toNat = 0 from rfl, List.drop_zero, List.take_append_of_le_length (by omega), List.take_of_length_le (by omega)]
end Go.Proofs.YtjhpkkhcgpilfaaDoor.Pure

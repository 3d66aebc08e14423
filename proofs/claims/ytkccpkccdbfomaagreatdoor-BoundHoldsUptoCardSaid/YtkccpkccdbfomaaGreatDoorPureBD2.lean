/- Matrices of the program and the document's rows. -/
import Derived.Test.YtkccpkccdbfomaaGreatDoorPureBD1L35
namespace Go.Proofs.YtkccpkccdbfomaaGreatDoor.Pure
open Go.RowKit Go.Proofs.YtkccpkccdbfomaaGreatDoorK Go.Proofs.YtkccpkccdbfomaaGreatDoor.GBH
set_option linter.unusedVariables false
set_option linter.unusedSimpArgs false
set_option maxRecDepth 100000
def zT : T73 := T73.ofL (List.replicate 36 0)
def M0 : XV := ⟨0, 0, zT⟩
theorem Ng : (⟨0, 0, 0, 0, 0, 0, 0, 0, 0, 0, 0, 0, 0, 0, 0, 0, 0, 0, 0, 0, 0, 0, 0, 0, 0, 0, 0, 0, 0, 0, 0, 0, 0, 0, 0, 0⟩ : T73) = zT := rfl
def fl (L : List (List Int)) : List Int := L.flatten ++ List.replicate (36 - L.flatten.length) 0
theorem ZP {C : Nat} : ∀ L : List (List Int), (∀ r ∈ L, r.length = C) → L.flatten.length = L.length * C
  | [], _ => by simp
  | r :: L, h => by
    rw [List.flatten_cons, List.length_append, ZP L (fun s hs => h s (List.mem_cons_of_mem _ hs)), h r (List.mem_cons_self ..), List.length_cons, Nat.succ_mul]; omega
theorem MF {L : List (List Int)} (h : L.flatten.length ≤ 36) : (fl L).length = 36 := by
  unfold fl; rw [List.length_append, List.length_replicate]; omega
theorem Ol {A B D : List Int} : cut (A ++ (B ++ D)) (A.length : Int) ((A.length + B.length : Nat) : Int) = B := by
  unfold cut
  rw [Int.toNat_natCast, Int.toNat_natCast, ← List.append_assoc, List.take_append_of_le_length (by rw [List.length_append]; omega), List.take_of_length_le (by rw [List.length_append]; omega), List.drop_left]
theorem Z1 {R C : Nat} (hR : R ≤ 6) (hC : C ≤ 6) : R * C ≤ 36 := Nat.mul_le_mul hR hC
theorem Vw {L : List (List Int)} {C i : Nat} (hl : ∀ r ∈ L, r.length = C) : ∀ r ∈ L.take i, r.length = C := fun r hr => hl r (List.mem_of_mem_take hr)
theorem Qam {L : List (List Int)} {C i : Nat} (hi : i < L.length) (hl : ∀ r ∈ L.take (i + 1), r.length = C) (hR : L.length ≤ 6) (hC : C ≤ 6) : cpy (fl (L.take i)) ((i * C : Nat) : Int) L[i] = fl (L.take (i + 1)) := by
  have hm : L[i] ∈ L.take (i + 1) := by rw [List.mem_take_iff_getElem]; exact ⟨i, by omega, rfl⟩
  have hl0 : ∀ r ∈ L.take i, r.length = C := fun r hr => hl r (by rw [List.take_succ_eq_append_getElem hi]; exact List.mem_append_left _ hr)
  have e1 := ZP (L.take i) hl0
  rw [List.length_take, Nat.min_eq_left (by omega)] at e1
  have e2 := hl _ hm
  have b1 : (i + 1) * C ≤ 36 := Z1 (by omega) hC
  rw [Nat.succ_mul] at b1
  rw [List.take_succ_eq_append_getElem hi]
  unfold cpy fl
  rw [List.flatten_append, List.flatten_cons, List.flatten_nil, List.append_nil, Int.toNat_natCast]
  generalize hF : (L.take i).flatten = F at *
  generalize hr : L[i] = r at *
  rw [List.take_append_of_le_length (by omega), List.take_of_length_le (by omega : F.length ≤ i * C), List.take_of_length_le (by rw [List.length_append, List.length_replicate]; omega), List.append_assoc, List.append_assoc]
  refine congrArg (F ++ ·) (congrArg (r ++ ·) ?_)
  rw [List.drop_append, List.drop_of_length_le (by omega), List.nil_append, List.drop_replicate, List.length_append]
  congr 1; omega
theorem U8 {L : List (List Int)} {C i : Nat} (hi : i < L.length) (hl : ∀ r ∈ L, r.length = C) : cut (fl L) ((i * C : Nat) : Int) (((i + 1) * C : Nat) : Int) = L[i] := by
  have e1 := ZP (L.take i) (Vw hl)
  rw [List.length_take, Nat.min_eq_left (by omega)] at e1
  have e2 := hl _ (List.getElem_mem hi)
  have hs : L.flatten = (L.take i).flatten ++ (L[i] ++ (L.drop (i + 1)).flatten) := by
    rw [← List.flatten_cons, ← List.drop_eq_getElem_cons hi, ← List.flatten_append, List.take_append_drop]
  unfold fl
  rw [hs, List.append_assoc, List.append_assoc, ← e1, show ((i + 1) * C : Nat) = (L.take i).flatten.length + L[i].length by rw [e1, e2, Nat.succ_mul]]
  exact Ol
theorem WG {L : List (List Int)} {C : Nat} (hl : ∀ r ∈ L, r.length = C) (hb : L.length * C ≤ 36) : cut (fl L) ((L.length * C : Nat) : Int) 36 = List.replicate (36 - L.length * C) 0 := by
  have e1 := ZP L hl
  have := Ol (A := L.flatten) (B := List.replicate (36 - L.flatten.length) 0) (D := [])
  rw [List.append_nil, List.length_replicate, e1, show L.length * C + (36 - L.length * C) = 36 by omega] at this
  unfold fl; rw [e1]; exact this
/-! ### rows that may be -/
def Cn (rows : List (List Int)) : Nat := (rd rows 0).length
def MOk (rows : List (List Int)) : Prop := (1 ≤ rows.length ∧ rows.length ≤ 6) ∧ (1 ≤ Cn rows ∧ Cn rows ≤ 6) ∧ ∀ r ∈ rows, r.length = Cn rows
instance (rows : List (List Int)) : Decidable (MOk rows) := by unfold MOk; infer_instance
def mm (rows : List (List Int)) : XV := ⟨(rows.length : Int), (Cn rows : Int), T73.ofL (fl rows)⟩
theorem wmul {i C : Nat} (hi : i ≤ 7) (hC : C ≤ 6) : w64 ((i : Int) * (C : Int)) = ((i * C : Nat) : Int) := by
  have : i * C ≤ 42 := Nat.mul_le_mul hi hC
  rw [← Int.natCast_mul]; exact XZ (by omega)
theorem We {rows : List (List Int)} (hR : rows.length ≤ 6) (hC : Cn rows ≤ 6) : ∀ (d i : Nat), rows.length = i + d → (∀ r ∈ rows.take i, r.length = Cn rows) →
    Ev (fun k => (XE.hs k).l0 M0 none ⟨(rows.length : Int), (Cn rows : Int), T73.ofL (fl (rows.take i))⟩ rows (rows.length : Int) (i : Int)) (if ∀ r ∈ rows, r.length = Cn rows then (mm rows, none) else (M0, some 1))
  | 0, i, e, h => by
    rw [List.take_of_length_le (by omega)] at h
    refine Ev.step (fun k => rfl) ?_
    simp only [XE.hs, XE.b0, if_neg (show ¬ (i : Int) < (rows.length : Int) by omega)]
    rw [if_pos h, List.take_of_length_le (by omega)]; exact Ev.now
  | d + 1, i, e, h => by
    have hi : i < rows.length := by omega
    refine Ev.step (fun k => rfl) ?_
    simp only [XE.hs, XE.b0, if_pos (show (i : Int) < (rows.length : Int) by omega), if_pos (show (0 : Int) ≤ (i : Int) ∧ (i : Int) < (rows.length : Int) by omega), Jj hi]
    by_cases c : rows[i].length = Cn rows
    · have h' : ∀ r ∈ rows.take (i + 1), r.length = Cn rows := fun r hr => by
        rw [List.take_succ_eq_append_getElem hi] at hr
        rcases List.mem_append.1 hr with hr | hr
        · exact h r hr
        · rw [List.mem_singleton.1 hr]; exact c
      have ih := We hR hC d (i + 1) (by omega) h'
      have hb := Z1 (R := i) (by omega) hC
      have e1 := ZP (rows.take i) h
      rw [List.length_take, Nat.min_eq_left (by omega)] at e1
      rw [← Qam hi h' hR hC] at ih
      simp only [if_pos (show (rows[i].length : Int) = (Cn rows : Int) by omega), wmul (show i ≤ 7 by omega) hC, if_pos (show (0 : Int) ≤ ((i * Cn rows : Nat) : Int) ∧ ((i * Cn rows : Nat) : Int) ≤ 36 ∧ (36 : Int) ≤ 36 by omega), T73.toL_ofL (MF (show (rows.take i).flatten.length ≤ 36 by omega)), Option.bind_some, wsucc (show i < 1000000000 by omega)]
      exact ih
    · simp only [if_neg (show ¬ (rows[i].length : Int) = (Cn rows : Int) by omega), Ng]
      rw [if_neg (fun x => c (x _ (List.getElem_mem hi)))]; exact Ev.now
theorem G1 (k : Nat) (n : Int) : Yq.f k n = some (decide (1 ≤ n ∧ n ≤ 6)) := by
  unfold Yq.f; rw [Bool.decide_and]
theorem WM (rows : List (List Int)) : Ev (fun k => XE.f k rows) (if MOk rows then (mm rows, none) else (M0, some 1)) := by
  unfold XE.f
  simp only [G1, Option.bind_some]
  by_cases c : 1 ≤ rows.length ∧ rows.length ≤ 6
  · have hz : (0 : Int) ≤ 0 ∧ (0 : Int) < (rows.length : Int) := by omega
    simp only [decide_eq_true (show 1 ≤ (rows.length : Int) ∧ (rows.length : Int) ≤ 6 by omega), Bool.not_true, Bool.not_false, hz, and_self, implies_true, if_true, gdt, Option.bind_some, Bool.false_or, Ng]
    by_cases c2 : 1 ≤ Cn rows ∧ Cn rows ≤ 6
    · have c2' : 1 ≤ ((rd rows 0).length : Int) ∧ ((rd rows 0).length : Int) ≤ 6 := by unfold Cn at c2; omega
      simp only [decide_eq_true c2', Bool.not_true, Bool.false_eq_true, if_false]
      have e : (if MOk rows then (mm rows, (none : Option Int)) else (M0, some 1)) = (if ∀ r ∈ rows, r.length = Cn rows then (mm rows, none) else (M0, some 1)) := by
        by_cases g : ∀ r ∈ rows, r.length = Cn rows
        · rw [if_pos g, if_pos ⟨c, c2, g⟩]
        · rw [if_neg g, if_neg (fun x => g x.2.2)]
      rw [e]
      exact We c.2 c2.2 rows.length 0 (by omega) (fun r hr => by simp at hr)
    · have c2' : ¬ (1 ≤ ((rd rows 0).length : Int) ∧ ((rd rows 0).length : Int) ≤ 6) := by unfold Cn at c2; omega
      simp only [decide_eq_false c2', Bool.not_false, if_true]
      rw [if_neg (fun x => c2 x.2.1)]; exact Ev.now
  · simp only [decide_eq_false (show ¬ (1 ≤ (rows.length : Int) ∧ (rows.length : Int) ≤ 6) by omega), Bool.not_false, Bool.not_true, gdf, Option.bind_some, Bool.true_or, if_true, Bool.false_eq_true, false_implies, Ng]
    rw [if_neg (fun x => c x.1)]; exact Ev.now
theorem O3 (rows : List (List Int)) : Ev (fun k => X0.f k rows) (if MOk rows then mm rows else M0) := by
  unfold X0.f
  refine Ev.bind (WM rows) ?_
  by_cases c : MOk rows
  · simp only [if_pos c, Option.isSome_none, Bool.false_eq_true, if_false]; exact Ev.now
  · simp only [if_neg c, Option.isSome_some, if_true, Ng]; exact Ev.now
theorem NK {n : Nat} (hn : n ≤ 36) : ∀ (d i : Nat), n = i + d → Ev (fun k => (Q6.hs k).l0 none (List.replicate n 0) (n : Int) (i : Int)) none
  | 0, i, e => by
    refine Ev.step (fun k => rfl) ?_
    simp only [Q6.hs, Q6.b0, if_neg (show ¬ (i : Int) < (n : Int) by omega)]; exact Ev.now
  | d + 1, i, e => by
    have ih := NK hn d (i + 1) (by omega)
    have hr : rd (List.replicate n (0 : Int)) (i : Int) = 0 := by rw [Jj (by rw [List.length_replicate]; omega), List.getElem_replicate]
    refine Ev.step (fun k => rfl) ?_
    simp only [Q6.hs, Q6.b0, if_pos (show (i : Int) < (n : Int) by omega), List.length_replicate, if_pos (show (0 : Int) ≤ (i : Int) ∧ (i : Int) < (n : Int) by omega), hr, if_true, wsucc (show i < 1000000000 by omega)]
    exact ih
theorem Z8 {rows : List (List Int)} (h : MOk rows) : Ev (fun k => Q6.f k (mm rows)) none := by
  have hb := Z1 h.1.2 h.2.1.2
  have hf := ZP rows h.2.2
  unfold Q6.f
  simp only [G1, Option.bind_some, show (mm rows).f_Rows = (rows.length : Int) from rfl, show (mm rows).f_Cols = (Cn rows : Int) from rfl, show (mm rows).f_A = T73.ofL (fl rows) from rfl, decide_eq_true (show 1 ≤ (rows.length : Int) ∧ (rows.length : Int) ≤ 6 by have := h.1; omega), decide_eq_true (show 1 ≤ (Cn rows : Int) ∧ (Cn rows : Int) ≤ 6 by have := h.2.1; omega), Bool.not_true, Bool.not_false, gdt, Option.bind_some, Bool.or_self, Bool.false_eq_true, if_false, wmul (show rows.length ≤ 7 by have := h.1; omega) h.2.1.2, if_pos (show (0 : Int) ≤ ((rows.length * Cn rows : Nat) : Int) ∧ ((rows.length * Cn rows : Nat) : Int) ≤ 36 ∧ (36 : Int) ≤ 36 by omega), T73.toL_ofL (MF (show rows.flatten.length ≤ 36 by omega)), WG h.2.2 hb, List.length_replicate]
  exact NK (by omega) (36 - rows.length * Cn rows) 0 (by omega)
theorem M2 (k : Nat) : Q6.f k M0 = some (some 1) := by
  unfold Q6.f
  simp only [G1, show M0.f_Rows = 0 from rfl, decide_eq_false (show ¬ (1 ≤ (0 : Int) ∧ (0 : Int) ≤ 6) by decide), Option.bind_some, Bool.not_false, Bool.not_true, gdf, Bool.true_or, if_true]
end Go.Proofs.YtkccpkccdbfomaaGreatDoor.Pure

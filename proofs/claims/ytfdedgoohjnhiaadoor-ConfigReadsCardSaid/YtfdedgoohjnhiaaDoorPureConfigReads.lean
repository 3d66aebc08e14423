/- The plain law of ConfigReads: the config of any bytes, as the document's, or the error. -/
import Derived.Test.YtfdedgoohjnhiaaDoorPureC3
namespace Go.Proofs.YtfdedgoohjnhiaaDoor.Pure
open Go.RowKit Go.Proofs.YtfdedgoohjnhiaaDoorK Go.Proofs.YtfdedgoohjnhiaaDoor.GCR
set_option linter.unusedVariables false
set_option linter.unusedSimpArgs false
set_option maxRecDepth 100000
theorem rdec_end {b : List Int} (hb : Byt b) (hl : b.length ≤ 1000000) {n : Nat} (hn : 1 ≤ n ∧ n ≤ 4) {a : Nat} (ha : 3 + 3 * n + n * n = a) :
    Ev (fun k => (radomeref30_Decode.hs k).l2 (n : Int) ((List.range (a + 14)).map (NB b)) (NB b 0) (NB b 1) (modsAt b n 3) (rowsAt b n n (3 + 3 * n)) 0 0 0 0 0 0 0 0 0 0 0 0 0 0 (a : Int) (n : Int)) (if cfgOk (cfgB b n 0) = true ∧ 0 ≤ NB b (a + 13) ∧ NB b (a + 13) ≤ 65535 then (cfgB b n (NB b (a + 13) % 65536), 0) else (cfg0, 1)) := by
  have hsq : n * n ≤ 16 := Nat.mul_le_mul hn.2 hn.2
  have hlen : (((List.range (a + 14)).map (NB b)).length : Int) = ((a + 14 : Nat) : Int) := by simp
  have w : ∀ j : Nat, j ≤ 13 → w64 ((a : Int) + (j : Int)) = ((a + j : Nat) : Int) := fun j hj => by rw [w64_id (by omega)]; omega
  have w1 : w64 ((a : Int) + 1) = ((a + 1 : Nat) : Int) := w 1 (by omega)
  have w2 : w64 ((a : Int) + 2) = ((a + 2 : Nat) : Int) := w 2 (by omega)
  have w3 : w64 ((a : Int) + 3) = ((a + 3 : Nat) : Int) := w 3 (by omega)
  have w4 : w64 ((a : Int) + 4) = ((a + 4 : Nat) : Int) := w 4 (by omega)
  have w5 : w64 ((a : Int) + 5) = ((a + 5 : Nat) : Int) := w 5 (by omega)
  have w6 : w64 ((a : Int) + 6) = ((a + 6 : Nat) : Int) := w 6 (by omega)
  have w7 : w64 ((a : Int) + 7) = ((a + 7 : Nat) : Int) := w 7 (by omega)
  have w8 : w64 ((a : Int) + 8) = ((a + 8 : Nat) : Int) := w 8 (by omega)
  have w9 : w64 ((a : Int) + 9) = ((a + 9 : Nat) : Int) := w 9 (by omega)
  have w10 : w64 ((a : Int) + 10) = ((a + 10 : Nat) : Int) := w 10 (by omega)
  have w11 : w64 ((a : Int) + 11) = ((a + 11 : Nat) : Int) := w 11 (by omega)
  have w12 : w64 ((a : Int) + 12) = ((a + 12 : Nat) : Int) := w 12 (by omega)
  have w13 : w64 ((a : Int) + 13) = ((a + 13 : Nat) : Int) := w 13 (by omega)
  have c : ∀ j : Nat, j ≤ 13 → ((0 : Int) ≤ ((a + j : Nat) : Int) ∧ ((a + j : Nat) : Int) < ((a + 14 : Nat) : Int)) := fun j hj => by omega
  have r : ∀ j : Nat, j ≤ 13 → rd ((List.range (a + 14)).map (NB b)) ((a + j : Nat) : Int) = NB b (a + j) := fun j hj => rd_range hb hl hn (by omega)
  have r0 : rd ((List.range (a + 14)).map (NB b)) (a : Int) = NB b a := r 0 (by omega)
  have c0 : (0 : Int) ≤ (a : Int) ∧ (a : Int) < ((a + 14 : Nat) : Int) := c 0 (by omega)
  refine Ev.step (fun k => rfl) ?_
  simp only [radomeref30_Decode.hs, radomeref30_Decode.b2, if_neg (show ¬ (n : Int) < (n : Int) by omega), hlen, w1, w2, w3, w4, w5, w6, w7, w8, w9, w10, w11, w12, w13, if_pos c0, if_pos (c 1 (by omega)), if_pos (c 2 (by omega)), if_pos (c 3 (by omega)), if_pos (c 4 (by omega)), if_pos (c 5 (by omega)), if_pos (c 6 (by omega)), if_pos (c 7 (by omega)), if_pos (c 8 (by omega)), if_pos (c 9 (by omega)), if_pos (c 10 (by omega)), if_pos (c 11 (by omega)), if_pos (c 12 (by omega)), if_pos (c 13 (by omega)), r0, r 1 (by omega), r 2 (by omega), r 3 (by omega), r 4 (by omega), r 5 (by omega), r 6 (by omega), r 7 (by omega), r 8 (by omega), r 9 (by omega), r 10 (by omega), r 11 (by omega), r 12 (by omega), r 13 (by omega), iff_true_intro (c 13 (by omega)), implies_true, if_true]
  subst ha
  refine Ev.bind (may_ev (cfgB b n 0)) ?_
  generalize hs : NB b (3 + 3 * n + n * n + 13) = src
  cases hc : cfgOk (cfgB b n 0) with
  | false => simp only [Bool.not_false, Bool.true_or, if_true, Bool.false_eq_true, false_and, if_false]; exact Ev.now
  | true =>
    simp only [Bool.not_true, Bool.false_or, true_and]
    by_cases h6 : 0 ≤ src ∧ src ≤ 65535
    · have e6 : (decide (src < 0) || decide (65535 < src)) = false := by simp; omega
      simp only [e6, Bool.false_eq_true, if_false, if_pos h6]; exact Ev.now
    · have e6 : (decide (src < 0) || decide (65535 < src)) = true := by
        refine Decidable.byContradiction fun hx => h6 ?_; rw [Bool.not_eq_true] at hx; simp at hx; omega
      simp only [e6, if_true, if_neg h6]; exact Ev.now
theorem rdec_ev {b : List Int} (hb : Byt b) : Ev (fun k => radomeref30_Decode.f k b) ((decB b).1, errN (decB b).2) := by
  unfold radomeref30_Decode.f decB
  by_cases h24 : b.length < 24
  · simp only [if_pos (show (b.length : Int) < 24 by omega), if_pos h24]; exact Ev.now
  · simp only [if_neg (show ¬ (b.length : Int) < 24 by omega), if_neg h24]
    refine Ev.bind (whole_ev hb (j := 2) (by omega) (by omega)) ?_
    by_cases h3 : 1 ≤ NB b 2 ∧ NB b 2 ≤ 4
    · have e3 : (decide (NB b 2 < 1) || decide (4 < NB b 2)) = false := by simp; omega
      simp only [e3, Bool.false_eq_true, if_false, if_neg (fun z => z h3 : ¬ ¬ (1 ≤ NB b 2 ∧ NB b 2 ≤ 4))]
      generalize hn : (NB b 2).toNat = n
      have hn2 : 1 ≤ n ∧ n ≤ 4 := by omega
      have hn3 : NB b 2 = (n : Int) := by omega
      have hsq : n * n ≤ 16 := Nat.mul_le_mul hn2.2 hn2.2
      rw [hn3]
      have e8 : w64 (8 * ((3 + 3 * n + n * n + 14 : Nat) : Int)) = ((8 * (3 + 3 * n + n * n + 14) : Nat) : Int) := by rw [w64_id (by omega)]; omega
      simp only [sq_eq hn2, e8]
      by_cases h4 : b.length < 8 * (3 + 3 * n + n * n + 14)
      · simp only [if_pos (show (b.length : Int) < ((8 * (3 + 3 * n + n * n + 14) : Nat) : Int) by omega), if_pos h4]; exact Ev.now
      · simp only [if_neg (show ¬ (b.length : Int) < ((8 * (3 + 3 * n + n * n + 14) : Nat) : Int) by omega), if_neg h4]
        by_cases h5 : 8 * (3 + 3 * n + n * n + 14) < b.length
        · simp only [if_pos (show ((8 * (3 + 3 * n + n * n + 14) : Nat) : Int) < (b.length : Int) by omega), if_pos h5]; exact Ev.now
        · simp only [if_neg (show ¬ ((8 * (3 + 3 * n + n * n + 14) : Nat) : Int) < (b.length : Int) by omega), if_neg h5]
          rw [show 3 + 3 * n + n * n + 14 - 1 = 3 + 3 * n + n * n + 13 by omega]
          have hl : b.length ≤ 1000000 := by omega
          have hend := rdec_end hb hl hn2 (a := 3 + 3 * n + n * n) rfl
          have e9 : ((if cfgOk (cfgB b n 0) = true ∧ 0 ≤ NB b (3 + 3 * n + n * n + 13) ∧ NB b (3 + 3 * n + n * n + 13) ≤ 65535 then (cfgB b n (NB b (3 + 3 * n + n * n + 13) % 65536), (none : Option Int)) else (cfg0, some 1)).1, errN (if cfgOk (cfgB b n 0) = true ∧ 0 ≤ NB b (3 + 3 * n + n * n + 13) ∧ NB b (3 + 3 * n + n * n + 13) ≤ 65535 then (cfgB b n (NB b (3 + 3 * n + n * n + 13) % 65536), (none : Option Int)) else (cfg0, some 1)).2) = (if cfgOk (cfgB b n 0) = true ∧ 0 ≤ NB b (3 + 3 * n + n * n + 13) ∧ NB b (3 + 3 * n + n * n + 13) ≤ 65535 then (cfgB b n (NB b (3 + 3 * n + n * n + 13) % 65536), (0 : Int)) else (cfg0, 1)) := by split <;> rfl
          rw [e9]
          exact rdec_l0 hb hl hn2 (T := 3 + 3 * n + n * n + 14) (by omega) (by omega) (rdec_l1 hb hl hn2 (by omega) (a := 3 + 3 * n + n * n) (by omega) rfl (fun c2 c3 h2 h3 => by rw [h2, h3]; exact hend) n 3 0 [] (by omega) rfl rfl rfl) (3 + 3 * n + n * n + 14) 0 (by omega)
    · have e3 : (decide (NB b 2 < 1) || decide (4 < NB b 2)) = true := by
        refine Decidable.byContradiction fun hx => h3 ?_; rw [Bool.not_eq_true] at hx; simp at hx; omega
      simp only [e3, if_true, if_pos h3]; exact Ev.now
/-! ### the numbers again -/
theorem nof_l1 {c : config_Config} (h : Few c) : ∀ (n i : Nat) (l : List Int), c.f_Imm.f_Rows.length = i + n → l.length ≤ 100 + 10 * i → Ev (fun k => (radomelaw30_numbersOf.hs k).l1 c.f_Sensor.f_Range c.f_Sensor.f_Turn c.f_Imm.f_Models c.f_Imm.f_Rows c.f_Imm.f_Floor c.f_Rule.f_Hits c.f_Rule.f_Window c.f_Rule.f_Misses c.f_Gate c.f_Miss c.f_Merge c.f_Fast c.f_Push c.f_Tracks c.f_From c.f_Least c.f_Most c.f_Source c.f_Gate c.f_Miss c.f_Merge c.f_Fast c.f_Push c.f_Tracks c.f_From c.f_Least c.f_Most c.f_Source l (i : Int)) (l ++ (c.f_Imm.f_Rows.drop i).flatten ++ tailN c)
  | 0, i, l, e, hl => by
    have := h.r
    refine Ev.step (fun k => rfl) ?_
    simp only [radomelaw30_numbersOf.hs, radomelaw30_numbersOf.b1, if_neg (show ¬ (i : Int) < (c.f_Imm.f_Rows.length : Int) by omega), List.length_append, List.length_cons, List.length_nil, if_pos (show l.length + (0 + 1 + 1 + 1 + 1) ≤ 17592186044288 by omega), if_pos (show l.length + (0 + 1 + 1 + 1 + 1) + (0 + 1 + 1 + 1 + 1 + 1 + 1 + 1 + 1 + 1 + 1) ≤ 17592186044288 by omega)]
    rw [List.drop_eq_nil_of_le (by omega), List.flatten_nil, List.append_nil, tailN, ← List.append_assoc]
    exact Ev.now
  | n + 1, i, l, e, hl => by
    have := h.r
    have hi : i < c.f_Imm.f_Rows.length := by omega
    have he := h.e _ (List.getElem_mem hi)
    refine Ev.step (fun k => rfl) ?_
    simp only [radomelaw30_numbersOf.hs, radomelaw30_numbersOf.b1, if_pos (show (i : Int) < (c.f_Imm.f_Rows.length : Int) by omega), if_pos (show (0 : Int) ≤ (i : Int) ∧ (i : Int) < (c.f_Imm.f_Rows.length : Int) by omega), rd_get hi, if_pos (show l.length + (c.f_Imm.f_Rows[i]).length ≤ 17592186044288 by omega), wsucc (show i < 1000000000 by omega)]
    have := nof_l1 h n (i + 1) (l ++ c.f_Imm.f_Rows[i]) (by omega) (by simp; omega)
    rw [drop_cons hi, List.flatten_cons, ← List.append_assoc]
    exact this
theorem nof_l0 {c : config_Config} (h : Few c) : ∀ (n i : Nat) (l : List Int), c.f_Imm.f_Models.length = i + n → l.length ≤ 3 + 3 * i → Ev (fun k => (radomelaw30_numbersOf.hs k).l0 c.f_Sensor.f_Range c.f_Sensor.f_Turn c.f_Imm.f_Models c.f_Imm.f_Rows c.f_Imm.f_Floor c.f_Rule.f_Hits c.f_Rule.f_Window c.f_Rule.f_Misses c.f_Gate c.f_Miss c.f_Merge c.f_Fast c.f_Push c.f_Tracks c.f_From c.f_Least c.f_Most c.f_Source c.f_Gate c.f_Miss c.f_Merge c.f_Fast c.f_Push c.f_Tracks c.f_From c.f_Least c.f_Most c.f_Source l (i : Int)) (l ++ ((c.f_Imm.f_Models.drop i).map mnum).flatten ++ c.f_Imm.f_Rows.flatten ++ tailN c)
  | 0, i, l, e, hl => by
    have := h.m
    refine Ev.step (fun k => rfl) ?_
    simp only [radomelaw30_numbersOf.hs, radomelaw30_numbersOf.b0, if_neg (show ¬ (i : Int) < (c.f_Imm.f_Models.length : Int) by omega)]
    rw [List.drop_eq_nil_of_le (by omega), List.map_nil, List.flatten_nil, List.append_nil]
    have := nof_l1 h c.f_Imm.f_Rows.length 0 l (by omega) (by omega)
    rw [List.drop_zero] at this
    exact this
  | n + 1, i, l, e, hl => by
    have := h.m
    have hi : i < c.f_Imm.f_Models.length := by omega
    refine Ev.step (fun k => rfl) ?_
    simp only [radomelaw30_numbersOf.hs, radomelaw30_numbersOf.b0, if_pos (show (i : Int) < (c.f_Imm.f_Models.length : Int) by omega), if_pos (show (0 : Int) ≤ (i : Int) ∧ (i : Int) < (c.f_Imm.f_Models.length : Int) by omega), rd_get hi, List.length_cons, List.length_nil, if_pos (show l.length + (0 + 1 + 1 + 1) ≤ 17592186044288 by omega), wsucc (show i < 1000000000 by omega)]
    have := nof_l0 h n (i + 1) (l ++ mnum c.f_Imm.f_Models[i]) (by omega) (by simp [mnum]; omega)
    rw [drop_cons hi, List.map_cons, List.flatten_cons, ← List.append_assoc]
    exact this
theorem nof_ev {c : config_Config} (h : Few c) : Ev (fun k => radomelaw30_numbersOf.f k c) (NM c) := by
  unfold radomelaw30_numbersOf.f
  have := nof_l0 h c.f_Imm.f_Models.length 0 [c.f_Sensor.f_Range, c.f_Sensor.f_Turn, (c.f_Imm.f_Models.length : Int)] (by omega) (by simp)
  rw [List.drop_zero] at this
  exact this
theorem dec_few (b : List Int) : Few (gc (decB b).1) := by
  have z : Few (gc cfg0) := ⟨by decide, by decide, fun x hx => by cases hx⟩
  unfold decB
  split
  · exact z
  · split
    · exact z
    · rename_i h3
      have h3 : 1 ≤ NB b 2 ∧ NB b 2 ≤ 4 := Decidable.byContradiction h3
      simp only []
      split
      · exact z
      · split
        · exact z
        · split
          · refine ⟨?_, ?_, fun x hx => ?_⟩
            · show ((modsAt b (NB b 2).toNat 3).map gm).length ≤ 10
              rw [List.length_map, modsAt_len]; omega
            · show (rowsAt b (NB b 2).toNat (NB b 2).toNat (3 + 3 * (NB b 2).toNat)).length ≤ 10
              rw [rowsAt_len]; omega
            · have := rowsAt_mem b (NB b 2).toNat _ _ x hx; omega
          · exact z
theorem ConfigReads : radomelaw30_ConfigReads.Pure := by
  intro b hb'
  have hb : Byt b := fun x hx => by simpa [Lit.wf, IntKind.min, IntKind.max, IntKind.signed, IntKind.bits] using hb'.2 x hx
  suffices h : Ev (fun k => radomelaw30_ConfigReads.f k b) true from h.ex
  unfold radomelaw30_ConfigReads.f
  refine Ev.bind (dec_ev hb (by omega)) (Ev.bind (rdec_ev hb) ?_)
  simp only [decide_true, gdt]
  have hf := dec_few b
  refine Ev.bind (nof_ev hf) (Ev.bind (rnum_ev hf) (Ev.bind (nums_ev (by have := NM_len hf; omega)) ?_))
  simp only [decide_true, Bool.and_self, gdt, Bool.true_and]
  exact Ev.bind sure_ev30 Ev.now
end Go.Proofs.YtfdedgoohjnhiaaDoor.Pure

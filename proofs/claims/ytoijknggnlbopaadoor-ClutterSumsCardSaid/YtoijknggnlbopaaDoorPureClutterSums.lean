/- The plain law of ClutterSums: what was added is all together, cell by cell; faded it is at most half; a turn of all by a part of a whole one turns the cells by one. -/
import Derived.Test.YtoijknggnlbopaaDoorPureCL1
namespace Go.Proofs.YtoijknggnlbopaaDoor.Pure
open Go.RowKit Go.Proofs.YtoijknggnlbopaaDoorK Go.Proofs.YtoijknggnlbopaaDoor.GCS
set_option linter.unusedVariables false
set_option linter.unusedSimpArgs false
set_option maxRecDepth 100000
theorem rd_set {l : List Int} {i j v : Int} (hi : 0 ≤ i ∧ i < (l.length : Int)) (hj : 0 ≤ j ∧ j < (l.length : Int)) : rd (l.set i.toNat v) j = if i = j then v else rd l j := by
  obtain ⟨p, rfl, hp⟩ := rd_nat hi
  obtain ⟨q, rfl, hq⟩ := rd_nat hj
  rw [rd_get (by rw [List.length_set]; exact hq), rd_get hq, Int.toNat_natCast, List.getElem_set]
  by_cases h : p = q
  · subst h; simp
  · rw [if_neg h, if_neg (by omega)]
structure SOk (R Q : Int) : Prop where
  r : 1 ≤ R ∧ R ≤ 8
  q : Q = 1 ∨ Q = 2 ∨ Q = 4 ∨ Q = 8 ∨ Q = 16
theorem SOk.m {R Q : Int} (h : SOk R Q) : MOk R Q 68719476736 := ⟨h.r.1, by have := h.r; omega, by rcases h.q with h | h | h | h | h <;> subst h <;> rfl, by omega, by omega⟩
/-- The one map's cells are the other one's, a part further. -/
def Tw (R Q : Int) (ms ns : List Int) : Prop := ∀ x y, 0 ≤ x ∧ x < R → 0 ≤ y ∧ y < Q → rd ns (x * Q + (y + 1) % Q) = rd ms (x * Q + y)
theorem turn_eq {Q a : Int} (h : Q = 1 ∨ Q = 2 ∨ Q = 4 ∨ Q = 8 ∨ Q = 16) (ha : 0 ≤ a ∧ a ≤ 65535) : (a + (Int.tmod (w64 (Int.tdiv 65536 Q)) 65536) % 65536) % 65536 * Q / 65536 = (a * Q / 65536 + 1) % Q := by
  rcases h with h | h | h | h | h <;> subst h
  · rw [show (Int.tmod (w64 (Int.tdiv 65536 1)) 65536) % 65536 = 0 by decide]; omega
  · rw [show (Int.tmod (w64 (Int.tdiv 65536 2)) 65536) % 65536 = 32768 by decide]; omega
  · rw [show (Int.tmod (w64 (Int.tdiv 65536 4)) 65536) % 65536 = 16384 by decide]; omega
  · rw [show (Int.tmod (w64 (Int.tdiv 65536 8)) 65536) % 65536 = 8192 by decide]; omega
  · rw [show (Int.tmod (w64 (Int.tdiv 65536 16)) 65536) % 65536 = 4096 by decide]; omega
theorem inj_eq {Q x y x' y' : Int} (h : Q = 1 ∨ Q = 2 ∨ Q = 4 ∨ Q = 8 ∨ Q = 16) (hy : 0 ≤ y ∧ y < Q) (hy' : 0 ≤ y' ∧ y' < Q) : (x' * Q + (y' + 1) % Q = x * Q + (y + 1) % Q) ↔ (x' * Q + y' = x * Q + y) := by
  rcases h with h | h | h | h | h <;> subst h <;> omega
theorem mod_lt {Q y : Int} (h : Q = 1 ∨ Q = 2 ∨ Q = 4 ∨ Q = 8 ∨ Q = 16) : 0 ≤ (y + 1) % Q ∧ (y + 1) % Q < Q := by
  rcases h with h | h | h | h | h <;> subst h <;> omega
theorem Tw.add {R Q x y : Int} {ms ns : List Int} (h : Tw R Q ms ns) (hS : SOk R Q) (hm : (ms.length : Int) = R * Q) (hn : (ns.length : Int) = R * Q) (hx : 0 ≤ x ∧ x < R) (hy : 0 ≤ y ∧ y < Q) :
    Tw R Q (ms.set (x * Q + y).toNat (rd ms (x * Q + y) + 1)) (ns.set (x * Q + (y + 1) % Q).toNat (rd ns (x * Q + (y + 1) % Q) + 1)) := by
  intro x' y' hx' hy'
  have h1 := mul_ix hx hy; have h2 := mul_ix hx' hy'; have h3 := mul_ix hx (mod_lt (y := y) hS.q); have h4 := mul_ix hx' (mod_lt (y := y') hS.q)
  rw [rd_set (by omega) (by omega), rd_set (by omega) (by omega), h x' y' hx' hy', h x y hx hy]
  have := inj_eq (x := x') (x' := x) hS.q hy' hy
  by_cases e : x * Q + y = x' * Q + y'
  · rw [if_pos e, if_pos (this.2 e), e]
  · rw [if_neg e, if_neg (fun z => e (this.1 z))]
theorem sm_half : ∀ {cs : List Int} {B : Int}, Bd cs B → 0 ≤ sm (cs.map (· / 2)) ∧ 2 * sm (cs.map (· / 2)) ≤ sm cs
  | [], _, _ => by simp [sm]
  | x :: cs, B, h => by
    have h1 := h x (List.mem_cons_self ..)
    have h2 := sm_half (cs := cs) fun y hy => h y (List.mem_cons_of_mem _ hy)
    simp only [List.map_cons, sm]; omega
section
variable {R Q : Int} {l : List radomeref10_Plot}
theorem sums_end (hS : SOk R Q) {ms ns : List Int} (hm : (ms.length : Int) = R * Q) (hb : Bd ms 60) : Ev (fun k => (radomelaw37_ClutterSums.hs k).l1 false R Q R Q 68719476736 ms R Q 68719476736 ns (sm ms) (sm ms) R) true := by
  have hlen : ms.length ≤ 16384 := by have := RQ hS.m; omega
  have h1 := sm_half hb
  have h2 := sm_bd hb
  have h3 : 60 * (ms.length : Int) ≤ 60 * 16384 := Int.mul_le_mul_of_nonneg_left (by omega) (by omega)
  have h4 := sm_bd (bd_half hb (by omega))
  refine Ev.step (fun k => rfl) ?_
  simp only [radomelaw37_ClutterSums.hs, radomelaw37_ClutterSums.b1, if_neg (show ¬ R < R by omega), decide_true, Bool.not_true, Bool.not_false, gdt, Bool.false_or]
  refine Ev.bind (total_ev hb (by omega) (by omega) hlen) ?_
  simp only [decide_true, Bool.not_true, Bool.false_eq_true, if_false]
  refine Ev.bind (fade_ev hb (by omega) hlen) (Ev.bind (total_ev (bd_half hb (by omega)) (by omega) (by omega) (by rw [List.length_map]; exact hlen)) ?_)
  simp only [w64_id (show -9223372036854775808 ≤ 2 * sm (ms.map (· / 2)) ∧ 2 * sm (ms.map (· / 2)) ≤ 9223372036854775807 by omega), decide_eq_true h1.2, gdt]
  refine Ev.bind (total_ev (bd_half hb (by omega)) (by omega) (by omega) (by rw [List.length_map]; exact hlen)) ?_
  simp only [decide_eq_true h1.1, Bool.and_self, gdt, Bool.true_and]
  exact Ev.bind sure_ev37 Ev.now
theorem sums_l12 (hS : SOk R Q) {ms ns : List Int} (hm : (ms.length : Int) = R * Q) (hn : (ns.length : Int) = R * Q) (hb : Bd ms 60) (hT : Tw R Q ms ns) :
    ∀ (n r a : Nat), R = (r : Int) + n → (a : Int) ≤ Q → ∀ (j : Nat), (j : Int) = r * Q + a →
      (Ev (fun k => (radomelaw37_ClutterSums.hs k).l1 false R Q R Q 68719476736 ms R Q 68719476736 ns (sm ms) (sm (ms.take j)) (r : Int)) true ∨ ¬ a = 0) ∧
      ((r : Int) < R → Ev (fun k => (radomelaw37_ClutterSums.hs k).l2 false R Q R Q 68719476736 ms R Q 68719476736 ns (sm ms) (sm (ms.take j)) (r : Int) (a : Int)) true) := by
  have hlen : ms.length ≤ 16384 := by have := RQ hS.m; omega
  have hq := hS.m.q0
  intro n
  induction n with
  | zero =>
    intro r a hr ha j hj
    refine ⟨?_, fun h => by omega⟩
    by_cases h0 : a = 0
    · left
      subst h0
      have : R = (r : Int) := by omega
      rw [← this] at hj ⊢
      rw [List.take_of_length_le (by omega)]
      exact sums_end hS hm hb
    · exact .inr h0
  | succ n ih =>
    intro r a hr ha j hj
    have key : ∀ (m a : Nat) (j : Nat), Q = (a : Int) + m → (j : Int) = r * Q + a → Ev (fun k => (radomelaw37_ClutterSums.hs k).l2 false R Q R Q 68719476736 ms R Q 68719476736 ns (sm ms) (sm (ms.take j)) (r : Int) (a : Int)) true := by
      intro m
      induction m with
      | zero =>
        intro a j hqa hj
        refine Ev.step (fun k => rfl) ?_
        simp only [radomelaw37_ClutterSums.hs, radomelaw37_ClutterSums.b2, if_neg (show ¬ (a : Int) < Q by omega), wsucc (show r < 1000000000 by have := hS.r; omega)]
        have := (ih (r + 1) 0 (by omega) (by omega) j (by
          rw [hj, show ((r + 1 : Nat) : Int) = (r : Int) + 1 by omega, Int.add_mul]; omega)).1
        exact this.resolve_right (by simp)
      | succ m ihm =>
        intro a j hqa hj
        have hr' : 0 ≤ (r : Int) ∧ (r : Int) < R := by omega
        have ha' : 0 ≤ (a : Int) ∧ (a : Int) < Q := by omega
        have hix := mul_ix hr' ha'
        have hjl : j < ms.length := by omega
        have h1 := sm_bd (hb.take (j + 1)); have h2 : ((ms.take (j + 1)).length : Int) ≤ 16384 := by simp; omega
        have h3 : 60 * ((ms.take (j + 1)).length : Int) ≤ 60 * 16384 := Int.mul_le_mul_of_nonneg_left h2 (by omega)
        have e1 : Int.tmod (((a + 1 : Nat)) : Int) Q = ((a : Int) + 1) % Q := by rw [Int.tmod_eq_emod_of_nonneg (by omega)]; rfl
        refine Ev.step (fun k => rfl) ?_
        simp only [radomelaw37_ClutterSums.hs, radomelaw37_ClutterSums.b2, if_pos ha'.2, at_ok _ hS.m hm hr' ha', Option.bind_some, if_pos (show Q ≠ 0 by omega), e1, at_ok _ hS.m hn hr' (mod_lt (y := (a : Int)) hS.q), hT _ _ hr' ha', Option.isSome_none, decide_true, Bool.not_true, Bool.or_self, Bool.false_eq_true, if_false, wsucc (show a < 1000000000 by omega)]
        rw [← hj, rd_get hjl, ← sm_take hjl, w64_id (by omega)]
        exact ihm (a + 1) (j + 1) (by omega) (by omega)
    refine ⟨?_, fun _ => key (Q - a).toNat a j (by omega) hj⟩
    by_cases h0 : a = 0
    · left
      subst h0
      refine Ev.step (fun k => rfl) ?_
      simp only [radomelaw37_ClutterSums.hs, radomelaw37_ClutterSums.b1, if_pos (show (r : Int) < R by omega)]
      exact key Q.toNat 0 j (by omega) hj
    · exact .inr h0
theorem sums_tail (hS : SOk R Q) {ms ns : List Int} (hm : (ms.length : Int) = R * Q) (hn : (ns.length : Int) = R * Q) (hb : Bd ms 60) (hT : Tw R Q ms ns) : Ev (fun k => (radomelaw37_ClutterSums.hs k).l1 false R Q R Q 68719476736 ms R Q 68719476736 ns (sm ms) 0 0) true := by
  have := (sums_l12 hS hm hn hb hT R.toNat 0 0 (by have := hS.r; omega) (by have := hS.m.q0; omega) 0 (by simp)).1
  exact this.resolve_right (by simp)
theorem sums_l0 (hS : SOk R Q) (hA : ∀ x ∈ l, (-9223372036854775808 ≤ x.f_Range ∧ x.f_Range ≤ 9223372036854775807) ∧ (0 ≤ x.f_Azimuth ∧ x.f_Azimuth ≤ 65535)) : ∀ (n i : Nat) (ms ns : List Int), 60 = i + n → (ms.length : Int) = R * Q → (ns.length : Int) = R * Q → Bd ms (i : Int) → Bd ns (i : Int) → Tw R Q ms ns →
    Ev (fun k => (radomelaw37_ClutterSums.hs k).l0 l false R Q R Q 68719476736 ms R Q 68719476736 ns (sm ms) (i : Int)) true := by
  have hM := hS.m
  intro n
  induction n with
  | zero =>
    intro i ms ns e hm hn hbm hbn hT
    refine Ev.step (fun k => rfl) ?_
    simp only [radomelaw37_ClutterSums.hs, radomelaw37_ClutterSums.b0, decide_eq_false (show ¬ (i : Int) < 60 by omega), Bool.and_false, Bool.false_eq_true, if_false]
    exact sums_tail hS hm hn (hbm.mono (by omega)) hT
  | succ n ih =>
    intro i ms ns e hm hn hbm hbn hT
    by_cases hi : i < l.length
    · have hA' := hA _ (List.getElem_mem hi)
      have hi' : (0 : Int) ≤ (i : Int) ∧ (i : Int) < (l.length : Int) := by omega
      have hq := hM.q0
      have hlen : ms.length ≤ 16384 := by have := RQ hM; omega
      refine Ev.step (fun k => rfl) ?_
      simp only [radomelaw37_ClutterSums.hs, radomelaw37_ClutterSums.b0, decide_eq_true (show (i : Int) < (l.length : Int) by omega), decide_eq_true (show (i : Int) < 60 by omega), Bool.and_self, if_true, if_pos hi', rd_get hi, if_pos (show Q ≠ 0 by omega), wsucc (show i < 1000000000 by omega)]
      generalize l[i] = x at *
      obtain ⟨r, a, t⟩ := x
      obtain ⟨hr, ha⟩ := hA'
      have ht := turn_eq hS.q ha
      simp only at ht ⊢
      have ha2 : 0 ≤ (a + (Int.tmod (w64 (Int.tdiv 65536 Q)) 65536) % 65536) % 65536 ∧ (a + (Int.tmod (w64 (Int.tdiv 65536 Q)) 65536) % 65536) % 65536 ≤ 65535 := by omega
      generalize (a + (Int.tmod (w64 (Int.tdiv 65536 Q)) 65536) % 65536) % 65536 = a' at ht ha2 ⊢
      by_cases hr0 : r < 0 ∨ R * 68719476736 ≤ r
      · simp only [add_bad _ hM hr0 hr.2, Option.bind_some, decide_true, Bool.not_true, Option.isSome_some, Option.isNone_some, show (decide (errN (some 5) = 5)) = true from rfl, Bool.and_false, Bool.or_self, Bool.false_eq_true, if_false]
        exact ih (i + 1) ms ns (by omega) hm hn (hbm.mono (by omega)) (hbn.mono (by omega)) hT
      · have hin : In_ R Q 68719476736 r a := ⟨hM, by omega, ha⟩
        have hin2 : In_ R Q 68719476736 r a' := ⟨hM, by omega, ha2⟩
        have h1 := hin.ix; have h2 := hin2.ix; have hp := part_lt ha hq
        obtain ⟨j, hj, hj2⟩ := rd_nat (cs := ms) (x := ixo Q 68719476736 r a) (by omega)
        obtain ⟨j', hj', hj2'⟩ := rd_nat (cs := ns) (x := ixo Q 68719476736 r a') (by omega)
        have hbj := hbm.get hj2; have hbj' := hbn.get hj2'
        have hv : 0 ≤ rd ms (ixo Q 68719476736 r a) + 1 ∧ rd ms (ixo Q 68719476736 r a) + 1 ≤ (i : Int) + 1 := by rw [← hj, rd_get hj2]; omega
        have hv' : 0 ≤ rd ns (ixo Q 68719476736 r a') + 1 ∧ rd ns (ixo Q 68719476736 r a') + 1 ≤ (i : Int) + 1 := by rw [← hj', rd_get hj2']; omega
        have hs : sm (ms.set (ixo Q 68719476736 r a).toNat (rd ms (ixo Q 68719476736 r a) + 1)) = sm ms + 1 := by
          rw [← hj, Int.toNat_natCast, rd_get hj2, sm_set hj2]; omega
        have hsb := sm_bd hbm
        have hsb2 : (i : Int) * (ms.length : Int) ≤ 60 * 16384 := Int.mul_le_mul (by omega) (by omega) (by omega) (by omega)
        have hix' : ixo Q 68719476736 r a' = r / 68719476736 * Q + (a * Q / 65536 + 1) % Q := by unfold ixo; rw [ht]
        have hT2 := hT.add hS hm hn hin.ring hp.2.2
        rw [show r / 68719476736 * Q + a * Q / 65536 = ixo Q 68719476736 r a from rfl, ← hix'] at hT2
        simp only [add_ok _ hin hr.2 hm hbm (show (i : Int) ≤ 1000000 by omega), add_ok _ hin2 hr.2 hn hbn (show (i : Int) ≤ 1000000 by omega), Option.bind_some, decide_true, Bool.not_true, Option.isSome_none, Option.isNone_none, Bool.false_and, Bool.or_self, Bool.false_eq_true, if_false, if_true, w64_id (show -9223372036854775808 ≤ sm ms + 1 ∧ sm ms + 1 ≤ 9223372036854775807 by omega)]
        rw [← hs]
        exact ih (i + 1) _ _ (by omega) (by rw [List.length_set]; exact hm) (by rw [List.length_set]; exact hn) ((hbm.mono (by omega)).set _ hv) ((hbn.mono (by omega)).set _ hv') hT2
    · refine Ev.step (fun k => rfl) ?_
      simp only [radomelaw37_ClutterSums.hs, radomelaw37_ClutterSums.b0, decide_eq_false (show ¬ (i : Int) < (l.length : Int) by omega), Bool.false_and, Bool.false_eq_true, if_false]
      exact sums_tail hS hm hn (hbm.mono (by omega)) hT
end
theorem sm_zero (n : Nat) : sm (List.replicate n 0) = 0 := by
  induction n with
  | zero => rfl
  | succ n ih => rw [List.replicate_succ, sm, ih]; rfl
theorem rd_zero {n : Nat} {x : Int} (h : 0 ≤ x ∧ x < (n : Int)) : rd (List.replicate n (0 : Int)) x = 0 := by
  obtain ⟨j, rfl, hj⟩ := rd_nat (cs := List.replicate n 0) (x := x) (by rw [List.length_replicate]; exact h)
  rw [rd_get hj]; simp
theorem ClutterSums : radomelaw37_ClutterSums.Pure := by
  intro of_ l _ hl
  have hA : ∀ x ∈ l, (-9223372036854775808 ≤ x.f_Range ∧ x.f_Range ≤ 9223372036854775807) ∧ (0 ≤ x.f_Azimuth ∧ x.f_Azimuth ≤ 65535) := fun x hx => by
    have := hl.2 x hx
    exact ⟨i64_wf this.1, u16_wf this.2.1⟩
  obtain ⟨p, q⟩ := of_
  suffices h : Ev (fun k => radomelaw37_ClutterSums.f k ⟨p, q⟩ l) true from h.ex
  unfold radomelaw37_ClutterSums.f
  have t1 : Int.tmod (p % 18446744073709551616) 8 = (p % 18446744073709551616) % 8 := Int.tmod_eq_emod_of_nonneg (by omega)
  have t2 : Int.tmod (q % 18446744073709551616) 5 = (q % 18446744073709551616) % 5 := Int.tmod_eq_emod_of_nonneg (by omega)
  simp only [t1, t2]
  generalize hR : (p % 18446744073709551616) % 8 = a0
  generalize hQ : (q % 18446744073709551616) % 5 = b0
  have ha0 : 0 ≤ a0 ∧ a0 < 8 := by omega
  have hb0 : 0 ≤ b0 ∧ b0 < 5 := by omega
  rw [w64_id (show -9223372036854775808 ≤ a0 ∧ a0 ≤ 9223372036854775807 by omega), w64_id (show -9223372036854775808 ≤ b0 ∧ b0 ≤ 9223372036854775807 by omega), w64_id (show -9223372036854775808 ≤ 1 + a0 ∧ 1 + a0 ≤ 9223372036854775807 by omega)]
  simp only [if_pos hb0.1]
  have hQ2 : w64 (1 * 2 ^ shn .i64 b0) = 1 ∨ w64 (1 * 2 ^ shn .i64 b0) = 2 ∨ w64 (1 * 2 ^ shn .i64 b0) = 4 ∨ w64 (1 * 2 ^ shn .i64 b0) = 8 ∨ w64 (1 * 2 ^ shn .i64 b0) = 16 := by
    rcases (show b0 = 0 ∨ b0 = 1 ∨ b0 = 2 ∨ b0 = 3 ∨ b0 = 4 by omega) with h | h | h | h | h <;> subst h
    · exact .inl (by decide)
    · exact .inr (.inl (by decide))
    · exact .inr (.inr (.inl (by decide)))
    · exact .inr (.inr (.inr (.inl (by decide))))
    · exact .inr (.inr (.inr (.inr (by decide))))
  generalize w64 (1 * 2 ^ shn .i64 b0) = Q at hQ2 ⊢
  have hS : SOk (1 + a0) Q := ⟨by omega, hQ2⟩
  have hRQ := RQ hS.m
  simp only [new_ok _ hS.m, Option.bind_some, oe, Option.isSome_none, Bool.or_self, Bool.false_eq_true, if_false]
  have hlen : ((List.replicate ((1 + a0) * Q).toNat (0 : Int)).length : Int) = (1 + a0) * Q := by rw [List.length_replicate]; omega
  have := sums_l0 hS hA 60 0 _ _ rfl hlen hlen (bd_zero _) (bd_zero _) (fun x y hx hy => by
    have h1 := mul_ix hx hy; have h2 := mul_ix hx (mod_lt (y := y) hS.q)
    rw [rd_zero (by omega), rd_zero (by omega)])
  rw [sm_zero] at this
  exact this
end Go.Proofs.YtoijknggnlbopaaDoor.Pure

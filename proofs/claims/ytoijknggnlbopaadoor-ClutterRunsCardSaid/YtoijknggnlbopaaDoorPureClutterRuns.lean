/- The plain law of ClutterRuns: whatever plots come, and is forgotten, by any map: each plot's cell, how many came from it, and all together; or the errors; nothing of a nil one. -/
import Derived.Test.YtoijknggnlbopaaDoorPureCL1
namespace Go.Proofs.YtoijknggnlbopaaDoor.Pure
open Go.RowKit Go.Proofs.YtoijknggnlbopaaDoorK Go.Proofs.YtoijknggnlbopaaDoor.GCR
set_option linter.unusedVariables false
set_option linter.unusedSimpArgs false
set_option maxRecDepth 100000
def pwn (q : Int) : Nat → Bool
  | 0 => false
  | n + 1 => pwn q n || decide (q = 2 ^ n)
theorem may_step {R Q W n : Int} {ok : Bool} {r : Bool} (hn : 1 ≤ n ∧ n ≤ 256) (h : Ev (fun k => (radomeref37_May.hs k).l0 R Q W (ok || decide (Q = n)) (2 * n)) r) : Ev (fun k => (radomeref37_May.hs k).l0 R Q W ok n) r := by
  refine Ev.step (fun k => rfl) ?_
  simp only [radomeref37_May.hs, radomeref37_May.b0, if_pos hn.2, w64_id (show -9223372036854775808 ≤ 2 * n ∧ 2 * n ≤ 9223372036854775807 by omega)]
  exact h
theorem may_ev (R Q W : Int) : Ev (fun k => radomeref37_May.f k R Q W) (mayB R Q W) := by
  unfold radomeref37_May.f
  refine may_step (by omega) (may_step (by omega) (may_step (by omega) (may_step (by omega) (may_step (by omega) (may_step (by omega) (may_step (by omega) (may_step (by omega) (may_step (by omega) ?_))))))))
  refine Ev.step (fun k => rfl) ?_
  simp only [radomeref37_May.hs, radomeref37_May.b0, if_neg (show ¬ (2 * (2 * (2 * (2 * (2 * (2 * (2 * (2 * (2 * 1)))))))) : Int) ≤ 256 by omega)]
  exact Ev.now
def ActOk (x : radomelaw37_Act) : Prop := (-9223372036854775808 ≤ x.f_P.f_Range ∧ x.f_P.f_Range ≤ 9223372036854775807) ∧ (0 ≤ x.f_P.f_Azimuth ∧ x.f_P.f_Azimuth ≤ 65535)
section
variable {R Q W : Int} {l : List radomelaw37_Act}
/-- The rest of a round, once all has been summed. -/
theorem round_l2 (hM : MOk R Q W) {cs : List Int} {i : Nat} {r a t : Int} {x y bad : Int} (hr2 : r ≤ 9223372036854775807) (hl : (cs.length : Int) = R * Q) (hb : Bd cs ((i : Int) + 1)) (hi : i < 40)
    (hc : ((r < 0 ∨ R * W ≤ r) ∧ bad = 5) ∨ (In_ R Q W r a ∧ x = r / W ∧ y = a * Q / 65536 ∧ bad = 0))
    (h : Ev (fun k => (radomelaw37_ClutterRuns.hs k).l0 W l R Q false R Q W cs cs ((i + 1 : Nat) : Int)) true) :
    ∀ (n j : Nat), cs.length = j + n → Ev (fun k => (radomelaw37_ClutterRuns.hs k).l2 W l R Q false R Q W cs cs (i : Int) r a t x y bad (sm (cs.take j)) (j : Int)) true
  | 0, j, e => by
    have hlen : cs.length ≤ 16384 := by have := RQ hM; omega
    refine Ev.step (fun k => rfl) ?_
    simp only [radomelaw37_ClutterRuns.hs, radomelaw37_ClutterRuns.b2, if_neg (show ¬ (j : Int) < (cs.length : Int) by omega), List.take_of_length_le (show cs.length ≤ j by omega)]
    rcases hc with ⟨hc, rfl⟩ | ⟨hc, rfl, rfl, rfl⟩
    · simp only [dense_bad _ hM hc hr2, Option.bind_some]
      refine Ev.bind (total_ev hb (by omega) (by omega) hlen) ?_
      simp only [decide_true, Bool.not_true, show (decide (errN (some 5) = 5)) = true from rfl, Bool.or_self, Bool.false_eq_true, if_false, if_neg (show ¬ (5 : Int) = 0 by omega), wsucc (show i < 1000000000 by omega)]
      exact h
    · have hix := hc.ix
      have hp := part_lt hc.a hM.q0
      simp only [dense_ok _ hc hr2 hl, Option.bind_some]
      refine Ev.bind (total_ev hb (by omega) (by omega) hlen) ?_
      simp only [decide_true, Bool.not_true, show (decide (errN none = 0)) = true from rfl, Bool.or_self, Bool.false_eq_true, if_false, if_true, at_ok _ hM hl hc.ring hp.2.2, Option.bind_some, ix_w hM hc.ring hp.2.2, Option.isSome_none, beq_self_eq_true, wsucc (show i < 1000000000 by omega)]
      rw [show r / W * Q + a * Q / 65536 = ixo Q W r a from rfl]
      simp only [if_pos (show (!false) = true → (0 : Int) ≤ ixo Q W r a ∧ ixo Q W r a < (cs.length : Int) from fun _ => by omega), beq_self_eq_true, decide_true, Bool.not_true, Bool.or_self, Bool.false_eq_true, if_false]
      exact h
  | n + 1, j, e => by
    have hj : j < cs.length := by omega
    have hlen : cs.length ≤ 16384 := by have := RQ hM; omega
    have h1 := sm_bd (hb.take (j + 1)); have h2 : ((cs.take (j + 1)).length : Int) ≤ 16384 := by simp; omega
    have h3 : ((i : Int) + 1) * ((cs.take (j + 1)).length : Int) ≤ 1000000 * 16384 := Int.mul_le_mul (by omega) h2 (by omega) (by omega)
    refine Ev.step (fun k => rfl) ?_
    simp only [radomelaw37_ClutterRuns.hs, radomelaw37_ClutterRuns.b2, if_pos (show (j : Int) < (cs.length : Int) by omega), if_pos (show (0 : Int) ≤ (j : Int) ∧ (j : Int) < (cs.length : Int) by omega), rd_get hj, wsucc (show j < 1000000000 by omega)]
    rw [← sm_take hj, w64_id (by omega)]
    exact round_l2 hM hr2 hl hb hi hc h n (j + 1) (by omega)
theorem round_l1 (hM : MOk R Q W) {cs : List Int} {i : Nat} {r a t : Int} {x y bad : Int} (hr2 : r ≤ 9223372036854775807) (hl : (cs.length : Int) = R * Q) (hb : Bd cs (i : Int)) (hi : i < 40)
    (hc : ((r < 0 ∨ R * W ≤ r) ∧ bad = 5) ∨ (In_ R Q W r a ∧ x = r / W ∧ y = a * Q / 65536 ∧ bad = 0))
    (h : Ev (fun k => (radomelaw37_ClutterRuns.hs k).l0 W l R Q false R Q W (cs.map (· / 2)) (cs.map (· / 2)) ((i + 1 : Nat) : Int)) true) :
    ∀ (n j : Nat), cs.length = j + n → Ev (fun k => (radomelaw37_ClutterRuns.hs k).l1 W l R Q false R Q W (cs.map (· / 2)) (hv cs j) (i : Int) r a t x y bad (j : Int)) true
  | 0, j, e => by
    refine Ev.step (fun k => rfl) ?_
    simp only [radomelaw37_ClutterRuns.hs, radomelaw37_ClutterRuns.b1, hv_len, if_neg (show ¬ (j : Int) < (cs.length : Int) by omega), radomelaw37_ClutterRuns.j2]
    rw [show j = cs.length by omega, hv_all]
    exact round_l2 hM hr2 (by rw [List.length_map]; exact hl) ((bd_half hb (by omega)).mono (by omega)) hi hc h (cs.map (· / 2)).length 0 (by omega)
  | n + 1, j, e => by
    have hj : j < cs.length := by omega
    have hj2 : j < (hv cs j).length := by rw [hv_len]; exact hj
    refine Ev.step (fun k => rfl) ?_
    simp only [radomelaw37_ClutterRuns.hs, radomelaw37_ClutterRuns.b1, if_pos (show (j : Int) < ((hv cs j).length : Int) by omega), if_pos (show (0 : Int) ≤ (j : Int) ∧ (j : Int) < ((hv cs j).length : Int) by omega), rd_get hj2, hv_get hj, half_eq (hb.get hj) (show (i : Int) ≤ 1000000 by omega), Int.toNat_natCast, hv_set hj, wsucc (show j < 1000000000 by have := RQ hM; omega)]
    exact round_l1 hM hr2 hl hb hi hc h n (j + 1) (by omega)
theorem runs_l0 (hM : MOk R Q W) (hA : ∀ x ∈ l, ActOk x) : ∀ (n i : Nat) (cs : List Int), 40 = i + n → (cs.length : Int) = R * Q → Bd cs (i : Int) → Ev (fun k => (radomelaw37_ClutterRuns.hs k).l0 W l R Q false R Q W cs cs (i : Int)) true := by
  intro n
  induction n with
  | zero =>
    intro i cs e hl hb
    have := hM.r1; have := hM.q0
    refine Ev.step (fun k => rfl) ?_
    simp only [radomelaw37_ClutterRuns.hs, radomelaw37_ClutterRuns.b0, decide_eq_false (show ¬ (i : Int) < 40 by omega), Bool.and_false, Bool.false_eq_true, if_false, at_bad _ (show R < 0 ∨ R ≤ R ∨ (0 : Int) < 0 ∨ Q ≤ 0 by omega), at_bad _ (show (0 : Int) < 0 ∨ R ≤ 0 ∨ (-1 : Int) < 0 ∨ Q ≤ -1 by omega), Option.bind_some, show (decide (errN (some 1) = 1)) = true from rfl, Bool.and_self, gdt, Bool.true_and]
    exact Ev.bind sure_ev37 Ev.now
  | succ n ih =>
    intro i cs e hl hb
    have := hM.r1; have := hM.q0
    have hlen : cs.length ≤ 16384 := by have := RQ hM; omega
    by_cases hi : i < l.length
    · have hA' := hA _ (List.getElem_mem hi)
      have hi' : (0 : Int) ≤ (i : Int) ∧ (i : Int) < (l.length : Int) := by omega
      refine Ev.step (fun k => rfl) ?_
      simp only [radomelaw37_ClutterRuns.hs, radomelaw37_ClutterRuns.b0, decide_eq_true (show (i : Int) < (l.length : Int) by omega), decide_eq_true (show (i : Int) < 40 by omega), Bool.and_self, if_true, if_pos hi', rd_get hi]
      generalize l[i] = x at *
      obtain ⟨kd, r, a, t⟩ := x
      obtain ⟨hr, ha⟩ := hA'
      have ht : w64 (Int.tmod (kd % 18446744073709551616) 6) = kd % 18446744073709551616 % 6 := by rw [Int.tmod_eq_emod_of_nonneg (by omega), w64_id (by omega)]
      by_cases hr0 : r < 0 ∨ R * W ≤ r
      · simp only [cell_bad _ hM hr0 hr.2, rcell_bad _ hM hr0, Option.bind_some, decide_true, show (decide (errN (some 5) = 5)) = true from rfl, Bool.not_true, Bool.or_self, Bool.false_eq_true, if_false, ht]
        by_cases hk : kd % 18446744073709551616 % 6 < 5
        · simp only [if_pos hk, add_bad _ hM hr0 hr.2, Option.bind_some, if_pos (show errN (some 5) = 5 from rfl), if_neg (show ¬ (5 : Int) = 0 by omega), radomelaw37_ClutterRuns.j2]
          exact round_l2 hM hr.2 hl (hb.mono (by omega)) (by omega) (.inl ⟨hr0, rfl⟩) (ih (i + 1) cs (by omega) hl (hb.mono (by omega))) cs.length 0 (by omega)
        · simp only [if_neg hk]
          refine Ev.bind (fade_ev hb (by omega) hlen) ?_
          exact round_l1 hM hr.2 hl hb (by omega) (.inl ⟨hr0, rfl⟩) (ih (i + 1) _ (by omega) (by rw [List.length_map]; exact hl) ((bd_half hb (by omega)).mono (by omega))) cs.length 0 (by omega)
      · have hin : In_ R Q W r a := ⟨hM, by omega, ha⟩
        have hix := hin.ix; have hp := part_lt ha hM.q0
        simp only [cell_ok _ hin hr.2, rcell_ok _ hin hr.2, Option.bind_some, decide_true, show (decide (errN none = 0)) = true from rfl, Bool.not_true, Bool.or_self, Bool.false_eq_true, if_false, ht]
        by_cases hk : kd % 18446744073709551616 % 6 < 5
        · obtain ⟨j, hj, hj2⟩ := rd_nat (cs := cs) (x := ixo Q W r a) (by omega)
          have hbj := hb.get hj2
          have ew : w64 (rd cs (ixo Q W r a) + 1) = rd cs (ixo Q W r a) + 1 := by rw [← hj, rd_get hj2, w64_id (by omega)]
          simp only [if_pos hk, add_ok _ hin hr.2 hl hb (show (i : Int) ≤ 1000000 by omega), Option.bind_some, if_pos (show errN none = 0 from rfl), if_true, ix_w hM hin.ring hp.2.2]
          rw [show r / W * Q + a * Q / 65536 = ixo Q W r a from rfl]
          simp only [if_pos (show (0 : Int) ≤ ixo Q W r a ∧ ixo Q W r a < (cs.length : Int) by omega), ew, radomelaw37_ClutterRuns.j2]
          have hb2 : Bd (cs.set (ixo Q W r a).toNat (rd cs (ixo Q W r a) + 1)) ((i : Int) + 1) := (hb.mono (by omega)).set _ (by rw [← hj, rd_get hj2]; omega)
          exact round_l2 hM hr.2 (by rw [List.length_set]; exact hl) hb2 (by omega) (.inr ⟨hin, rfl, rfl, rfl⟩) (ih (i + 1) _ (by omega) (by rw [List.length_set]; exact hl) hb2) _ 0 (Nat.zero_add _).symm
        · simp only [if_neg hk]
          refine Ev.bind (fade_ev hb (by omega) hlen) ?_
          exact round_l1 hM hr.2 hl hb (by omega) (.inr ⟨hin, rfl, rfl, rfl⟩) (ih (i + 1) _ (by omega) (by rw [List.length_map]; exact hl) ((bd_half hb (by omega)).mono (by omega))) cs.length 0 (by omega)
    · refine Ev.step (fun k => rfl) ?_
      simp only [radomelaw37_ClutterRuns.hs, radomelaw37_ClutterRuns.b0, decide_eq_false (show ¬ (i : Int) < (l.length : Int) by omega), Bool.false_and, Bool.false_eq_true, if_false, at_bad _ (show R < 0 ∨ R ≤ R ∨ (0 : Int) < 0 ∨ Q ≤ 0 by omega), at_bad _ (show (0 : Int) < 0 ∨ R ≤ 0 ∨ (-1 : Int) < 0 ∨ Q ≤ -1 by omega), Option.bind_some, show (decide (errN (some 1) = 1)) = true from rfl, Bool.and_self, gdt, Bool.true_and]
      exact Ev.bind sure_ev37 Ev.now
end
theorem ClutterRuns : radomelaw37_ClutterRuns.Pure := by
  intro of_ W l _ _ hl
  have hA : ∀ x ∈ l, ActOk x := fun x hx => by
    have := hl.2 x hx
    exact ⟨i64_wf this.2.1, u16_wf this.2.2.1⟩
  obtain ⟨R, Q⟩ := of_
  suffices h : Ev (fun k => radomelaw37_ClutterRuns.f k ⟨R, Q⟩ W l) true from h.ex
  unfold radomelaw37_ClutterRuns.f
  have n1 : ∀ k p, clutter_Map_Cell_nil.f k p = some (0, 0, some 1) := fun _ _ => rfl
  have n2 : ∀ k x y, clutter_Map_At_nil.f k x y = some (0, some 1) := fun _ _ _ => rfl
  have n3 : ∀ k p x, clutter_Map_Dense_nil.f k p x = some (false, some 1) := fun _ _ _ => rfl
  have n4 : ∀ k, clutter_Map_Fade_nil.f k = some () := fun _ => rfl
  have n5 : ∀ k p, clutter_Map_Add_nil.f k p = some (some 1) := fun _ _ => rfl
  have n6 : ∀ k, clutter_Map_Total_nil.f k = some 0 := fun _ => rfl
  have e1 : (decide (errN (some 1) = 1)) = true := rfl
  simp only [n1, n2, n3, n4, n5, n6, Option.bind_some, e1, Bool.not_true, Bool.or_self, Bool.not_false, gdt, decide_true, Bool.false_eq_true, if_false]
  cases hm : mayB R Q W with
  | false =>
    simp only [new_bad _ hm, Option.bind_some, oe]
    have hmay := may_ev R Q W
    rw [hm] at hmay
    refine Ev.bind hmay ?_
    simp only [Bool.not_false, if_true, e1, gdt, Bool.true_and]
    exact Ev.bind sure_ev37 Ev.now
  | true =>
    have hM := mayB_ok hm
    have hRQ := RQ hM
    simp only [new_ok _ hM, Option.bind_some, oe]
    have hmay := may_ev R Q W
    rw [hm] at hmay
    refine Ev.bind hmay ?_
    simp only [Bool.not_true, Bool.false_eq_true, if_false, Option.isSome_none, w64_id (show -9223372036854775808 ≤ R * Q ∧ R * Q ≤ 9223372036854775807 by omega), if_pos (show 0 ≤ R * Q ∧ R * Q ≤ 35184372088832 by omega)]
    exact runs_l0 hM hA 40 0 _ rfl (by rw [List.length_replicate]; omega) (bd_zero _)
end Go.Proofs.YtoijknggnlbopaaDoor.Pure

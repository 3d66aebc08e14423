/- The plain law of LifeLaws. -/
import Derived.Test.YtddcfnhbedpbnaaPureLife
namespace Go.Proofs.Ytddcfnhbedpbnaa.Pure
open Go.RowKit Go.Proofs.YtddcfnhbedpbnaaK Go.Proofs.Ytddcfnhbedpbnaa.GLL
set_option linter.unusedVariables false
set_option linter.unusedSimpArgs false
def sfx (w : Int) (all : List Bool) : List Bool := all.drop (all.length - w.toNat)
theorem sfx_keep {w : Int} (h : 1 ≤ w) (all : List Bool) (hit : Bool) : keep w (sfx w all) hit = sfx w (all ++ [hit]) := by
  have e : (sfx w all).length = min all.length w.toNat := by simp [sfx]; omega
  unfold keep
  by_cases g : w ≤ all.length
  · rw [if_pos (by simp only [List.length_append, List.length_cons, List.length_nil, e]; omega)]
    unfold sfx
    rw [← List.drop_append_of_le_length (by omega), List.drop_drop, List.length_append, List.length_cons, List.length_nil]
    congr 1; omega
  · rw [if_neg (by simp only [List.length_append, List.length_cons, List.length_nil, e]; omega)]
    unfold sfx
    rw [show all.length - w.toNat = 0 by omega, show (all ++ [hit]).length - w.toNat = 0 by simp; omega]; rfl
theorem cnt_drop (all : List Bool) (k : Nat) (h : k < all.length) : cnt (all.drop k) = bit (rd all (k : Int)) + cnt (all.drop (k + 1)) := by
  rw [List.drop_eq_getElem_cons h, cnt]
  simp [rd, h]
section
variable {hits : List Bool} {h w m : Int} {t4 R : Bool} {l0 l1 l2 l3 i was m0 m1 m2 m3 : Int} {all : List Bool}
theorem l1_ev (hal : all.length ≤ 50) : ∀ (j k : Nat) (n : Int), k + j = all.length → 0 ≤ n → n ≤ k →
    Ev (fun q => if ((((decide (was = 0)) && (((decide (m0 = 1)) || (decide (m0 = 2))) || (decide (m0 = 4)))) && (decide (n + cnt (all.drop k) < h))) || ((!decide (was = 0)) && ((decide (m0 = 0)) || (decide (m0 = 3))))) = true then (some (false)) else ((radomelaw23_LifeLaws.hs q).l0 hits h w m t4 m0 m1 m2 m3 all (w64 (i + 1)))) R →
    Ev (fun q => (radomelaw23_LifeLaws.hs q).l1 hits h w m t4 l0 l1 l2 l3 all i was m0 m1 m2 m3 n (k : Int)) R
  | 0, k, n, e, h0, h1, H => by
    refine Ev.step (fun q => rfl) ?_
    rw [show all.drop k = [] by rw [List.drop_eq_nil_iff]; omega] at H
    simp only [radomelaw23_LifeLaws.hs, radomelaw23_LifeLaws.b1, if_neg (show ¬ ((k : Int) < (all.length : Int)) by omega)]
    simpa only [cnt, Int.add_zero] using H
  | j + 1, k, n, e, h0, h1, H => by
    refine Ev.step (fun q => rfl) ?_
    have hc := cnt_drop all k (by omega)
    simp only [radomelaw23_LifeLaws.hs, radomelaw23_LifeLaws.b1, if_pos (show ((k : Int) < (all.length : Int)) by omega), if_pos (show 0 ≤ (k : Int) ∧ (k : Int) < (all.length : Int) by omega)]
    rw [show w64 ((k : Int) + 1) = ((k + 1 : Nat) : Int) by rw [w64_id (by omega)]; omega]
    cases g : rd all (k : Int)
    · simp only [Bool.false_eq_true, if_false]
      refine l1_ev hal j (k + 1) n (by omega) h0 (by omega) ?_
      rw [hc, g] at H
      simpa only [bit, Bool.false_eq_true, if_false, Int.zero_add] using H
    · simp only [if_true]
      rw [w64_id (by omega)]
      refine l1_ev hal j (k + 1) (n + 1) (by omega) (by omega) (by omega) ?_
      rw [hc, g] at H
      simpa only [bit, if_true, ← Int.add_assoc] using H
end
theorem gone_iff {kind : Int} : decide (kind = 3 ∨ kind = 4) = true ↔ kind = 3 ∨ kind = 4 := decide_eq_true_iff
theorem kin_keeps {h w m kind missed : Int} {L : List Bool} (hm : 1 ≤ m) : (missed = m → kin h w m kind L missed = 3 ∨ kin h w m kind L missed = 4) ∧ (kind ≠ 0 → kin h w m kind L missed ≠ 0 ∧ kin h w m kind L missed ≠ 3) ∧ (missed ≠ 0 → kin h w m kind L missed ≠ 1) ∧ (missed = 0 → kin h w m kind L missed ≠ 2 ∧ kin h w m kind L missed ≠ 4 ∧ (kind ≠ 0 → kin h w m kind L missed = 1)) ∧ ((L.length : Int) = w → kin h w m kind L missed ≠ 0) ∧ (kind = 0 → cnt L < h → kin h w m kind L missed = 0 ∨ kin h w m kind L missed = 3) := by
  unfold kin sure
  refine ⟨?_, ?_, ?_, ?_, ?_, ?_⟩
  all_goals (repeat' split) <;> omega
theorem fin_ev {seen0 : Int} (hs : seen0 = 1 ∨ seen0 = 3 ∨ seen0 = 4) : Ev (fun q => (if (true && !decide (seen0 = 1)) = true then some (decide (seen0 = 3 ∨ seen0 = 4)) else some false).bind fun y144 => (if (true && (decide (seen0 = 1) || y144)) = true then radomelaw23_sure.f q else some false).bind fun y150 => some (true && (decide (seen0 = 1) || y144) && y150)) true := by
  obtain ⟨K, hK⟩ := sure_ev
  refine ⟨K, fun q hq => ?_⟩
  have hj := hK q hq
  rcases hs with rfl | rfl | rfl <;> simp [hj]
theorem l3_ev {h w m : Int} {t4 : Bool} {seen0 seen1 seen2 seen3 : Int} (hs : seen0 = 1 ∨ seen0 = 3 ∨ seen0 = 4) : ∀ (n : Nat) (i kind missed : Int) (L : List Bool), Ok h w m kind L missed → i = m + w - n → 0 ≤ i → (kind ≠ 3 ∧ kind ≠ 4 → i ≤ missed) →
    Ev (fun q => (radomelaw23_LifeLaws.hs q).l3 h w m t4 seen0 seen1 seen2 seen3 kind (B L) L.length missed i) true
  | n, i, kind, missed, L, o, e, h0, hp => by
    refine Ev.step (fun q => rfl) ?_
    have h2 := o.rl; unfold Rl at h2
    have hmw : w64 (m + w) = m + w := w64_id (by omega)
    simp only [radomelaw23_LifeLaws.hs, radomelaw23_LifeLaws.b3, gone_eq, hmw]
    by_cases g : kind = 3 ∨ kind = 4
    · simp only [gd, ite_self, g, decide_true, if_true, Option.bind_some, Bool.not_true, Bool.and_false, Bool.false_eq_true, if_false]
      have : (if decide (i < m + w) = true then some true else some false : Option Bool).bind (fun y119 => if (decide (i < m + w) && !y119) = true then (none : Option Bool) else some true) = some true := by
        split <;> simp_all
      by_cases hi : i < m + w
      · simp only [hi, decide_true, if_true, Option.bind_some, Bool.not_true, Bool.and_false, Bool.false_eq_true, if_false]
        exact fin_ev hs
      · simp only [hi, decide_false, Bool.false_eq_true, if_false, Option.bind_some, Bool.false_and]
        exact fin_ev hs
    · have hg : kind ≠ 3 ∧ kind ≠ 4 := by omega
      have hms := hp hg
      have hm2 := o.ms; unfold Ms at hm2
      have hi : i < m + w := by omega
      cases n with
      | zero => omega
      | succ n =>
        simp only [gd, hi, decide_true, if_true, g, decide_false, Option.bind_some, Bool.not_false, Bool.and_self]
        have o' := o.next false
        have kk := kin_keeps (h := h) (w := w) (m := m) (kind := kind) (missed := miss m missed false) (L := keep w L false) h2.2.2.2.2.1
        have hmi : miss m missed false = min (missed + 1) m := rfl
        simp only [next_eq _ o hg false (by omega), Option.bind_some, Option.isSome_none, Bool.false_or]
        have h1 : kin h w m kind (keep w L false) (miss m missed false) ≠ 1 := kk.2.2.1 (by omega)
        simp only [h1, decide_false, Bool.false_eq_true, if_false]
        rw [w64_id (by omega)]
        refine l3_ev hs n (i + 1) _ _ _ o' (by omega) (by omega) fun hgg => ?_
        have := kk.1
        omega
theorem l2_ev {h w m : Int} {t4 : Bool} {k0 missed0 : Int} {L0 : List Bool} (o0 : Ok h w m k0 L0 missed0) (hg0 : k0 ≠ 3 ∧ k0 ≠ 4) : ∀ (n : Nat) (i kind missed : Int) (L : List Bool), Ok h w m kind L missed → i = 20 - n → 0 ≤ i → (kind ≠ 3 ∧ kind ≠ 4) → (k0 ≠ 0 → kind ≠ 0) → (1 ≤ i → kind = 0 ∨ kind = 1) → (kind = 0 → i + 1 ≤ L.length) →
    Ev (fun q => (radomelaw23_LifeLaws.hs q).l2 h w m t4 k0 (B L0) L0.length missed0 kind (B L) L.length missed k0 (B L0) L0.length missed0 i) true
  | n, i, kind, missed, L, o, e, h0, hg, hk, h1, hlen => by
    refine Ev.step (fun q => rfl) ?_
    have h2 := o.rl; unfold Rl at h2
    have hl := o.len
    have fin : ∀ s0 s1 s2 s3 : Int, (s0 = 1 ∨ s0 = 3 ∨ s0 = 4) → Ev (fun q => radomelaw23_LifeLaws.j3 q (radomelaw23_LifeLaws.hs q) h w m t4 s0 s1 s2 s3 k0 (B L0) L0.length missed0) true := fun s0 s1 s2 s3 hs => by
      simp only [radomelaw23_LifeLaws.j3]
      refine l3_ev hs (m + w).toNat 0 _ _ _ o0 (by omega) (by omega) fun _ => ?_
      exact ms_nonneg h2.2.2.2.2.1 o0.ms
    cases n with
    | zero =>
      simp only [radomelaw23_LifeLaws.hs, radomelaw23_LifeLaws.b2, if_neg (show ¬ i < 20 by omega)]
      exact fin _ _ _ _ (.inl (by have := h1 (by omega); omega))
    | succ n =>
      have o' := o.next true
      have kk := kin_keeps (h := h) (w := w) (m := m) (kind := kind) (missed := miss m missed true) (L := keep w L true) h2.2.2.2.2.1
      have hm2 := o.ms; unfold Ms at hm2
      have hmi : miss m missed true = 0 := rfl
      have hkl := keep_len true h2.1 hl.2
      have k5 := kk.2.2.2.1 hmi
      have k6 := kk.2.2.2.2.1
      have hkn : ∀ x, kin h w m kind (keep w L true) (miss m missed true) = x → x = 0 ∨ x = 1 ∨ x = 3 := fun x hx => by
        have := o'.ms; unfold Ms at this; omega
      simp only [radomelaw23_LifeLaws.hs, radomelaw23_LifeLaws.b2, if_pos (show i < 20 by omega), next_eq _ o hg true (by omega), Option.bind_some, Option.isSome_none, Bool.false_or, gone_eq]
      generalize hK : kin h w m kind (keep w L true) (miss m missed true) = K at *
      have hkn := hkn K rfl
      have hc : (!decide (k0 = 0) && !decide (K = 1)) = false := by
        by_cases a : k0 = 0
        · simp [a]
        · simp [k5.2.2 (hk a)]
      simp only [hc, Bool.false_eq_true, if_false, decide_eq_true_eq]
      by_cases g3 : K = 3 ∨ K = 4
      · simp only [g3, if_true]
        exact fin _ _ _ _ (by omega)
      · simp only [g3, if_false]
        rw [w64_id (by omega)]
        refine l2_ev o0 hg0 n (i + 1) _ _ _ o' (by omega) (by omega) (by omega) (fun a => ?_) (fun _ => by omega) (fun a => ?_)
        · have := k5.2.2 (hk a); omega
        · by_cases hk0 : kind = 0
          · have := hlen hk0
            by_cases hw : (keep w L true).length = w
            · exact absurd a (k6 hw)
            · omega
          · have := k5.2.2 hk0; omega
theorem l0_ev {hits : List Bool} {h w m : Int} {t4 : Bool} : ∀ (n : Nat) (i kind missed : Int) (all : List Bool), Ok h w m kind (sfx w all) missed → i = 40 - n → 0 ≤ i → (all.length : Int) = i + 1 →
    Ev (fun q => (radomelaw23_LifeLaws.hs q).l0 hits h w m t4 kind (B (sfx w all)) (sfx w all).length missed all i) true
  | n, i, kind, missed, all, o, e, h0, hal => by
    refine Ev.step (fun q => rfl) ?_
    have h2 := o.rl; unfold Rl at h2
    have stop : Ev (fun q => (life_Gone.f q (⟨kind, B (sfx w all), (sfx w all).length, missed⟩ : life_Life)).bind fun y49 => if y49 = true then ((radomelaw23_sure.f q).bind fun y54 => some (y54)) else ((radomelaw23_LifeLaws.hs q).l2 h w m t4 kind (B (sfx w all)) (sfx w all).length missed kind (B (sfx w all)) (sfx w all).length missed kind (B (sfx w all)) (sfx w all).length missed 0)) true := by
      simp only [gone_eq, Option.bind_some]
      by_cases g : kind = 3 ∨ kind = 4
      · simp only [g, decide_true, if_true]; exact Ev.bind sure_ev Ev.now
      · simp only [g, decide_false, Bool.false_eq_true, if_false]
        exact l2_ev o (by omega) 20 0 _ _ _ o (by omega) (by omega) (by omega) (fun a => a) (fun a => by omega) (fun _ => by have := o.len; omega)
    simp only [radomelaw23_LifeLaws.hs, radomelaw23_LifeLaws.b0]
    by_cases c : i < (hits.length : Int) ∧ i < 40
    · by_cases g : kind = 3 ∨ kind = 4
      · simpa only [gd, c.1, c.2, decide_true, Bool.and_self, if_true, gone_eq, g, Option.bind_some, Bool.not_true, Bool.and_false, Bool.false_eq_true, if_false] using stop
      · have hg : kind ≠ 3 ∧ kind ≠ 4 := by omega
        cases n with
        | zero => omega
        | succ n =>
          have hm2 := o.ms; unfold Ms at hm2
          simp only [gd, c.1, c.2, decide_true, Bool.and_self, if_true, gone_eq, g, decide_false, Option.bind_some, Bool.not_false, h0, and_self, next_eq _ o hg (rd hits i) (by omega), Option.isSome_none, Bool.false_eq_true, if_false, and_self, if_pos (show all.length + 1 ≤ 140737488355200 by omega)]
          have o' := o.next (rd hits i)
          rw [sfx_keep h2.1] at o' ⊢
          have hl : (all ++ [rd hits i]).length = all.length + 1 := by simp
          have kk := kin_keeps (h := h) (w := w) (m := m) (kind := kind) (missed := miss m missed (rd hits i)) (L := sfx w (all ++ [rd hits i])) h2.2.2.2.2.1
          rw [show max 0 (w64 (((all ++ [rd hits i]).length : Int) - w)) = (((all ++ [rd hits i]).length - w.toNat : Nat) : Int) by rw [w64_id (by omega)]; omega]
          refine l1_ev (all := all ++ [rd hits i]) (by omega) ((all ++ [rd hits i]).length - ((all ++ [rd hits i]).length - w.toNat)) ((all ++ [rd hits i]).length - w.toNat) 0 (by omega) (by omega) (by omega) ?_
          have hc : (((decide (kind = 0)) && (((decide (kin h w m kind (sfx w (all ++ [rd hits i])) (miss m missed (rd hits i)) = 1)) || (decide (kin h w m kind (sfx w (all ++ [rd hits i])) (miss m missed (rd hits i)) = 2))) || (decide (kin h w m kind (sfx w (all ++ [rd hits i])) (miss m missed (rd hits i)) = 4)))) && (decide (0 + cnt ((all ++ [rd hits i]).drop ((all ++ [rd hits i]).length - w.toNat)) < h)) || ((!decide (kind = 0)) && ((decide (kin h w m kind (sfx w (all ++ [rd hits i])) (miss m missed (rd hits i)) = 0)) || (decide (kin h w m kind (sfx w (all ++ [rd hits i])) (miss m missed (rd hits i)) = 3))))) = false := by
            rw [Bool.eq_false_iff]
            simp only [ne_eq, Int.zero_add, Bool.or_eq_true, Bool.and_eq_true, decide_eq_true_eq, Bool.not_eq_true', decide_eq_false_iff_not]
            have k6 := kk.2.2.2.2.2
            have k2 := kk.2.1
            rw [show (all ++ [rd hits i]).drop ((all ++ [rd hits i]).length - w.toNat) = sfx w (all ++ [rd hits i]) from rfl]
            generalize kin h w m kind (sfx w (all ++ [rd hits i])) (miss m missed (rd hits i)) = K at *
            omega
          simp only [hc, Bool.false_eq_true, if_false]
          rw [w64_id (by omega)]
          exact l0_ev n (i + 1) _ _ _ o' (by omega) (by omega) (by omega)
    · have hc : (decide (i < (hits.length : Int)) && decide (i < 40)) = false := by
        simp only [Bool.and_eq_false_iff, decide_eq_false_iff_not]; omega
      simpa only [hc, gd, Bool.false_and, Bool.false_eq_true, if_false, Option.bind_some] using stop
theorem LifeLaws : radomelaw23_LifeLaws.Pure := by
  intro r hits _ _
  obtain ⟨h, w, m⟩ := r
  refine Ev.ex (g := fun k => radomelaw23_LifeLaws.f k ⟨h, w, m⟩ hits) ?_
  simp only [radomelaw23_LifeLaws.f, rcheck_eq, Option.bind_some]
  by_cases g : Rl h w m
  · have h2 := g; unfold Rl at h2
    simp only [g, decide_true, Bool.not_true, Bool.false_eq_true, if_false, life_Born.f, check_eq, if_true, Option.bind_some, Option.isSome_none]
    have e : sfx w [true] = [true] := by unfold sfx; rw [show [true].length - w.toNat = 0 by simp; omega]; rfl
    have fin : ∀ kind : Int, Ms kind 0 m → Ev (fun k => (radomelaw23_LifeLaws.hs k).l0 hits h w m false kind 1 1 0 [true] 0) true := fun kind hk => by
      have := l0_ev (hits := hits) (t4 := false) (h := h) (w := w) (m := m) 40 0 kind 0 [true] ⟨g, by rw [e]; simp; omega, hk⟩ (by omega) (by omega) (by simp)
      rw [e] at this; exact this
    by_cases c1 : h = 1
    · simp only [c1, if_true, Option.bind_some, Option.isSome_none, Bool.false_eq_true, if_false]
      rw [c1] at fin; exact fin 1 (by unfold Ms; omega)
    · by_cases c2 : w = 1
      · omega
      · simp only [c1, c2, if_false, Option.bind_some, Option.isSome_none, Bool.false_eq_true]
        exact fin 0 (by unfold Ms; omega)
  · simp only [g, decide_false, Bool.not_false, if_true]; exact Ev.bind sure_ev Ev.now
end Go.Proofs.Ytddcfnhbedpbnaa.Pure

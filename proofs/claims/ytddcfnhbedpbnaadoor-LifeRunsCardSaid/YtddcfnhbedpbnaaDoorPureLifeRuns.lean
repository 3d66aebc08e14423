/- The plain law of LifeRuns. -/
import Derived.Test.YtddcfnhbedpbnaaDoorPureLife
namespace Go.Proofs.YtddcfnhbedpbnaaDoor.Pure
open Go.RowKit Go.Proofs.YtddcfnhbedpbnaaDoorK Go.Proofs.YtddcfnhbedpbnaaDoor.GTR
set_option linter.unusedVariables false
set_option linter.unusedSimpArgs false
theorem rd_drop (all : List Bool) (k : Nat) (h : k < all.length) : all.drop k = rd all (k : Int) :: all.drop (k + 1) := by
  rw [List.drop_eq_getElem_cons h]
  simp [rd, h]
theorem take_succ_rd (all : List Bool) (k : Nat) (h : k < all.length) : all.take (k + 1) = all.take k ++ [rd all (k : Int)] := by
  rw [List.take_succ_eq_append_getElem h]
  simp [rd, h]
theorem count_l0 {L : List Bool} (hL : L.length ≤ 17) : ∀ (j k : Nat), k + j = L.length → Ev (fun q => (radomeref23_count.hs q).l0 L (cnt (L.take k)) (k : Int)) (cnt L)
  | 0, k, e => by
    refine Ev.step (fun q => rfl) ?_
    simp only [radomeref23_count.hs, radomeref23_count.b0, if_neg (show ¬ ((k : Int) < (L.length : Int)) by omega)]
    rw [List.take_of_length_le (by omega)]; exact Ev.now
  | j + 1, k, e => by
    refine Ev.step (fun q => rfl) ?_
    have H := count_l0 hL j (k + 1) (by omega)
    have hr := cnt_range (L.take k)
    have hl : (L.take k).length ≤ 17 := by simp; omega
    rw [take_succ_rd L k (by omega), cnt_snoc] at H
    simp only [radomeref23_count.hs, radomeref23_count.b0, if_pos (show ((k : Int) < (L.length : Int)) by omega), if_pos (show 0 ≤ (k : Int) ∧ (k : Int) < (L.length : Int) by omega)]
    rw [show w64 ((k : Int) + 1) = ((k + 1 : Nat) : Int) by rw [w64_id (by omega)]; omega, show w64 (cnt (L.take k) + 1) = cnt (L.take k) + 1 by rw [w64_id (by omega)]]
    cases g : rd L (k : Int)
    · rw [g] at H; simpa only [Bool.false_eq_true, if_false, bit, Int.add_zero] using H
    · rw [g] at H; simpa only [if_true, bit] using H
theorem count_ev {L : List Bool} (hL : L.length ≤ 17) : Ev (fun q => radomeref23_count.f q L) (cnt L) := by
  have := count_l0 hL L.length 0 (by omega)
  exact this
theorem bits_l0 {L : List Bool} (hL : L.length ≤ 16) : ∀ (j k : Nat), k + j = L.length → Ev (fun q => (radomeref23_Bits.hs q).l0 L (B (L.take k)) (k : Int)) (B L)
  | 0, k, e => by
    refine Ev.step (fun q => rfl) ?_
    simp only [radomeref23_Bits.hs, radomeref23_Bits.b0, if_neg (show ¬ ((k : Int) < (L.length : Int)) by omega)]
    rw [List.take_of_length_le (by omega)]; exact Ev.now
  | j + 1, k, e => by
    refine Ev.step (fun q => rfl) ?_
    have H := bits_l0 hL j (k + 1) (by omega)
    have hr := B_range (L.take k)
    have hp := p2_16 (L.take k).length (by simp; omega)
    rw [take_succ_rd L k (by omega), B_snoc] at H
    simp only [radomeref23_Bits.hs, radomeref23_Bits.b0, if_pos (show ((k : Int) < (L.length : Int)) by omega), if_pos (show 0 ≤ (k : Int) ∧ (k : Int) < (L.length : Int) by omega)]
    rw [show w64 ((k : Int) + 1) = ((k + 1 : Nat) : Int) by rw [w64_id (by omega)]; omega, show (2 * B (L.take k)) % 4294967296 = 2 * B (L.take k) by omega, show (2 * B (L.take k) + 1) % 4294967296 = 2 * B (L.take k) + 1 by omega]
    cases g : rd L (k : Int)
    · rw [g] at H; simpa only [Bool.false_eq_true, if_false, bit, Int.add_zero] using H
    · rw [g] at H; simpa only [if_true, bit] using H
theorem bits_ev {L : List Bool} (hL : L.length ≤ 16) : Ev (fun q => radomeref23_Bits.f q L) (B L) := by
  have := bits_l0 hL L.length 0 (by omega)
  exact this
theorem is_ev {kind missed : Int} {L : List Bool} (hL : L.length ≤ 16) : Ev (fun q => radomelaw23_is.f q ⟨kind, B L, L.length, missed⟩ ⟨kind, L, missed⟩) true := by
  obtain ⟨K, hK⟩ := bits_ev hL
  refine ⟨K, fun q hq => ?_⟩
  simp [radomelaw23_is.f, gd, hK q hq]
theorem rgone_eq (k : Nat) (kind missed : Int) (L : List Bool) : radomeref23_Gone.f k ⟨kind, L, missed⟩ = some (decide (kind = 3 ∨ kind = 4)) := by
  unfold radomeref23_Gone.f
  refine congrArg some ?_
  rw [Bool.eq_iff_iff]; simp only [Bool.or_eq_true, decide_eq_true_eq]
theorem rnext_ev {h w m kind missed : Int} {L : List Bool} (o : Ok h w m kind L missed) (hit : Bool) :
    Ev (fun q => radomeref23_Next.f q ⟨h, w, m⟩ ⟨kind, L, missed⟩ hit) ⟨kin h w m kind (keep w L hit) (miss m missed hit), keep w L hit, miss m missed hit⟩ := by
  have h2 := o.rl; unfold Rl at h2
  have hl := o.len
  have hkl := keep_len hit h2.1 hl.2
  have hm0 := ms_nonneg h2.2.2.2.2.1 o.ms
  have hm3 := miss_range hit hm0 h2.2.2.2.2.1
  obtain ⟨K, hK⟩ := count_ev (L := keep w L hit) (by omega)
  refine ⟨K, fun q hq => ?_⟩
  have hc := hK q hq
  have hl1 : (L ++ [hit]).length = L.length + 1 := by simp
  have j3 : ∀ o2, o2 = miss m missed hit → radomeref23_Next.j3 q hit h w m kind L missed (keep w L hit) kind (keep w L hit) o2 = some ⟨kin h w m kind (keep w L hit) (miss m missed hit), keep w L hit, miss m missed hit⟩ := by
    rintro _ rfl
    simp only [radomeref23_Next.j3, radomeref23_Next.j4, hc, gd, kin, sure]
    have hh : hit = true → miss m missed hit = 0 := by rintro rfl; rfl
    have hh2 : hit = false → miss m missed hit ≠ 0 := by rintro rfl; unfold miss; simp; omega
    by_cases c : kind = 0
    · by_cases c1 : cnt (keep w L hit) < h
      · by_cases c2 : ((keep w L hit).length : Int) = w ∨ miss m missed hit = m
        · simp [c, c1, c2, Int.not_le.2 c1]
        · simp [c, c1, c2, Int.not_le.2 c1]
      · simp only [c, c1, decide_true, if_true, Option.bind_some, decide_false, Bool.and_false, Bool.false_eq_true, if_false, show h ≤ cnt (keep w L hit) by omega, or_true]
        cases hit
        · simp only [Bool.false_eq_true, if_false, hh2 rfl]
          split <;> rfl
        · simp only [if_true, hh rfl]
    · simp only [c, decide_false, Bool.false_eq_true, if_false, Option.bind_some, Bool.false_and, ne_eq, not_false_eq_true, true_or, if_true]
      cases hit
      · simp only [Bool.false_eq_true, if_false, hh2 rfl]
        split <;> rfl
      · simp only [if_true, hh rfl]
  have j2 : radomeref23_Next.j1 q hit h w m kind L missed (keep w L hit) = some ⟨kin h w m kind (keep w L hit) (miss m missed hit), keep w L hit, miss m missed hit⟩ := by
    have hmm : missed ≤ m := by have := o.ms; unfold Ms at this; omega
    simp only [radomeref23_Next.j1, radomeref23_Next.j2]
    cases hit
    · simp only [Bool.false_eq_true, if_false]
      rw [w64_id (by omega)]
      split
      · exact j3 _ (by unfold miss; simp; omega)
      · exact j3 _ (by unfold miss; simp; omega)
    · simp only [if_true]
      rw [if_neg (by omega)]
      exact j3 _ rfl
  simp only [radomeref23_Next.f]
  rw [if_pos (by omega), if_pos (by omega)]
  by_cases g : w < ((L ++ [hit]).length : Int)
  · rw [if_pos g, if_pos (by omega)]
    have : cut (L ++ [hit]) 1 ((L ++ [hit]).length : Int) = keep w L hit := by
      unfold cut keep; rw [if_pos g, List.take_of_length_le (by omega)]; rfl
    rw [this]; exact j2
  · rw [if_neg g]
    have : L ++ [hit] = keep w L hit := by unfold keep; rw [if_neg g]
    rw [this]; exact j2
theorem next_gone (k : Nat) {h w m kind missed : Int} {L : List Bool} (o : Ok h w m kind L missed) (hk : kind = 3 ∨ kind = 4) (hit : Bool) :
    life_Next.f k ⟨h, w, m⟩ ⟨kind, B L, L.length, missed⟩ hit = some (⟨0, 0, 0, 0⟩, some 14) := by
  simp only [life_Next.f, may_eq, gone_eq, if_pos o.my, Option.bind_some, Option.isSome_none, Bool.false_eq_true, if_false, hk, decide_true, if_true]
theorem next_bad (k : Nat) {h w m kind s age missed : Int} (hk : ¬ Rl h w m) (hit : Bool) :
    life_Next.f k ⟨h, w, m⟩ ⟨kind, s, age, missed⟩ hit = some (⟨0, 0, 0, 0⟩, some 1) := by
  have : ¬ My h w m kind s age missed := fun q => hk q.1
  simp only [life_Next.f, may_eq, if_neg this, Option.bind_some, Option.isSome_some, if_true]
theorem l0_ev {hits : List Bool} {h w m : Int} {t4 : Bool} : ∀ (n : Nat) (i kind missed : Int) (L : List Bool), Ok h w m kind L missed → i = 60 - n → 0 ≤ i →
    Ev (fun q => (radomelaw23_LifeRuns.hs q).l0 hits h w m t4 kind (B L) L.length missed kind L missed i) true
  | n, i, kind, missed, L, o, e, h0 => by
    refine Ev.step (fun q => rfl) ?_
    have h2 := o.rl; unfold Rl at h2
    simp only [radomelaw23_LifeRuns.hs, radomelaw23_LifeRuns.b0]
    by_cases c : i < (hits.length : Int) ∧ i < 60
    · simp only [c.1, c.2, decide_true, Bool.and_self, if_true, h0, and_self, gone_eq, rgone_eq, Option.bind_some, beq_self_eq_true, Bool.not_true, Bool.false_eq_true, if_false]
      by_cases g : kind = 3 ∨ kind = 4
      · simp only [next_gone _ o g, g, decide_true, if_true, Option.bind_some, errN, Option.getD_some, Bool.and_self, gd]
        exact Ev.bind sure_ev Ev.now
      · cases n with
        | zero => omega
        | succ n =>
          have hm2 := o.ms; unfold Ms at hm2
          have o' := o.next (rd hits i)
          have hl' := o'.len
          simp only [next_eq _ o (show kind ≠ 3 ∧ kind ≠ 4 by omega) (rd hits i) (by omega), g, decide_false, Option.bind_some, Bool.false_eq_true, if_false, Option.isSome_none, Bool.not_false, Bool.false_or]
          refine Ev.bind (rnext_ev o (rd hits i)) ?_
          refine Ev.bind (r := true) ?_ ?_
          · simp only [gd, if_true]; exact is_ev (by omega)
          · simp only [gd, Bool.not_true, Bool.not_false, if_true, may_eq, if_pos o'.my, Option.bind_some, Option.isSome_none, Bool.or_self, Bool.false_eq_true, if_false]
            rw [w64_id (by omega)]
            exact l0_ev n (i + 1) _ _ _ o' (by omega) (by omega)
    · have hc : (decide (i < (hits.length : Int)) && decide (i < 60)) = false := by
        simp only [Bool.and_eq_false_iff, decide_eq_false_iff_not]; omega
      simp only [hc, Bool.false_eq_true, if_false]
      exact Ev.bind sure_ev Ev.now
theorem LifeRuns : radomelaw23_LifeRuns.Pure := by
  intro r hits _ _
  obtain ⟨h, w, m⟩ := r
  refine Ev.ex (g := fun k => radomelaw23_LifeRuns.f k ⟨h, w, m⟩ hits) ?_
  simp only [radomelaw23_LifeRuns.f, rcheck_eq, Option.bind_some, life_Born.f, check_eq]
  by_cases g : Rl h w m
  · have h2 := g; unfold Rl at h2
    have b1 : B [true] = 1 := by decide
    have b2 : (([true] : List Bool).length : Int) = 1 := by decide
    have fin : ∀ kind : Int, Ms kind 0 m → Ev (fun k => (gd true (radomelaw23_is.f k ⟨kind, 1, 1, 0⟩ ⟨kind, [true], 0⟩) false).bind fun y46 => (gd (!(false || (!y46))) (some none) (none : Option Int)).bind fun y53 => if ((false || (!y46)) || y53.isSome) = true then (some (false)) else ((radomelaw23_LifeRuns.hs k).l0 hits h w m false kind 1 1 0 kind [true] 0 0)) true := fun kind hk => by
      refine Ev.bind (r := true) ?_ ?_
      · simp only [gd, if_true]
        have := is_ev (kind := kind) (missed := 0) (L := [true]) (by simp)
        rw [b1, b2] at this; exact this
      · simp only [gd, Bool.not_true, Bool.not_false, Bool.or_self, if_true, Option.bind_some, Option.isSome_none, Bool.false_eq_true, if_false]
        have := l0_ev (hits := hits) (t4 := false) (h := h) (w := w) (m := m) 60 0 kind 0 [true] ⟨g, by simp; omega, hk⟩ (by omega) (by omega)
        rw [b1, b2] at this; exact this
    simp only [g, decide_true, Bool.not_true, Bool.false_eq_true, if_false, if_true, Option.bind_some, Option.isSome_none, radomeref23_Born.f]
    by_cases c1 : h = 1
    · simp only [c1, if_true, Option.bind_some, Option.isSome_none, Bool.false_eq_true, if_false]
      rw [c1] at fin; exact fin 1 (by unfold Ms; omega)
    · by_cases c2 : w = 1
      · omega
      · simp only [c1, c2, if_false, Option.bind_some, Option.isSome_none, Bool.false_eq_true]
        exact fin 0 (by unfold Ms; omega)
  · simp only [g, decide_false, Bool.not_false, if_true, if_false, Option.bind_some, Option.isSome_some, next_bad _ g, errN, Option.getD_some, Bool.and_self, gd, decide_true]
    refine Ev.bind sure_ev ?_
    exact Ev.now
end Go.Proofs.YtddcfnhbedpbnaaDoor.Pure

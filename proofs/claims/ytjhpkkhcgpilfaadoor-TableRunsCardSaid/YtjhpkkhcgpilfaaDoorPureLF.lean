/- Lives: what the reference's functions answer (out of LifeRuns). -/
import Derived.Test.YtjhpkkhcgpilfaaDoorPureLifeNext
namespace Go.Proofs.YtjhpkkhcgpilfaaDoor.Pure
open Go.RowKit Go.Proofs.YtjhpkkhcgpilfaaDoorK Go.Proofs.YtjhpkkhcgpilfaaDoor.GTA
set_option linter.unusedVariables false
set_option linter.unusedSimpArgs false
theorem take_succ_rd (all : List Bool) (k : Nat) (h : k < all.length) : all.take (k + 1) = all.take k ++ [rd all (k : Int)] := by
  rw [List.take_succ_eq_append_getElem h]
  simp [rd, h]
theorem count_l0 {L : List Bool} (hL : L.length ≤ 17) : ∀ (j k : Nat), k + j = L.length → Ev (fun q => (radomeref23_count.hs q).l0 L (cnt (L.take k)) (k : Int)) (cnt L)
  | 0, k, e => by
    refine Ev.step (fun q => rfl) ?_
    simp only [radomeref23_count.hs, radomeref23_count.b0, if_neg (show ¬ ((k : Int) < (L.length : Int)) by omega)]
    rw [List.take_of_length_le (by omega)]; exact Ev.now
  | j + 1, k, e => by
    refine Ev.step (fun q => rfl) ?_
    have H := count_l0 hL j (k + 1) (by omega)
    have hr := cnt_range (L.take k)
    have hl : (L.take k).length ≤ 17 := by simp; omega
    rw [take_succ_rd L k (by omega), cnt_snoc] at H
    simp only [radomeref23_count.hs, radomeref23_count.b0, if_pos (show ((k : Int) < (L.length : Int)) by omega), if_pos (show 0 ≤ (k : Int) ∧ (k : Int) < (L.length : Int) by omega)]
    rw [show w64 ((k : Int) + 1) = ((k + 1 : Nat) : Int) by rw [w64_id (by omega)]; omega, show w64 (cnt (L.take k) + 1) = cnt (L.take k) + 1 by rw [w64_id (by omega)]]
    cases g : rd L (k : Int)
    · rw [g] at H; simpa only [Bool.false_eq_true, if_false, bit, Int.add_zero] using H
    · rw [g] at H; simpa only [if_true, bit] using H
theorem count_ev {L : List Bool} (hL : L.length ≤ 17) : Ev (fun q => radomeref23_count.f q L) (cnt L) := by
  have := count_l0 hL L.length 0 (by omega)
  exact this
theorem bits_l0 {L : List Bool} (hL : L.length ≤ 16) : ∀ (j k : Nat), k + j = L.length → Ev (fun q => (radomeref23_Bits.hs q).l0 L (B (L.take k)) (k : Int)) (B L)
  | 0, k, e => by
    refine Ev.step (fun q => rfl) ?_
    simp only [radomeref23_Bits.hs, radomeref23_Bits.b0, if_neg (show ¬ ((k : Int) < (L.length : Int)) by omega)]
    rw [List.take_of_length_le (by omega)]; exact Ev.now
  | j + 1, k, e => by
    refine Ev.step (fun q => rfl) ?_
    have H := bits_l0 hL j (k + 1) (by omega)
    have hr := B_range (L.take k)
    have hp := p2_16 (L.take k).length (by simp; omega)
    rw [take_succ_rd L k (by omega), B_snoc] at H
    simp only [radomeref23_Bits.hs, radomeref23_Bits.b0, if_pos (show ((k : Int) < (L.length : Int)) by omega), if_pos (show 0 ≤ (k : Int) ∧ (k : Int) < (L.length : Int) by omega)]
    rw [show w64 ((k : Int) + 1) = ((k + 1 : Nat) : Int) by rw [w64_id (by omega)]; omega, show (2 * B (L.take k)) % 4294967296 = 2 * B (L.take k) by omega, show (2 * B (L.take k) + 1) % 4294967296 = 2 * B (L.take k) + 1 by omega]
    cases g : rd L (k : Int)
    · rw [g] at H; simpa only [Bool.false_eq_true, if_false, bit, Int.add_zero] using H
    · rw [g] at H; simpa only [if_true, bit] using H
theorem bits_ev {L : List Bool} (hL : L.length ≤ 16) : Ev (fun q => radomeref23_Bits.f q L) (B L) := by
  have := bits_l0 hL L.length 0 (by omega)
  exact this
theorem rgone_eq (k : Nat) (kind missed : Int) (L : List Bool) : radomeref23_Gone.f k ⟨kind, L, missed⟩ = some (decide (kind = 3 ∨ kind = 4)) := by
  unfold radomeref23_Gone.f
  refine congrArg some ?_
  rw [Bool.eq_iff_iff]; simp only [Bool.or_eq_true, decide_eq_true_eq]
theorem rnext_ev {h w m kind missed : Int} {L : List Bool} (o : Ok h w m kind L missed) (hit : Bool) :
    Ev (fun q => radomeref23_Next.f q ⟨h, w, m⟩ ⟨kind, L, missed⟩ hit) ⟨kin h w m kind (keep w L hit) (miss m missed hit), keep w L hit, miss m missed hit⟩ := by
  have h2 := o.rl; unfold Rl at h2
  have hl := o.len
  have hkl := keep_len hit h2.1 hl.2
  have hm0 := ms_nonneg h2.2.2.2.2.1 o.ms
  have hm3 := miss_range hit hm0 h2.2.2.2.2.1
  obtain ⟨K, hK⟩ := count_ev (L := keep w L hit) (by omega)
  refine ⟨K, fun q hq => ?_⟩
  have hc := hK q hq
  have hl1 : (L ++ [hit]).length = L.length + 1 := by simp
  have j3 : ∀ o2, o2 = miss m missed hit → radomeref23_Next.j3 q hit h w m kind L missed (keep w L hit) kind o2 = some ⟨kin h w m kind (keep w L hit) (miss m missed hit), keep w L hit, miss m missed hit⟩ := by
    rintro _ rfl
    simp only [radomeref23_Next.j3, radomeref23_Next.j4, hc, gd, kin, sure]
    have hh : hit = true → miss m missed hit = 0 := by rintro rfl; rfl
    have hh2 : hit = false → miss m missed hit ≠ 0 := by rintro rfl; unfold miss; simp; omega
    by_cases c : kind = 0
    · by_cases c1 : cnt (keep w L hit) < h
      · by_cases c2 : ((keep w L hit).length : Int) = w ∨ miss m missed hit = m
        · simp [c, c1, c2, Int.not_le.2 c1]
        · simp [c, c1, c2, Int.not_le.2 c1]
      · simp only [c, c1, decide_true, if_true, Option.bind_some, decide_false, Bool.and_false, Bool.false_eq_true, if_false, show h ≤ cnt (keep w L hit) by omega, or_true]
        cases hit
        · simp only [Bool.false_eq_true, if_false, hh2 rfl]
          split <;> rfl
        · simp only [if_true, hh rfl]
    · simp only [c, decide_false, Bool.false_eq_true, if_false, Option.bind_some, Bool.false_and, ne_eq, not_false_eq_true, true_or, if_true]
      cases hit
      · simp only [Bool.false_eq_true, if_false, hh2 rfl]
        split <;> rfl
      · simp only [if_true, hh rfl]
  have j2 : radomeref23_Next.j1 q hit h w m kind L missed (keep w L hit) = some ⟨kin h w m kind (keep w L hit) (miss m missed hit), keep w L hit, miss m missed hit⟩ := by
    have hmm : missed ≤ m := by have := o.ms; unfold Ms at this; omega
    simp only [radomeref23_Next.j1, radomeref23_Next.j2]
    cases hit
    · simp only [Bool.false_eq_true, if_false]
      rw [w64_id (by omega)]
      split
      · exact j3 _ (by unfold miss; simp; omega)
      · exact j3 _ (by unfold miss; simp; omega)
    · simp only [if_true]
      rw [if_neg (by omega)]
      exact j3 _ rfl
  simp only [radomeref23_Next.f]
  rw [if_pos (by omega), if_pos (by omega)]
  by_cases g : w < ((L ++ [hit]).length : Int)
  · rw [if_pos g, if_pos (by omega)]
    have : cut (L ++ [hit]) 1 ((L ++ [hit]).length : Int) = keep w L hit := by
      unfold cut keep; rw [if_pos g, List.take_of_length_le (by omega)]; rfl
    rw [this]; exact j2
  · rw [if_neg g]
    have : L ++ [hit] = keep w L hit := by unfold keep; rw [if_neg g]
    rw [this]; exact j2
end Go.Proofs.YtjhpkkhcgpilfaaDoor.Pure

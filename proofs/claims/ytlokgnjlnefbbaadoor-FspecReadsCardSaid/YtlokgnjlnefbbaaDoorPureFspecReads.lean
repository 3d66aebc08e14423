/- The plain law of heads read and written: the program's heads and bytes are the reference's, or the errors. -/
import Derived.Test.YtlokgnjlnefbbaaDoorPuFspecReads
namespace Go.Proofs.YtlokgnjlnefbbaaDoor.Pure
open Go.RowKit Go.Proofs.YtlokgnjlnefbbaaDoor.QFspecReads Go.Proofs.YtlokgnjlnefbbaaDoorW.PrintWords Go.Proofs.YtlokgnjlnefbbaaDoorW.PrintLast Go.Proofs.YtlokgnjlnefbbaaDoorW.PrintMore

theorem sure_fs : radomelaw27_sure.f 12 = some true := by decide +kernel
theorem sure_ev : Ev (fun k => radomelaw27_sure.f k) true := Ev.of (fun k => radomelaw27_sure.mono k) sure_fs

/-! ### the reference's heads -/
theorem rl1_ev {l : List Int} {most i c : Int} (h0 : 0 ≤ c) (h1 : c ≤ 255) (hi : 0 ≤ i ∧ i ≤ 100) {R : List Int × Int × Int} : ∀ (j : Nat) (acc : List Int) (fl : Bool), j ≤ 7 → acc.length + j ≤ 1000 →
    Ev (fun k => if c % 2 = 0 then (if (fl || !(its c i j).isEmpty) = true then some (acc ++ its c i j, i + 1, 0) else some ([], 0, 3)) else radomeref27_Decode.l0 k l most (acc ++ its c i j) (i + 1)) R →
    Ev (fun k => radomeref27_Decode.l1 k l most acc i c fl (2 ^ j) (8 - (j : Int))) R
  | 0, acc, fl, _, _, h => by
    refine Ev.step (fun k => radomeref27_Decode.l1.eq_2 ..) ?_
    have e : Int.tmod c 2 = c % 2 := Int.tmod_eq_emod_of_nonneg h0
    simp only [show ¬ ((8 : Int) - ((0 : Nat) : Int) ≤ 7) by omega, if_false, e, show wrap64 (i + 1) = i + 1 from w64 (by omega)]
    simpa [its] using h
  | j + 1, acc, fl, hj, ha, h => by
    refine Ev.step (fun k => radomeref27_Decode.l1.eq_2 ..) ?_
    have hp : (2 : Int) ^ (j + 1) > 0 := Int.pow_pos (by decide)
    have hp2 : (2 : Int) ^ (j + 1) = 2 * 2 ^ j := by rw [Int.pow_succ]; omega
    have hle : (2 : Int) ^ (j + 1) ≤ 128 := by
      have : j = 0 ∨ j = 1 ∨ j = 2 ∨ j = 3 ∨ j = 4 ∨ j = 5 ∨ j = 6 := by omega
      rcases this with rfl | rfl | rfl | rfl | rfl | rfl | rfl <;> decide
    have e1 : Int.tdiv c (2 ^ (j + 1)) = c / 2 ^ (j + 1) := Int.tdiv_eq_ediv_of_nonneg h0
    have hq : 0 ≤ c / 2 ^ (j + 1) ∧ c / 2 ^ (j + 1) ≤ 255 := ⟨Int.ediv_nonneg h0 (by omega), Int.le_trans (Int.ediv_le_self _ h0) h1⟩
    have e2 : wrap64 (c / 2 ^ (j + 1)) = c / 2 ^ (j + 1) := w64 (by omega)
    have e3 : Int.tmod (c / 2 ^ (j + 1)) 2 = (c / 2 ^ (j + 1)) % 2 := Int.tmod_eq_emod_of_nonneg hq.1
    have e4 : Int.tdiv (2 ^ (j + 1)) 2 = 2 ^ j := by rw [Int.tdiv_eq_ediv_of_nonneg (by omega)]; omega
    have e5 : wrap64 ((2 : Int) ^ j) = 2 ^ j := w64 (by omega)
    have e6 : (8 : Int) - ((j + 1 : Nat) : Int) = 7 - (j : Int) := by omega
    have e7 : wrap64 (7 - (j : Int) + 1) = 8 - (j : Int) := by rw [w64 (by omega)]; omega
    have e8 : wrap64 (wrap64 (7 * i) + (7 - (j : Int))) = 7 * i + (6 - j) + 1 := by rw [w64 (x := 7 * i) (by omega), w64 (x := 7 * i + (7 - (j : Int))) (by omega)]; omega
    have hne : ¬ ((2 : Int) ^ (j + 1) = 0) := Int.ne_of_gt hp
    simp only [e1, e2, e3, e4, e5, e6, e7, e8, show (7 - (j : Int)) ≤ 7 by omega, if_true, hne, if_false, show acc.length < 17592186044416 by omega]
    by_cases hb : (c / 2 ^ (j + 1)) % 2 = 0
    · simp only [hb, show ¬ ((0 : Int) = 1) by decide, if_false]
      refine rl1_ev h0 h1 hi j acc fl (by omega) (by omega) ?_
      simpa [its, hb] using h
    · have hb1 : (c / 2 ^ (j + 1)) % 2 = 1 := by omega
      simp only [hb1, if_true]
      refine rl1_ev h0 h1 hi j _ true (by omega) (by simp; omega) ?_
      simpa [its, hb] using h
theorem rdec_ev {l : List Int} (hl : U8 l) {most : Int} (hm : 1 ≤ most ∧ most ≤ 8) : ∀ (f : Nat) (i : Int) (acc : List Int), (most - i : Int) + 1 ≤ f → 0 ≤ i → i ≤ most → i ≤ l.length → (acc.length : Int) ≤ 7 * i →
    Ev (fun k => radomeref27_Decode.l0 k l most acc i) ((dec l most f i acc).1, (dec l most f i acc).2.1, (dec l most f i acc).2.2.getD 0)
  | 0, i, acc, hf, _, _, _, _ => by omega
  | f + 1, i, acc, hf, h0, him, hil, ha => by
    refine Ev.step (fun k => radomeref27_Decode.l0.eq_2 ..) ?_
    by_cases h1 : i = most
    · subst h1; refine ev_some fun k => ?_; simp [dec]
    · by_cases h2 : i = (l.length : Int)
      · refine ev_some fun k => ?_; rw [if_pos (by omega), if_neg h1, if_pos (by omega)]; simp only [dec, h2, if_true]; rw [if_neg (by omega)]; rfl
      · have hlt : i < (l.length : Int) := by omega
        have hc := hl.rd i
        simp only [him, h1, if_false, h0, hlt, if_true, show ¬ (i ≥ (l.length : Int)) by omega, show wrap64 (rd l i) = rd l i from w64 (by omega)]
        have hlen := its_len (rd l i) i 7
        refine rl1_ev hc.1 hc.2 (by omega) 7 acc false (by omega) (by omega) ?_
        by_cases h3 : rd l i % 2 = 0
        · simp only [h3, if_true, dec, h1, h2, if_false]
          refine ev_some fun k => ?_
          by_cases h4 : its (rd l i) i 7 = []
          · simp [h4]
          · simp [h4]
        · simp only [h3, if_false, dec, h1, h2]
          refine rdec_ev hl hm f (i + 1) _ (by omega) (by omega) (by omega) (by omega) ?_
          rw [List.length_append]; omega
theorem rdecode_ev {l : List Int} (hl : U8 l) (most : Int) : Ev (fun k => radomeref27_Decode.f k l most) ((decode l most).1, (decode l most).2.1, (decode l most).2.2.getD 0) := by
  unfold radomeref27_Decode.f decode
  by_cases h1 : most < 1
  · rw [if_neg (by omega)]; simp only [h1, if_true]; exact Ev.step (fun k => radomeref27_Decode.j0.eq_2 ..) (Ev.now _)
  · simp only [h1, if_false]
    refine Ev.step (fun k => radomeref27_Decode.j0.eq_2 ..) ?_
    by_cases h2 : most > 8
    · rw [if_neg (by omega)]; simp only [h2, decide_true, if_true]; exact Ev.now _
    · rw [if_pos (by omega)]
      simp only [h2, decide_false, Bool.false_eq_true, if_false]
      exact rdec_ev hl (by omega) 10 0 [] (by omega) (by omega) (by omega) (by omega) (by simp)

/-! ### the reference's bytes -/
def cI : List Int → Int → Int
  | [], _ => 0
  | a :: r, p => (if a = p then 1 else 0) + cI r p
def WV (l : List Int) (j : Nat) : Nat → Int
  | 0 => 0
  | r + 1 => cI l (7 * j + 8 - ((r + 1 : Nat) : Int)) * 2 ^ r + WV l j r
theorem cI_zero : ∀ {s : List Int} {p : Int}, (∀ x ∈ s, x ≠ p) → cI s p = 0
  | [], _, _ => rfl
  | a :: r, p, h => by
    unfold cI
    rw [if_neg (h a List.mem_cons_self), cI_zero (fun x hx => h x (List.mem_cons_of_mem _ hx))]; rfl
theorem cI_asc : ∀ {s : List Int} (_ : s.Pairwise (· < ·)) (p : Int), 0 ≤ cI s p ∧ cI s p ≤ 1
  | [], _, _ => by simp [cI]
  | a :: r, h, p => by
    obtain ⟨h1, h2⟩ := List.pairwise_cons.1 h
    unfold cI
    by_cases e : a = p
    · rw [if_pos e, cI_zero (fun x hx => by have := h1 x hx; omega)]; omega
    · rw [if_neg e]; have := cI_asc h2 p; omega
theorem cI_suffix : ∀ {l : List Int} (_ : l.Pairwise (· < ·)) (i : Nat) (p : Int), 0 ≤ cI (l.drop i) p ∧ cI (l.drop i) p ≤ 1 := fun h i p => cI_asc (h.sublist (List.drop_sublist i _)) p
theorem l3_ev {l : List Int} (hlen : l.length ≤ 9007199254740992) (hp : l.Pairwise (· < ·)) {z : Int} {out : List Int} {fr p : Int} (hpb : 0 ≤ p ∧ p ≤ 100) {R : List Int × Int} : ∀ (s : List Int) (i : Nat) (v : Int), l.drop i = s → i ≤ l.length → 0 ≤ v → v ≤ 1000 →
    Ev (fun k => radomeref27_Encode.l2 k l z out fr (v + cI s p) (p + 1)) R → Ev (fun k => radomeref27_Encode.l3 k l z out fr v p (i : Int)) R
  | [], i, v, hd, hi, h0, h1, h => by
    have : l.length ≤ i := by simpa using hd
    refine Ev.step (fun k => radomeref27_Encode.l3.eq_2 ..) ?_
    simp only [show ¬ ((i : Int) < (l.length : Int)) by omega, if_false, show wrap64 (p + 1) = p + 1 from w64 (by omega)]
    simpa [cI] using h
  | a :: r, i, v, hd, hi, h0, h1, h => by
    obtain ⟨e1, e2, e3⟩ := rd_drop hd
    refine Ev.step (fun k => radomeref27_Encode.l3.eq_2 ..) ?_
    simp only [show (i : Int) < (l.length : Int) by omega, show 0 ≤ (i : Int) by omega, if_true, e1, show wrap64 ((i : Int) + 1) = ((i + 1 : Nat) : Int) by rw [w64 (by omega)]; omega, show wrap64 (v + 1) = v + 1 from w64 (by omega)]
    by_cases e : a = p
    · simp only [e, if_true]
      have hz : cI r p = 0 := by
        have h2 := cI_suffix hp i p
        rw [hd] at h2
        have h3 := cI_suffix hp (i + 1) p
        rw [e3] at h3
        have h5 : cI (a :: r) p = (if a = p then 1 else 0) + cI r p := rfl
        rw [if_pos e] at h5
        omega
      have h4 : cI (a :: r) p = 1 := by show (if a = p then 1 else 0) + cI r p = 1; rw [if_pos e, hz]; rfl
      rw [h4] at h
      have hall : ∀ x ∈ r, x ≠ p := by
        have h5 : (a :: r).Pairwise (· < ·) := by rw [← hd]; exact hp.sublist (List.drop_sublist i _)
        intro x hx he
        have := (List.pairwise_cons.1 h5).1 x hx
        omega
      -- from here on nothing is counted
      have rest : ∀ (s : List Int) (i : Nat), l.drop i = s → i ≤ l.length → (∀ x ∈ s, x ≠ p) → Ev (fun k => radomeref27_Encode.l3 k l z out fr (v + 1) p (i : Int)) R := by
        intro s
        induction s with
        | nil =>
          intro i hd hi _
          have : l.length ≤ i := by simpa using hd
          refine Ev.step (fun k => radomeref27_Encode.l3.eq_2 ..) ?_
          simp only [show ¬ ((i : Int) < (l.length : Int)) by omega, if_false, show wrap64 (p + 1) = p + 1 from w64 (by omega)]
          exact h
        | cons b t ih =>
          intro i hd hi hne
          obtain ⟨f1, f2, f3⟩ := rd_drop hd
          refine Ev.step (fun k => radomeref27_Encode.l3.eq_2 ..) ?_
          simp only [show (i : Int) < (l.length : Int) by omega, show 0 ≤ (i : Int) by omega, if_true, f1, show wrap64 ((i : Int) + 1) = ((i + 1 : Nat) : Int) by rw [w64 (by omega)]; omega, hne b List.mem_cons_self, if_false]
          exact ih (i + 1) f3 (by omega) (fun x hx => hne x (List.mem_cons_of_mem _ hx))
      exact rest r (i + 1) e3 (by omega) hall
    · simp only [e, if_false]
      refine l3_ev hlen hp hpb r (i + 1) v e3 (by omega) h0 h1 ?_
      have h4 : cI (a :: r) p = cI r p := by show (if a = p then 1 else 0) + cI r p = cI r p; rw [if_neg e]; omega
      rw [h4] at h; exact h
theorem l2_ev {l : List Int} (hlen : l.length ≤ 9007199254740992) (hp : l.Pairwise (· < ·)) {z : Int} (hz : 0 ≤ z ∧ z ≤ 56) {out : List Int} (ho : out.length ≤ 100) {j : Nat} (hj : j ≤ 8) {R : List Int × Int} : ∀ (r m : Nat) (v : Int), r + m = 7 → 0 ≤ v → v < 2 ^ m →
    Ev (fun k => radomeref27_Encode.l1 k l z (out ++ [(2 * (v * 2 ^ r + WV l j r) + (if z ≥ 7 * (j : Int) + 8 then 1 else 0)) % 256]) (7 * (j : Int) + 8)) R →
    Ev (fun k => radomeref27_Encode.l2 k l z out (7 * (j : Int) + 1) v (7 * (j : Int) + 8 - (r : Int))) R
  | 0, m, v, hm, h0, h1, h => by
    have hv : v < 128 := by have : m = 7 := by omega
                            subst this; simpa using h1
    refine Ev.step (fun k => radomeref27_Encode.l2.eq_2 ..) ?_
    have e1 : wrap64 (7 * (j : Int) + 1 + 7) = 7 * (j : Int) + 8 := by rw [w64 (by omega)]; omega
    have e2 : wrap64 (2 * v) = 2 * v := w64 (by omega)
    have e3 : wrap64 (2 * v + 1) = 2 * v + 1 := w64 (by omega)
    simp only [e1, e2, e3, show ¬ (7 * (j : Int) + 8 - ((0 : Nat) : Int) < 7 * (j : Int) + 8) by omega, if_false, show out.length < 140737488355328 by omega, if_true]
    have e4 : 2 * (v * 2 ^ 0 + WV l j 0) = 2 * v := by simp [WV]
    rw [e4] at h
    by_cases hc : z ≥ 7 * (j : Int) + 8
    · simp only [hc, if_true] at h ⊢; exact h
    · simp only [hc, if_false] at h ⊢; simpa using h
  | r + 1, m, v, hm, h0, h1, h => by
    refine Ev.step (fun k => radomeref27_Encode.l2.eq_2 ..) ?_
    have hm128 : (2 : Int) ^ m ≤ 128 := by
      have : m = 0 ∨ m = 1 ∨ m = 2 ∨ m = 3 ∨ m = 4 ∨ m = 5 ∨ m = 6 ∨ m = 7 := by omega
      rcases this with rfl | rfl | rfl | rfl | rfl | rfl | rfl | rfl <;> decide
    have e1 : wrap64 (7 * (j : Int) + 1 + 7) = 7 * (j : Int) + 8 := by rw [w64 (by omega)]; omega
    have e2 : wrap64 (2 * v) = 2 * v := w64 (by omega)
    simp only [e1, e2, show (7 * (j : Int) + 8 - ((r + 1 : Nat) : Int) < 7 * (j : Int) + 8) by omega, if_true]
    have hc := cI_asc hp (7 * (j : Int) + 8 - ((r + 1 : Nat) : Int))
    refine l3_ev hlen hp (by omega) l 0 (2 * v) rfl (by omega) (by omega) (by omega) ?_
    have e3 : 7 * (j : Int) + 8 - ((r + 1 : Nat) : Int) + 1 = 7 * (j : Int) + 8 - (r : Int) := by omega
    rw [e3]
    refine l2_ev hlen hp hz ho hj r (m + 1) _ (by omega) (by omega) ?_ ?_
    · rw [Int.pow_succ]; omega
    · have e4 : (2 * v + cI l (7 * (j : Int) + 8 - ((r + 1 : Nat) : Int))) * 2 ^ r + WV l j r = v * 2 ^ (r + 1) + WV l j (r + 1) := by
        show _ = v * 2 ^ (r + 1) + (cI l (7 * (j : Int) + 8 - ((r + 1 : Nat) : Int)) * 2 ^ r + WV l j r)
        rw [Int.pow_succ, Int.add_mul, ← Int.add_assoc]
        congr 2
        rw [Int.mul_comm 2 v, Int.mul_assoc, Int.mul_comm 2]
      rw [e4]; exact h
def hb (l : List Int) (z : Int) (j : Nat) : Int := (2 * WV l j 7 + (if z ≥ 7 * (j : Int) + 8 then 1 else 0)) % 256
theorem mp_snoc (n : Nat) (g : Nat → Int) : mp n g ++ [g n] = mp (n + 1) g := by unfold mp; rw [List.range_succ, List.map_append]; rfl
theorem l1_ev {l : List Int} (hlen : l.length ≤ 9007199254740992) (hp : l.Pairwise (· < ·)) {z : Int} (hz : 0 ≤ z ∧ z ≤ 56) : ∀ (d j : Nat), j + d = ((z + 6) / 7).toNat →
    Ev (fun k => radomeref27_Encode.l1 k l z (mp j (hb l z)) (7 * (j : Int) + 1)) (mp ((z + 6) / 7).toNat (hb l z), 0)
  | 0, j, h => by
    refine Ev.step (fun k => radomeref27_Encode.l1.eq_2 ..) ?_
    simp only [show ¬ (7 * (j : Int) + 1 ≤ z) by omega, if_false]
    rw [show j = ((z + 6) / 7).toNat by omega]; exact Ev.now _
  | d + 1, j, h => by
    refine Ev.step (fun k => radomeref27_Encode.l1.eq_2 ..) ?_
    simp only [show (7 * (j : Int) + 1 ≤ z) by omega, if_true]
    have e : 7 * (j : Int) + 1 = 7 * (j : Int) + 8 - ((7 : Nat) : Int) := by omega
    have h2 := l2_ev (R := (mp ((z + 6) / 7).toNat (hb l z), 0)) hlen hp hz (out := mp j (hb l z)) (by rw [mp_len]; omega) (j := j) (by omega) 7 0 0 rfl (by omega) (by decide) (by
      rw [Int.zero_mul, Int.zero_add]
      have := l1_ev hlen hp hz d (j + 1) (by omega)
      rw [← mp_snoc] at this
      have e2 : 7 * ((j + 1 : Nat) : Int) + 1 = 7 * (j : Int) + 8 := by omega
      rw [e2] at this
      exact this)
    rw [← e] at h2
    exact h2
theorem rval_ev {l : List Int} (hlen : l.length ≤ 9007199254740992) {R : List Int × Int} :
    ∀ (s : List Int) (i : Nat) (last : Int), l.drop i = s → i ≤ l.length →
      (valid s last = none → R = ([], 1)) → (∀ z, valid s last = some z → Ev (fun k => radomeref27_Encode.l0 k l z (l.length : Int)) R) → Ev (fun k => radomeref27_Encode.l0 k l last i) R
  | [], i, last, hd, hi, _, hs => by
    have : l.length ≤ i := by simpa using hd
    have h := hs last rfl
    rw [show i = l.length by omega]; exact h
  | a :: r, i, last, hd, hi, hnone, hs => by
    obtain ⟨e1, e2, e3⟩ := rd_drop hd
    refine Ev.step (fun k => radomeref27_Encode.l0.eq_2 ..) ?_
    simp only [show 0 ≤ (i : Int) by omega, show (i : Int) < (l.length : Int) by omega, if_true, e1, show wrap64 ((i : Int) + 1) = ((i + 1 : Nat) : Int) by rw [w64 (by omega)]; omega]
    by_cases h1 : a ≤ last
    · simp only [h1, if_true]
      rw [hnone (by simp [valid, h1])]; exact Ev.now _
    · by_cases h2 : a > 56
      · simp only [h1, h2, if_true, if_false]
        rw [hnone (by simp [valid, h1, h2])]; exact Ev.now _
      · simp only [h1, h2, if_false]
        exact rval_ev hlen r (i + 1) a e3 (by omega) (fun h => hnone (by simp [valid, h1, h2, h])) (fun z hz => hs z (by simp [valid, h1, h2, hz]))

/-! ### a bit that is not set yet is added -/
theorem or_bit : ∀ b : Fin 256, ∀ r : Fin 7, (b.val % 2 ^ (r.val + 2) ≤ 1) → Go.bits .or .u8 (b.val : Int) (shr .u8 128 (6 - (r.val : Int))) = (b.val : Int) + 2 ^ (r.val + 1) := by decide +kernel
theorem or_bit' {b : Int} (h0 : 0 ≤ b) (h1 : b ≤ 255) {r : Nat} (hr : r < 7) (h : b % 2 ^ (r + 2) ≤ 1) : Go.bits .or .u8 b (shr .u8 128 (6 - (r : Int))) = b + 2 ^ (r + 1) := by
  have e : ((b.toNat : Nat) : Int) = b := Int.toNat_of_nonneg h0
  have h2 := or_bit ⟨b.toNat, by omega⟩ ⟨r, hr⟩ (by
    have h3 : (((b.toNat % 2 ^ (r + 2) : Nat)) : Int) ≤ ((1 : Nat) : Int) := by rw [Int.natCast_emod, e]; simpa using h
    exact Int.ofNat_le.1 h3)
  simpa only [e] using h2
theorem fold_ev {j : Nat} : ∀ (r : Nat) (s : List Int) (b : Int), r ≤ 7 → s.Pairwise (· < ·) → (∀ x ∈ s, 7 * (j : Int) + 8 - (r : Int) ≤ x) → 0 ≤ b → b ≤ 255 - 2 * (2 ^ r - 1) → b % 2 ^ (r + 1) ≤ 1 → s.foldl (stp j) b = b + 2 * WV s j r
  | 0, s, b, _, hp, hs, h0, h1, h2 => by
    have : ∀ (s : List Int) (b : Int), (∀ x ∈ s, 7 * (j : Int) + 8 ≤ x) → s.foldl (stp j) b = b := by
      intro s
      induction s with
      | nil => intro b _; rfl
      | cons a t ih =>
        intro b h
        rw [List.foldl_cons]
        have ha := h a List.mem_cons_self
        have : stp j b a = b := by unfold stp; rw [if_neg (by omega)]
        rw [this]; exact ih b (fun x hx => h x (List.mem_cons_of_mem _ hx))
    rw [this s b (fun x hx => by have := hs x hx; omega)]
    simp [WV]
  | r + 1, s, b, hr, hp, hs, h0, h1, h2 => by
    have hpow : (2 : Int) ^ (r + 1) = 2 * 2 ^ r := by rw [Int.pow_succ]; omega
    have hpow2 : (2 : Int) ^ (r + 2) = 2 * 2 ^ (r + 1) := by rw [Int.pow_succ]; omega
    have hpos : (2 : Int) ^ r > 0 := Int.pow_pos (by decide)
    have hmod : b % 2 ^ (r + 1) ≤ 1 := by
      have e1 : b % 2 ^ (r + 1) = (b % 2 ^ (r + 2)) % 2 ^ (r + 1) := by rw [hpow2, Int.emod_emod_of_dvd _ (Int.dvd_mul_left _ _)]
      rw [e1]
      have h3 : 0 ≤ b % 2 ^ (r + 2) := Int.emod_nonneg _ (by omega)
      have h4 : (b % 2 ^ (r + 2)) % 2 ^ (r + 1) ≤ b % 2 ^ (r + 2) := by
        have h5 : b % 2 ^ (r + 2) ≤ 1 := h2
        rw [Int.emod_eq_of_lt h3 (by omega)]; omega
      have h5 : b % 2 ^ (r + 2) ≤ 1 := h2
      omega
    cases s with
    | nil =>
      have : ∀ r, WV [] j r = 0 := by intro r; induction r with
        | zero => rfl
        | succ r ih => simp [WV, cI, ih]
      rw [this]; simp
    | cons a t =>
      obtain ⟨hpa, hpt⟩ := List.pairwise_cons.1 hp
      have ha := hs a List.mem_cons_self
      by_cases e : a = 7 * (j : Int) + 8 - ((r + 1 : Nat) : Int)
      · rw [List.foldl_cons]
        have hst : stp j b a = b + 2 ^ (r + 1) := by
          unfold stp orb
          rw [if_pos (by omega), show (a - 1) % 7 = 6 - (r : Int) by omega]
          exact or_bit' h0 (by omega) (by omega) h2
        rw [hst, fold_ev r t (b + 2 ^ (r + 1)) (by omega) hpt (fun x hx => by have := hpa x hx; omega) (by omega) (by omega) (by rw [Int.add_emod_right]; exact hmod)]
        have hW : ∀ q, q ≤ r → WV (a :: t) j q = WV t j q := by
          intro q
          induction q with
          | zero => intro _; rfl
          | succ q ih =>
            intro hq
            show cI (a :: t) _ * 2 ^ q + WV (a :: t) j q = cI t _ * 2 ^ q + WV t j q
            rw [ih (by omega)]
            congr 2
            show (if a = _ then 1 else 0) + cI t _ = _
            rw [if_neg (by omega)]; omega
        show _ = b + 2 * (cI (a :: t) _ * 2 ^ r + WV (a :: t) j r)
        rw [hW r (Nat.le_refl _)]
        have hc : cI (a :: t) (7 * (j : Int) + 8 - ((r + 1 : Nat) : Int)) = 1 := by
          show (if a = _ then 1 else 0) + cI t _ = _
          rw [if_pos e, cI_zero (fun x hx => by have := hpa x hx; omega)]; rfl
        rw [hc]; omega
      · rw [fold_ev r (a :: t) b (by omega) hp (fun x hx => by
          rcases List.mem_cons.1 hx with rfl | hx
          · omega
          · have := hpa x hx; omega) h0 (by omega) hmod]
        show _ = b + 2 * (cI (a :: t) _ * 2 ^ r + WV (a :: t) j r)
        rw [cI_zero (fun x hx => by
          rcases List.mem_cons.1 hx with rfl | hx
          · exact e
          · have := hpa x hx; omega)]
        omega
theorem fold_byte {j : Nat} {m : Int} (hm : 0 ≤ m ∧ m ≤ 1) : ∀ {l : List Int}, l.Pairwise (· < ·) → (∀ x ∈ l, 1 ≤ x) → l.foldl (stp j) m = m + 2 * WV l j 7
  | [], _, _ => by
    have : ∀ r, WV [] j r = 0 := by intro r; induction r with
      | zero => rfl
      | succ r ih => simp [WV, cI, ih]
    rw [this]; simp
  | a :: r, hp, h1 => by
    obtain ⟨hpa, hpt⟩ := List.pairwise_cons.1 hp
    by_cases h : a ≤ 7 * (j : Int)
    · rw [List.foldl_cons]
      have h2 := h1 a List.mem_cons_self
      have e : stp j m a = m := by unfold stp; rw [if_neg (by omega)]
      rw [e, fold_byte hm hpt (fun x hx => h1 x (List.mem_cons_of_mem _ hx))]
      have hW : ∀ q, q ≤ 7 → WV (a :: r) j q = WV r j q := by
        intro q
        induction q with
        | zero => intro _; rfl
        | succ q ih =>
          intro hq
          show cI (a :: r) _ * 2 ^ q + WV (a :: r) j q = cI r _ * 2 ^ q + WV r j q
          rw [ih (by omega)]
          congr 2
          show (if a = _ then 1 else 0) + cI r _ = _
          rw [if_neg (by omega)]; omega
      rw [hW 7 (by omega)]
    · exact fold_ev 7 (a :: r) m (by omega) hp (fun x hx => by
        rcases List.mem_cons.1 hx with rfl | hx
        · omega
        · have := hpa x hx; omega) hm.1 (by simp; omega) (by
        have : m % 2 ^ (7 + 1) = m := Int.emod_eq_of_lt hm.1 (by simp; omega)
        omega)
theorem WV_bd {l : List Int} (hp : l.Pairwise (· < ·)) (j : Nat) : ∀ r, r ≤ 7 → 0 ≤ WV l j r ∧ WV l j r ≤ 2 ^ r - 1
  | 0, _ => by simp [WV]
  | r + 1, h => by
    have ih := WV_bd hp j r (by omega)
    have hc := cI_asc hp (7 * (j : Int) + 8 - ((r + 1 : Nat) : Int))
    have hpow : (2 : Int) ^ (r + 1) = 2 * 2 ^ r := by rw [Int.pow_succ]; omega
    have hpos : (2 : Int) ^ r > 0 := Int.pow_pos (by decide)
    show 0 ≤ cI l _ * 2 ^ r + WV l j r ∧ cI l _ * 2 ^ r + WV l j r ≤ 2 ^ (r + 1) - 1
    have : cI l (7 * (j : Int) + 8 - ((r + 1 : Nat) : Int)) = 0 ∨ cI l (7 * (j : Int) + 8 - ((r + 1 : Nat) : Int)) = 1 := by omega
    rcases this with e | e <;> rw [e] <;> omega
theorem encb_eq {l : List Int} {z : Int} (hp : l.Pairwise (· < ·)) (h1 : ∀ x ∈ l, 1 ≤ x) (_hz : 0 ≤ z ∧ z ≤ 56) : encb l z = mp ((z + 6) / 7).toNat (hb l z) := by
  unfold encb
  refine mp_congr fun j hj => ?_
  have hW := WV_bd hp j 7 (by omega)
  have h7 : (2 : Int) ^ 7 = 128 := by decide
  unfold hb
  by_cases hc : z ≥ 7 * (j : Int) + 8
  · rw [if_pos (by omega), if_pos hc, fold_byte (by omega) hp h1, Int.emod_eq_of_lt (by omega) (by omega)]; omega
  · rw [if_neg (by omega), if_neg hc, fold_byte (by omega) hp h1, Int.emod_eq_of_lt (by omega) (by omega)]; omega
theorem rencode_ev {l : List Int} (hlen : l.length ≤ 9007199254740992) : Ev (fun k => radomeref27_Encode.f k l) ((encode l).1, (encode l).2.getD 0) := by
  unfold radomeref27_Encode.f encode
  refine rval_ev hlen l 0 0 rfl (by omega) (fun h => ?_) (fun z hz => ?_)
  · by_cases h0 : l = []
    · subst h0; simp [valid] at h
    · simp [h0, h]
  · obtain ⟨hx, hp, hz0, h56, hn, hne⟩ := valid_some hz
    refine Ev.step (fun k => radomeref27_Encode.l0.eq_2 ..) ?_
    simp only [show ¬ ((l.length : Int) < (l.length : Int)) by omega, if_false]
    by_cases h0 : l = []
    · rw [hn h0]; simp [h0]; exact Ev.now _
    · have hzm := hx z (hne h0)
      have hz56 := h56 (by omega)
      simp only [show ¬ (z = 0) by omega, if_false, h0, hz]
      rw [encb_eq hp (fun x hm => by have := hx x hm; omega) (by omega)]
      exact l1_ev hlen hp (by omega) ((z + 6) / 7).toNat 0 (by omega)

/-! ### what is told -/
theorem index_ev {l : List Int} (hlen : l.length ≤ 100000) {v : Int} : ∀ (s : List Int) (i : Nat), l.drop i = s → i ≤ l.length → ∃ r, Ev (fun k => slices_Index_int_int.l0 k l v (l.length : Int) (i : Int)) r ∧ (decide (r ≥ 0) = s.contains v)
  | [], i, hd, hi => by
    have : l.length ≤ i := by simpa using hd
    refine ⟨-1, Ev.step (fun k => slices_Index_int_int.l0.eq_2 ..) ?_, by simp⟩
    simp only [show ¬ ((i : Int) < (l.length : Int)) by omega, if_false]; exact Ev.now _
  | a :: r, i, hd, hi => by
    obtain ⟨e1, e2, e3⟩ := rd_drop hd
    by_cases e : v = a
    · refine ⟨(i : Int), Ev.step (fun k => slices_Index_int_int.l0.eq_2 ..) ?_, by simp [e]⟩
      simp only [show ((i : Int) < (l.length : Int)) by omega, show 0 ≤ (i : Int) by omega, e1, e, if_true]; exact Ev.now _
    · obtain ⟨q, hq, hc⟩ := index_ev hlen (v := v) r (i + 1) e3 (by omega)
      refine ⟨q, Ev.step (fun k => slices_Index_int_int.l0.eq_2 ..) ?_, by rw [hc]; simp [e]⟩
      simp only [show ((i : Int) < (l.length : Int)) by omega, show 0 ≤ (i : Int) by omega, e1, e, if_true, if_false, show wrap64 ((i : Int) + 1) = ((i + 1 : Nat) : Int) by rw [w64 (by omega)]; omega]
      exact hq
theorem has_ev {l : List Int} (hlen : l.length ≤ 100000) (n v : Int) : Ev (fun k => fspec_Has.f k l n v) (l.contains v) := by
  obtain ⟨r, hr, hc⟩ := index_ev hlen (v := v) l 0 rfl (by omega)
  unfold fspec_Has.f slices_Contains_int_int.f slices_Index_int_int.f
  refine Ev.bind (a := decide (r ≥ 0)) (Ev.bind hr (Ev.now _)) ?_
  rw [hc]; exact Ev.now _
theorem ints_ev {l : List Int} (hlen : l.length ≤ 100000) : ∀ (d i : Nat), i + d = l.length → Ev (fun k => radomelaw27_ints.l0 k l l (i : Int)) true
  | 0, i, h => by
    refine Ev.step (fun k => radomelaw27_ints.l0.eq_2 ..) ?_
    simp only [show ¬ ((i : Int) < (l.length : Int)) by omega, if_false]; exact Ev.now _
  | d + 1, i, h => by
    refine Ev.step (fun k => radomelaw27_ints.l0.eq_2 ..) ?_
    simp only [show ((i : Int) < (l.length : Int)) by omega, show 0 ≤ (i : Int) by omega, if_true, show wrap64 ((i : Int) + 1) = ((i + 1 : Nat) : Int) by rw [w64 (by omega)]; omega]
    exact ints_ev hlen d (i + 1) (by omega)
theorem ints_f {l : List Int} (hlen : l.length ≤ 100000) : Ev (fun k => radomelaw27_ints.f k l l) true := by
  unfold radomelaw27_ints.f
  simp only [if_true]
  exact ints_ev hlen l.length 0 (by omega)
theorem dec_len {l : List Int} {most : Int} (hm : 1 ≤ most ∧ most ≤ 8) : ∀ (f : Nat) (i : Int) (acc : List Int), 0 ≤ i → i ≤ most → (acc.length : Int) ≤ 7 * i → ((dec l most f i acc).1.length : Int) ≤ 100
  | 0, i, acc, _, _, _ => by simp [dec]
  | f + 1, i, acc, h0, him, ha => by
    have hlen := its_len (rd l i) i 7
    unfold dec
    split
    · simp
    · split
      · simp
      · split
        · split
          · simp
          · simp; omega
        · refine dec_len hm f (i + 1) _ (by omega) (by omega) ?_
          rw [List.length_append]; omega
theorem decode_len (l : List Int) (most : Int) : (decode l most).1.length ≤ 100 := by
  unfold decode
  split
  · rename_i h
    have := dec_len (l := l) h 10 0 [] (by omega) (by omega) (by simp)
    omega
  · simp

section
variable {e : Option Int} {t : List Int} {n m : Int} {c d : List Int} {g : Option Int} {q : Int}
theorem inner_ev {R : Bool} (ht : t.length ≤ 100) {i : Int} (hi : 0 ≤ i ∧ i ≤ 60) {hb' : Int} : ∀ (s : List Int) (j : Nat) (b : Bool), t.drop j = s → j ≤ t.length → (b || s.contains i) = t.contains i →
    Ev (fun k => radomelaw27_FspecReads.l0 k e t n m c g d q (i + 1) t hb') R → Ev (fun k => radomelaw27_FspecReads.l1 k e t n m c g d q i b (j : Int) t hb') R
  | [], j, b, hd, hj, hb, h => by
    have : t.length ≤ j := by simpa using hd
    refine Ev.step (fun k => radomelaw27_FspecReads.l1.eq_2 ..) ?_
    simp only [show ¬ ((j : Int) < (t.length : Int)) by omega, if_false]
    refine Ev.bind (has_ev (by omega) _ _) ?_
    have hb2 : b = t.contains i := by simpa using hb
    rw [← hb2]
    simp only [bne_self_eq_false, Bool.false_eq_true, if_false, show wrap64 (i + 1) = i + 1 from w64 (by omega)]
    exact h
  | a :: r, j, b, hd, hj, hb, h => by
    obtain ⟨e1, e2, e3⟩ := rd_drop hd
    refine Ev.step (fun k => radomelaw27_FspecReads.l1.eq_2 ..) ?_
    simp only [show ((j : Int) < (t.length : Int)) by omega, show 0 ≤ (j : Int) by omega, if_true, e1, show wrap64 ((j : Int) + 1) = ((j + 1 : Nat) : Int) by rw [w64 (by omega)]; omega]
    cases b with
    | true =>
      simp only [if_true]
      exact inner_ev ht hi r (j + 1) true e3 (by omega) (by simpa using hb) h
    | false =>
      simp only [Bool.false_eq_true, if_false]
      refine inner_ev ht hi r (j + 1) (a == i) e3 (by omega) ?_ h
      rw [← hb]
      rw [List.contains_cons]
      by_cases hai : a = i
      · subst hai; simp
      · rw [beq_eq_false_iff_ne.mpr hai, beq_eq_false_iff_ne.mpr (Ne.symm hai)]; simp
theorem outer_ev {R : Bool} (ht : t.length ≤ 100) {hb' : Int} : ∀ (d' : Nat) (i : Int), i + d' = 60 → 0 ≤ i →
    Ev (fun k => radomelaw27_FspecReads.l0 k e t n m c g d q 60 t hb') R → Ev (fun k => radomelaw27_FspecReads.l0 k e t n m c g d q i t hb') R
  | 0, i, h, _, hr => by rw [show i = 60 by omega]; exact hr
  | d' + 1, i, h, h0, hr => by
    refine Ev.step (fun k => radomelaw27_FspecReads.l0.eq_2 ..) ?_
    simp only [show i < 60 by omega, if_true]
    exact inner_ev ht (by omega) t 0 false rfl (by omega) (by simp) (outer_ev ht d' (i + 1) (by omega) (by omega) hr)
end

theorem FspecReads : radomelaw27_FspecReads.Pure := by
  intro b most items hb hmw hi
  have hu := u8_of hb.2
  have hlen : items.length ≤ 9007199254740992 := by have := hi.1.2; omega
  have hw : ∀ x ∈ items, -9223372036854775808 ≤ x ∧ x ≤ 9223372036854775807 := fun x hx => by
    have := hi.2 x hx
    simpa [Lit.wf, IntKind.min, IntKind.max, IntKind.signed, IntKind.bits] using this
  refine Ev.rounds ?_
  unfold radomelaw27_FspecReads.f
  refine Ev.bind (decode_ev hu most) ?_
  refine Ev.bind (rdecode_ev hu most) ?_
  refine Ev.bind (encode_ev hlen hw) ?_
  refine Ev.bind (rencode_ev hlen) ?_
  by_cases hl : (items.length : Int) > 1000
  · simp only [hl, if_true]
    exact Ev.bind sure_ev (Ev.now _)
  · simp only [hl, if_false]
    have hdl := decode_len b most
    refine outer_ev (by omega) 60 0 (by omega) (by omega) ?_
    refine Ev.step (fun k => radomelaw27_FspecReads.l0.eq_2 ..) ?_
    simp only [show ¬ ((60 : Int) < 60) by omega, if_false]
    refine Ev.bind (ints_f (by omega)) ?_
    simp only [if_true, radomelaw27_num.f, Option.bind_some]
    exact Ev.bind sure_ev (Ev.now _)
end Go.Proofs.YtlokgnjlnefbbaaDoor.Pure

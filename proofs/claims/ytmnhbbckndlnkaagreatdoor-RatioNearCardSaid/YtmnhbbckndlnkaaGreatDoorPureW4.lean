/- Shifts of the program's whole numbers, and quotients by a word. -/
import Derived.Test.YtmnhbbckndlnkaaGreatDoorPureW3
namespace Go.Proofs.YtmnhbbckndlnkaaGreatDoor.Pure
open Go.RowKit Go.Proofs.YtmnhbbckndlnkaaGreatDoorK Go.Proofs.YtmnhbbckndlnkaaGreatDoor.GRN
set_option linter.unusedVariables false
set_option linter.unusedSimpArgs false
theorem shn64 {m : Nat} (h : m ≤ 64) : shn .u64 (m : Int) = m := by simp only [shn, IntKind.bits]; omega
theorem pow2_pos (m : Nat) : (1 : Int) ≤ 2 ^ m := Int.pow_pos (by decide)
theorem pow2_le {m n : Nat} (h : m ≤ n) : (2 : Int) ^ m ≤ 2 ^ n := by
  have := Nat.pow_le_pow_right (show 0 < 2 by decide) h
  have e1 : ((2 ^ m : Nat) : Int) = (2 : Int) ^ m := by rw [Int.natCast_pow]; rfl
  have e2 : ((2 ^ n : Nat) : Int) = (2 : Int) ^ n := by rw [Int.natCast_pow]; rfl
  omega
theorem pow2_nat (m : Nat) : (2 : Int) ^ m = ((2 ^ m : Nat) : Int) := by rw [Int.natCast_pow]; rfl
/-- a shifted word with what is carried -/
theorem up_word {m : Nat} (hm : m ≤ 32) {w c : Int} (hw : 0 ≤ w ∧ w ≤ 4294967295) (hc : 0 ≤ c ∧ c < 2 ^ m) :
    ior .u64 ((w % 18446744073709551616 * 2 ^ shn .u64 (m : Int)) % 18446744073709551616) (c % 18446744073709551616) = w * 2 ^ m + c ∧ 0 ≤ w * 2 ^ m + c ∧ w * 2 ^ m + c < 4294967296 * 2 ^ m := by
  rw [shn64 (by omega)]
  have hp := pow2_pos m
  have hp2 : (2 : Int) ^ m ≤ 4294967296 := by have := pow2_le hm; have e : (2 : Int) ^ 32 = 4294967296 := by decide
                                              omega
  have h1 := Int.mul_le_mul_of_nonneg_right hw.2 (show (0 : Int) ≤ 2 ^ m by omega)
  have h2 := Int.mul_nonneg hw.1 (show (0 : Int) ≤ 2 ^ m by omega)
  have h3 : w * 2 ^ m + c < 4294967296 * 2 ^ m := by omega
  refine ⟨?_, by omega, h3⟩
  rw [wmodid hw, show (w * 2 ^ m) % 18446744073709551616 = w * 2 ^ m from Int.emod_eq_of_lt h2 (by omega), show c % 18446744073709551616 = c from Int.emod_eq_of_lt hc.1 (by omega)]
  obtain ⟨a, rfl⟩ := Int.eq_ofNat_of_zero_le hw.1
  obtain ⟨b, rfl⟩ := Int.eq_ofNat_of_zero_le hc.1
  have hb : b < 2 ^ m := by rw [pow2_nat] at hc; omega
  exact ior_sh hm (by omega) hb
theorem up_eq (A B S P X r c : Int) (h : S = r * P + c) : A + B * (S % 4294967296 + 4294967296 * (S / 4294967296 + P * X)) = A + B * (c + P * (r + 4294967296 * X)) := by
  have e : S % 4294967296 + 4294967296 * (S / 4294967296 + P * X) = S + 4294967296 * (P * X) := by rw [Int.mul_add]; omega
  rw [e, h, Int.mul_add P r, Int.mul_left_comm P 4294967296 X, Int.mul_comm r P]
  congr 2; omega
theorem wup_l0 {w : List Int} {m : Nat} (hm : m ≤ 32) (dw : Wg w) (hb : w.length < 1000000000) : ∀ (n i : Nat) (acc : List Int) (c : Int), acc.length = i → w.length = i + n → Wg acc → 0 ≤ c ∧ c < 2 ^ m →
    (0 ≤ c ∧ c ≤ 4294967295) → ∃ L, Ev (fun k => (wide_up.hs k).l0 (m : Int) acc c w (w.length : Int) i) L ∧ Wg L ∧ L.length = w.length + 1 ∧ U L = U acc + 4294967296 ^ acc.length * (c + 2 ^ m * U (w.drop i))
  | 0, i, acc, c, ei, em, dacc, hc, hc2 => by
    refine ⟨acc ++ [c], ?_, Wg_snoc dacc hc2, by simp; omega, ?_⟩
    · refine Ev.step (fun k => rfl) ?_
      simp only [wide_up.hs, wide_up.b0, if_neg (show ¬ ((i : Int) < (w.length : Int)) by omega), if_pos (show acc.length + 1 ≤ 35184372088704 by omega)]
      exact Ev.now
    · rw [List.drop_eq_nil_of_le (by omega), U_snoc]; simp only [U, Int.mul_zero, Int.add_zero]
  | n + 1, i, acc, c, ei, em, dacc, hc, hc2 => by
    have rw_ := wrd_range dw i
    have uw := up_word hm rw_ hc
    have hp2 : (2 : Int) ^ m ≤ 4294967296 := by have := pow2_le hm; have e : (2 : Int) ^ 32 = 4294967296 := by decide
                                                omega
    generalize hS : rd w i * 2 ^ m + c = S at uw
    have q1 : 0 ≤ S / 4294967296 ∧ S / 4294967296 < 2 ^ m := ⟨by omega, Int.ediv_lt_of_lt_mul (by decide) (by rw [Int.mul_comm]; exact uw.2.2)⟩
    have q2 : S / 4294967296 ≤ 4294967295 := by omega
    obtain ⟨L, h1, h2, h3, h4⟩ := wup_l0 hm dw hb n (i + 1) (acc ++ [S % 4294967296]) (S / 4294967296) (by simp [ei]) (by omega) (Wg_snoc dacc (by omega)) q1 ⟨q1.1, q2⟩
    refine ⟨L, ?_, h2, h3, ?_⟩
    · refine Ev.step (fun k => rfl) ?_
      simp only [wide_up.hs, wide_up.b0, if_pos (show ((i : Int) < (w.length : Int)) by omega), if_pos (show (0 : Int) ≤ i ∧ (i : Int) < (w.length : Int) by omega), if_pos (show (0 : Int) ≤ (m : Int) by omega), if_pos (show acc.length + 1 ≤ 35184372088704 by omega), uw.1, wsucc (show i < 1000000000 by omega), show S / 4294967296 % 4294967296 = S / 4294967296 by omega]
      exact h1
    · rw [h4, wsnoc_val, U_drop w i]
      exact up_eq _ _ _ _ _ _ _ hS.symm
theorem wup_ev {w : List Int} {m : Nat} (hm : m ≤ 32) (dw : Wg w) (hb : w.length < 1000000) : ∃ L, Ev (fun k => wide_up.f k w (m : Int)) L ∧ Wg L ∧ L.length = w.length + 1 ∧ U L = 2 ^ m * U w := by
  obtain ⟨L, h1, h2, h3, h4⟩ := wup_l0 hm dw (by omega) w.length 0 [] 0 rfl (by omega) Wg_nil ⟨by decide, by have := pow2_pos m; omega⟩ (by decide)
  refine ⟨L, ?_, h2, h3, by rw [h4]; simp [U]⟩
  simp only [wide_up.f, wsucc (show w.length < 1000000000 by omega), if_pos (show 0 ≤ 0 ∧ 0 ≤ ((w.length + 1 : Nat) : Int) ∧ ((w.length + 1 : Nat) : Int) ≤ 70368744177664 by omega)]
  exact h1
theorem set_mid {α : Type} (m : List α) (d e : α) (t : List α) : (m ++ d :: t).set m.length e = m ++ e :: t := by
  rw [List.set_append_right _ _ (Nat.le_refl _), Nat.sub_self]; rfl
/-- a digit of what is moved down -/
theorem down_digit {P w y X : Int} {Q : Int} (hP : 1 ≤ P) (hQ : 4294967296 = P * Q) (hw : 0 ≤ w ∧ w ≤ 4294967295) (hX : X % P = y % P) : (w + 4294967296 * X) / P = (w + y * 4294967296) / P % 4294967296 + 4294967296 * (X / P) := by
  have key : ∀ z : Int, (w + 4294967296 * z) / P = (w + 4294967296 * (z % P)) / P + 4294967296 * (z / P) := fun z => by
    have e : w + 4294967296 * z = (w + 4294967296 * (z % P)) + P * (4294967296 * (z / P)) := by
      have := Int.emod_add_mul_ediv z P
      rw [← Int.mul_left_comm 4294967296 P, Int.add_assoc, ← Int.mul_add, this]
    rw [e, Int.add_mul_ediv_left _ _ (by omega)]
  have hr : 0 ≤ (w + 4294967296 * (y % P)) / P ∧ (w + 4294967296 * (y % P)) / P < 4294967296 := by
    have h1 := Int.emod_nonneg y (show P ≠ 0 by omega)
    have h2 := Int.emod_lt_of_pos y (show 0 < P by omega)
    refine ⟨Int.ediv_nonneg (by omega) (by omega), Int.ediv_lt_of_lt_mul (by omega) ?_⟩
    have := Int.mul_le_mul_of_nonneg_left (show y % P + 1 ≤ P by omega) (show (0 : Int) ≤ 4294967296 by decide)
    rw [Int.mul_add] at this
    omega
  rw [Int.mul_comm y, key X, key y, hX]
  generalize (w + 4294967296 * (y % P)) / P = d at *
  generalize y / P = q at *
  have : (d + 4294967296 * q) % 4294967296 = d := by omega
  rw [this]
theorem pow32 {m : Nat} (hm : m ≤ 32) : (4294967296 : Int) = 2 ^ m * 2 ^ (32 - m) := by rw [← Int.pow_add, show m + (32 - m) = 32 by omega]; decide
theorem mod_of_word {P Q y Z : Int} (hQ : 4294967296 = P * Q) : (y + 4294967296 * Z) % P = y % P := by
  rw [hQ, Int.mul_assoc, Int.add_mul_emod_self_left]
theorem wdown_l0 {m : Nat} (hm : m ≤ 32) : ∀ (n : Nat) (rest acc : List Int) (L : Nat), rest.length = n → acc.length + n = L → L < 1000000000 → Wg acc → Wg rest →
    Ev (fun k => (wide_down.hs k).l0 (m : Int) (acc ++ rest) (L : Int) (acc.length : Int)) (wd (U acc + 4294967296 ^ acc.length * (U rest / 2 ^ m)).toNat)
  | 0, rest, acc, L, er, eL, hL, da, dr => by
    obtain rfl := List.length_eq_zero_iff.1 er
    refine Ev.step (fun k => rfl) ?_
    simp only [wide_down.hs, wide_down.b0, if_neg (show ¬ ((acc.length : Int) < (L : Int)) by omega), List.append_nil, U, Int.zero_ediv, Int.mul_zero, Int.add_zero]
    exact Ev.bind (wtrim_ev (by omega) da) Ev.now
  | n + 1, rest, acc, L, er, eL, hL, da, dr => by
    obtain ⟨w, t, rfl⟩ : ∃ w t, rest = w :: t := by cases rest with | nil => cases er | cons w t => exact ⟨w, t, rfl⟩
    have et : t.length = n := by simpa using er
    obtain ⟨dw, dt⟩ := Wg_cons.1 dr
    have hp := pow2_pos m
    have el : (acc ++ w :: t).length = L := by rw [List.length_append, List.length_cons, et]; omega
    have es : ∀ d, (acc ++ w :: t).set acc.length d = (acc ++ [d]) ++ t := fun d => by rw [set_mid, List.append_assoc]; rfl
    have J : ∀ y : Int, U t % 2 ^ m = y % 2 ^ m → 0 ≤ y → ∀ v : Int, v = w + y * 4294967296 → Ev (fun k => wide_down.j2 k (wide_down.hs k) (m : Int) (acc ++ w :: t) (acc.length : Int) v (L : Int) (acc.length : Int)) (wd (U acc + 4294967296 ^ acc.length * (U (w :: t) / 2 ^ m)).toNat) := by
      intro y hy y0 v hv
      have dd := down_digit (X := U t) hp (pow32 hm) dw hy
      simp only [wide_down.j2, if_pos (show (0 : Int) ≤ (m : Int) by omega), if_pos (show (0 : Int) ≤ (acc.length : Int) ∧ (acc.length : Int) < ((acc ++ w :: t).length : Int) by rw [el]; omega), Int.toNat_natCast, es, shn64 (show m ≤ 64 by omega), wsucc (show acc.length < 1000000000 by omega), hv]
      have hd : 0 ≤ (w + y * 4294967296) / 2 ^ m % 4294967296 ∧ (w + y * 4294967296) / 2 ^ m % 4294967296 ≤ 4294967295 := ⟨Int.emod_nonneg _ (by decide), Int.le_of_lt_add_one (Int.emod_lt_of_pos _ (by decide))⟩
      generalize (w + y * 4294967296) / 2 ^ m % 4294967296 = d at *
      have := wdown_l0 hm n t (acc ++ [d]) L et (by simp; omega) hL (Wg_snoc da hd) dt
      rw [wsnoc_val] at this
      simp only [U, dd]
      rw [List.length_append, List.length_singleton] at this
      exact this
    refine Ev.step (fun k => rfl) ?_
    simp only [wide_down.hs, wide_down.b0, if_pos (show ((acc.length : Int) < (L : Int)) by omega), if_pos (show (0 : Int) ≤ (acc.length : Int) ∧ (acc.length : Int) < ((acc ++ w :: t).length : Int) by rw [el]; omega), rd_mid acc w t (show (acc.length : Int) = acc.length from rfl), wsucc (show acc.length < 1000000000 by omega)]
    cases t with
    | nil =>
      simp only [if_neg (show ¬ (((acc.length + 1 : Nat) : Int) < ((acc ++ [w]).length : Int)) by simp)]
      exact J 0 rfl (by decide) _ (by omega)
    | cons y t' =>
      obtain ⟨dy, dt'⟩ := Wg_cons.1 dt
      have hlt : ((acc.length + 1 : Nat) : Int) < ((acc ++ w :: y :: t').length : Int) := by simp; omega
      have ry : rd (acc ++ w :: y :: t') ((acc.length + 1 : Nat) : Int) = y := by
        rw [show acc ++ w :: y :: t' = (acc ++ [w]) ++ y :: t' by simp]
        exact rd_mid _ _ _ (by simp)
      simp only [if_pos hlt, if_pos (And.intro (Int.natCast_nonneg (acc.length + 1)) hlt), ry, wmodid dw, wmodid dy]
      exact J y (by simp only [U]; exact mod_of_word (pow32 hm)) dy.1 _ (by rw [show (y * 4294967296) % 18446744073709551616 = y * 4294967296 by omega, ior_lh' dy dw])
theorem Clone_eq (k : Nat) {l : List Int} (h : l.length < 1000000000) : slices_Clone_uint32_uint32.f k l = some l := by
  unfold slices_Clone_uint32_uint32.f; rw [if_pos (by omega)]
theorem wdown_ev {m : Nat} (hm : m ≤ 32) {w : List Int} (dw : Wg w) (hb : w.length < 1000000000) : Ev (fun k => wide_down.f k w (m : Int)) (wd (U w / 2 ^ m).toNat) := by
  have := wdown_l0 hm w.length w [] w.length rfl (by simp) hb Wg_nil dw
  simp only [U, List.length_nil, List.nil_append, Int.pow_zero, Int.one_mul, Int.zero_add] at this
  simp only [wide_down.f, Clone_eq _ hb, Option.bind_some]
  exact this
/-- by a word -/
theorem short_step {a X b : Int} (hb : 1 ≤ b) (ha : 0 ≤ a ∧ a ≤ 4294967295) : (a + 4294967296 * X) / b = (X % b * 4294967296 + a) / b + 4294967296 * (X / b) ∧ (a + 4294967296 * X) % b = (X % b * 4294967296 + a) % b ∧ 0 ≤ (X % b * 4294967296 + a) / b ∧ (X % b * 4294967296 + a) / b ≤ 4294967295 := by
  have e : a + 4294967296 * X = (X % b * 4294967296 + a) + b * (4294967296 * (X / b)) := by
    have := Int.emod_add_mul_ediv X b
    rw [← Int.mul_left_comm 4294967296 b]
    have h2 : 4294967296 * X = 4294967296 * (X % b + b * (X / b)) := by rw [this]
    rw [h2, Int.mul_add]; omega
  have h1 := Int.emod_nonneg X (show b ≠ 0 by omega)
  have h2 := Int.emod_lt_of_pos X (show 0 < b by omega)
  refine ⟨?_, ?_, Int.ediv_nonneg (by omega) (by omega), ?_⟩
  · rw [e, Int.add_mul_ediv_left _ _ (by omega)]
  · rw [e, Int.add_mul_emod_self_left]
  · have := Int.ediv_lt_of_lt_mul (a := X % b * 4294967296 + a) (b := 4294967296) (c := b) (by omega) (by omega)
    omega
theorem wshort_l0 {a : List Int} {b : Int} (da : Wg a) (hb : 1 ≤ b ∧ b ≤ 4294967295) (hl : a.length < 1000000000) : ∀ (n : Nat) (hi : List Int), n + hi.length = a.length → Wg hi → U hi = U (a.drop n) / b →
    Ev (fun k => (wide_short.hs k).l0 a b (List.replicate n 0 ++ hi) (U (a.drop n) % b) ((n : Int) - 1)) (wd (U a / b).toNat, U a % b)
  | 0, hi, e, dh, hu => by
    refine Ev.step (fun k => rfl) ?_
    have h2 := Int.emod_lt_of_pos (U a) (show 0 < b by omega)
    have h1 := Int.emod_nonneg (U a) (show b ≠ 0 by omega)
    simp only [List.drop_zero] at hu
    simp only [wide_short.hs, wide_short.b0, if_neg (show ¬ ((0 : Int) ≤ ((0 : Nat) : Int) - 1) by decide), List.replicate_zero, List.nil_append, List.drop_zero, show U a % b % 4294967296 = U a % b by omega]
    rw [← hu]
    exact Ev.bind (wtrim_ev (by omega) dh) Ev.now
  | n + 1, hi, e, dh, hu => by
    have ra := wrd_range da n
    have st := short_step (X := U (a.drop (n + 1))) hb.1 ra
    have h1 := Int.emod_nonneg (U (a.drop (n + 1))) (show b ≠ 0 by omega)
    have h2 := Int.emod_lt_of_pos (U (a.drop (n + 1))) (show 0 < b by omega)
    have en : ((n + 1 : Nat) : Int) - 1 = n := by omega
    have eL : (List.replicate (n + 1) (0 : Int) ++ hi).length = a.length := by rw [List.length_append, List.length_replicate, e]
    have es : ∀ d : Int, (List.replicate (n + 1) 0 ++ hi).set n d = List.replicate n 0 ++ d :: hi := fun d => by
      rw [List.replicate_succ', List.append_assoc]
      have := set_mid (List.replicate n (0 : Int)) 0 d hi
      rw [List.length_replicate] at this
      exact this
    have ud := U_drop a n
    have IH := wshort_l0 da hb hl n ((U (a.drop (n + 1)) % b * 4294967296 + rd a n) / b :: hi) (by simp; omega) (Wg_cons.2 ⟨st.2.2, dh⟩) (by simp only [U]; rw [hu, ud, st.1])
    rw [ud, st.2.1] at IH
    refine Ev.step (fun k => rfl) ?_
    simp only [wide_short.hs, wide_short.b0, en, if_pos (show (0 : Int) ≤ (n : Int) by omega), if_pos (show (0 : Int) ≤ (n : Int) ∧ (n : Int) < (a.length : Int) by omega), eL, wmodid (show 0 ≤ b ∧ b ≤ 4294967295 by omega), if_pos (show b ≠ 0 by omega), wmodid ra, Int.toNat_natCast, es,
      show w64 ((n : Int) - 1) = (n : Int) - 1 from w64_id (by omega)]
    have eS : ior .u64 ((U (a.drop (n + 1)) % b * 4294967296) % 18446744073709551616) (rd a n) = U (a.drop (n + 1)) % b * 4294967296 + rd a n := by
      rw [show (U (a.drop (n + 1)) % b * 4294967296) % 18446744073709551616 = U (a.drop (n + 1)) % b * 4294967296 by omega]
      exact ior_hl' (by omega) ra
    rw [eS, Int.tdiv_eq_ediv_of_nonneg (by omega), Int.tmod_eq_emod_of_nonneg (by omega)]
    rw [show (U (a.drop (n + 1)) % b * 4294967296 + rd a n) / b % 18446744073709551616 % 4294967296 = (U (a.drop (n + 1)) % b * 4294967296 + rd a n) / b by omega]
    exact IH
theorem wshort_ev {a : List Int} {b : Int} (da : Wg a) (hb : 1 ≤ b ∧ b ≤ 4294967295) (hl : a.length < 1000000000) : Ev (fun k => wide_short.f k a b) (wd (U a / b).toNat, U a % b) := by
  have := wshort_l0 da hb hl a.length [] (by simp) Wg_nil (by rw [List.drop_eq_nil_of_le (Nat.le_refl _)]; simp [U])
  rw [List.drop_eq_nil_of_le (Nat.le_refl _)] at this
  simp only [U, Int.zero_emod, List.append_nil] at this
  simp only [wide_short.f, if_pos (show 0 ≤ (a.length : Int) ∧ (a.length : Int) ≤ 70368744177664 by omega), Int.toNat_natCast, show w64 ((a.length : Int) - 1) = (a.length : Int) - 1 from w64_id (by omega)]
  exact this

/-! ### times a power of two -/
theorem U_eq_zero : ∀ {l : List Int}, Wg l → (U l = 0 ↔ ∀ d ∈ l, d = 0)
  | [], _ => by simp [U]
  | d :: l, h => by
    obtain ⟨hd, hl⟩ := Wg_cons.1 h
    have ih := U_eq_zero hl
    have := U_nonneg hl
    simp only [U, List.mem_cons, forall_eq_or_imp]
    rw [← ih]
    omega
theorem wany_l0 {l : List Int} (dl : Wg l) (hl : l.length < 1000000000) (t4 : Int) : ∀ (n i : Nat), l.length = i + n → U (l.take i) = 0 →
    ∃ r, Ev (fun k => (slices_IndexFunc_uint32_uint32_wide_Int_Move_1.hs k).l0 l t4 (l.length : Int) i) r ∧ decide (0 ≤ r) = decide (U l ≠ 0)
  | 0, i, e, h0 => by
    rw [List.take_of_length_le (by omega)] at h0
    refine ⟨-1, ?_, by simp [h0]⟩
    refine Ev.step (fun k => rfl) ?_
    simp only [slices_IndexFunc_uint32_uint32_wide_Int_Move_1.hs, slices_IndexFunc_uint32_uint32_wide_Int_Move_1.b0, if_neg (show ¬ ((i : Int) < (l.length : Int)) by omega)]
    exact Ev.now
  | n + 1, i, e, h0 => by
    have rl := wrd_range dl i
    have il : (i : Int) < (l.length : Int) := by omega
    have ut := U_take_succ l i (by omega)
    by_cases z : rd l (i : Int) = 0
    · obtain ⟨r, h1, h2⟩ := wany_l0 dl hl t4 n (i + 1) (by omega) (by rw [ut, h0, z]; simp)
      refine ⟨r, ?_, h2⟩
      refine Ev.step (fun k => rfl) ?_
      simp only [slices_IndexFunc_uint32_uint32_wide_Int_Move_1.hs, slices_IndexFunc_uint32_uint32_wide_Int_Move_1.b0, if_pos il, if_pos (And.intro (Int.natCast_nonneg i) il), wide_Int_Move_1.f, Option.bind_some, z, decide_true, Bool.not_true, Bool.false_eq_true, if_false, wsucc (show i < 1000000000 by omega)]
      exact h1
    · refine ⟨i, ?_, ?_⟩
      · refine Ev.step (fun k => rfl) ?_
        simp only [slices_IndexFunc_uint32_uint32_wide_Int_Move_1.hs, slices_IndexFunc_uint32_uint32_wide_Int_Move_1.b0, if_pos il, if_pos (And.intro (Int.natCast_nonneg i) il), wide_Int_Move_1.f, Option.bind_some, z, decide_false, Bool.not_false, if_true]
        exact Ev.now
      · rw [decide_eq_decide]
        refine ⟨fun _ hu => z ?_, fun _ => by omega⟩
        have := (U_eq_zero dl).1 hu
        unfold rd
        rw [Int.toNat_natCast, List.getD_eq_getElem?_getD, List.getElem?_eq_getElem (show i < l.length by omega)]
        exact this _ (List.getElem_mem _)
theorem wany_ev {l : List Int} (dl : Wg l) (hl : l.length < 1000000000) : Ev (fun k => slices_ContainsFunc_uint32_uint32_wide_Int_Move_1.f k l) (decide (U l ≠ 0)) := by
  obtain ⟨r, h1, h2⟩ := wany_l0 dl hl 0 l.length 0 (by omega) (by simp [U])
  have : Ev (fun k => slices_IndexFunc_uint32_uint32_wide_Int_Move_1.f k l) r := h1
  rw [← h2]
  exact Ev.bind this Ev.now
theorem U_zeros_append (q : Nat) (l : List Int) : U (List.replicate q 0 ++ l) = 4294967296 ^ q * U l := by
  rw [U_append, U_zeros, List.length_replicate]; omega
theorem two_split (n : Nat) : (2 : Int) ^ n = 4294967296 ^ (n / 32) * 2 ^ (n % 32) := by
  have e : (4294967296 : Int) = 2 ^ 32 := by decide
  rw [e, ← Int.pow_mul, ← Int.pow_add]
  congr 1; omega
theorem sign_cases {x y : Int} {P : Int} (hP : 1 ≤ P) (hy : y = (x.natAbs : Int) * P) : x * P = if decide (x < 0) = true then -y else y := by
  subst hy
  by_cases s : x < 0
  · simp only [s, decide_true, if_true]
    rw [show (x.natAbs : Int) = -x by omega, Int.neg_mul]; omega
  · simp only [s, decide_false, Bool.false_eq_true, if_false]
    rw [show (x.natAbs : Int) = x by omega]
theorem WMove_up {x : Int} {n : Nat} (hx : Wl x < 1000000) (hn : n ≤ 4096) : Ev (fun k => wide_Int_Move.f k (Wb x) (n : Int)) (res (x * 2 ^ n)) := by
  unfold Wl at hx
  obtain ⟨L, h1, h2, h3, h4⟩ := wup_ev (m := n % 32) (by omega) (Wg_wd x.natAbs) hx
  have e1 : ((decide ((n : Int) < -4096)) || (decide (4096 < (n : Int)))) = false := by simp; omega
  have e2 : w64 (Int.tdiv (n : Int) 32) = ((n / 32 : Nat) : Int) := by rw [Int.tdiv_eq_ediv_of_nonneg (by omega), w64_id (by omega)]; omega
  have e3 : Int.tmod (n : Int) 32 = ((n % 32 : Nat) : Int) := by rw [Int.tmod_eq_emod_of_nonneg (by omega)]; omega
  simp only [wide_Int_Move.f, e1, Bool.false_eq_true, if_false, if_pos (show (0 : Int) ≤ (n : Int) by omega), e2, e3, if_pos (show (0 : Int) ≤ ((n / 32 : Nat) : Int) ∧ ((n / 32 : Nat) : Int) ≤ 70368744177664 by omega), Wb_w, Wb_neg, Int.toNat_natCast, List.length_replicate]
  refine Ev.bind h1 ?_
  simp only [if_pos (show n / 32 + L.length ≤ 35184372088704 by omega)]
  refine Ev.bind (made_ev (x := x * 2 ^ n) (by rw [List.length_append, List.length_replicate]; omega) (Wg_append.2 ⟨Wg_zeros _, h2⟩) ?_) Ev.now
  rw [U_zeros_append, h4, U_wd]
  refine sign_cases (pow2_pos n) ?_
  rw [two_split n, ← Int.mul_assoc, Int.mul_comm]
/-- what is cut down, of a number below nought: one more, if something is lost -/
theorem floor_neg {a P : Int} (hP : 1 ≤ P) : (-a) / P = -(a / P) - (if a % P = 0 then 0 else 1) := by
  have h := Int.emod_add_mul_ediv a P
  have h1 := Int.emod_nonneg a (show P ≠ 0 by omega)
  have h2 := Int.emod_lt_of_pos a (show 0 < P by omega)
  by_cases z : a % P = 0
  · rw [if_pos z, Int.sub_zero]
    rw [z, Int.zero_add] at h
    have e : -a = P * -(a / P) := by rw [Int.mul_neg, h]
    rw [e, Int.mul_ediv_cancel_left _ (by omega)]
  · rw [if_neg z]
    have e : -a = (P - a % P) + P * (-(a / P) - 1) := by rw [Int.mul_sub, Int.mul_neg]; omega
    rw [e, Int.add_mul_ediv_left _ _ (by omega), Int.ediv_eq_zero_of_lt (by omega) (by omega)]
    rw [Int.zero_add]
theorem ediv_le_self' {a P : Int} (ha : 0 ≤ a) (hP : 1 ≤ P) : 0 ≤ a / P ∧ a / P ≤ a := by
  refine ⟨Int.ediv_nonneg ha (by omega), ?_⟩
  exact Int.ediv_le_self _ ha
theorem ediv_half {a P : Int} (ha : 1 ≤ a) (hP : 2 ≤ P) : a / P + 1 ≤ a := by
  have h := Int.emod_add_mul_ediv a P
  have h1 := Int.emod_nonneg a (show P ≠ 0 by omega)
  have h3 := Int.ediv_nonneg (show 0 ≤ a by omega) (show 0 ≤ P by omega)
  have h4 := Int.mul_le_mul_of_nonneg_right hP h3
  omega
theorem res_fit {x : Int} (h : Fit x) : res x = (Wb x, none) := if_pos h
theorem Wmove_j1 {x P : Int} {lost : Bool} {w rest : List Int} (hx : Fit x) (hP : 2 ≤ P) (hlost : lost = decide ((x.natAbs : Int) % P ≠ 0)) (dr : Wg rest) (hr : U rest = (x.natAbs : Int) / P) (hl : rest.length < 1000000) :
    Ev (fun k => wide_Int_Move.j1 k (decide (x < 0)) w lost rest) (Wb (x / P), none) := by
  have hA : (0 : Int) ≤ x.natAbs := by omega
  have q := ediv_le_self' (P := P) hA (by omega)
  unfold Fit at hx
  simp only [wide_Int_Move.j1, Clone_eq _ (show rest.length < 1000000000 by omega), Option.bind_some]
  have fz : Fit (if decide (x < 0) = true then -(U rest) else U rest) := by
    unfold Fit; rw [hr]; split <;> omega
  refine Ev.bind (made_ev (x := if decide (x < 0) = true then -(U rest) else U rest) (by omega) dr rfl) ?_
  rw [res_fit fz]
  by_cases s : x < 0
  · simp only [s, decide_true, Bool.not_true, Option.isSome_none, Bool.or_false, Bool.false_or, if_true]
    have fn := floor_neg (a := (x.natAbs : Int)) (P := P) (by omega)
    rw [show -(x.natAbs : Int) = x by omega] at fn
    by_cases z : (x.natAbs : Int) % P = 0
    · rw [if_pos z, Int.sub_zero] at fn
      simp only [hlost, z, ne_eq, not_true_eq_false, decide_false, Bool.not_false, if_true, Wb_eta]
      rw [hr, fn]; exact Ev.now
    · rw [if_neg z] at fn
      simp only [hlost, z, ne_eq, not_false_eq_true, decide_true, Bool.not_true, Bool.false_eq_true, if_false, Wb_eta]
      have a1 : (1 : Int) ≤ x.natAbs := by omega
      have hh := ediv_half a1 hP
      refine Ev.bind (WOf_ev (x := 1) (by omega)) (Ev.bind (WSub_ev (x := -U rest) (y := 1) ?_ ?_) ?_)
      · have := fit_Wl (x := -U rest) (by unfold Fit; rw [hr]; omega); omega
      · have := fit_Wl (x := 1) (by unfold Fit; omega); omega
      · rw [res_fit (show Fit (-U rest - 1) by unfold Fit; rw [hr]; omega), fn, hr]; exact Ev.now
  · simp only [s, decide_false, Bool.not_false, Option.isSome_none, Bool.or_true, Bool.true_or, if_true, Bool.false_eq_true, if_false, Wb_eta]
    rw [hr, show (x.natAbs : Int) = x by omega]; exact Ev.now
theorem and_mask32 (n : Nat) (x : Int) (hn : n ≤ 31) (h : 0 ≤ x ∧ x ≤ 4294967295) : iand .u32 x (((1 * 2 ^ shn .u32 (n : Int)) % 4294967296 - 1) % 4294967296) = x % 2 ^ n := by
  have hs : shn .u32 (n : Int) = n := by simp only [shn, IntKind.bits]; omega
  obtain ⟨a, rfl⟩ := Int.eq_ofNat_of_zero_le h.1
  have hp : 2 ^ n ≤ 2 ^ 31 := Nat.pow_le_pow_right (by decide) hn
  have hq : 0 < 2 ^ n := Nat.pow_pos (by decide)
  have e : (((1 * 2 ^ shn .u32 (n : Int)) % 4294967296 - 1) % 4294967296 : Int) = ((2 ^ n - 1 : Nat) : Int) := by
    rw [hs, Int.one_mul, pow2_nat]
    have : (2 : Nat) ^ 31 = 2147483648 := by decide
    omega
  rw [e, iand_nat32 (by omega) (by have : (2 : Nat) ^ 31 = 2147483648 := by decide
                                   omega), Nat.and_two_pow_sub_one_eq_mod, pow2_nat]
  omega
theorem move_parts {T R A B M : Int} (hA : A = T + B * R) (hT : 0 ≤ T ∧ T < B) (hM : 1 ≤ M) (hR : 0 ≤ R) : A / (B * M) = R / M ∧ A % (B * M) = T + B * (R % M) := by
  have h := Int.emod_add_mul_ediv R M
  have h1 := Int.emod_nonneg R (show M ≠ 0 by omega)
  have h2 := Int.emod_lt_of_pos R (show 0 < M by omega)
  have hb := Int.mul_le_mul_of_nonneg_left (show R % M + 1 ≤ M by omega) (show 0 ≤ B by omega)
  rw [Int.mul_add, Int.mul_one] at hb
  have hb0 := Int.mul_nonneg (show 0 ≤ B by omega) h1
  have e : A = (T + B * (R % M)) + (B * M) * (R / M) := by
    rw [hA, Int.mul_assoc, Int.add_assoc, ← Int.mul_add, h]
  have hpos : 0 < B * M := Int.mul_pos (by omega) (by omega)
  refine ⟨?_, ?_⟩
  · rw [e, Int.add_mul_ediv_left _ _ (by omega), Int.ediv_eq_zero_of_lt (by omega) (by omega), Int.zero_add]
  · rw [e, Int.add_mul_emod_self_left, Int.emod_eq_of_lt (by omega) (by omega)]
theorem rd_mod {l : List Int} {m : Nat} (hm : m ≤ 32) : U l % 2 ^ m = rd l (0 : Int) % 2 ^ m := by
  cases l with
  | nil => rfl
  | cons d t => simp only [U]; exact mod_of_word (pow32 hm)
theorem cut_take (l : List Int) (n : Nat) : cut l 0 (n : Int) = l.take n := by unfold cut; simp
theorem cut_drop (l : List Int) (n : Nat) : cut l (n : Int) (l.length : Int) = l.drop n := by unfold cut; simp
theorem WMove_down {x : Int} {s : Nat} (hx : Fit x) (hs : 1 ≤ s ∧ s ≤ 4096) : Ev (fun k => wide_Int_Move.f k (Wb x) (-(s : Int))) (Wb (x / 2 ^ s), none) := by
  have hl := fit_Wl hx
  unfold Wl at hl
  have hP : (2 : Int) ≤ 2 ^ s := by have := pow2_le hs.1; simpa using this
  have e1 : ((decide (-(s : Int) < -4096)) || (decide (4096 < -(s : Int)))) = false := by simp; omega
  have e0 : w64 (0 - -(s : Int)) = (s : Int) := by rw [w64_id (by omega)]; omega
  have e2 : w64 (Int.tdiv (s : Int) 32) = ((s / 32 : Nat) : Int) := by rw [Int.tdiv_eq_ediv_of_nonneg (by omega), w64_id (by omega)]; omega
  have e3 : Int.tmod (s : Int) 32 = ((s % 32 : Nat) : Int) := by rw [Int.tmod_eq_emod_of_nonneg (by omega)]; omega
  have dw := Wg_wd x.natAbs
  have uw := U_wd x.natAbs
  by_cases g : s / 32 < (wd x.natAbs).length
  · have ek : min ((s / 32 : Nat) : Int) ((wd x.natAbs).length : Int) = ((s / 32 : Nat) : Int) := by omega
    have dt := Wg_take dw (s / 32)
    have dd := Wg_drop dw (s / 32)
    have hsp : U (wd x.natAbs) = U ((wd x.natAbs).take (s / 32)) + 4294967296 ^ (s / 32) * U ((wd x.natAbs).drop (s / 32)) := by
      have := U_append ((wd x.natAbs).take (s / 32)) ((wd x.natAbs).drop (s / 32))
      rw [List.take_append_drop, List.length_take, Nat.min_eq_left (by omega)] at this
      exact this
    have hT : 0 ≤ U ((wd x.natAbs).take (s / 32)) ∧ U ((wd x.natAbs).take (s / 32)) < 4294967296 ^ (s / 32) := by
      have h := U_lt dt
      rw [List.length_take, Nat.min_eq_left (by omega)] at h
      exact ⟨U_nonneg dt, h⟩
    obtain ⟨p1, p2⟩ := move_parts (M := 2 ^ (s % 32)) hsp hT (pow2_pos _) (U_nonneg dd)
    rw [← two_split, uw] at p1 p2
    rw [rd_mod (by omega)] at p2
    have hrd := wrd_range dd 0
    simp only [wide_Int_Move.f, e1, Bool.false_eq_true, if_false, if_neg (show ¬ (0 : Int) ≤ -(s : Int) by omega), e0, e2, e3, Wb_w, Wb_neg, ek, if_pos (show (0 : Int) ≤ 0 ∧ (0 : Int) ≤ ((s / 32 : Nat) : Int) ∧ ((s / 32 : Nat) : Int) ≤ ((wd x.natAbs).length : Int) by omega), cut_take]
    refine Ev.bind (wany_ev dt (by rw [List.length_take]; omega)) ?_
    simp only [if_pos (show (0 : Int) ≤ ((s / 32 : Nat) : Int) ∧ ((s / 32 : Nat) : Int) ≤ ((wd x.natAbs).length : Int) ∧ ((wd x.natAbs).length : Int) ≤ ((wd x.natAbs).length : Int) by omega), decide_true, Bool.and_true, decide_eq_true (show ((s / 32 : Nat) : Int) < ((wd x.natAbs).length : Int) by omega), if_true, cut_drop]
    simp only [if_pos (show (!decide (U ((wd x.natAbs).take (s / 32)) ≠ 0)) = true → (0 : Int) ≤ 0 ∧ (0 : Int) < (((wd x.natAbs).drop (s / 32)).length : Int) by intro; rw [List.length_drop]; omega), if_pos (show (!decide (U ((wd x.natAbs).take (s / 32)) ≠ 0)) = true → (0 : Int) ≤ ((s % 32 : Nat) : Int) by intro; omega)]
    refine Ev.bind (wdown_ev (m := s % 32) (by omega) dd (by rw [List.length_drop]; omega)) ?_
    have hr0 := ediv_le_self' (a := (x.natAbs : Int)) (P := 2 ^ s) (by omega) (by omega)
    refine Wmove_j1 hx hP ?_ (Wg_wd _) ?_ ?_
    · have hmask := and_mask32 (s % 32) (rd ((wd x.natAbs).drop (s / 32)) ((0 : Nat) : Int)) (by omega) hrd
      rw [show ((0 : Nat) : Int) = 0 from rfl] at hmask
      rw [hmask, p2]
      have hm0 := Int.emod_nonneg (rd ((wd x.natAbs).drop (s / 32)) 0) (show (2 : Int) ^ (s % 32) ≠ 0 by have := pow2_pos (s % 32); omega)
      have hB : (1 : Int) ≤ 4294967296 ^ (s / 32) := Int.pow_pos (by decide)
      generalize rd ((wd x.natAbs).drop (s / 32)) 0 % 2 ^ (s % 32) = r at *
      generalize U ((wd x.natAbs).take (s / 32)) = T at *
      rw [Bool.eq_iff_iff]
      simp only [Bool.or_eq_true, decide_eq_true_eq, Bool.not_eq_true', decide_eq_false_iff_not]
      have hBr := Int.mul_nonneg (show (0 : Int) ≤ 4294967296 ^ (s / 32) by omega) hm0
      constructor
      · rintro (h | h) h2
        · exact h (by omega)
        · have : 4294967296 ^ (s / 32) * r = 0 := by omega
          rcases Int.mul_eq_zero.1 this with h3 | h3
          · omega
          · exact h h3
      · intro h
        by_cases hr : r = 0
        · left; intro hT0; apply h; rw [hr, hT0]; simp
        · exact .inr hr
    · rw [U_wd, p1]
      have := Int.ediv_nonneg (U_nonneg dd) (show (0 : Int) ≤ 2 ^ (s % 32) by have := pow2_pos (s % 32); omega)
      omega
    · have : (wd (U ((wd x.natAbs).drop (s / 32)) / 2 ^ (s % 32)).toNat).length ≤ (wd x.natAbs).length := wd_len_mono (by rw [← p1]; omega)
      omega
  · have ek : min ((s / 32 : Nat) : Int) ((wd x.natAbs).length : Int) = ((wd x.natAbs).length : Int) := by omega
    simp only [wide_Int_Move.f, e1, Bool.false_eq_true, if_false, if_neg (show ¬ (0 : Int) ≤ -(s : Int) by omega), e0, e2, e3, Wb_w, Wb_neg, ek, if_pos (show (0 : Int) ≤ 0 ∧ (0 : Int) ≤ ((wd x.natAbs).length : Int) ∧ ((wd x.natAbs).length : Int) ≤ ((wd x.natAbs).length : Int) by omega), cut_take, List.take_length]
    refine Ev.bind (wany_ev dw (by omega)) ?_
    simp only [if_pos (show (0 : Int) ≤ ((wd x.natAbs).length : Int) ∧ ((wd x.natAbs).length : Int) ≤ ((wd x.natAbs).length : Int) ∧ ((wd x.natAbs).length : Int) ≤ ((wd x.natAbs).length : Int) by omega), Int.lt_irrefl, decide_false, Bool.false_and, Bool.false_eq_true, if_false]
    have hlt : (x.natAbs : Int) < 2 ^ s := by
      have h := wd_lt x.natAbs
      rw [pow_words] at h
      have h2 : (2 : Nat) ^ (32 * (wd x.natAbs).length) ≤ 2 ^ s := Nat.pow_le_pow_right (by decide) (by omega)
      rw [pow2_nat]; omega
    refine Wmove_j1 hx hP ?_ Wg_nil ?_ (by simp)
    · rw [uw, Int.emod_eq_of_lt (by omega) hlt]
    · rw [Int.ediv_eq_zero_of_lt (by omega) hlt]; rfl
end Go.Proofs.YtmnhbbckndlnkaaGreatDoor.Pure

/- Shifts of the program's whole numbers, and quotients by a word. -/
import Derived.Test.YtkccpkccdbfomaaGreatDoorPureW3
namespace Go.Proofs.YtkccpkccdbfomaaGreatDoor.Pure
open Go.RowKit Go.Proofs.YtkccpkccdbfomaaGreatDoorK Go.Proofs.YtkccpkccdbfomaaGreatDoor.GBH
set_option linter.unusedVariables false
set_option linter.unusedSimpArgs false
theorem shn64 {m : Nat} (h : m ≤ 64) : shn .u64 (m : Int) = m := by simp only [shn, IntKind.bits]; omega
theorem ZR (m : Nat) : (1 : Int) ≤ 2 ^ m := Int.pow_pos (by decide)
theorem MI {m n : Nat} (h : m ≤ n) : (2 : Int) ^ m ≤ 2 ^ n := by
  have := Nat.pow_le_pow_right (show 0 < 2 by decide) h
  have e1 : ((2 ^ m : Nat) : Int) = (2 : Int) ^ m := by rw [Int.natCast_pow]; rfl
  have e2 : ((2 ^ n : Nat) : Int) = (2 : Int) ^ n := by rw [Int.natCast_pow]; rfl
  omega
theorem JE (m : Nat) : (2 : Int) ^ m = ((2 ^ m : Nat) : Int) := by rw [Int.natCast_pow]; rfl
/-- a shifted word with what is carried -/
theorem WZ {m : Nat} (hm : m ≤ 32) {w c : Int} (hw : 0 ≤ w ∧ w ≤ 4294967295) (hc : 0 ≤ c ∧ c < 2 ^ m) :
    ior .u64 ((w % 18446744073709551616 * 2 ^ shn .u64 (m : Int)) % 18446744073709551616) (c % 18446744073709551616) = w * 2 ^ m + c ∧ 0 ≤ w * 2 ^ m + c ∧ w * 2 ^ m + c < 4294967296 * 2 ^ m := by
  rw [shn64 (by omega)]
  have hp := ZR m
  have hp2 : (2 : Int) ^ m ≤ 4294967296 := by have := MI hm; have e : (2 : Int) ^ 32 = 4294967296 := by decide
                                              omega
  have h1 := Int.mul_le_mul_of_nonneg_right hw.2 (show (0 : Int) ≤ 2 ^ m by omega)
  have h2 := Int.mul_nonneg hw.1 (show (0 : Int) ≤ 2 ^ m by omega)
  have h3 : w * 2 ^ m + c < 4294967296 * 2 ^ m := by omega
  refine ⟨?_, by omega, h3⟩
  rw [wmodid hw, show (w * 2 ^ m) % 18446744073709551616 = w * 2 ^ m from Int.emod_eq_of_lt h2 (by omega), show c % 18446744073709551616 = c from Int.emod_eq_of_lt hc.1 (by omega)]
  obtain ⟨a, rfl⟩ := Int.eq_ofNat_of_zero_le hw.1
  obtain ⟨b, rfl⟩ := Int.eq_ofNat_of_zero_le hc.1
  have hb : b < 2 ^ m := by rw [JE] at hc; omega
  exact QaE hm (by omega) hb
theorem QaK (A B S P X r c : Int) (h : S = r * P + c) : A + B * (S % 4294967296 + 4294967296 * (S / 4294967296 + P * X)) = A + B * (c + P * (r + 4294967296 * X)) := by
  have e : S % 4294967296 + 4294967296 * (S / 4294967296 + P * X) = S + 4294967296 * (P * X) := by rw [Int.mul_add]; omega
  rw [e, h, Int.mul_add P r, Int.mul_left_comm P 4294967296 X, Int.mul_comm r P]
  congr 2; omega
theorem UF {w : List Int} {m : Nat} (hm : m ≤ 32) (dw : Wg w) (hb : w.length < 1000000000) : ∀ (n i : Nat) (acc : List Int) (c : Int), acc.length = i → w.length = i + n → Wg acc → 0 ≤ c ∧ c < 2 ^ m →
    (0 ≤ c ∧ c ≤ 4294967295) → ∃ L, Ev (fun k => (Xi.hs k).l0 (m : Int) acc c w (w.length : Int) i) L ∧ Wg L ∧ L.length = w.length + 1 ∧ U L = U acc + 4294967296 ^ acc.length * (c + 2 ^ m * U (w.drop i))
  | 0, i, acc, c, ei, em, dacc, hc, hc2 => by
    refine ⟨acc ++ [c], ?_, JA dacc hc2, by simp; omega, ?_⟩
    · refine Ev.step (fun k => rfl) ?_
      simp only [Xi.hs, Xi.b0, if_neg (show ¬ ((i : Int) < (w.length : Int)) by omega), if_pos (show acc.length + 1 ≤ 35184372088704 by omega)]
      exact Ev.now
    · rw [List.drop_eq_nil_of_le (by omega), JH]; simp only [U, Int.mul_zero, Int.add_zero]
  | n + 1, i, acc, c, ei, em, dacc, hc, hc2 => by
    have rw_ := Yh dw i
    have uw := WZ hm rw_ hc
    have hp2 : (2 : Int) ^ m ≤ 4294967296 := by have := MI hm; have e : (2 : Int) ^ 32 = 4294967296 := by decide
                                                omega
    generalize hS : rd w i * 2 ^ m + c = S at uw
    have q1 : 0 ≤ S / 4294967296 ∧ S / 4294967296 < 2 ^ m := ⟨by omega, Int.ediv_lt_of_lt_mul (by decide) (by rw [Int.mul_comm]; exact uw.2.2)⟩
    have q2 : S / 4294967296 ≤ 4294967295 := by omega
    obtain ⟨L, h1, h2, h3, h4⟩ := UF hm dw hb n (i + 1) (acc ++ [S % 4294967296]) (S / 4294967296) (by simp [ei]) (by omega) (JA dacc (by omega)) q1 ⟨q1.1, q2⟩
    refine ⟨L, ?_, h2, h3, ?_⟩
    · refine Ev.step (fun k => rfl) ?_
      simp only [Xi.hs, Xi.b0, if_pos (show ((i : Int) < (w.length : Int)) by omega), if_pos (show (0 : Int) ≤ i ∧ (i : Int) < (w.length : Int) by omega), if_pos (show (0 : Int) ≤ (m : Int) by omega), if_pos (show acc.length + 1 ≤ 35184372088704 by omega), uw.1, wsucc (show i < 1000000000 by omega), show S / 4294967296 % 4294967296 = S / 4294967296 by omega]
      exact h1
    · rw [h4, JO, Zb w i]
      exact QaK _ _ _ _ _ _ _ hS.symm
theorem N8 {w : List Int} {m : Nat} (hm : m ≤ 32) (dw : Wg w) (hb : w.length < 1000000) : ∃ L, Ev (fun k => Xi.f k w (m : Int)) L ∧ Wg L ∧ L.length = w.length + 1 ∧ U L = 2 ^ m * U w := by
  obtain ⟨L, h1, h2, h3, h4⟩ := UF hm dw (by omega) w.length 0 [] 0 rfl (by omega) Jb ⟨by decide, by have := ZR m; omega⟩ (by decide)
  refine ⟨L, ?_, h2, h3, by rw [h4]; simp [U]⟩
  simp only [Xi.f, wsucc (show w.length < 1000000000 by omega), if_pos (show 0 ≤ 0 ∧ 0 ≤ ((w.length + 1 : Nat) : Int) ∧ ((w.length + 1 : Nat) : Int) ≤ 70368744177664 by omega)]
  exact h1
theorem Oz {α : Type} (m : List α) (d e : α) (t : List α) : (m ++ d :: t).set m.length e = m ++ e :: t := by
  rw [List.set_append_right _ _ (Nat.le_refl _), Nat.sub_self]; rfl
/-- a digit of what is moved down -/
theorem Ua {P w y X : Int} {Q : Int} (hP : 1 ≤ P) (hQ : 4294967296 = P * Q) (hw : 0 ≤ w ∧ w ≤ 4294967295) (hX : X % P = y % P) : (w + 4294967296 * X) / P = (w + y * 4294967296) / P % 4294967296 + 4294967296 * (X / P) := by
  have key : ∀ z : Int, (w + 4294967296 * z) / P = (w + 4294967296 * (z % P)) / P + 4294967296 * (z / P) := fun z => by
    have e : w + 4294967296 * z = (w + 4294967296 * (z % P)) + P * (4294967296 * (z / P)) := by
      have := Int.emod_add_mul_ediv z P
      rw [← Int.mul_left_comm 4294967296 P, Int.add_assoc, ← Int.mul_add, this]
    rw [e, Int.add_mul_ediv_left _ _ (by omega)]
  have hr : 0 ≤ (w + 4294967296 * (y % P)) / P ∧ (w + 4294967296 * (y % P)) / P < 4294967296 := by
    have h1 := Int.emod_nonneg y (show P ≠ 0 by omega)
    have h2 := Int.emod_lt_of_pos y (show 0 < P by omega)
    refine ⟨Int.ediv_nonneg (by omega) (by omega), Int.ediv_lt_of_lt_mul (by omega) ?_⟩
    have := Int.mul_le_mul_of_nonneg_left (show y % P + 1 ≤ P by omega) (show (0 : Int) ≤ 4294967296 by decide)
    rw [Int.mul_add] at this
    omega
  rw [Int.mul_comm y, key X, key y, hX]
  generalize (w + 4294967296 * (y % P)) / P = d at *
  generalize y / P = q at *
  have : (d + 4294967296 * q) % 4294967296 = d := by omega
  rw [this]
theorem pow32 {m : Nat} (hm : m ≤ 32) : (4294967296 : Int) = 2 ^ m * 2 ^ (32 - m) := by rw [← Int.pow_add, show m + (32 - m) = 32 by omega]; decide
theorem N9 {P Q y Z : Int} (hQ : 4294967296 = P * Q) : (y + 4294967296 * Z) % P = y % P := by
  rw [hQ, Int.mul_assoc, Int.add_mul_emod_self_left]
theorem N4 {m : Nat} (hm : m ≤ 32) : ∀ (n : Nat) (rest acc : List Int) (L : Nat), rest.length = n → acc.length + n = L → L < 1000000000 → Wg acc → Wg rest →
    Ev (fun k => (QI.hs k).l0 (m : Int) (acc ++ rest) (L : Int) (acc.length : Int)) (wd (U acc + 4294967296 ^ acc.length * (U rest / 2 ^ m)).toNat)
  | 0, rest, acc, L, er, eL, hL, da, dr => by
    obtain rfl := List.length_eq_zero_iff.1 er
    refine Ev.step (fun k => rfl) ?_
    simp only [QI.hs, QI.b0, if_neg (show ¬ ((acc.length : Int) < (L : Int)) by omega), List.append_nil, U, Int.zero_ediv, Int.mul_zero, Int.add_zero]
    exact Ev.bind (Zp (by omega) da) Ev.now
  | n + 1, rest, acc, L, er, eL, hL, da, dr => by
    obtain ⟨w, t, rfl⟩ : ∃ w t, rest = w :: t := by cases rest with | nil => cases er | cons w t => exact ⟨w, t, rfl⟩
    have et : t.length = n := by simpa using er
    obtain ⟨dw, dt⟩ := ZJ.1 dr
    have hp := ZR m
    have el : (acc ++ w :: t).length = L := by rw [List.length_append, List.length_cons, et]; omega
    have es : ∀ d, (acc ++ w :: t).set acc.length d = (acc ++ [d]) ++ t := fun d => by rw [Oz, List.append_assoc]; rfl
    have J : ∀ y : Int, U t % 2 ^ m = y % 2 ^ m → 0 ≤ y → ∀ v : Int, v = w + y * 4294967296 → Ev (fun k => QI.j2 k (QI.hs k) (m : Int) (acc ++ w :: t) (acc.length : Int) v (L : Int) (acc.length : Int)) (wd (U acc + 4294967296 ^ acc.length * (U (w :: t) / 2 ^ m)).toNat) := by
      intro y hy y0 v hv
      have dd := Ua (X := U t) hp (pow32 hm) dw hy
      simp only [QI.j2, if_pos (show (0 : Int) ≤ (m : Int) by omega), if_pos (show (0 : Int) ≤ (acc.length : Int) ∧ (acc.length : Int) < ((acc ++ w :: t).length : Int) by rw [el]; omega), Int.toNat_natCast, es, shn64 (show m ≤ 64 by omega), wsucc (show acc.length < 1000000000 by omega), hv]
      have hd : 0 ≤ (w + y * 4294967296) / 2 ^ m % 4294967296 ∧ (w + y * 4294967296) / 2 ^ m % 4294967296 ≤ 4294967295 := ⟨Int.emod_nonneg _ (by decide), Int.le_of_lt_add_one (Int.emod_lt_of_pos _ (by decide))⟩
      generalize (w + y * 4294967296) / 2 ^ m % 4294967296 = d at *
      have := N4 hm n t (acc ++ [d]) L et (by simp; omega) hL (JA da hd) dt
      rw [JO] at this
      simp only [U, dd]
      rw [List.length_append, List.length_singleton] at this
      exact this
    refine Ev.step (fun k => rfl) ?_
    simp only [QI.hs, QI.b0, if_pos (show ((acc.length : Int) < (L : Int)) by omega), if_pos (show (0 : Int) ≤ (acc.length : Int) ∧ (acc.length : Int) < ((acc ++ w :: t).length : Int) by rw [el]; omega), Jq acc w t (show (acc.length : Int) = acc.length from rfl), wsucc (show acc.length < 1000000000 by omega)]
    cases t with
    | nil =>
      simp only [if_neg (show ¬ (((acc.length + 1 : Nat) : Int) < ((acc ++ [w]).length : Int)) by simp)]
      exact J 0 rfl (by decide) _ (by omega)
    | cons y t' =>
      obtain ⟨dy, dt'⟩ := ZJ.1 dt
      have hlt : ((acc.length + 1 : Nat) : Int) < ((acc ++ w :: y :: t').length : Int) := by simp; omega
      have ry : rd (acc ++ w :: y :: t') ((acc.length + 1 : Nat) : Int) = y := by
        rw [show acc ++ w :: y :: t' = (acc ++ [w]) ++ y :: t' by simp]
        exact Jq _ _ _ (by simp)
      simp only [if_pos hlt, if_pos (And.intro (Int.natCast_nonneg (acc.length + 1)) hlt), ry, wmodid dw, wmodid dy]
      exact J y (by simp only [U]; exact N9 (pow32 hm)) dy.1 _ (by rw [show (y * 4294967296) % 18446744073709551616 = y * 4294967296 by omega, ior_lh' dy dw])
theorem Nt (k : Nat) {l : List Int} (h : l.length < 1000000000) : Q7.f k l = some l := by
  unfold Q7.f; rw [if_pos (by omega)]
theorem V6 {m : Nat} (hm : m ≤ 32) {w : List Int} (dw : Wg w) (hb : w.length < 1000000000) : Ev (fun k => QI.f k w (m : Int)) (wd (U w / 2 ^ m).toNat) := by
  have := N4 hm w.length w [] w.length rfl (by simp) hb Jb dw
  simp only [U, List.length_nil, List.nil_append, Int.pow_zero, Int.one_mul, Int.zero_add] at this
  simp only [QI.f, Nt _ hb, Option.bind_some]
  exact this
/-- by a word -/
theorem OZ {a X b : Int} (hb : 1 ≤ b) (ha : 0 ≤ a ∧ a ≤ 4294967295) : (a + 4294967296 * X) / b = (X % b * 4294967296 + a) / b + 4294967296 * (X / b) ∧ (a + 4294967296 * X) % b = (X % b * 4294967296 + a) % b ∧ 0 ≤ (X % b * 4294967296 + a) / b ∧ (X % b * 4294967296 + a) / b ≤ 4294967295 := by
  have e : a + 4294967296 * X = (X % b * 4294967296 + a) + b * (4294967296 * (X / b)) := by
    have := Int.emod_add_mul_ediv X b
    rw [← Int.mul_left_comm 4294967296 b]
    have h2 : 4294967296 * X = 4294967296 * (X % b + b * (X / b)) := by rw [this]
    rw [h2, Int.mul_add]; omega
  have h1 := Int.emod_nonneg X (show b ≠ 0 by omega)
  have h2 := Int.emod_lt_of_pos X (show 0 < b by omega)
  refine ⟨?_, ?_, Int.ediv_nonneg (by omega) (by omega), ?_⟩
  · rw [e, Int.add_mul_ediv_left _ _ (by omega)]
  · rw [e, Int.add_mul_emod_self_left]
  · have := Int.ediv_lt_of_lt_mul (a := X % b * 4294967296 + a) (b := 4294967296) (c := b) (by omega) (by omega)
    omega
theorem Nc {a : List Int} {b : Int} (da : Wg a) (hb : 1 ≤ b ∧ b ≤ 4294967295) (hl : a.length < 1000000000) : ∀ (n : Nat) (hi : List Int), n + hi.length = a.length → Wg hi → U hi = U (a.drop n) / b →
    Ev (fun k => (QW.hs k).l0 a b (List.replicate n 0 ++ hi) (U (a.drop n) % b) ((n : Int) - 1)) (wd (U a / b).toNat, U a % b)
  | 0, hi, e, dh, hu => by
    refine Ev.step (fun k => rfl) ?_
    have h2 := Int.emod_lt_of_pos (U a) (show 0 < b by omega)
    have h1 := Int.emod_nonneg (U a) (show b ≠ 0 by omega)
    simp only [List.drop_zero] at hu
    simp only [QW.hs, QW.b0, if_neg (show ¬ ((0 : Int) ≤ ((0 : Nat) : Int) - 1) by decide), List.replicate_zero, List.nil_append, List.drop_zero, show U a % b % 4294967296 = U a % b by omega]
    rw [← hu]
    exact Ev.bind (Zp (by omega) dh) Ev.now
  | n + 1, hi, e, dh, hu => by
    have ra := Yh da n
    have st := OZ (X := U (a.drop (n + 1))) hb.1 ra
    have h1 := Int.emod_nonneg (U (a.drop (n + 1))) (show b ≠ 0 by omega)
    have h2 := Int.emod_lt_of_pos (U (a.drop (n + 1))) (show 0 < b by omega)
    have en : ((n + 1 : Nat) : Int) - 1 = n := by omega
    have eL : (List.replicate (n + 1) (0 : Int) ++ hi).length = a.length := by rw [List.length_append, List.length_replicate, e]
    have es : ∀ d : Int, (List.replicate (n + 1) 0 ++ hi).set n d = List.replicate n 0 ++ d :: hi := fun d => by
      rw [List.replicate_succ', List.append_assoc]
      have := Oz (List.replicate n (0 : Int)) 0 d hi
      rw [List.length_replicate] at this
      exact this
    have ud := Zb a n
    have IH := Nc da hb hl n ((U (a.drop (n + 1)) % b * 4294967296 + rd a n) / b :: hi) (by simp; omega) (ZJ.2 ⟨st.2.2, dh⟩) (by simp only [U]; rw [hu, ud, st.1])
    rw [ud, st.2.1] at IH
    refine Ev.step (fun k => rfl) ?_
    simp only [QW.hs, QW.b0, en, if_pos (show (0 : Int) ≤ (n : Int) by omega), if_pos (show (0 : Int) ≤ (n : Int) ∧ (n : Int) < (a.length : Int) by omega), eL, wmodid (show 0 ≤ b ∧ b ≤ 4294967295 by omega), if_pos (show b ≠ 0 by omega), wmodid ra, Int.toNat_natCast, es,
      show w64 ((n : Int) - 1) = (n : Int) - 1 from XZ (by omega)]
    have eS : ior .u64 ((U (a.drop (n + 1)) % b * 4294967296) % 18446744073709551616) (rd a n) = U (a.drop (n + 1)) % b * 4294967296 + rd a n := by
      rw [show (U (a.drop (n + 1)) % b * 4294967296) % 18446744073709551616 = U (a.drop (n + 1)) % b * 4294967296 by omega]
      exact ior_hl' (by omega) ra
    rw [eS, Int.tdiv_eq_ediv_of_nonneg (by omega), Int.tmod_eq_emod_of_nonneg (by omega)]
    rw [show (U (a.drop (n + 1)) % b * 4294967296 + rd a n) / b % 18446744073709551616 % 4294967296 = (U (a.drop (n + 1)) % b * 4294967296 + rd a n) / b by omega]
    exact IH
theorem Vn {a : List Int} {b : Int} (da : Wg a) (hb : 1 ≤ b ∧ b ≤ 4294967295) (hl : a.length < 1000000000) : Ev (fun k => QW.f k a b) (wd (U a / b).toNat, U a % b) := by
  have := Nc da hb hl a.length [] (by simp) Jb (by rw [List.drop_eq_nil_of_le (Nat.le_refl _)]; simp [U])
  rw [List.drop_eq_nil_of_le (Nat.le_refl _)] at this
  simp only [U, Int.zero_emod, List.append_nil] at this
  simp only [QW.f, if_pos (show 0 ≤ (a.length : Int) ∧ (a.length : Int) ≤ 70368744177664 by omega), Int.toNat_natCast, show w64 ((a.length : Int) - 1) = (a.length : Int) - 1 from XZ (by omega)]
  exact this

/-! ### times a power of two -/
theorem MV (q : Nat) (l : List Int) : U (List.replicate q 0 ++ l) = 4294967296 ^ q * U l := by
  rw [GX, GE, List.length_replicate]; omega
theorem Vk (n : Nat) : (2 : Int) ^ n = 4294967296 ^ (n / 32) * 2 ^ (n % 32) := by
  have e : (4294967296 : Int) = 2 ^ 32 := by decide
  rw [e, ← Int.pow_mul, ← Int.pow_add]
  congr 1; omega
theorem Uk {x y : Int} {P : Int} (hP : 1 ≤ P) (hy : y = (x.natAbs : Int) * P) : x * P = if decide (x < 0) = true then -y else y := by
  subst hy
  by_cases s : x < 0
  · simp only [s, decide_true, if_true]
    rw [show (x.natAbs : Int) = -x by omega, Int.neg_mul]; omega
  · simp only [s, decide_false, Bool.false_eq_true, if_false]
    rw [show (x.natAbs : Int) = x by omega]
theorem VN {x : Int} {n : Nat} (hx : Wl x < 1000000) (hn : n ≤ 4096) : Ev (fun k => Xn.f k (Wb x) (n : Int)) (res (x * 2 ^ n)) := by
  unfold Wl at hx
  obtain ⟨L, h1, h2, h3, h4⟩ := N8 (m := n % 32) (by omega) (YX x.natAbs) hx
  have e1 : ((decide ((n : Int) < -4096)) || (decide (4096 < (n : Int)))) = false := by simp; omega
  have e2 : w64 (Int.tdiv (n : Int) 32) = ((n / 32 : Nat) : Int) := by rw [Int.tdiv_eq_ediv_of_nonneg (by omega), XZ (by omega)]; omega
  have e3 : Int.tmod (n : Int) 32 = ((n % 32 : Nat) : Int) := by rw [Int.tmod_eq_emod_of_nonneg (by omega)]; omega
  simp only [Xn.f, e1, Bool.false_eq_true, if_false, if_pos (show (0 : Int) ≤ (n : Int) by omega), e2, e3, if_pos (show (0 : Int) ≤ ((n / 32 : Nat) : Int) ∧ ((n / 32 : Nat) : Int) ≤ 70368744177664 by omega), Wb_w, Y8, Int.toNat_natCast, List.length_replicate]
  refine Ev.bind h1 ?_
  simp only [if_pos (show n / 32 + L.length ≤ 35184372088704 by omega)]
  refine Ev.bind (Jx (x := x * 2 ^ n) (by rw [List.length_append, List.length_replicate]; omega) (Jn.2 ⟨G8 _, h2⟩) ?_) Ev.now
  rw [MV, h4, U_wd]
  refine Uk (ZR n) ?_
  rw [Vk n, ← Int.mul_assoc, Int.mul_comm]
theorem JC {x : Int} (h : Fit x) : res x = (Wb x, none) := if_pos h
end Go.Proofs.YtkccpkccdbfomaaGreatDoor.Pure

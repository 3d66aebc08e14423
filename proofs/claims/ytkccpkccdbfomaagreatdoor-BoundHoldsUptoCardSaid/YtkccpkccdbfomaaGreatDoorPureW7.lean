/- Quotients of the program's whole numbers. -/
import Derived.Test.YtkccpkccdbfomaaGreatDoorPureW6
namespace Go.Proofs.YtkccpkccdbfomaaGreatDoor.Pure
open Go.RowKit Go.Proofs.YtkccpkccdbfomaaGreatDoorK Go.Proofs.YtkccpkccdbfomaaGreatDoor.GBH
set_option linter.unusedVariables false
set_option linter.unusedSimpArgs false
/-- the table of lengths -/
theorem Wr : ∃ s : ByteArray, (∀ (k : Nat) (x n : Int), Xa.j2 k x n = if (0 : Int) ≤ x % 256 ∧ x % 256 < (s.size : Int) then (some (w64 (n + (w64 (bt s (x % 256)))))) else none) ∧ s.size = 256 ∧
    ∀ c : Fin 256, (c.val = 0 ∧ bt s (c.val : Int) = 0) ∨ (c.val = 1 ∧ bt s (c.val : Int) = 1) ∨ (2 ≤ c.val ∧ c.val < 4 ∧ bt s (c.val : Int) = 2) ∨ (4 ≤ c.val ∧ c.val < 8 ∧ bt s (c.val : Int) = 3) ∨ (8 ≤ c.val ∧ c.val < 16 ∧ bt s (c.val : Int) = 4) ∨ (16 ≤ c.val ∧ c.val < 32 ∧ bt s (c.val : Int) = 5) ∨ (32 ≤ c.val ∧ c.val < 64 ∧ bt s (c.val : Int) = 6) ∨ (64 ≤ c.val ∧ c.val < 128 ∧ bt s (c.val : Int) = 7) ∨ (128 ≤ c.val ∧ bt s (c.val : Int) = 8) :=
  ⟨_, fun _ _ _ => rfl, by decide +kernel, by decide +kernel⟩
/-- how far a word is to be moved up -/
theorem W6 {x : Int} (hx : 1 ≤ x ∧ x ≤ 4294967295) : ∃ n : Nat, n ≤ 31 ∧ (∀ k, XU.f k x = some (n : Int)) ∧ 2147483648 ≤ x * 2 ^ n ∧ x * 2 ^ n < 4294967296 := by
  obtain ⟨s, h1, h2, h3⟩ := Wr
  -- behind the table
  have key : ∀ (y b : Int) (B : Nat), 1 ≤ y → y ≤ 255 → b = B → B ≤ 24 → x / 2 ^ B = y → (∀ k, Xa.f k x = Xa.j2 k y b) → ∃ n : Nat, n ≤ 31 ∧ (∀ k, XU.f k x = some (n : Int)) ∧ 2147483648 ≤ x * 2 ^ n ∧ x * 2 ^ n < 4294967296 := by
    intro y b B y1 y2 hb hB hd hk
    subst hb
    obtain ⟨c, rfl⟩ := Int.eq_ofNat_of_zero_le (show 0 ≤ y by omega)
    have hc := h3 ⟨c, by omega⟩
    simp only at hc
    have hlen : ∀ l : Nat, 1 ≤ l → l ≤ 8 → bt s (c : Int) = (l : Int) → (2 : Int) ^ (l - 1) ≤ c → (c : Int) < 2 ^ l → ∃ n : Nat, n ≤ 31 ∧ (∀ k, XU.f k x = some (n : Int)) ∧ 2147483648 ≤ x * 2 ^ n ∧ x * 2 ^ n < 4294967296 := by
      intro l l1 l2 hl hlo hhi
      refine ⟨32 - (B + l), by omega, fun k => ?_, ?_⟩
      · unfold XU.f
        have e1 : ((c : Int) % 256) = c := by omega
        rw [hk k, h1 k, e1, h2, if_pos (by omega), hl]
        have e2 : w64 (l : Int) = l := XZ (by omega)
        have e3 : w64 ((B : Int) + l) = (B : Int) + l := XZ (by omega)
        have e4 : w64 (32 - ((B : Int) + l)) = 32 - ((B : Int) + l) := XZ (by omega)
        rw [e2, e3, Option.bind_some, e4]
        congr 1; omega
      · have hp : (1 : Int) ≤ 2 ^ B := ZR B
        have a1 : (2 : Int) ^ B * c ≤ x := by have := Int.mul_ediv_self_le (x := x) (k := 2 ^ B) (by omega); rwa [hd] at this
        have a2 : x < (2 : Int) ^ B * c + 2 ^ B := by have := Int.lt_mul_ediv_self_add (x := x) (k := 2 ^ B) (by omega); rwa [hd] at this
        have b1 : (2 : Int) ^ B * 2 ^ (l - 1) ≤ x := Int.le_trans (Int.mul_le_mul_of_nonneg_left hlo (by omega)) a1
        have b2 : x < (2 : Int) ^ B * 2 ^ l := by
          have := Int.mul_le_mul_of_nonneg_left (show (c : Int) + 1 ≤ 2 ^ l by omega) (show (0 : Int) ≤ 2 ^ B by omega)
          rw [Int.mul_add] at this; omega
        rw [← Int.pow_add] at b1 b2
        have hq : (1 : Int) ≤ 2 ^ (32 - (B + l)) := ZR _
        have c1 := Int.mul_le_mul_of_nonneg_right b1 (show (0 : Int) ≤ 2 ^ (32 - (B + l)) by omega)
        have c2 := Int.mul_lt_mul_of_pos_right b2 (show (0 : Int) < 2 ^ (32 - (B + l)) by omega)
        rw [← Int.pow_add] at c1 c2
        rw [show B + (l - 1) + (32 - (B + l)) = 31 by omega] at c1
        rw [show B + l + (32 - (B + l)) = 32 by omega] at c2
        have e31 : (2 : Int) ^ 31 = 2147483648 := by decide
        have e32 : (2 : Int) ^ 32 = 4294967296 := by decide
        omega
    rcases hc with h | h | h | h | h | h | h | h | h
    · omega
    · exact hlen 1 (by decide) (by decide) h.2 (by simp; omega) (by simp; omega)
    · exact hlen 2 (by decide) (by decide) h.2.2 (by simp; omega) (by simp; omega)
    · exact hlen 3 (by decide) (by decide) h.2.2 (by simp; omega) (by simp; omega)
    · exact hlen 4 (by decide) (by decide) h.2.2 (by simp; omega) (by simp; omega)
    · exact hlen 5 (by decide) (by decide) h.2.2 (by simp; omega) (by simp; omega)
    · exact hlen 6 (by decide) (by decide) h.2.2 (by simp; omega) (by simp; omega)
    · exact hlen 7 (by decide) (by decide) h.2.2 (by simp; omega) (by simp; omega)
    · exact hlen 8 (by decide) (by decide) h.2 (by simp; omega) (by simp; omega)
  have s1 : (1 : Nat) ≤ 1 := by decide
  by_cases g : 65536 ≤ x
  · by_cases g2 : 256 ≤ x / 65536
    · refine key (x / 65536 / 256) 24 24 (by omega) (by omega) rfl (by decide) ?_ fun k => ?_
      · have e : (2 : Int) ^ 24 = 16777216 := by decide
        rw [e]; omega
      · simp only [Xa.f, Xa.j1, if_pos g, if_pos g2]; rfl
    · refine key (x / 65536) 16 16 (by omega) (by omega) rfl (by decide) ?_ fun k => ?_
      · have e : (2 : Int) ^ 16 = 65536 := by decide
        rw [e]
      · simp only [Xa.f, Xa.j1, if_pos g, if_neg g2]
  · by_cases g2 : 256 ≤ x
    · refine key (x / 256) 8 8 (by omega) (by omega) rfl (by decide) ?_ fun k => ?_
      · have e : (2 : Int) ^ 8 = 256 := by decide
        rw [e]
      · simp only [Xa.f, Xa.j1, if_neg g, if_pos g2]; rfl
    · refine key x 0 0 (by omega) (by omega) rfl (by decide) ?_ fun k => ?_
      · simp
      · simp only [Xa.f, Xa.j1, if_neg g, if_neg g2]
/-! ### word by word -/
theorem mod_pos' {W D : Int} (hD : 0 < D) : 0 ≤ W - W / D * D ∧ W - W / D * D < D := by
  have h := Int.emod_add_mul_ediv W D
  have h1 := Int.emod_nonneg W (show D ≠ 0 by omega)
  have h2 := Int.emod_lt_of_pos W hD
  rw [Int.mul_comm] at h
  omega
theorem NL {d : List Int} {m : Nat} {R0 : Int} (dd : Wg d) (nb : 2 ≤ d.length) (v1 : 2147483648 ≤ rd d ((d.length - 1 : Nat) : Int)) (hm : m ≤ 32) (hD : 1 ≤ U d) :
    ∀ (t : Nat) (r q : List Int), Wg r → Wg q → r.length = q.length + d.length → r.length < 1000000 → t ≤ q.length → U (q.take t) = 0 → U r < U d * 4294967296 ^ t → U r + U d * U q = R0 →
    Ev (fun k => (QJ.hs k).l0 (m : Int) d r q ((t : Int) - 1)) (wd (R0 / U d).toNat, wd (R0 % U d / 2 ^ m).toNat)
  | 0, r, q, dr, dq, el, hB, ht, hz, hlt, hv => by
    have h0 := Zq dr
    rw [Int.pow_zero, Int.mul_one] at hlt
    have e1 : R0 / U d = U q := by rw [← hv, Int.add_mul_ediv_left _ _ (by omega), Int.ediv_eq_zero_of_lt h0 hlt]; omega
    have e2 : R0 % U d = U r := by rw [← hv, Int.add_mul_emod_self_left, Int.emod_eq_of_lt h0 hlt]
    rw [e1, e2]
    refine Ev.step (fun k => rfl) ?_
    simp only [QJ.hs, QJ.b0, if_neg (show ¬ (0 : Int) ≤ ((0 : Nat) : Int) - 1 by decide)]
    exact Ev.bind (Zp (by omega) dq) (Ev.bind (V6 hm dr (by omega)) Ev.now)
  | t + 1, r, q, dr, dq, el, hB, ht, hz, hlt, hv => by
    have hP := YW t
    have tt := Zd dr (m := t) (by omega)
    have sp := Jw r t (by omega)
    have hW0 := Zq (Jh dr t)
    have hlt' : U (r.drop t) < U d * 4294967296 := by
      refine ZW hP ?_
      rw [Int.pow_succ, ← Int.mul_assoc, Int.mul_right_comm, Int.mul_comm _ (4294967296 ^ t)] at hlt
      omega
    have K : Kn r d t := ⟨dr, dd, nb, by omega, hB, v1, hlt'⟩
    obtain ⟨mm, hmm⟩ : ∃ m, d.length = m + 2 := ⟨d.length - 2, by omega⟩
    have hz3 := (K.parts hmm).2.2
    rw [show t + mm + 3 = t + d.length + 1 by omega] at hz3
    obtain ⟨g, g1, g2, g3, g4⟩ := Vq K
    have qb := GZ hD hW0 hlt'
    have md := mod_pos' (W := U (r.drop t)) (show 0 < U d by omega)
    obtain ⟨row, bor, r1, r2, r3, r4, r5, r6, r7⟩ := V5 (q := g) dd dr ⟨by omega, g4⟩ (show t + d.length < r.length by omega) hB
    have hi1 := U9 r2 r7 r3 (by omega) hz3
    -- what is behind one word
    have rest : ∀ r' : List Int, Wg r' → r'.length = r.length → U r' = U r - 4294967296 ^ t * (U (r.drop t) / U d * U d) → ∀ gg : Int, gg = U (r.drop t) / U d → Ev (fun k => QJ.j2 k (QJ.hs k) (m : Int) d r' q (t : Int) gg) (wd (R0 / U d).toNat, wd (R0 % U d / 2 ^ m).toNat) := by
      intro r' dr' lr' ur' gg hgg
      have zq : rd q (t : Int) = 0 ∧ U (q.take t) = 0 := by
        have := GT q t (by omega)
        have p0 := (Zd dq (m := t) (by omega)).1
        have p1 := Yh dq t
        have p2 := Int.mul_nonneg (show (0 : Int) ≤ 4294967296 ^ t by omega) p1.1
        rw [hz] at this
        refine ⟨?_, by omega⟩
        rcases Int.mul_eq_zero.1 (show 4294967296 ^ t * rd q (t : Int) = 0 by omega) with h | h
        · omega
        · exact h
      have us := GK q t gg (by omega)
      rw [zq.1, Int.sub_zero] at us
      simp only [QJ.j2, if_pos (show (0 : Int) ≤ (t : Int) ∧ (t : Int) < (q.length : Int) by omega), Int.toNat_natCast, show gg % 4294967296 = gg by omega, show w64 ((t : Int) - 1) = (t : Int) - 1 from XZ (by omega)]
      refine NL dd nb v1 hm hD t r' (q.set t gg) dr' (Gr dq ⟨by omega, by omega⟩) (by rw [List.length_set]; omega) (by omega) (by rw [List.length_set]; omega) ?_ ?_ ?_
      · rw [List.take_set_of_le (Nat.le_refl _)]; exact zq.2
      · rw [ur', sp]
        have := Int.mul_le_mul_of_nonneg_left (show U (r.drop t) - U (r.drop t) / U d * U d + 1 ≤ U d by omega) (show (0 : Int) ≤ 4294967296 ^ t by omega)
        rw [Int.mul_add, Int.mul_sub, Int.mul_one] at this
        have cm := Int.mul_comm (U d) (4294967296 ^ t)
        omega
      · rw [ur', us, ← hv, hgg, Int.mul_add]
        have : 4294967296 ^ t * (U (r.drop t) / U d * U d) = U d * (4294967296 ^ t * (U (r.drop t) / U d)) := by rw [Int.mul_left_comm (U d), Int.mul_comm (U d)]
        omega
    have ei : ((t + 1 : Nat) : Int) - 1 = t := by omega
    have hB2 : (4294967296 : Int) ^ t * 4294967296 ≤ 4294967296 ^ (t + d.length + 1) := by
      have e : (4294967296 : Int) ^ (t + d.length + 1) = 4294967296 ^ t * 4294967296 * 4294967296 ^ d.length := by rw [show t + d.length + 1 = t + 1 + d.length by omega, Int.pow_add, Int.pow_succ]
      rw [e]
      have := Int.mul_le_mul_of_nonneg_left (YW d.length) (show (0 : Int) ≤ 4294967296 ^ t * 4294967296 by omega)
      omega
    have qD : 4294967296 ^ t * (g * U d) = 4294967296 ^ t * (U (r.drop t) / U d * U d) + (g - U (r.drop t) / U d) * (4294967296 ^ t * U d) := by
      rw [← Int.mul_left_comm (4294967296 ^ t) (g - U (r.drop t) / U d) (U d), ← Int.mul_add, ← Int.add_mul]
      congr 2; omega
    have lowD := Int.mul_le_mul_of_nonneg_left (show U (r.drop t) - U (r.drop t) / U d * U d + 1 ≤ U d by omega) (show (0 : Int) ≤ 4294967296 ^ t by omega)
    rw [Int.mul_add, Int.mul_sub, Int.mul_one] at lowD
    have low0 := Int.mul_nonneg (show (0 : Int) ≤ 4294967296 ^ t by omega) md.1
    rw [Int.mul_sub] at low0
    refine Ev.step (fun k => rfl) ?_
    simp only [QJ.hs, QJ.b0, ei, if_pos (show (0 : Int) ≤ (t : Int) by omega)]
    refine Ev.bind g1 (Ev.bind r1 ?_)
    by_cases c : g = U (r.drop t) / U d
    · have hbor : bor = 0 := by
        rw [show g - U (r.drop t) / U d = 0 by omega, Int.zero_mul, Int.add_zero] at qD
        refine Decidable.byContradiction fun hne => ?_
        have : bor = -1 := by omega
        subst this
        omega
      subst hbor
      simp only [Int.lt_irrefl, decide_false, Bool.false_eq_true, if_false]
      refine rest row r2 r3 ?_ g c
      rw [r6, c]; omega
    · have c1 : g - U (r.drop t) / U d = 1 := by omega
      rw [c1, Int.one_mul] at qD
      have hbor : bor = -1 := by
        refine Decidable.byContradiction fun hne => ?_
        have : bor = 0 := by omega
        subst this
        omega
      subst hbor
      simp only [show decide ((-1 : Int) < 0) = true by decide, if_true]
      obtain ⟨row2, c', s1, s2, s3, s4, s5, s6, s7⟩ := V9 dd r2 (show t + d.length < row.length by omega) (by omega)
      have hi2 := U9 s2 (fun p hp => (s7 p hp).trans (r7 p hp)) (s3.trans r3) (by omega) hz3
      refine Ev.bind s1 ?_
      have hc : c' = 1 := by
        refine Decidable.byContradiction fun hne => ?_
        have : c' = 0 := by omega
        subst this
        omega
      subst hc
      refine rest row2 s2 (s3.trans r3) ?_ _ (by omega)
      omega

theorem Uw {b : Nat} (h : (wd b).length = 1) : rd (wd b) ((0 : Nat) : Int) = b ∧ 1 ≤ b ∧ b ≤ 4294967295 := by
  have h1 := Ma b
  rw [h] at h1
  have hb : b ≠ 0 := fun e => by rw [e, YP] at h; cases h
  have e : wd b = [(b : Int)] := by
    rw [Gq hb, show b / 4294967296 = 0 by omega, YP, show b % 4294967296 = b by omega]
  rw [e]
  exact ⟨rfl, by omega, by omega⟩
theorem pnat (n : Nat) : ((4294967296 ^ n : Nat) : Int) = (4294967296 : Int) ^ n := by rw [Int.natCast_pow]; rfl
theorem M6 (a b : Nat) : ((a : Int) / (b : Int)).toNat = a / b := by rw [← Int.natCast_ediv, Int.toNat_natCast]
theorem Ux (a b : Nat) : ((a : Int) % (b : Int)).toNat = a % b := by rw [← Int.natCast_emod, Int.toNat_natCast]
theorem VO {a b : Nat} (hb : 1 ≤ b) (la : (wd a).length < 100000) (lb : (wd b).length < 100000) : Ev (fun k => QJ.f k (wd a) (wd b)) (wd (a / b), wd (a % b)) := by
  have ua := U_wd a
  have ub := U_wd b
  unfold QJ.f
  refine Ev.bind (GA (by omega) (by omega)) ?_
  by_cases g : a < b
  · rw [Zf (show (a : Int) < b by omega)]
    simp only [if_pos (show (-1 : Int) < 0 by decide)]
    rw [Nat.div_eq_of_lt g, Nat.mod_eq_of_lt g, YP]
    exact Ev.now
  · have e : ¬ sgn3 (a : Int) (b : Int) < 0 := by unfold sgn3; rw [if_neg (by omega)]; split <;> decide
    simp only [if_neg e]
    have lab := Zr (show b ≤ a by omega)
    by_cases s : (wd b).length = 1
    · obtain ⟨o1, o2, o3⟩ := Uw s
      simp only [if_pos (show ((wd b).length : Int) = 1 by omega), if_pos (show (0 : Int) ≤ 0 ∧ (0 : Int) < ((wd b).length : Int) by omega)]
      rw [show ((0 : Nat) : Int) = 0 from rfl] at o1
      simp only [o1]
      refine Ev.bind (Vn (b := (b : Int)) (YX a) ⟨by omega, by omega⟩ (by omega)) ?_
      rw [ua]
      have m1 : (a : Int) % b = ((a % b : Nat) : Int) := by omega
      have m2 := Nat.mod_lt a (show 0 < b by omega)
      simp only [m1]
      refine Ev.bind (Zp (l := [((a % b : Nat) : Int)]) (show 1 < 4611686018427387904 by decide) (ZJ.2 ⟨⟨by omega, by omega⟩, Jb⟩)) ?_
      rw [show (U [((a % b : Nat) : Int)]).toNat = a % b by simp only [U]; omega, M6 a b]
      exact Ev.now
    · -- two words and more
      have lb2 : 2 ≤ (wd b).length := by have := Ja (n := b) (by omega); omega
      obtain ⟨nb, hnb⟩ : ∃ n, (wd b).length = n + 1 := ⟨(wd b).length - 1, by omega⟩
      have top := Yh (YX b) nb
      have sp := Jw (wd b) nb (by omega)
      rw [Zb, List.drop_eq_nil_of_le (show (wd b).length ≤ nb + 1 by omega)] at sp
      simp only [U, Int.mul_zero, Int.add_zero] at sp
      rw [ub] at sp
      have tb := Zd (YX b) (m := nb) (by omega)
      have topne : 1 ≤ rd (wd b) (nb : Int) := by
        refine Decidable.byContradiction fun h => ?_
        have h0 : rd (wd b) (nb : Int) = 0 := by omega
        rw [h0, Int.mul_zero, Int.add_zero] at sp
        have : b < 4294967296 ^ nb := by have := pnat nb; omega
        have := Z4 this
        omega
      obtain ⟨n, n31, ln, lo, hi⟩ := W6 ⟨topne, top.2⟩
      have hp := ZR n
      have hP := YW nb
      obtain ⟨Lb, b1, b2, b3, b4⟩ := N8 (m := n) (by omega) (YX b) (by omega)
      obtain ⟨La, a1, a2, a3, a4⟩ := N8 (m := n) (by omega) (YX a) (by omega)
      rw [ub] at b4
      rw [ua] at a4
      -- what it is by, moved up
      have eDn : (U Lb).toNat = 2 ^ n * b := by rw [b4, JE, ← Int.natCast_mul, Int.toNat_natCast]
      have eD : (2 : Int) ^ n * b = ((2 ^ n * b : Nat) : Int) := by rw [Int.natCast_mul, JE]
      have Dlo : 2147483648 * 4294967296 ^ nb ≤ (2 : Int) ^ n * b := by
        rw [sp, Int.mul_add]
        have h1 := Int.mul_le_mul_of_nonneg_right lo (show (0 : Int) ≤ 4294967296 ^ nb by omega)
        have h2 := Int.mul_nonneg (show (0 : Int) ≤ 2 ^ n by omega) tb.1
        have h3 : (2 : Int) ^ n * (4294967296 ^ nb * rd (wd b) (nb : Int)) = rd (wd b) (nb : Int) * 2 ^ n * 4294967296 ^ nb := by
          rw [Int.mul_comm (4294967296 ^ nb), Int.mul_left_comm, Int.mul_assoc]
        omega
      have Dhi : (2 : Int) ^ n * b < 4294967296 ^ (nb + 1) := by
        rw [sp, Int.pow_succ]
        have h1 : (rd (wd b) (nb : Int) + 1) * 2 ^ n ≤ 4294967296 := by
          -- the word's power of two divides the base
          have hd := pow32 (m := n) (by omega)
          have h2 : rd (wd b) (nb : Int) * 2 ^ n < 2 ^ n * 2 ^ (32 - n) := by rw [← hd]; exact hi
          have h3 : rd (wd b) (nb : Int) < 2 ^ (32 - n) := by
            rw [Int.mul_comm] at h2; exact Int.lt_of_mul_lt_mul_left h2 (by omega)
          have h4 := Int.mul_le_mul_of_nonneg_right (show rd (wd b) (nb : Int) + 1 ≤ 2 ^ (32 - n) by omega) (show (0 : Int) ≤ 2 ^ n by omega)
          rw [Int.mul_comm (2 ^ (32 - n)), ← hd] at h4
          exact h4
        have h2 := Int.mul_lt_mul_of_pos_left (show U ((wd b).take nb) + 4294967296 ^ nb * rd (wd b) (nb : Int) < 4294967296 ^ nb * (rd (wd b) (nb : Int) + 1) by rw [Int.mul_add]; omega) (show (0 : Int) < 2 ^ n by omega)
        have h3 := Int.mul_le_mul_of_nonneg_left h1 (show (0 : Int) ≤ 4294967296 ^ nb by omega)
        have h4 : (2 : Int) ^ n * (4294967296 ^ nb * (rd (wd b) (nb : Int) + 1)) = 4294967296 ^ nb * ((rd (wd b) (nb : Int) + 1) * 2 ^ n) := by
          rw [Int.mul_left_comm, Int.mul_comm (2 ^ n)]
        omega
      have lenD : (wd (2 ^ n * b)).length = nb + 1 := by
        have h1 : (wd (2 ^ n * b)).length ≤ nb + 1 := Z4 (by have := pnat (nb + 1); omega)
        have h2 : ¬ (wd (2 ^ n * b)).length ≤ nb := fun h => by
          have h3 := Ma (2 ^ n * b)
          have h4 : (4294967296 : Nat) ^ (wd (2 ^ n * b)).length ≤ 4294967296 ^ nb := Nat.pow_le_pow_right (by decide) h
          have := pnat nb
          omega
        omega
      have uD := U_wd (2 ^ n * b)
      have topD : 2147483648 ≤ rd (wd (2 ^ n * b)) (nb : Int) := by
        have spD := Jw (wd (2 ^ n * b)) nb (by omega)
        rw [Zb, List.drop_eq_nil_of_le (show (wd (2 ^ n * b)).length ≤ nb + 1 by omega)] at spD
        simp only [U, Int.mul_zero, Int.add_zero] at spD
        have tD := Zd (YX (2 ^ n * b)) (m := nb) (by omega)
        have h1 : 4294967296 ^ nb * 2147483648 < (4294967296 : Int) ^ nb * (rd (wd (2 ^ n * b)) (nb : Int) + 1) := by
          rw [Int.mul_add, Int.mul_comm _ 2147483648]; omega
        have := ZW hP h1
        omega
      have hD1 : 1 ≤ U (wd (2 ^ n * b)) := by rw [uD]; omega
      have x1 : w64 (((wd b).length : Int) - 1) = (nb : Int) := by rw [XZ (by omega)]; omega
      simp only [if_neg (show ¬ ((wd b).length : Int) = 1 by omega), x1, if_pos (show (0 : Int) ≤ (nb : Int) ∧ (nb : Int) < ((wd b).length : Int) by omega), ln, Option.bind_some]
      refine Ev.bind b1 (Ev.bind (Zp (by omega) b2) (Ev.bind a1 ?_))
      rw [eDn]
      have x2 : w64 ((La.length : Int) - ((wd (2 ^ n * b)).length : Int)) = ((La.length - (nb + 1) : Nat) : Int) := by rw [lenD, XZ (by omega)]; omega
      simp only [x2, if_pos (show (0 : Int) ≤ ((La.length - (nb + 1) : Nat) : Int) ∧ ((La.length - (nb + 1) : Nat) : Int) ≤ 70368744177664 by omega), Int.toNat_natCast, List.length_replicate, show w64 (((La.length - (nb + 1) : Nat) : Int) - 1) = ((La.length - (nb + 1) : Nat) : Int) - 1 from XZ (by omega)]
      have H := NL (R0 := (2 : Int) ^ n * a) (YX (2 ^ n * b)) (by omega) (by rw [lenD]; exact topD) (show n ≤ 32 by omega) hD1 (La.length - (nb + 1)) La (List.replicate (La.length - (nb + 1)) 0) a2 (G8 _) (by rw [List.length_replicate, lenD]; omega) (by omega) (by rw [List.length_replicate]; omega)
        (by rw [List.take_of_length_le (by rw [List.length_replicate]; omega)]; exact GE _)
        (by
          rw [a4, uD]
          have h1 := Ma a
          have e1 : (4294967296 : Int) ^ (wd a).length = 4294967296 ^ nb * 4294967296 ^ (La.length - (nb + 1)) := by rw [← Int.pow_add]; congr 1; omega
          have h2 : (a : Int) < 4294967296 ^ (wd a).length := by have := pnat (wd a).length; omega
          have hp31 : (2 : Int) ^ n ≤ 2147483648 := by have := MI n31; have e : (2 : Int) ^ 31 = 2147483648 := by decide
                                                       omega
          have h3 := Int.mul_lt_mul_of_pos_left h2 (show (0 : Int) < 2 ^ n by omega)
          have h4 := Int.mul_le_mul_of_nonneg_right hp31 (show (0 : Int) ≤ 4294967296 ^ (wd a).length by have := YW (wd a).length; omega)
          have h5 := Int.mul_le_mul_of_nonneg_right Dlo (show (0 : Int) ≤ 4294967296 ^ (La.length - (nb + 1)) by have := YW (La.length - (nb + 1)); omega)
          rw [Int.mul_assoc, ← e1] at h5
          rw [← eD]
          omega)
        (by rw [a4, GE]; omega)
      rw [uD, ← eD, Int.mul_ediv_mul_of_pos _ _ (show (0 : Int) < 2 ^ n by omega), Int.mul_emod_mul_of_pos _ _ (show (0 : Int) < 2 ^ n by omega), Int.mul_ediv_cancel_left _ (show (2 : Int) ^ n ≠ 0 by omega)] at H
      rw [M6 a b, Ux a b] at H
      exact H
end Go.Proofs.YtkccpkccdbfomaaGreatDoor.Pure

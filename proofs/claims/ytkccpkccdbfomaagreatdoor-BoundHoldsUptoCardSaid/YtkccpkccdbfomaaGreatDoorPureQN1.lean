/- Sums of 192 bits. -/
import Derived.Test.YtkccpkccdbfomaaGreatDoorPureBD4
namespace Go.Proofs.YtkccpkccdbfomaaGreatDoor.Pure
open Go.RowKit Go.Proofs.YtkccpkccdbfomaaGreatDoorK Go.Proofs.YtkccpkccdbfomaaGreatDoor.GBH
set_option linter.unusedVariables false
set_option linter.unusedSimpArgs false
set_option maxRecDepth 100000
theorem qand {a b : Nat} (ha : a < 18446744073709551616) (hb : b < 18446744073709551616) : iand .u64 (a : Int) (b : Int) = ((a &&& b : Nat) : Int) := by
  have e : iand .u64 (a : Int) (b : Int) = (((BitVec.ofInt 64 (a : Int) &&& BitVec.ofInt 64 (b : Int)).toNat : Nat) : Int) % 18446744073709551616 := rfl
  rw [e, BitVec.toNat_and, Y3 (w := 64) ha, Y3 (w := 64) hb]
  have : a &&& b ≤ a := Nat.and_le_left
  omega
theorem qmask {a : Int} (h0 : 0 ≤ a) (h1 : a < 18446744073709551616) {k : Nat} (hk : k < 64) : iand .u64 a (2 ^ k - 1) = a % 2 ^ k := by
  obtain ⟨n, rfl⟩ := Int.eq_ofNat_of_zero_le h0
  have p : (2 : Nat) ^ k < 2 ^ 64 := Nat.pow_lt_pow_right (by decide) hk
  have q : 0 < (2 : Nat) ^ k := Nat.pow_pos (by decide)
  have e : ((2 : Int) ^ k - 1) = ((2 ^ k - 1 : Nat) : Int) := by rw [Int.natCast_sub (by omega)]; push_cast; rfl
  rw [e, qand (by omega) (by omega), Nat.and_two_pow_sub_one_eq_mod]
  push_cast; rfl
theorem qmask32 {a : Int} (h0 : 0 ≤ a) (h1 : a < 18446744073709551616) : iand .u64 a 4294967295 = a % 4294967296 := qmask h0 h1 (k := 32) (by decide)
theorem qmask20 {a : Int} (h0 : 0 ≤ a) (h1 : a < 18446744073709551616) : iand .u64 a 1048575 = a % 1048576 := qmask h0 h1 (k := 20) (by decide)
theorem qnot {w : Int} (h : 0 ≤ w ∧ w < 18446744073709551616) : ixor .u64 18446744073709551615 w = 18446744073709551615 - w := by
  obtain ⟨n, rfl⟩ := Int.eq_ofNat_of_zero_le h.1
  have hn : n < 2 ^ 64 := by omega
  have e : ixor .u64 18446744073709551615 (n : Int) = (((BitVec.ofInt 64 (18446744073709551615 : Int) ^^^ BitVec.ofInt 64 (n : Int)).toNat : Nat) : Int) % 18446744073709551616 := rfl
  rw [e, show BitVec.ofInt 64 (18446744073709551615 : Int) = BitVec.allOnes 64 by decide, BitVec.allOnes_xor, BitVec.toNat_not, Y3 (w := 64) hn]
  omega
theorem qor44 {b a : Int} (hb : 0 ≤ b ∧ b < 17592186044416) (ha : 0 ≤ a ∧ a < 1048576) : ior .u64 b (a * 17592186044416) = b + a * 17592186044416 := by
  obtain ⟨m, rfl⟩ := Int.eq_ofNat_of_zero_le hb.1
  obtain ⟨n, rfl⟩ := Int.eq_ofNat_of_zero_le ha.1
  have e : ((n : Int) * 17592186044416) = ((2 ^ 44 * n : Nat) : Int) := by omega
  rw [e, JQ (by omega) (by omega), Nat.or_comm, Ga 44 n m (by omega)]
  omega
theorem Mh {a b : Int} (ha : 0 ≤ a ∧ a ≤ 4294967295) (hb : 0 ≤ b ∧ b ≤ 4294967295) : 0 ≤ a * b ∧ a * b ≤ 18446744065119617025 := by
  refine ⟨Int.mul_nonneg ha.1 hb.1, ?_⟩
  have := Int.mul_le_mul ha.2 hb.2 hb.1 (by decide)
  omega
theorem qmul64 (k : Nat) {x y : Int} (hx : 0 ≤ x ∧ x < 18446744073709551616) (hy : 0 ≤ y ∧ y < 18446744073709551616) : ∃ hi lo, YZ.f k x y = some (hi, lo) ∧ (0 ≤ hi ∧ hi < 18446744073709551616) ∧ (0 ≤ lo ∧ lo < 18446744073709551616) ∧ hi * 18446744073709551616 + lo = x * y := by
  obtain ⟨x1, x0, hx1, hx0, ex⟩ : ∃ x1 x0, (0 ≤ x1 ∧ x1 ≤ 4294967295) ∧ (0 ≤ x0 ∧ x0 ≤ 4294967295) ∧ x = x1 * 4294967296 + x0 := ⟨x / 4294967296, x % 4294967296, by omega, by omega, by omega⟩
  obtain ⟨y1, y0, hy1, hy0, ey⟩ : ∃ y1 y0, (0 ≤ y1 ∧ y1 ≤ 4294967295) ∧ (0 ≤ y0 ∧ y0 ≤ 4294967295) ∧ y = y1 * 4294967296 + y0 := ⟨y / 4294967296, y % 4294967296, by omega, by omega, by omega⟩
  have b00 := Mh hx0 hy0
  have b01 := Mh hx0 hy1
  have b10 := Mh hx1 hy0
  have b11 := Mh hx1 hy1
  have hxy : x * y = (x1 * y1) * 18446744073709551616 + (x1 * y0 + x0 * y1) * 4294967296 + x0 * y0 := by
    rw [ex, ey]
    simp only [Int.add_mul, Int.mul_add]
    have e1 : x1 * 4294967296 * (y1 * 4294967296) = (x1 * y1) * 18446744073709551616 := by
      rw [Int.mul_assoc, Int.mul_left_comm 4294967296 y1, ← Int.mul_assoc]; rfl
    have e2 : x1 * 4294967296 * y0 = x1 * y0 * 4294967296 := Int.mul_right_comm ..
    have e3 : x0 * (y1 * 4294967296) = x0 * y1 * 4294967296 := (Int.mul_assoc ..).symm
    rw [e1, e2, e3]; omega
  unfold YZ.f
  rw [show x / 4294967296 = x1 by omega, show y / 4294967296 = y1 by omega, qmask32 hx.1 hx.2, qmask32 hy.1 hy.2, show x % 4294967296 = x0 by omega, show y % 4294967296 = y0 by omega]
  generalize x0 * y0 = p at *
  generalize x0 * y1 = r at *
  generalize x1 * y0 = q at *
  generalize x1 * y1 = s at *
  have t1 : (q % 18446744073709551616 + p % 18446744073709551616 / 4294967296) % 18446744073709551616 = q + p / 4294967296 := by omega
  rw [t1, qmask32 (by omega) (by omega)]
  refine ⟨_, _, rfl, ⟨by omega, by omega⟩, ⟨by omega, by omega⟩, ?_⟩
  rw [hxy]
  omega
/-! ### sums -/
structure Sv (s : XX) (x : Int) : Prop where
  w0 : 0 ≤ s.e0 ∧ s.e0 < 18446744073709551616
  w1 : 0 ≤ s.e1 ∧ s.e1 < 18446744073709551616
  w2 : 0 ≤ s.e2 ∧ s.e2 < 18446744073709551616
  eq : s.e0 + 18446744073709551616 * s.e1 + 340282366920938463463374607431768211456 * s.e2 = x % 6277101735386680763835789423207666416102355444464034512896
theorem Gb (k : Nat) {s o : XX} {x y : Int} (hs : Sv s x) (ho : Sv o y) : ∃ r, XO.f k s o = some r ∧ Sv r (x + y) := by
  obtain ⟨s0, s1, s2⟩ := s
  obtain ⟨o0, o1, o2⟩ := o
  obtain ⟨a0, a1, a2, ae⟩ := hs
  obtain ⟨b0, b1, b2, be⟩ := ho
  simp only at a0 a1 a2 ae b0 b1 b2 be
  have c0 : 0 ≤ (s0 + o0 + 0) / 18446744073709551616 ∧ (s0 + o0 + 0) / 18446744073709551616 ≤ 1 := by omega
  have c1 : 0 ≤ (s1 + o1 + (s0 + o0 + 0) / 18446744073709551616) / 18446744073709551616 ∧ (s1 + o1 + (s0 + o0 + 0) / 18446744073709551616) / 18446744073709551616 ≤ 1 := by omega
  unfold XO.f
  simp only [if_pos (show (0 : Int) ≤ s0 ∧ (0 : Int) ≤ o0 ∧ (0 : Int) ≤ 0 ∧ (0 : Int) ≤ 1 from ⟨a0.1, b0.1, by decide, by decide⟩), if_pos (And.intro a1.1 (And.intro b1.1 c0)), if_pos (And.intro a2.1 (And.intro b2.1 c1))]
  refine ⟨_, rfl, ⟨by simp only; omega, by simp only; omega, by simp only; omega, ?_⟩⟩
  simp only
  generalize hc0 : (s0 + o0 + 0) / 18446744073709551616 = k0 at *
  generalize hc1 : (s1 + o1 + k0) / 18446744073709551616 = k1 at *
  omega
theorem Wq (k : Nat) {s : XX} {x : Int} (hs : Sv s x) : ∃ r, Yg.f k s = some r ∧ Sv r (-x) := by
  obtain ⟨s0, s1, s2⟩ := s
  obtain ⟨a0, a1, a2, ae⟩ := hs
  simp only at a0 a1 a2 ae
  unfold Yg.f
  simp only [qnot a0, qnot a1, qnot a2]
  have c0 : 0 ≤ (18446744073709551615 - s0 + 0 + 1) / 18446744073709551616 ∧ (18446744073709551615 - s0 + 0 + 1) / 18446744073709551616 ≤ 1 := by omega
  have c1 : 0 ≤ (18446744073709551615 - s1 + 0 + (18446744073709551615 - s0 + 0 + 1) / 18446744073709551616) / 18446744073709551616 ∧ (18446744073709551615 - s1 + 0 + (18446744073709551615 - s0 + 0 + 1) / 18446744073709551616) / 18446744073709551616 ≤ 1 := by omega
  rw [if_pos ⟨by omega, by decide, by decide, by decide⟩, if_pos ⟨by omega, by decide, c0.1, c0.2⟩, if_pos ⟨by omega, by decide, c1.1, c1.2⟩]
  refine ⟨_, rfl, ⟨by simp only; omega, by simp only; omega, by simp only; omega, ?_⟩⟩
  simp only
  generalize hc0 : (18446744073709551615 - s0 + 0 + 1) / 18446744073709551616 = k0 at *
  generalize hc1 : (18446744073709551615 - s1 + 0 + k0) / 18446744073709551616 = k1 at *
  omega
theorem Uv (k : Nat) {a : Int} (h : -9223372036854775808 ≤ a ∧ a ≤ 9223372036854775807) : ∃ r, Zk.f k a = some r ∧ Sv r a := by
  unfold Zk.f
  refine ⟨_, rfl, ⟨by simp only; omega, by simp only; omega, by simp only; omega, ?_⟩⟩
  simp only
  by_cases c : a < 0
  · rw [show a / 9223372036854775808 = -1 by omega]; omega
  · rw [show a / 9223372036854775808 = 0 by omega]; omega
theorem NM (k : Nat) {a : Int} (h : -9223372036854775808 ≤ a ∧ a ≤ 9223372036854775807) : YV.f k a = some (if a < 0 then -a else a) := by
  unfold YV.f
  by_cases c : a < 0
  · rw [if_pos c, if_pos c]; refine congrArg some ?_; omega
  · rw [if_neg c, if_neg c]; refine congrArg some ?_; omega
theorem VD (k : Nat) {a b : Int} (ha : -9223372036854775808 ≤ a ∧ a ≤ 9223372036854775807) (hb : -9223372036854775808 ≤ b ∧ b ≤ 9223372036854775807) : ∃ r, YN.f k a b = some r ∧ Sv r (a * b) := by
  unfold YN.f
  simp only [NM k ha, NM k hb, Option.bind_some]
  obtain ⟨A, hA, rA⟩ : ∃ A, (if a < 0 then -a else a) = A ∧ (0 ≤ A ∧ A ≤ 9223372036854775808) := ⟨_, rfl, by split <;> omega⟩
  obtain ⟨B, hB, rB⟩ : ∃ B, (if b < 0 then -b else b) = B ∧ (0 ≤ B ∧ B ≤ 9223372036854775808) := ⟨_, rfl, by split <;> omega⟩
  rw [hA, hB]
  obtain ⟨hi, lo, e, h1, h2, h3⟩ := qmul64 k (x := A) (y := B) (by omega) (by omega)
  rw [e, Option.bind_some]
  have bd : 0 ≤ A * B ∧ A * B ≤ 85070591730234615865843651857942052864 := by
    refine ⟨Int.mul_nonneg rA.1 rB.1, ?_⟩
    have := Int.mul_le_mul rA.2 rB.2 rB.1 (by decide)
    omega
  have sv : Sv ⟨lo, hi, 0⟩ (A * B) := ⟨h2, h1, ⟨Int.le_refl 0, show (0 : Int) < 18446744073709551616 by decide⟩, by simp only; omega⟩
  have sign : (decide (a < 0) == decide (b < 0)) = true → A * B = a * b := by
    intro g
    by_cases c : a < 0
    · have c2 : b < 0 := by simpa [c] using g
      rw [← hA, ← hB, if_pos c, if_pos c2, Int.neg_mul_neg]
    · have c2 : ¬ b < 0 := by simpa [c] using g
      rw [← hA, ← hB, if_neg c, if_neg c2]
  have sign2 : (decide (a < 0) == decide (b < 0)) = false → -(A * B) = a * b := by
    intro g
    by_cases c : a < 0
    · have c2 : ¬ b < 0 := by simpa [c] using g
      rw [← hA, ← hB, if_pos c, if_neg c2, Int.neg_mul, Int.neg_neg]
    · have c2 : b < 0 := by simpa [c] using g
      rw [← hA, ← hB, if_neg c, if_pos c2, Int.mul_neg, Int.neg_neg]
  cases g : (decide (a < 0) == decide (b < 0)) with
  | true =>
    simp only [Bool.not_true, Bool.false_eq_true, if_false]
    refine ⟨_, rfl, ?_⟩
    rw [← sign g]; exact sv
  | false =>
    obtain ⟨r, e1, e2⟩ := Wq k sv
    simp only [Bool.not_false, if_true, e1, Option.bind_some]
    refine ⟨_, rfl, ?_⟩
    rw [← sign2 g]; exact e2
theorem NA (k : Nat) {s : XX} {x : Int} (hs : Sv s x) (h : -1000000000000000000000000000000000000000000000000000000000 ≤ x ∧ x ≤ 1000000000000000000000000000000000000000000000000000000000) : Yn.f k s = some (decide (x < 0)) := by
  obtain ⟨s0, s1, s2⟩ := s
  obtain ⟨a0, a1, a2, ae⟩ := hs
  simp only at a0 a1 a2 ae
  unfold Yn.f
  refine congrArg some ?_
  rw [decide_eq_decide]
  simp only
  omega
end Go.Proofs.YtkccpkccdbfomaaGreatDoor.Pure

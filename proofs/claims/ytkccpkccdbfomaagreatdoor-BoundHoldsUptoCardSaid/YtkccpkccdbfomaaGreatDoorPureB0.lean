/- Bits of whole numbers: and, or, xor of 32 and 64 bits, as naturals. -/
import Derived.Test.YtkccpkccdbfomaaGreatDoorPureN1
namespace Go.Proofs.YtkccpkccdbfomaaGreatDoor.Pure
open Go.RowKit Go.Proofs.YtkccpkccdbfomaaGreatDoorK Go.Proofs.YtkccpkccdbfomaaGreatDoor.GBH
set_option linter.unusedVariables false
set_option linter.unusedSimpArgs false
theorem Y3 {w a : Nat} (h : a < 2 ^ w) : (BitVec.ofInt w (a : Int)).toNat = a := by
  rw [BitVec.toNat_ofInt]
  have : ((a : Int) % ((2 ^ w : Nat) : Int)) = a := Int.emod_eq_of_lt (by omega) (by exact_mod_cast h)
  rw [this]; rfl
theorem JQ {a b : Nat} (ha : a < 18446744073709551616) (hb : b < 18446744073709551616) : ior .u64 (a : Int) (b : Int) = ((a ||| b : Nat) : Int) := by
  have e : ior .u64 (a : Int) (b : Int) = (((BitVec.ofInt 64 (a : Int) ||| BitVec.ofInt 64 (b : Int)).toNat : Nat) : Int) % 18446744073709551616 := rfl
  rw [e, BitVec.toNat_or, Y3 (w := 64) ha, Y3 (w := 64) hb]
  have : a ||| b < 2 ^ 64 := Nat.or_lt_two_pow (n := 64) ha hb
  omega
theorem UU {a b : Nat} (ha : a < 4294967296) (hb : b < 4294967296) : ior .u32 (a : Int) (b : Int) = ((a ||| b : Nat) : Int) := by
  have e : ior .u32 (a : Int) (b : Int) = (((BitVec.ofInt 32 (a : Int) ||| BitVec.ofInt 32 (b : Int)).toNat : Nat) : Int) % 4294967296 := rfl
  rw [e, BitVec.toNat_or, Y3 (w := 32) ha, Y3 (w := 32) hb]
  have : a ||| b < 2 ^ 32 := Nat.or_lt_two_pow (n := 32) ha hb
  omega
theorem Mq {a b : Nat} (ha : a < 4294967296) (hb : b < 4294967296) : iand .u32 (a : Int) (b : Int) = ((a &&& b : Nat) : Int) := by
  have e : iand .u32 (a : Int) (b : Int) = (((BitVec.ofInt 32 (a : Int) &&& BitVec.ofInt 32 (b : Int)).toNat : Nat) : Int) % 4294967296 := rfl
  rw [e, BitVec.toNat_and, Y3 (w := 32) ha, Y3 (w := 32) hb]
  have : a &&& b < 2 ^ 32 := Nat.and_lt_two_pow (n := 32) a hb
  omega
theorem Gg {a b : Nat} (ha : a < 4294967296) (hb : b < 4294967296) : ixor .u32 (a : Int) (b : Int) = ((a ^^^ b : Nat) : Int) := by
  have e : ixor .u32 (a : Int) (b : Int) = (((BitVec.ofInt 32 (a : Int) ^^^ BitVec.ofInt 32 (b : Int)).toNat : Nat) : Int) % 4294967296 := rfl
  rw [e, BitVec.toNat_xor, Y3 (w := 32) ha, Y3 (w := 32) hb]
  have : a ^^^ b < 2 ^ 32 := Nat.xor_lt_two_pow (n := 32) ha hb
  omega
/-- high and low parts -/
theorem Ga (n a b : Nat) (h : b < 2 ^ n) : 2 ^ n * a ||| b = 2 ^ n * a + b := (Nat.two_pow_add_eq_or_of_lt h a).symm
theorem Qab {a b : Nat} (ha : a < 4294967296) (hb : b < 4294967296) : ior .u64 ((a : Int) * 4294967296) (b : Int) = (a : Int) * 4294967296 + b := by
  have h := JQ (a := a * 4294967296) (b := b) (by omega) (by omega)
  rw [show ((a * 4294967296 : Nat) : Int) = (a : Int) * 4294967296 by omega] at h
  rw [h]
  have := Ga 32 a b hb
  have e : a * 4294967296 ||| b = a * 4294967296 + b := by rw [show a * 4294967296 = 2 ^ 32 * a by omega]; exact this
  rw [e]; omega
theorem QaD {a b : Nat} (ha : a < 4294967296) (hb : b < 4294967296) : ior .u64 (b : Int) ((a : Int) * 4294967296) = (b : Int) + (a : Int) * 4294967296 := by
  have h := JQ (a := b) (b := a * 4294967296) (by omega) (by omega)
  rw [show ((a * 4294967296 : Nat) : Int) = (a : Int) * 4294967296 by omega] at h
  rw [h]
  have := Ga 32 a b hb
  have e : b ||| a * 4294967296 = a * 4294967296 + b := by rw [Nat.or_comm, show a * 4294967296 = 2 ^ 32 * a by omega]; exact this
  rw [e]; omega
/-- high and low parts, told as whole numbers -/
theorem ior_hl' {a b : Int} (ha : 0 ≤ a ∧ a ≤ 4294967295) (hb : 0 ≤ b ∧ b ≤ 4294967295) : ior .u64 (a * 4294967296) b = a * 4294967296 + b := by
  obtain ⟨x, rfl⟩ := Int.eq_ofNat_of_zero_le ha.1
  obtain ⟨y, rfl⟩ := Int.eq_ofNat_of_zero_le hb.1
  exact Qab (by omega) (by omega)
theorem ior_lh' {a b : Int} (ha : 0 ≤ a ∧ a ≤ 4294967295) (hb : 0 ≤ b ∧ b ≤ 4294967295) : ior .u64 b (a * 4294967296) = b + a * 4294967296 := by
  obtain ⟨x, rfl⟩ := Int.eq_ofNat_of_zero_le ha.1
  obtain ⟨y, rfl⟩ := Int.eq_ofNat_of_zero_le hb.1
  exact QaD (by omega) (by omega)
/-- a shifted word and what is below -/
theorem QaE {n : Nat} {a b : Nat} (hn : n ≤ 32) (ha : a < 4294967296) (hb : b < 2 ^ n) : ior .u64 ((a : Int) * 2 ^ n) (b : Int) = (a : Int) * 2 ^ n + b := by
  have hp : 2 ^ n ≤ 2 ^ 32 := Nat.pow_le_pow_right (by omega) hn
  have h1 : a * 2 ^ n < 2 ^ 64 := by
    have := Nat.mul_le_mul (show a ≤ 4294967295 by omega) hp
    have h3 : (4294967295 : Nat) * 2 ^ 32 < 2 ^ 64 := by decide
    omega
  have h := JQ (a := a * 2 ^ n) (b := b) (by omega) (by omega)
  rw [show ((a * 2 ^ n : Nat) : Int) = (a : Int) * 2 ^ n by rw [Int.natCast_mul, Int.natCast_pow]; rfl] at h
  rw [h]
  have := Ga n a b hb
  have e : a * 2 ^ n ||| b = a * 2 ^ n + b := by rw [Nat.mul_comm a]; exact this
  rw [e, Int.natCast_add, Int.natCast_mul, Int.natCast_pow]; rfl
theorem tb31 {x : Nat} (h : x < 4294967296) : x.testBit 31 = decide (2147483648 ≤ x) := by
  rw [Nat.testBit_eq_decide_div_mod_eq, decide_eq_decide, show (2 : Nat) ^ 31 = 2147483648 by decide]
  omega
theorem top31 {x : Nat} (h : x < 4294967296) : x / 2147483648 = (x.testBit 31).toNat := by
  rw [tb31 h]
  by_cases g : 2147483648 ≤ x
  · simp only [g, decide_true, Bool.toNat_true]; omega
  · simp only [g, decide_false, Bool.toNat_false]; omega
theorem V7 (k : Nat) {x y b : Int} (hx : 0 ≤ x ∧ x ≤ 4294967295) (hy : 0 ≤ y ∧ y ≤ 4294967295) (hb : 0 ≤ b ∧ b ≤ 1) :
    YJ.f k x y b = some ((x - y - b) % 4294967296, if x < y + b then 1 else 0) := by
  obtain ⟨x, rfl⟩ := Int.eq_ofNat_of_zero_le hx.1
  obtain ⟨y, rfl⟩ := Int.eq_ofNat_of_zero_le hy.1
  obtain ⟨b, rfl⟩ := Int.eq_ofNat_of_zero_le hb.1
  unfold YJ.f
  have e0 : (((x : Int) - y) % 4294967296 - b) % 4294967296 = ((x : Int) - y - b) % 4294967296 := by omega
  rw [e0]
  obtain ⟨d, hd⟩ : ∃ d : Nat, ((x : Int) - y - b) % 4294967296 = d := ⟨(((x : Int) - y - b) % 4294967296).toNat, by omega⟩
  rw [hd]
  have hd' : d < 4294967296 := by omega
  refine congrArg some (congrArg (Prod.mk _) ?_)
  have hx' : x < 4294967296 := by omega
  have hy' : y < 4294967296 := by omega
  have c1 : ixor .u32 4294967295 (x : Int) = ((4294967295 ^^^ x : Nat) : Int) := Gg (a := 4294967295) (by decide) hx'
  have l1 : 4294967295 ^^^ x < 4294967296 := Nat.xor_lt_two_pow (n := 32) (by decide) hx'
  have l2 : x ^^^ y < 4294967296 := Nat.xor_lt_two_pow (n := 32) hx' hy'
  have c2 : ixor .u32 (x : Int) (y : Int) = ((x ^^^ y : Nat) : Int) := Gg hx' hy'
  have c3 : ixor .u32 4294967295 ((x ^^^ y : Nat) : Int) = ((4294967295 ^^^ (x ^^^ y) : Nat) : Int) := Gg (a := 4294967295) (by decide) l2
  have l3 : 4294967295 ^^^ (x ^^^ y) < 4294967296 := Nat.xor_lt_two_pow (n := 32) (by decide) l2
  rw [c1, c2, c3, Mq l1 hy', Mq l3 hd']
  have l4 : (4294967295 ^^^ x) &&& y < 4294967296 := Nat.and_lt_two_pow (n := 32) _ hy'
  have l5 : (4294967295 ^^^ (x ^^^ y)) &&& d < 4294967296 := Nat.and_lt_two_pow (n := 32) _ hd'
  rw [UU l4 l5]
  have l6 : (4294967295 ^^^ x) &&& y ||| (4294967295 ^^^ (x ^^^ y)) &&& d < 4294967296 := Nat.or_lt_two_pow (n := 32) l4 l5
  have e1 : ((((4294967295 ^^^ x) &&& y ||| (4294967295 ^^^ (x ^^^ y)) &&& d : Nat) : Int) / 2147483648) = (((((4294967295 ^^^ x) &&& y ||| (4294967295 ^^^ (x ^^^ y)) &&& d) / 2147483648 : Nat)) : Int) := by omega
  rw [e1, top31 l6, Nat.testBit_or, Nat.testBit_and, Nat.testBit_and, Nat.testBit_xor, Nat.testBit_xor, Nat.testBit_xor, tb31 hx', tb31 hy', tb31 hd', show (4294967295 : Nat).testBit 31 = true by decide]
  by_cases g1 : 2147483648 ≤ x <;> by_cases g2 : 2147483648 ≤ y <;> by_cases g3 : 2147483648 ≤ d <;> simp only [g1, g2, g3, decide_true, decide_false, Bool.true_bne, Bool.false_bne, Bool.not_true, Bool.not_false, Bool.and_true, Bool.and_false, Bool.or_true, Bool.or_false, Bool.toNat_true, Bool.toNat_false, bne_self_eq_false] <;> split <;> omega
end Go.Proofs.YtkccpkccdbfomaaGreatDoor.Pure

/- Bytes and numbers. -/
import Derived.Test.YtlokgnjlnefbbaaDoorGCBp
namespace Go.Proofs.YtlokgnjlnefbbaaDoor.Pure
open Go.RowKit Go.Proofs.YtlokgnjlnefbbaaDoorK Go.Proofs.YtlokgnjlnefbbaaDoor.GCB
set_option linter.unusedVariables false
set_option linter.unusedSimpArgs false
set_option maxRecDepth 100000
theorem wi {x : Int} (h : -9223372036854775808 ≤ x ∧ x ≤ 9223372036854775807) : w64 x = x := by
  simp only [w64, IntKind.wrap, IntKind.bits, IntKind.signed]; simp; omega
theorem wsc {i : Nat} (h : i < 1000000000) : w64 ((i : Int) + 1) = ((i + 1 : Nat) : Int) := wi (by omega)
theorem rdg {α : Type} [Inhabited α] {L : List α} {i : Nat} (h : i < L.length) : rd L (i : Int) = L[i] := by
  unfold rd; rw [Int.toNat_natCast, List.getD_eq_getElem?_getD, List.getElem?_eq_getElem h]; rfl
theorem drc {α : Type} {L : List α} {i : Nat} (h : i < L.length) : L.drop i = L[i] :: L.drop (i + 1) := List.drop_eq_getElem_cons h
def Byt (b : List Int) : Prop := ∀ x ∈ b, 0 ≤ x ∧ x ≤ 255
def un : Int → List Int → Int
  | n, [] => n
  | n, c :: l => un ((256 * n + c) % 18446744073709551616) l
theorem ofInt_emod (x : Int) : BitVec.ofInt 64 x = BitVec.ofNat 64 (x % 18446744073709551616).toNat := by
  apply BitVec.eq_of_toNat_eq
  rw [BitVec.toNat_ofInt, BitVec.toNat_ofNat]
  have : ((2 : Nat) ^ 64 : Nat) = 18446744073709551616 := by decide
  rw [this]
  omega
theorem w64_mod (x : Int) : w64 x % 18446744073709551616 = x % 18446744073709551616 := by
  simp only [w64, IntKind.wrap, IntKind.bits, IntKind.signed]; simp; omega
theorem w64_cong {x y : Int} (h : x % 18446744073709551616 = y % 18446744073709551616) : w64 x = w64 y := by
  simp only [w64, IntKind.wrap, IntKind.bits, IntKind.signed]; simp; omega
theorem ior_byte {n c : Int} (hc : 0 ≤ c ∧ c ≤ 255) : ior .i64 (w64 (w64 n * 256)) (w64 c) = w64 ((256 * n + c) % 18446744073709551616) := by
  have hx : w64 (w64 n * 256) % 18446744073709551616 = (256 * (n % 72057594037927936)) := by
    rw [w64_mod]; have := w64_mod n; omega
  have hq : 0 ≤ n % 72057594037927936 ∧ n % 72057594037927936 < 72057594037927936 := by omega
  unfold ior
  show w64 ((BitVec.ofInt 64 (w64 (w64 n * 256)) ||| BitVec.ofInt 64 (w64 c)).toNat : Int) = _
  rw [ofInt_emod (w64 (w64 n * 256)), hx, ofInt_emod (w64 c), w64_mod c]
  obtain ⟨q, hq'⟩ : ∃ q : Nat, (q : Int) = n % 72057594037927936 := ⟨(n % 72057594037927936).toNat, by omega⟩
  obtain ⟨b, hb'⟩ : ∃ b : Nat, (b : Int) = c := ⟨c.toNat, by omega⟩
  have e1 : (256 * (n % 72057594037927936)).toNat = 2 ^ 8 * q := by omega
  have e2 : (c % 18446744073709551616).toNat = b := by omega
  rw [e1, e2, BitVec.toNat_or, BitVec.toNat_ofNat, BitVec.toNat_ofNat]
  have p64 : ((2 : Nat) ^ 64 : Nat) = 18446744073709551616 := by decide
  rw [p64, Nat.mod_eq_of_lt (show 2 ^ 8 * q < 18446744073709551616 by omega), Nat.mod_eq_of_lt (show b < 18446744073709551616 by omega), ← Nat.two_pow_add_eq_or_of_lt (show b < 2 ^ 8 by omega) q]
  show w64 _ = _
  apply w64_cong
  push_cast
  omega
end Go.Proofs.YtlokgnjlnefbbaaDoor.Pure

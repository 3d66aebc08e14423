/- The law SpanLast: what any number with so many bits behind the point may stand for. -/
import Derived.Test.YtkccpkccdbfomaaGreatDoorPureI1L34
import Derived.Test.YtkccpkccdbfomaaGreatDoorPureW12L34
namespace Go.Proofs.YtkccpkccdbfomaaGreatDoor.Pure
open Go.RowKit Go.Proofs.YtkccpkccdbfomaaGreatDoorK Go.Proofs.YtkccpkccdbfomaaGreatDoor.GSL
set_option linter.unusedVariables false
set_option linter.unusedSimpArgs false
set_option maxRecDepth 100000
def Gb (l h : Rat) : radomeref34_Span := ⟨Fb l, Fb h⟩
theorem Gb_l (l h : Rat) : (Gb l h).f_Low = Fb l := rfl
theorem Gb_h (l h : Rat) : (Gb l h).f_High = Fb h := rfl
theorem isSpan_ev {l h : Rat} {B : Nat} (hl : Rs B l) (hh : Rs B h) (hB : B < LIM) : Ev (fun k => radomelaw34_isSpan.f k (Sb l h) (⟨Fb l, Fb h⟩ : radomeref34_Span)) true := by
  unfold radomelaw34_isSpan.f
  simp only [Sb_l, Sb_h]
  refine Ev.bind (RatText_ev hl hB) (Ev.bind (FText_ev hl hB) ?_)
  simp only [decide_true, gdt]
  refine Ev.bind (RatText_ev hh hB) (Ev.bind (FText_ev hh hB) ?_)
  simp only [decide_true, Bool.and_self]
  exact Ev.now
/-- the number, and the two ends of it, over one denominator -/
theorem ends {n P : Int} (h : 0 < P) : Rat.divInt n P = Rat.divInt (2 * n) (2 * P) ∧ Rat.divInt n P - Rat.divInt 1 (2 * P) = Rat.divInt (2 * n - 1) (2 * P) ∧ Rat.divInt n P + Rat.divInt 1 (2 * P) = Rat.divInt (2 * n + 1) (2 * P) := by
  have e : Rat.divInt n P = Rat.divInt (2 * n) (2 * P) := (Rat.divInt_mul_left (by decide)).symm
  have nz : 2 * P ≠ 0 := by omega
  refine ⟨e, ?_, ?_⟩
  · rw [e, Rat.divInt_sub_divInt _ _ nz nz, show 2 * n * (2 * P) - 1 * (2 * P) = (2 * P) * (2 * n - 1) by rw [← Int.sub_mul, Int.mul_comm], Rat.divInt_mul_left nz]
  · rw [e, Rat.divInt_add_divInt _ _ nz nz, show 2 * n * (2 * P) + 1 * (2 * P) = (2 * P) * (2 * n + 1) by rw [← Int.add_mul, Int.mul_comm], Rat.divInt_mul_left nz]
theorem Bits63 {n : Int} {bits : Nat} (hn : -9223372036854775808 ≤ n ∧ n ≤ 9223372036854775807) (hb : bits ≤ 63) : Ev (fun k => ratio_Bits.f k n (bits : Int)) (Rb (Rat.divInt n (2 ^ bits)), none) ∧ Rs 9223372036854775808 (Rat.divInt n (2 ^ bits)) := by
  obtain ⟨h1, h2⟩ := RBits_ev hn (show bits ≤ 1024 by omega)
  have h63 : 2 ^ bits ≤ 2 ^ 63 := Nat.pow_le_pow_right (by decide) hb
  rw [show (2 : Nat) ^ 63 = 9223372036854775808 by decide] at h63
  rw [mkRat_divInt, ← pow2_nat] at h1 h2
  rw [Nat.max_eq_left h63] at h2
  exact ⟨h1, h2⟩
theorem ILast_ev {n : Int} {bits : Nat} (hn : -9223372036854775808 ≤ n ∧ n ≤ 9223372036854775807) (hb : bits ≤ 62) : Ev (fun k => interval_Last.f k n (bits : Int)) (Sb (Rat.divInt (2 * n - 1) (2 ^ (bits + 1))) (Rat.divInt (2 * n + 1) (2 ^ (bits + 1))), none) ∧ Rs (2 * (9223372036854775808 * 9223372036854775808)) (Rat.divInt (2 * n - 1) (2 ^ (bits + 1))) ∧ Rs (2 * (9223372036854775808 * 9223372036854775808)) (Rat.divInt (2 * n + 1) (2 ^ (bits + 1))) := by
  obtain ⟨m1, m2⟩ := Bits63 hn (show bits ≤ 63 by omega)
  obtain ⟨q1, q2⟩ := Bits63 (n := 1) (by decide) (show bits + 1 ≤ 63 by omega)
  have hl : 2 * (9223372036854775808 * 9223372036854775808) < LIM := by decide +kernel
  have S1 := RSub_ev m2 q2 hl
  have A1 := RAdd_ev m2 q2 hl
  have bS := Rs_sub m2 q2
  have bA := Rs_add m2 q2
  obtain ⟨-, e1, e2⟩ := ends (n := n) (pow2_pos bits)
  have ep : (2 : Int) ^ (bits + 1) = 2 * 2 ^ bits := by rw [Int.pow_succ, Int.mul_comm]
  rw [ep] at q1 q2 S1 A1 bS bA ⊢
  rw [e1] at S1 bS
  rw [e2] at A1 bA
  refine ⟨?_, bS, bA⟩
  have c : ((decide ((bits : Int) < 0)) || (decide (62 < (bits : Int)))) = false := by rw [Bool.or_eq_false_iff, decide_eq_false_iff_not, decide_eq_false_iff_not]; omega
  unfold interval_Last.f
  simp only [c, Bool.false_eq_true, if_false, show w64 ((bits : Int) + 1) = ((bits + 1 : Nat) : Int) from wsucc (by omega)]
  refine Ev.bind m1 ?_
  simp only [Option.isSome_none, Bool.false_eq_true, if_false]
  refine Ev.bind q1 ?_
  simp only [Option.isSome_none, Bool.false_eq_true, if_false]
  refine Ev.bind S1 ?_
  simp only [Option.isSome_none, Bool.false_eq_true, if_false]
  exact Ev.bind A1 Ev.now
theorem ILast_out (k : Nat) (n : Int) {bits : Int} (h : bits < 0 ∨ 62 < bits) : interval_Last.f k n bits = some (Zs, some 1) := by
  have : ((decide (bits < 0)) || (decide (62 < bits))) = true := by rw [Bool.or_eq_true, decide_eq_true_eq, decide_eq_true_eq]; exact h
  simp only [interval_Last.f, this, if_true, wb0]; rfl
theorem Ln20 {x : Int} (h : x.natAbs < 10 ^ 30) : Ln x < 1000000 := Nat.lt_of_le_of_lt (Ln_of (m := 30) h) (by decide)
theorem pure_SpanLast (n bits : Int) (hn : -9223372036854775808 ≤ n ∧ n ≤ 9223372036854775807) : Ev (fun k => radomelaw34_SpanLast.f k n bits) true := by
  unfold radomelaw34_SpanLast.f
  by_cases ho : bits < 0 ∨ 62 < bits
  · have c : ((decide (bits < 0)) || (decide (62 < bits))) = true := by rw [Bool.or_eq_true, decide_eq_true_eq, decide_eq_true_eq]; exact ho
    simp only [ILast_out _ _ ho, Option.bind_some, c, if_true, errN, Option.getD_some, decide_true, gdt, Bool.true_and]
    exact Ev.bind L34.sure_ev Ev.now
  · have c : ((decide (bits < 0)) || (decide (62 < bits))) = false := by rw [Bool.or_eq_false_iff, decide_eq_false_iff_not, decide_eq_false_iff_not]; omega
    obtain ⟨b, rfl⟩ : ∃ b : Nat, bits = (b : Int) := ⟨bits.toNat, by omega⟩
    have hb : b ≤ 62 := by omega
    obtain ⟨L1, L2, L3⟩ := ILast_ev hn hb
    obtain ⟨m1, m2⟩ := Bits63 hn (show b ≤ 63 by omega)
    have hl : 2 * (9223372036854775808 * 9223372036854775808) * (2 * (9223372036854775808 * 9223372036854775808)) < LIM := by decide +kernel
    have hl1 : 2 * (9223372036854775808 * 9223372036854775808) < LIM := by decide +kernel
    have mb := m2.mono (show 9223372036854775808 ≤ 2 * (9223372036854775808 * 9223372036854775808) by decide)
    have P := pow2_pos b
    have ep : (2 : Int) ^ (b + 1) = 2 * 2 ^ b := by rw [Int.pow_succ, Int.mul_comm]
    obtain ⟨e0, -, -⟩ := ends (n := n) P
    have pD : (2 : Int) ^ (b + 1) ≤ 9223372036854775808 := by
      have h63 : 2 ^ (b + 1) ≤ 2 ^ 63 := Nat.pow_le_pow_right (by decide) (by omega)
      rw [show (2 : Nat) ^ 63 = 9223372036854775808 by decide] at h63
      rw [pow2_nat]; omega
    have D0 : (0 : Int) < 2 ^ (b + 1) := pow2_pos _
    have l30 : (30000000000000000000 : Nat) < 10 ^ 30 := by decide
    have T := Two_ev (n := b + 1) (by omega)
    have O1 := FOf_ev (n := 2 * n - 1) (d := (2 : Int) ^ (b + 1)) (by omega) (Ln20 (by omega)) (Ln20 (by omega))
    have O2 := FOf_ev (n := 2 * n + 1) (d := (2 : Int) ^ (b + 1)) (by omega) (Ln20 (by omega)) (Ln20 (by omega))
    have In1 := In_ev mb L2 L3 hl (by rw [divInt_le D0]; omega)
    have ln : Ln n < 8796093022208 := by have := Ln20 (x := n) (by omega); omega
    have l2 : Ln 2 < 8796093022208 := by have := Ln20 (x := 2) (by omega); omega
    have l1 : Ln 1 < 8796093022208 := by have := Ln20 (x := 1) (by omega); omega
    have l2n : Ln (n * 2) < 8796093022208 := by have := Ln20 (x := n * 2) (by omega); omega
    rw [show decide (Rat.divInt (2 * n - 1) (2 ^ (b + 1)) ≤ Rat.divInt n (2 ^ b) ∧ Rat.divInt n (2 ^ b) ≤ Rat.divInt (2 * n + 1) (2 ^ (b + 1))) = true by
      rw [decide_eq_true_eq, e0, ← ep, divInt_le D0, divInt_le D0]; omega] at In1
    refine Ev.bind L1 ?_
    simp only [c, Bool.false_eq_true, if_false, show w64 ((b : Int) + 1) = ((b + 1 : Nat) : Int) from wsucc (by omega)]
    refine Ev.bind T (Ev.bind (Of_ev hn) (Ev.bind (Of_ev (x := 2) (by decide)) (Ev.bind (Mul_ev ln l2) (Ev.bind (Of_ev (x := 1) (by decide)) (Ev.bind (Sub_ev l2n l1) ?_)))))
    rw [show n * 2 - 1 = 2 * n - 1 by omega]
    refine Ev.bind O1 (Ev.bind (Of_ev hn) (Ev.bind (Of_ev (x := 2) (by decide)) (Ev.bind (Mul_ev ln l2) (Ev.bind (Of_ev (x := 1) (by decide)) (Ev.bind (Add_ev l2n l1) ?_)))))
    rw [show n * 2 + 1 = 2 * n + 1 by omega]
    refine Ev.bind O2 (Ev.bind m1 (Ev.bind In1 ?_))
    simp only [Option.isSome_none, Bool.or_false, Bool.not_true, Bool.not_false, gdt]
    refine Ev.bind (isSpan_ev L2 L3 hl1) ?_
    simp only [Bool.not_true, Bool.or_false, Bool.false_eq_true, if_false]
    by_cases g : n = 9223372036854775807
    · simp only [g, if_true]
      exact Ev.bind L34.sure_ev Ev.now
    · simp only [if_neg g, w64_id (show -9223372036854775808 ≤ n + 1 ∧ n + 1 ≤ 9223372036854775807 by omega)]
      obtain ⟨k1, k2⟩ := Bits63 (n := n + 1) (by omega) (show b ≤ 63 by omega)
      have kb := k2.mono (show 9223372036854775808 ≤ 2 * (9223372036854775808 * 9223372036854775808) by decide)
      obtain ⟨e9, -, -⟩ := ends (n := n + 1) P
      have In2 := In_ev kb L2 L3 hl (by rw [divInt_le D0]; omega)
      rw [show decide (Rat.divInt (2 * n - 1) (2 ^ (b + 1)) ≤ Rat.divInt (n + 1) (2 ^ b) ∧ Rat.divInt (n + 1) (2 ^ b) ≤ Rat.divInt (2 * n + 1) (2 ^ (b + 1))) = false by
        rw [decide_eq_false_iff_not, e9, ← ep, divInt_le D0, divInt_le D0]; omega] at In2
      refine Ev.bind k1 (Ev.bind In2 ?_)
      simp only [Option.isNone_none, Bool.and_self, Bool.not_false, Bool.true_and, gdt]
      exact Ev.bind L34.sure_ev Ev.now
theorem SpanLast : radomelaw34_SpanLast.Pure := fun n bits h _ =>
  (pure_SpanLast n bits (by simpa [Lit.wf, IntKind.min, IntKind.max, IntKind.signed, IntKind.bits] using h)).ex
end Go.Proofs.YtkccpkccdbfomaaGreatDoor.Pure

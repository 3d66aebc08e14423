/- A text of this session, written by a program (wip/tools): Go functions as Lean functions, and proofs that the code comes to them. -/
import Derived.Test.YtddcfnhbedpbnaaQTurnLawsx0
namespace Go.Proofs.Ytddcfnhbedpbnaa.QTurnLaws
open Go.RowKit Go.Proofs.YtddcfnhbedpbnaaW.PrintWords Go.Proofs.YtddcfnhbedpbnaaW.PrintLast Go.Proofs.YtddcfnhbedpbnaaW.PrintMore
attribute [local go_sem] max2_int min2_int max_two min_two max_three min_three max_four min_four   -- for this text's walks alone
set_option linter.unusedVariables false
set_option linter.unusedSimpArgs false

/-! ### turn_Short: function 10 -/
def turn_Short.f (a0 : Int) : Option (Int) := some (((a0 + 32768) % 4294967296) / 65536)
set_option maxHeartbeats 8000000 in
set_option maxRecDepth 100000 in
theorem turn_Short.calls (a0 : Int) (r : Int) (w : World) (h : turn_Short.f a0 = some r) :
  Calls Try.prog 10 #[.int .u32 a0] w fun e w' => e = .returned (.int .u16 r) ∧ Drawn0 w w' := by
 have H : (some (((a0 + 32768) % 4294967296) / 65536)) = some r := h
 clear h
 obtain rfl := Option.some.inj H
 go_enter Try.func10, Try.ntmps10
 go_wp2
 go_ret
 exact ⟨by first | rfl | (simp; done) | (simp [*]; done), by repeat (first | exact Drawn0.refl _ | apply Drawn0.step)⟩

/-! ### turn_Of: function 12 -/
def turn_Of.f (a0 : Int) : Option (Int) := some ((((a0) % 4294967296) * 65536) % 4294967296)
set_option maxHeartbeats 8000000 in
set_option maxRecDepth 100000 in
theorem turn_Of.calls (a0 : Int) (r : Int) (w : World) (h : turn_Of.f a0 = some r) :
  Calls Try.prog 12 #[.int .u16 a0] w fun e w' => e = .returned (.int .u32 r) ∧ Drawn0 w w' := by
 have H : (some ((((a0) % 4294967296) * 65536) % 4294967296)) = some r := h
 clear h
 obtain rfl := Option.some.inj H
 go_enter Try.func12, Try.ntmps12
 go_wp2
 go_ret
 exact ⟨by first | rfl | (simp; done) | (simp [*]; done), by repeat (first | exact Drawn0.refl _ | apply Drawn0.step)⟩

/-! ### turn_From: function 13 -/
def turn_From.f (a0 : Int) (a1 : Int) : Option (Int) := some (wrap32 ((a0 - a1) % 4294967296))
set_option maxHeartbeats 8000000 in
set_option maxRecDepth 100000 in
theorem turn_From.calls (a0 : Int) (a1 : Int) (r : Int) (w : World) (h : turn_From.f a0 a1 = some r) :
  Calls Try.prog 13 #[.int .u32 a0, .int .u32 a1] w fun e w' => e = .returned (.int .i32 r) ∧ Drawn0 w w' := by
 have H : (some (wrap32 ((a0 - a1) % 4294967296))) = some r := h
 clear h
 obtain rfl := Option.some.inj H
 go_enter Try.func13, Try.ntmps13
 go_wp2
 go_ret
 exact ⟨by first | rfl | (simp; done) | (simp [*]; done), by repeat (first | exact Drawn0.refl _ | apply Drawn0.step)⟩

/-! ### turn_Between: function 15 -/
def turn_Between.f (a0 : Int) (a1 : Int) (a2 : Int) : Option (Bool) := some (decide (((a0 - a1) % 4294967296) ≤ ((a2 - a1) % 4294967296)))
set_option maxHeartbeats 8000000 in
set_option maxRecDepth 100000 in
theorem turn_Between.calls (a0 : Int) (a1 : Int) (a2 : Int) (r : Bool) (w : World) (h : turn_Between.f a0 a1 a2 = some r) :
  Calls Try.prog 15 #[.int .u32 a0, .int .u32 a1, .int .u32 a2] w fun e w' => e = .returned (.bool r) ∧ Drawn0 w w' := by
 have H : (some (decide (((a0 - a1) % 4294967296) ≤ ((a2 - a1) % 4294967296)))) = some r := h
 clear h
 obtain rfl := Option.some.inj H
 go_enter Try.func15, Try.ntmps15
 go_wp2
 go_ret
 exact ⟨by first | rfl | (simp; done) | (simp [*]; done), by repeat (first | exact Drawn0.refl _ | apply Drawn0.step)⟩

/-! ### turn_Middle: function 17 -/
def turn_Middle.f (a0 : Int) (a1 : Int) : Option (Int) := some ((a0 + (((a1 - a0) % 4294967296) / 2)) % 4294967296)
set_option maxHeartbeats 8000000 in
set_option maxRecDepth 100000 in
theorem turn_Middle.calls (a0 : Int) (a1 : Int) (r : Int) (w : World) (h : turn_Middle.f a0 a1 = some r) :
  Calls Try.prog 17 #[.int .u32 a0, .int .u32 a1] w fun e w' => e = .returned (.int .u32 r) ∧ Drawn0 w w' := by
 have H : (some ((a0 + (((a1 - a0) % 4294967296) / 2)) % 4294967296)) = some r := h
 clear h
 obtain rfl := Option.some.inj H
 go_enter Try.func17, Try.ntmps17
 go_wp2
 go_ret
 exact ⟨by first | rfl | (simp; done) | (simp [*]; done), by repeat (first | exact Drawn0.refl _ | apply Drawn0.step)⟩

/-! ### bits_Mul64: function 33 -/
def bits_Mul64.f (a0 : Int) (a1 : Int) : Option (Int × Int) := some (IntKind.u64.wrap ((IntKind.u64.wrap ((IntKind.u64.wrap ((a0 / 4294967296) * (a1 / 4294967296))) + ((IntKind.u64.wrap ((IntKind.u64.wrap ((a0 / 4294967296) * (Go.bits .and .u64 a1 4294967295))) + ((IntKind.u64.wrap ((Go.bits .and .u64 a0 4294967295) * (Go.bits .and .u64 a1 4294967295))) / 4294967296))) / 4294967296))) + ((IntKind.u64.wrap ((Go.bits .and .u64 (IntKind.u64.wrap ((IntKind.u64.wrap ((a0 / 4294967296) * (Go.bits .and .u64 a1 4294967295))) + ((IntKind.u64.wrap ((Go.bits .and .u64 a0 4294967295) * (Go.bits .and .u64 a1 4294967295))) / 4294967296))) 4294967295) + (IntKind.u64.wrap ((Go.bits .and .u64 a0 4294967295) * (a1 / 4294967296))))) / 4294967296)), IntKind.u64.wrap (a0 * a1))
set_option maxHeartbeats 8000000 in
set_option maxRecDepth 100000 in
theorem bits_Mul64.calls (a0 : Int) (a1 : Int) (r1 : Int) (r2 : Int) (w : World) (h : bits_Mul64.f a0 a1 = some (r1, r2)) :
  Calls Try.prog 33 #[.int .u64 a0, .int .u64 a1] w fun e w' => e = .returned (.tuple #[.int .u64 r1, .int .u64 r2]) ∧ Drawn0 w w' := by
 have H : (some (IntKind.u64.wrap ((IntKind.u64.wrap ((IntKind.u64.wrap ((a0 / 4294967296) * (a1 / 4294967296))) + ((IntKind.u64.wrap ((IntKind.u64.wrap ((a0 / 4294967296) * (Go.bits .and .u64 a1 4294967295))) + ((IntKind.u64.wrap ((Go.bits .and .u64 a0 4294967295) * (Go.bits .and .u64 a1 4294967295))) / 4294967296))) / 4294967296))) + ((IntKind.u64.wrap ((Go.bits .and .u64 (IntKind.u64.wrap ((IntKind.u64.wrap ((a0 / 4294967296) * (Go.bits .and .u64 a1 4294967295))) + ((IntKind.u64.wrap ((Go.bits .and .u64 a0 4294967295) * (Go.bits .and .u64 a1 4294967295))) / 4294967296))) 4294967295) + (IntKind.u64.wrap ((Go.bits .and .u64 a0 4294967295) * (a1 / 4294967296))))) / 4294967296)), IntKind.u64.wrap (a0 * a1))) = some (r1, r2) := h
 clear h
 simp only [Option.some.injEq, Prod.mk.injEq] at H
 obtain ⟨rfl, rfl⟩ := H
 go_enter Try.func33, Try.ntmps33
 go_wp2
 go_ret2
 exact ⟨by first | rfl | (simp; done) | (simp [*]; done), by repeat (first | exact Drawn0.refl _ | apply Drawn0.step)⟩

/-! ### turn_rounded: function 34 -/
def turn_rounded.f (a0 : Int) (a1 : Int) (a2 : Int) : Option (Int) := if a2 < 64 then (if 0 ≤ (wrap64 (64 - a2)) then (if 0 ≤ a2 then (if 0 ≤ (wrap64 (a2 - 1)) then (if (Go.bits .and .u64 a1 (IntKind.u64.wrap ((shl .u64 1 a2) - 1))) > (shl .u64 1 (wrap64 (a2 - 1))) then (some (IntKind.u64.wrap ((Go.bits .or .u64 (shl .u64 a0 (wrap64 (64 - a2))) (shr .u64 a1 a2)) + 1))) else (if (Go.bits .and .u64 a1 (IntKind.u64.wrap ((shl .u64 1 a2) - 1))) = (shl .u64 1 (wrap64 (a2 - 1))) then (if (Go.bits .and .u64 (Go.bits .or .u64 (shl .u64 a0 (wrap64 (64 - a2))) (shr .u64 a1 a2)) 1) = 1 then (some (IntKind.u64.wrap ((Go.bits .or .u64 (shl .u64 a0 (wrap64 (64 - a2))) (shr .u64 a1 a2)) + 1))) else (some (Go.bits .or .u64 (shl .u64 a0 (wrap64 (64 - a2))) (shr .u64 a1 a2)))) else (some (Go.bits .or .u64 (shl .u64 a0 (wrap64 (64 - a2))) (shr .u64 a1 a2))))) else (none)) else (none)) else (none)) else (if 0 ≤ (wrap64 (a2 - 64)) then (if a2 = 64 then (if a1 > 9223372036854775808 then (some (IntKind.u64.wrap ((shr .u64 a0 (wrap64 (a2 - 64))) + 1))) else (if a1 = 9223372036854775808 then (if (Go.bits .and .u64 (shr .u64 a0 (wrap64 (a2 - 64))) 1) = 1 then (some (IntKind.u64.wrap ((shr .u64 a0 (wrap64 (a2 - 64))) + 1))) else (some (shr .u64 a0 (wrap64 (a2 - 64))))) else (some (shr .u64 a0 (wrap64 (a2 - 64)))))) else (if (Go.bits .and .u64 a0 (IntKind.u64.wrap ((shl .u64 1 (wrap64 (a2 - 64))) - 1))) > ((shl .u64 1 (wrap64 (a2 - 64))) / 2) then (some (IntKind.u64.wrap ((shr .u64 a0 (wrap64 (a2 - 64))) + 1))) else (if (Go.bits .and .u64 a0 (IntKind.u64.wrap ((shl .u64 1 (wrap64 (a2 - 64))) - 1))) = ((shl .u64 1 (wrap64 (a2 - 64))) / 2) then (if a1 = 0 then (if (Go.bits .and .u64 (shr .u64 a0 (wrap64 (a2 - 64))) 1) = 1 then (some (IntKind.u64.wrap ((shr .u64 a0 (wrap64 (a2 - 64))) + 1))) else (some (shr .u64 a0 (wrap64 (a2 - 64))))) else (some (IntKind.u64.wrap ((shr .u64 a0 (wrap64 (a2 - 64))) + 1)))) else (some (shr .u64 a0 (wrap64 (a2 - 64))))))) else (none))
set_option maxHeartbeats 8000000 in
set_option maxRecDepth 100000 in
theorem turn_rounded.calls (a0 : Int) (a1 : Int) (a2 : Int) (r : Int) (w : World) (h : turn_rounded.f a0 a1 a2 = some r) :
  Calls Try.prog 34 #[.int .u64 a0, .int .u64 a1, .int .i64 a2] w fun e w' => e = .returned (.int .u64 r) ∧ Drawn0 w w' := by
 have H : (if a2 < 64 then (if 0 ≤ (wrap64 (64 - a2)) then (if 0 ≤ a2 then (if 0 ≤ (wrap64 (a2 - 1)) then (if (Go.bits .and .u64 a1 (IntKind.u64.wrap ((shl .u64 1 a2) - 1))) > (shl .u64 1 (wrap64 (a2 - 1))) then (some (IntKind.u64.wrap ((Go.bits .or .u64 (shl .u64 a0 (wrap64 (64 - a2))) (shr .u64 a1 a2)) + 1))) else (if (Go.bits .and .u64 a1 (IntKind.u64.wrap ((shl .u64 1 a2) - 1))) = (shl .u64 1 (wrap64 (a2 - 1))) then (if (Go.bits .and .u64 (Go.bits .or .u64 (shl .u64 a0 (wrap64 (64 - a2))) (shr .u64 a1 a2)) 1) = 1 then (some (IntKind.u64.wrap ((Go.bits .or .u64 (shl .u64 a0 (wrap64 (64 - a2))) (shr .u64 a1 a2)) + 1))) else (some (Go.bits .or .u64 (shl .u64 a0 (wrap64 (64 - a2))) (shr .u64 a1 a2)))) else (some (Go.bits .or .u64 (shl .u64 a0 (wrap64 (64 - a2))) (shr .u64 a1 a2))))) else (none)) else (none)) else (none)) else (if 0 ≤ (wrap64 (a2 - 64)) then (if a2 = 64 then (if a1 > 9223372036854775808 then (some (IntKind.u64.wrap ((shr .u64 a0 (wrap64 (a2 - 64))) + 1))) else (if a1 = 9223372036854775808 then (if (Go.bits .and .u64 (shr .u64 a0 (wrap64 (a2 - 64))) 1) = 1 then (some (IntKind.u64.wrap ((shr .u64 a0 (wrap64 (a2 - 64))) + 1))) else (some (shr .u64 a0 (wrap64 (a2 - 64))))) else (some (shr .u64 a0 (wrap64 (a2 - 64)))))) else (if (Go.bits .and .u64 a0 (IntKind.u64.wrap ((shl .u64 1 (wrap64 (a2 - 64))) - 1))) > ((shl .u64 1 (wrap64 (a2 - 64))) / 2) then (some (IntKind.u64.wrap ((shr .u64 a0 (wrap64 (a2 - 64))) + 1))) else (if (Go.bits .and .u64 a0 (IntKind.u64.wrap ((shl .u64 1 (wrap64 (a2 - 64))) - 1))) = ((shl .u64 1 (wrap64 (a2 - 64))) / 2) then (if a1 = 0 then (if (Go.bits .and .u64 (shr .u64 a0 (wrap64 (a2 - 64))) 1) = 1 then (some (IntKind.u64.wrap ((shr .u64 a0 (wrap64 (a2 - 64))) + 1))) else (some (shr .u64 a0 (wrap64 (a2 - 64))))) else (some (IntKind.u64.wrap ((shr .u64 a0 (wrap64 (a2 - 64))) + 1)))) else (some (shr .u64 a0 (wrap64 (a2 - 64))))))) else (none))) = some r := h
 clear h
 by_cases c4 : a2 < 64
 ·
  rw [if_pos c4] at H
  have c4b0 : decide (a2 < 64) = true := decide_eq_true c4
  clear c4
  obtain ⟨ji5, hji5⟩ : ∃ j_ : Int, (wrap64 (64 - a2)) = j_ := ⟨_, rfl⟩
  replace H : (if 0 ≤ (ji5) then (if 0 ≤ a2 then (if 0 ≤ (wrap64 (a2 - 1)) then (if (Go.bits .and .u64 a1 (IntKind.u64.wrap ((shl .u64 1 a2) - 1))) > (shl .u64 1 (wrap64 (a2 - 1))) then (some (IntKind.u64.wrap ((Go.bits .or .u64 (shl .u64 a0 (ji5)) (shr .u64 a1 a2)) + 1))) else (if (Go.bits .and .u64 a1 (IntKind.u64.wrap ((shl .u64 1 a2) - 1))) = (shl .u64 1 (wrap64 (a2 - 1))) then (if (Go.bits .and .u64 (Go.bits .or .u64 (shl .u64 a0 (ji5)) (shr .u64 a1 a2)) 1) = 1 then (some (IntKind.u64.wrap ((Go.bits .or .u64 (shl .u64 a0 (ji5)) (shr .u64 a1 a2)) + 1))) else (some (Go.bits .or .u64 (shl .u64 a0 (ji5)) (shr .u64 a1 a2)))) else (some (Go.bits .or .u64 (shl .u64 a0 (ji5)) (shr .u64 a1 a2))))) else (none)) else (none)) else (none)) = some r := by first | (rw [hji5] at H; exact H) | (simp only [hji5] at H ⊢; exact H)
  have hji5w : (IntKind.i64.wrap (64 - a2)) = ji5 := (i64_w _).trans hji5
  by_cases c6 : 0 ≤ (ji5)
  ·
   rw [if_pos c6] at H
   have c6b0 := eq_true c6
   have c6b1 : decide (0 ≤ (ji5)) = true := decide_eq_true c6
   clear c6
   obtain ⟨ji7, hji7⟩ : ∃ j_ : Int, (shl .u64 a0 (ji5)) = j_ := ⟨_, rfl⟩
   replace H : (if 0 ≤ a2 then (if 0 ≤ (wrap64 (a2 - 1)) then (if (Go.bits .and .u64 a1 (IntKind.u64.wrap ((shl .u64 1 a2) - 1))) > (shl .u64 1 (wrap64 (a2 - 1))) then (some (IntKind.u64.wrap ((Go.bits .or .u64 (ji7) (shr .u64 a1 a2)) + 1))) else (if (Go.bits .and .u64 a1 (IntKind.u64.wrap ((shl .u64 1 a2) - 1))) = (shl .u64 1 (wrap64 (a2 - 1))) then (if (Go.bits .and .u64 (Go.bits .or .u64 (ji7) (shr .u64 a1 a2)) 1) = 1 then (some (IntKind.u64.wrap ((Go.bits .or .u64 (ji7) (shr .u64 a1 a2)) + 1))) else (some (Go.bits .or .u64 (ji7) (shr .u64 a1 a2)))) else (some (Go.bits .or .u64 (ji7) (shr .u64 a1 a2))))) else (none)) else (none)) = some r := by first | (rw [hji7] at H; exact H) | (simp only [hji7] at H ⊢; exact H)
   have hji7_ : (IntKind.u64.wrap (a0 * 2 ^ min (ji5).toNat 64)) = ji7 := hji7
   have hji7z : (ji5) ≤ 64 → (IntKind.u64.wrap (a0 * 2 ^ (ji5).toNat)) = ji7 := shl_small hji7
   by_cases c8 : 0 ≤ a2
   ·
    rw [if_pos c8] at H
    have c8b0 := eq_true c8
    have c8b1 : decide (0 ≤ a2) = true := decide_eq_true c8
    clear c8
    obtain ⟨ji9, hji9⟩ : ∃ j_ : Int, (shr .u64 a1 a2) = j_ := ⟨_, rfl⟩
    replace H : (if 0 ≤ (wrap64 (a2 - 1)) then (if (Go.bits .and .u64 a1 (IntKind.u64.wrap ((shl .u64 1 a2) - 1))) > (shl .u64 1 (wrap64 (a2 - 1))) then (some (IntKind.u64.wrap ((Go.bits .or .u64 (ji7) (ji9)) + 1))) else (if (Go.bits .and .u64 a1 (IntKind.u64.wrap ((shl .u64 1 a2) - 1))) = (shl .u64 1 (wrap64 (a2 - 1))) then (if (Go.bits .and .u64 (Go.bits .or .u64 (ji7) (ji9)) 1) = 1 then (some (IntKind.u64.wrap ((Go.bits .or .u64 (ji7) (ji9)) + 1))) else (some (Go.bits .or .u64 (ji7) (ji9)))) else (some (Go.bits .or .u64 (ji7) (ji9))))) else (none)) = some r := by first | (rw [hji9] at H; exact H) | (simp only [hji9] at H ⊢; exact H)
    have hji9_ : (a1 / 2 ^ min a2.toNat 64) = ji9 := hji9
    have hji9z : a2 ≤ 64 → (a1 / 2 ^ a2.toNat) = ji9 := shr_small hji9
    have c10b0 := eq_true (of_decide_eq_true (by first | (with_reducible assumption) | assumption) : 0 ≤ a2)
    obtain ⟨ji11, hji11⟩ : ∃ j_ : Int, (shl .u64 1 a2) = j_ := ⟨_, rfl⟩
    replace H : (if 0 ≤ (wrap64 (a2 - 1)) then (if (Go.bits .and .u64 a1 (IntKind.u64.wrap ((ji11) - 1))) > (shl .u64 1 (wrap64 (a2 - 1))) then (some (IntKind.u64.wrap ((Go.bits .or .u64 (ji7) (ji9)) + 1))) else (if (Go.bits .and .u64 a1 (IntKind.u64.wrap ((ji11) - 1))) = (shl .u64 1 (wrap64 (a2 - 1))) then (if (Go.bits .and .u64 (Go.bits .or .u64 (ji7) (ji9)) 1) = 1 then (some (IntKind.u64.wrap ((Go.bits .or .u64 (ji7) (ji9)) + 1))) else (some (Go.bits .or .u64 (ji7) (ji9)))) else (some (Go.bits .or .u64 (ji7) (ji9))))) else (none)) = some r := by first | (rw [hji11] at H; exact H) | (simp only [hji11] at H ⊢; exact H)
    have hji11_ : (IntKind.u64.wrap (1 * 2 ^ min a2.toNat 64)) = ji11 := hji11
    have hji11z : a2 ≤ 64 → (IntKind.u64.wrap (1 * 2 ^ a2.toNat)) = ji11 := shl_small hji11
    have hji11u : (IntKind.u64.wrap (2 ^ min a2.toNat 64)) = ji11 := by have h_ := hji11_; rw [Int.one_mul] at h_; exact h_
    have hji11v : a2 ≤ 64 → (IntKind.u64.wrap (2 ^ a2.toNat)) = ji11 := fun hle_ => by have h_ := hji11z hle_; rw [Int.one_mul] at h_; exact h_
    obtain ⟨ji12, hji12⟩ : ∃ j_ : Int, (wrap64 (a2 - 1)) = j_ := ⟨_, rfl⟩
    replace H : (if 0 ≤ (ji12) then (if (Go.bits .and .u64 a1 (IntKind.u64.wrap ((ji11) - 1))) > (shl .u64 1 (ji12)) then (some (IntKind.u64.wrap ((Go.bits .or .u64 (ji7) (ji9)) + 1))) else (if (Go.bits .and .u64 a1 (IntKind.u64.wrap ((ji11) - 1))) = (shl .u64 1 (ji12)) then (if (Go.bits .and .u64 (Go.bits .or .u64 (ji7) (ji9)) 1) = 1 then (some (IntKind.u64.wrap ((Go.bits .or .u64 (ji7) (ji9)) + 1))) else (some (Go.bits .or .u64 (ji7) (ji9)))) else (some (Go.bits .or .u64 (ji7) (ji9))))) else (none)) = some r := by first | (rw [hji12] at H; exact H) | (simp only [hji12] at H ⊢; exact H)
    have hji12w : (IntKind.i64.wrap (a2 - 1)) = ji12 := (i64_w _).trans hji12
    by_cases c13 : 0 ≤ (ji12)
    ·
     rw [if_pos c13] at H
     have c13b0 := eq_true c13
     have c13b1 : decide (0 ≤ (ji12)) = true := decide_eq_true c13
     clear c13
     obtain ⟨ji14, hji14⟩ : ∃ j_ : Int, (shl .u64 1 (ji12)) = j_ := ⟨_, rfl⟩
     replace H : (if (Go.bits .and .u64 a1 (IntKind.u64.wrap ((ji11) - 1))) > (ji14) then (some (IntKind.u64.wrap ((Go.bits .or .u64 (ji7) (ji9)) + 1))) else (if (Go.bits .and .u64 a1 (IntKind.u64.wrap ((ji11) - 1))) = (ji14) then (if (Go.bits .and .u64 (Go.bits .or .u64 (ji7) (ji9)) 1) = 1 then (some (IntKind.u64.wrap ((Go.bits .or .u64 (ji7) (ji9)) + 1))) else (some (Go.bits .or .u64 (ji7) (ji9)))) else (some (Go.bits .or .u64 (ji7) (ji9))))) = some r := by first | (rw [hji14] at H; exact H) | (simp only [hji14] at H ⊢; exact H)
     have hji14_ : (IntKind.u64.wrap (1 * 2 ^ min (ji12).toNat 64)) = ji14 := hji14
     have hji14z : (ji12) ≤ 64 → (IntKind.u64.wrap (1 * 2 ^ (ji12).toNat)) = ji14 := shl_small hji14
     have hji14u : (IntKind.u64.wrap (2 ^ min (ji12).toNat 64)) = ji14 := by have h_ := hji14_; rw [Int.one_mul] at h_; exact h_
     have hji14v : (ji12) ≤ 64 → (IntKind.u64.wrap (2 ^ (ji12).toNat)) = ji14 := fun hle_ => by have h_ := hji14z hle_; rw [Int.one_mul] at h_; exact h_
     by_cases c15 : (Go.bits .and .u64 a1 (IntKind.u64.wrap ((ji11) - 1))) > (ji14)
     ·
      rw [if_pos c15] at H
      have c15b0 : decide ((ji14) < (Go.bits .and .u64 a1 (IntKind.u64.wrap ((ji11) - 1)))) = true := decide_eq_true c15
      clear c15
      obtain rfl := Option.some.inj H
      go_enter Try.func34, Try.ntmps34
      go_wp2
      repeat (go_quiet (fail); try go_wp2)
      go_ret
      exact ⟨by first | rfl | (simp; done) | (simp only [← hji5, ← hji7, ← hji9, ← hji11, ← hji12, ← hji14] <;> (first | rfl | simp)) | (simp [*]; done), by repeat (first | exact Drawn0.refl _ | apply Drawn0.step)⟩
     ·
      rw [if_neg c15] at H
      have c15b0 : decide ((ji14) < (Go.bits .and .u64 a1 (IntKind.u64.wrap ((ji11) - 1)))) = false := decide_eq_false c15
      clear c15
      by_cases c16 : (Go.bits .and .u64 a1 (IntKind.u64.wrap ((ji11) - 1))) = (ji14)
      ·
       rw [if_pos c16] at H
       have c16b0 : ((Go.bits .and .u64 a1 (IntKind.u64.wrap ((ji11) - 1))) == (ji14)) = true := beq_iff_eq.mpr c16
       have c16b1 : ((Go.bits .and .u64 a1 (IntKind.u64.wrap ((ji11) - 1))) != (ji14)) = false := bne_eq_false_iff_eq.mpr c16
       clear c16
       by_cases c17 : (Go.bits .and .u64 (Go.bits .or .u64 (ji7) (ji9)) 1) = 1
       ·
        rw [if_pos c17] at H
        have c17b0 : ((Go.bits .and .u64 (Go.bits .or .u64 (ji7) (ji9)) 1) == 1) = true := beq_iff_eq.mpr c17
        have c17b1 : ((Go.bits .and .u64 (Go.bits .or .u64 (ji7) (ji9)) 1) != 1) = false := bne_eq_false_iff_eq.mpr c17
        clear c17
        obtain rfl := Option.some.inj H
        go_enter Try.func34, Try.ntmps34
        go_wp2
        repeat (go_quiet (fail); try go_wp2)
        go_ret
        exact ⟨by first | rfl | (simp; done) | (simp only [← hji5, ← hji7, ← hji9, ← hji11, ← hji12, ← hji14] <;> (first | rfl | simp)) | (simp [*]; done), by repeat (first | exact Drawn0.refl _ | apply Drawn0.step)⟩
       ·
        rw [if_neg c17] at H
        have c17b0 : ((Go.bits .and .u64 (Go.bits .or .u64 (ji7) (ji9)) 1) == 1) = false := beq_eq_false_iff_ne.mpr c17
        have c17b1 : ((Go.bits .and .u64 (Go.bits .or .u64 (ji7) (ji9)) 1) != 1) = true := bne_iff_ne.mpr c17
        obtain rfl := Option.some.inj H
        go_enter Try.func34, Try.ntmps34
        go_wp2
        repeat (go_quiet (fail); try go_wp2)
        go_ret
        exact ⟨by first | rfl | (simp; done) | (simp only [← hji5, ← hji7, ← hji9, ← hji11, ← hji12, ← hji14] <;> (first | rfl | simp)) | (simp [*]; done), by repeat (first | exact Drawn0.refl _ | apply Drawn0.step)⟩
      ·
       rw [if_neg c16] at H
       have c16b0 : ((Go.bits .and .u64 a1 (IntKind.u64.wrap ((ji11) - 1))) == (ji14)) = false := beq_eq_false_iff_ne.mpr c16
       have c16b1 : ((Go.bits .and .u64 a1 (IntKind.u64.wrap ((ji11) - 1))) != (ji14)) = true := bne_iff_ne.mpr c16
       obtain rfl := Option.some.inj H
       go_enter Try.func34, Try.ntmps34
       go_wp2
       repeat (go_quiet (fail); try go_wp2)
       go_ret
       exact ⟨by first | rfl | (simp; done) | (simp only [← hji5, ← hji7, ← hji9, ← hji11, ← hji12, ← hji14] <;> (first | rfl | simp)) | (simp [*]; done), by repeat (first | exact Drawn0.refl _ | apply Drawn0.step)⟩
    ·
     rw [if_neg c13] at H
     exact absurd H (by simp)
   ·
    rw [if_neg c8] at H
    exact absurd H (by simp)
  ·
   rw [if_neg c6] at H
   exact absurd H (by simp)
 ·
  rw [if_neg c4] at H
  have c4b0 : decide (a2 < 64) = false := decide_eq_false c4
  clear c4
  obtain ⟨ji18, hji18⟩ : ∃ j_ : Int, (wrap64 (a2 - 64)) = j_ := ⟨_, rfl⟩
  replace H : (if 0 ≤ (ji18) then (if a2 = 64 then (if a1 > 9223372036854775808 then (some (IntKind.u64.wrap ((shr .u64 a0 (ji18)) + 1))) else (if a1 = 9223372036854775808 then (if (Go.bits .and .u64 (shr .u64 a0 (ji18)) 1) = 1 then (some (IntKind.u64.wrap ((shr .u64 a0 (ji18)) + 1))) else (some (shr .u64 a0 (ji18)))) else (some (shr .u64 a0 (ji18))))) else (if (Go.bits .and .u64 a0 (IntKind.u64.wrap ((shl .u64 1 (ji18)) - 1))) > ((shl .u64 1 (ji18)) / 2) then (some (IntKind.u64.wrap ((shr .u64 a0 (ji18)) + 1))) else (if (Go.bits .and .u64 a0 (IntKind.u64.wrap ((shl .u64 1 (ji18)) - 1))) = ((shl .u64 1 (ji18)) / 2) then (if a1 = 0 then (if (Go.bits .and .u64 (shr .u64 a0 (ji18)) 1) = 1 then (some (IntKind.u64.wrap ((shr .u64 a0 (ji18)) + 1))) else (some (shr .u64 a0 (ji18)))) else (some (IntKind.u64.wrap ((shr .u64 a0 (ji18)) + 1)))) else (some (shr .u64 a0 (ji18)))))) else (none)) = some r := by first | (rw [hji18] at H; exact H) | (simp only [hji18] at H ⊢; exact H)
  have hji18w : (IntKind.i64.wrap (a2 - 64)) = ji18 := (i64_w _).trans hji18
  by_cases c19 : 0 ≤ (ji18)
  ·
   rw [if_pos c19] at H
   have c19b0 := eq_true c19
   have c19b1 : decide (0 ≤ (ji18)) = true := decide_eq_true c19
   clear c19
   obtain ⟨ji20, hji20⟩ : ∃ j_ : Int, (shr .u64 a0 (ji18)) = j_ := ⟨_, rfl⟩
   replace H : (if a2 = 64 then (if a1 > 9223372036854775808 then (some (IntKind.u64.wrap ((ji20) + 1))) else (if a1 = 9223372036854775808 then (if (Go.bits .and .u64 (ji20) 1) = 1 then (some (IntKind.u64.wrap ((ji20) + 1))) else (some ji20)) else (some ji20))) else (if (Go.bits .and .u64 a0 (IntKind.u64.wrap ((shl .u64 1 (ji18)) - 1))) > ((shl .u64 1 (ji18)) / 2) then (some (IntKind.u64.wrap ((ji20) + 1))) else (if (Go.bits .and .u64 a0 (IntKind.u64.wrap ((shl .u64 1 (ji18)) - 1))) = ((shl .u64 1 (ji18)) / 2) then (if a1 = 0 then (if (Go.bits .and .u64 (ji20) 1) = 1 then (some (IntKind.u64.wrap ((ji20) + 1))) else (some ji20)) else (some (IntKind.u64.wrap ((ji20) + 1)))) else (some ji20)))) = some r := by first | (rw [hji20] at H; exact H) | (simp only [hji20] at H ⊢; exact H)
   have hji20_ : (a0 / 2 ^ min (ji18).toNat 64) = ji20 := hji20
   have hji20z : (ji18) ≤ 64 → (a0 / 2 ^ (ji18).toNat) = ji20 := shr_small hji20
   have c21b0 := eq_true (of_decide_eq_true (by first | (with_reducible assumption) | assumption) : 0 ≤ (ji18))
   obtain ⟨ji22, hji22⟩ : ∃ j_ : Int, (shl .u64 1 (ji18)) = j_ := ⟨_, rfl⟩
   replace H : (if a2 = 64 then (if a1 > 9223372036854775808 then (some (IntKind.u64.wrap ((ji20) + 1))) else (if a1 = 9223372036854775808 then (if (Go.bits .and .u64 (ji20) 1) = 1 then (some (IntKind.u64.wrap ((ji20) + 1))) else (some ji20)) else (some ji20))) else (if (Go.bits .and .u64 a0 (IntKind.u64.wrap ((ji22) - 1))) > ((ji22) / 2) then (some (IntKind.u64.wrap ((ji20) + 1))) else (if (Go.bits .and .u64 a0 (IntKind.u64.wrap ((ji22) - 1))) = ((ji22) / 2) then (if a1 = 0 then (if (Go.bits .and .u64 (ji20) 1) = 1 then (some (IntKind.u64.wrap ((ji20) + 1))) else (some ji20)) else (some (IntKind.u64.wrap ((ji20) + 1)))) else (some ji20)))) = some r := by first | (rw [hji22] at H; exact H) | (simp only [hji22] at H ⊢; exact H)
   have hji22_ : (IntKind.u64.wrap (1 * 2 ^ min (ji18).toNat 64)) = ji22 := hji22
   have hji22z : (ji18) ≤ 64 → (IntKind.u64.wrap (1 * 2 ^ (ji18).toNat)) = ji22 := shl_small hji22
   have hji22u : (IntKind.u64.wrap (2 ^ min (ji18).toNat 64)) = ji22 := by have h_ := hji22_; rw [Int.one_mul] at h_; exact h_
   have hji22v : (ji18) ≤ 64 → (IntKind.u64.wrap (2 ^ (ji18).toNat)) = ji22 := fun hle_ => by have h_ := hji22z hle_; rw [Int.one_mul] at h_; exact h_
   have c23b0 := eq_true (of_decide_eq_true (by first | (with_reducible assumption) | assumption) : 0 ≤ (ji18))
   by_cases c24 : a2 = 64
   ·
    rw [if_pos c24] at H
    have c24b0 : (a2 == 64) = true := beq_iff_eq.mpr c24
    have c24b1 : (a2 != 64) = false := bne_eq_false_iff_eq.mpr c24
    clear c24
    by_cases c25 : a1 > 9223372036854775808
    ·
     rw [if_pos c25] at H
     have c25b0 : decide (9223372036854775808 < a1) = true := decide_eq_true c25
     clear c25
     obtain rfl := Option.some.inj H
     go_enter Try.func34, Try.ntmps34
     go_wp2
     repeat (go_quiet (fail); try go_wp2)
     go_ret
     exact ⟨by first | rfl | (simp; done) | (simp only [← hji18, ← hji20, ← hji22] <;> (first | rfl | simp)) | (simp [*]; done), by repeat (first | exact Drawn0.refl _ | apply Drawn0.step)⟩
    ·
     rw [if_neg c25] at H
     have c25b0 : decide (9223372036854775808 < a1) = false := decide_eq_false c25
     clear c25
     by_cases c26 : a1 = 9223372036854775808
     ·
      rw [if_pos c26] at H
      have c26b0 : (a1 == 9223372036854775808) = true := beq_iff_eq.mpr c26
      have c26b1 : (a1 != 9223372036854775808) = false := bne_eq_false_iff_eq.mpr c26
      clear c26
      by_cases c27 : (Go.bits .and .u64 (ji20) 1) = 1
      ·
       rw [if_pos c27] at H
       have c27b0 : ((Go.bits .and .u64 (ji20) 1) == 1) = true := beq_iff_eq.mpr c27
       have c27b1 : ((Go.bits .and .u64 (ji20) 1) != 1) = false := bne_eq_false_iff_eq.mpr c27
       clear c27
       obtain rfl := Option.some.inj H
       go_enter Try.func34, Try.ntmps34
       go_wp2
       repeat (go_quiet (fail); try go_wp2)
       go_ret
       exact ⟨by first | rfl | (simp; done) | (simp only [← hji18, ← hji20, ← hji22] <;> (first | rfl | simp)) | (simp [*]; done), by repeat (first | exact Drawn0.refl _ | apply Drawn0.step)⟩
      ·
       rw [if_neg c27] at H
       have c27b0 : ((Go.bits .and .u64 (ji20) 1) == 1) = false := beq_eq_false_iff_ne.mpr c27
       have c27b1 : ((Go.bits .and .u64 (ji20) 1) != 1) = true := bne_iff_ne.mpr c27
       obtain rfl := Option.some.inj H
       go_enter Try.func34, Try.ntmps34
       go_wp2
       repeat (go_quiet (fail); try go_wp2)
       go_ret
       exact ⟨by first | rfl | (simp; done) | (simp only [← hji18, ← hji20, ← hji22] <;> (first | rfl | simp)) | (simp [*]; done), by repeat (first | exact Drawn0.refl _ | apply Drawn0.step)⟩
     ·
      rw [if_neg c26] at H
      have c26b0 : (a1 == 9223372036854775808) = false := beq_eq_false_iff_ne.mpr c26
      have c26b1 : (a1 != 9223372036854775808) = true := bne_iff_ne.mpr c26
      obtain rfl := Option.some.inj H
      go_enter Try.func34, Try.ntmps34
      go_wp2
      repeat (go_quiet (fail); try go_wp2)
      go_ret
      exact ⟨by first | rfl | (simp; done) | (simp only [← hji18, ← hji20, ← hji22] <;> (first | rfl | simp)) | (simp [*]; done), by repeat (first | exact Drawn0.refl _ | apply Drawn0.step)⟩
   ·
    rw [if_neg c24] at H
    have c24b0 : (a2 == 64) = false := beq_eq_false_iff_ne.mpr c24
    have c24b1 : (a2 != 64) = true := bne_iff_ne.mpr c24
    by_cases c28 : (Go.bits .and .u64 a0 (IntKind.u64.wrap ((ji22) - 1))) > ((ji22) / 2)
    ·
     rw [if_pos c28] at H
     have c28b0 : decide (((ji22) / 2) < (Go.bits .and .u64 a0 (IntKind.u64.wrap ((ji22) - 1)))) = true := decide_eq_true c28
     clear c28
     obtain rfl := Option.some.inj H
     go_enter Try.func34, Try.ntmps34
     go_wp2
     repeat (go_quiet (fail); try go_wp2)
     go_ret
     exact ⟨by first | rfl | (simp; done) | (simp only [← hji18, ← hji20, ← hji22] <;> (first | rfl | simp)) | (simp [*]; done), by repeat (first | exact Drawn0.refl _ | apply Drawn0.step)⟩
    ·
     rw [if_neg c28] at H
     have c28b0 : decide (((ji22) / 2) < (Go.bits .and .u64 a0 (IntKind.u64.wrap ((ji22) - 1)))) = false := decide_eq_false c28
     clear c28
     by_cases c29 : (Go.bits .and .u64 a0 (IntKind.u64.wrap ((ji22) - 1))) = ((ji22) / 2)
     ·
      rw [if_pos c29] at H
      have c29b0 : ((Go.bits .and .u64 a0 (IntKind.u64.wrap ((ji22) - 1))) == ((ji22) / 2)) = true := beq_iff_eq.mpr c29
      have c29b1 : ((Go.bits .and .u64 a0 (IntKind.u64.wrap ((ji22) - 1))) != ((ji22) / 2)) = false := bne_eq_false_iff_eq.mpr c29
      clear c29
      by_cases c30 : a1 = 0
      ·
       rw [if_pos c30] at H
       have c30b0 : (a1 == 0) = true := beq_iff_eq.mpr c30
       have c30b1 : (a1 != 0) = false := bne_eq_false_iff_eq.mpr c30
       clear c30
       by_cases c31 : (Go.bits .and .u64 (ji20) 1) = 1
       ·
        rw [if_pos c31] at H
        have c31b0 : ((Go.bits .and .u64 (ji20) 1) == 1) = true := beq_iff_eq.mpr c31
        have c31b1 : ((Go.bits .and .u64 (ji20) 1) != 1) = false := bne_eq_false_iff_eq.mpr c31
        clear c31
        obtain rfl := Option.some.inj H
        go_enter Try.func34, Try.ntmps34
        go_wp2
        repeat (go_quiet (fail); try go_wp2)
        go_ret
        exact ⟨by first | rfl | (simp; done) | (simp only [← hji18, ← hji20, ← hji22] <;> (first | rfl | simp)) | (simp [*]; done), by repeat (first | exact Drawn0.refl _ | apply Drawn0.step)⟩
       ·
        rw [if_neg c31] at H
        have c31b0 : ((Go.bits .and .u64 (ji20) 1) == 1) = false := beq_eq_false_iff_ne.mpr c31
        have c31b1 : ((Go.bits .and .u64 (ji20) 1) != 1) = true := bne_iff_ne.mpr c31
        obtain rfl := Option.some.inj H
        go_enter Try.func34, Try.ntmps34
        go_wp2
        repeat (go_quiet (fail); try go_wp2)
        go_ret
        exact ⟨by first | rfl | (simp; done) | (simp only [← hji18, ← hji20, ← hji22] <;> (first | rfl | simp)) | (simp [*]; done), by repeat (first | exact Drawn0.refl _ | apply Drawn0.step)⟩
      ·
       rw [if_neg c30] at H
       have c30b0 : (a1 == 0) = false := beq_eq_false_iff_ne.mpr c30
       have c30b1 : (a1 != 0) = true := bne_iff_ne.mpr c30
       obtain rfl := Option.some.inj H
       go_enter Try.func34, Try.ntmps34
       go_wp2
       repeat (go_quiet (fail); try go_wp2)
       go_ret
       exact ⟨by first | rfl | (simp; done) | (simp only [← hji18, ← hji20, ← hji22] <;> (first | rfl | simp)) | (simp [*]; done), by repeat (first | exact Drawn0.refl _ | apply Drawn0.step)⟩
     ·
      rw [if_neg c29] at H
      have c29b0 : ((Go.bits .and .u64 a0 (IntKind.u64.wrap ((ji22) - 1))) == ((ji22) / 2)) = false := beq_eq_false_iff_ne.mpr c29
      have c29b1 : ((Go.bits .and .u64 a0 (IntKind.u64.wrap ((ji22) - 1))) != ((ji22) / 2)) = true := bne_iff_ne.mpr c29
      obtain rfl := Option.some.inj H
      go_enter Try.func34, Try.ntmps34
      go_wp2
      repeat (go_quiet (fail); try go_wp2)
      go_ret
      exact ⟨by first | rfl | (simp; done) | (simp only [← hji18, ← hji20, ← hji22] <;> (first | rfl | simp)) | (simp [*]; done), by repeat (first | exact Drawn0.refl _ | apply Drawn0.step)⟩
  ·
   rw [if_neg c19] at H
   exact absurd H (by simp)

/-! ### turn_Radians: function 29 -/
def turn_Radians.j0 : Nat → Int → Int → Bool → Option (Int × Option Int)
 | 0, _, _, _ => none
 | k + 1, x0, x1, x13 => if x13 = true then (some (0, some 1)) else ((bits_Mul64.f (IntKind.u64.wrap (x0)) 3622009729038561421).bind fun bt101 => ((turn_rounded.f bt101.1 bt101.2 (wrap64 (91 - x1))).bind fun t103 => (some (wrap64 (t103), none))))
def turn_Radians.f (k : Nat) (a0 : Int) (a1 : Int) : Option (Int × Option Int) := if a1 < 0 then (turn_Radians.j0 k a0 a1 true) else (turn_Radians.j0 k a0 a1 (decide (a1 > 60)))
theorem turn_Radians.mono_l : ∀ k, (∀ y0 y1 y2, LeO (turn_Radians.j0 k y0 y1 y2) (turn_Radians.j0 (k + 1) y0 y1 y2))
 | 0 => fun _ _ _ r h => by simp [turn_Radians.j0] at h
 | k + 1 => by
  have ih0 := turn_Radians.mono_l k
  ·
   intro y0 y1 y2
   unfold turn_Radians.j0
   repeat' first
   | (with_reducible exact ih0 _ _ _)
   | (with_reducible exact LeO.refl _)
   | (with_reducible exact LeO.none _)
   | (with_reducible refine LeO.ite ?_ ?_)
   | (with_reducible refine LeO.bind ?_ (fun _ => ?_))
   | exact ih0 _ _ _
   | exact LeO.none _
   | refine LeO.ite ?_ ?_
   | refine LeO.bind ?_ (fun _ => ?_)
theorem turn_Radians.mono : ∀ a0 a1 k, LeO (turn_Radians.f k a0 a1) (turn_Radians.f (k + 1) a0 a1) := by
 intro a0 a1 k
 have ih0 := turn_Radians.mono_l k
 unfold turn_Radians.f
 repeat' first
   | (with_reducible exact ih0 _ _ _)
   | (with_reducible exact LeO.refl _)
   | (with_reducible exact LeO.none _)
   | (with_reducible refine LeO.ite ?_ ?_)
   | (with_reducible refine LeO.bind ?_ (fun _ => ?_))
   | exact ih0 _ _ _
   | exact LeO.none _
   | refine LeO.ite ?_ ?_
   | refine LeO.bind ?_ (fun _ => ?_)
set_option maxHeartbeats 8000000 in
set_option maxRecDepth 100000 in
theorem turn_Radians.calls (k : Nat) (a0 : Int) (a1 : Int) (r1 : Int) (r2 : Option Int) (w : World) (h : turn_Radians.f k a0 a1 = some (r1, r2)) :
  Calls Try.prog 29 #[.int .u32 a0, .int .i64 a1] w fun e w' => e = .returned (.tuple #[.int .i64 r1, errW r2]) ∧ Drawn0 w w' := by
 have hu24 := Try.underlying24
 have hu55 := Try.underlying55
 have H : (if a1 < 0 then (turn_Radians.j0 k a0 a1 true) else (turn_Radians.j0 k a0 a1 (decide (a1 > 60)))) = some (r1, r2) := h
 clear h
 have HC3 := Aside0.mk H
 clear H
 go_enter Try.func29, Try.ntmps29
 go_upto_region 1 with (fail)
 go_cut [13] (fun v13 wc => ∃ (kq : Nat) (x13_2 : Bool), v13 = .bool x13_2 ∧ Aside0 (turn_Radians.j0 kq a0 a1 x13_2 = some (r1, r2)) ∧ Aside0 (kq ≤ k) ∧ Drawn0 w wc)
 case first =>
  have H := HC3.out
  clear HC3
  by_cases c4 : a1 < 0
  ·
   rw [if_pos c4] at H
   have c4b0 : decide (a1 < 0) = true := decide_eq_true c4
   clear c4
   (first | rw [c4b0] | (simp only [i64_w, i32_w]; rw [c4b0]) | skip)
   have H' := Aside0.mk H
   clear H
   go_wp2
   go_meet
   case rel => exact ⟨_, (true), (by first | rfl | (simp; done) | (simp [*]; done)), H', ⟨by first | omega | exact Nat.le_refl _⟩, by repeat (first | exact Drawn0.refl _ | apply Drawn0.step)⟩
  ·
   rw [if_neg c4] at H
   have c4b0 : decide (a1 < 0) = false := decide_eq_false c4
   clear c4
   (first | rw [c4b0] | (simp only [i64_w, i32_w]; rw [c4b0]) | skip)
   have H' := Aside0.mk H
   clear H
   go_wp2
   go_meet
   case rel => exact ⟨_, (decide (a1 > 60)), (by first | rfl | (simp; done) | (simp [*]; done)), H', ⟨by first | omega | exact Nat.le_refl _⟩, by repeat (first | exact Drawn0.refl _ | apply Drawn0.step)⟩
 case rest =>
  clear HC3
  try clear c2
  try clear p2
  try clear c4
  try clear c4b0
  obtain ⟨kq, x13_2, rfl, HA, HJ2, ⟨mc2, rfl⟩⟩ := hcut
  cases kq with
  | zero => exact absurd HA.out (by simp [turn_Radians.j0])
  | succ kj2 =>
   have H := HA.out
   clear HA
   simp only [turn_Radians.j0] at H
   by_cases c5 : x13_2 = true
   ·
    subst c5
    have H1 : (some (0, some 1)) = some (r1, r2) := by rw [if_pos rfl] at H; exact H
    clear H
    have H := H1
    clear H1
    simp only [Option.some.injEq, Prod.mk.injEq] at H
    obtain ⟨rfl, rfl⟩ := H
    go_wp2
    go_ret2
    exact ⟨by first | rfl | (simp; done) | (simp [*]; done), by repeat (first | exact Drawn0.refl _ | apply Drawn0.step)⟩
   ·
    replace c5 := Bool.eq_false_iff.mpr c5
    subst c5
    have H1 : ((bits_Mul64.f (IntKind.u64.wrap (a0)) 3622009729038561421).bind fun bt101 => ((turn_rounded.f bt101.1 bt101.2 (wrap64 (91 - a1))).bind fun t103 => (some (wrap64 (t103), none)))) = some (r1, r2) := by rw [if_neg (show ¬ (false = true) by decide)] at H; exact H
    clear H
    have H := H1
    clear H1
    replace H := Option.bind_eq_some_iff.mp H
    obtain ⟨⟨t101, t102⟩, A60, H⟩ := H
    replace H : ((turn_rounded.f t101 t102 (wrap64 (91 - a1))).bind fun t103 => (some (wrap64 (t103), none))) = some (r1, r2) := H
    have A6 := Aside0.mk A60
    clear A60
    replace H := Option.bind_eq_some_iff.mp H
    obtain ⟨t103, A70, H⟩ := H
    replace H : (some (wrap64 (t103), none)) = some (r1, r2) := H
    have A7 := Aside0.mk A70
    clear A70
    simp only [Option.some.injEq, Prod.mk.injEq] at H
    obtain ⟨rfl, rfl⟩ := H
    go_wp2_with (first | ((with_reducible refine gate_callee (f := 33) rfl ?_); refine goesL_ (some 18) rfl rfl Try.func33 (by kernel_rfl) rfl #[.int .u64 (IntKind.u64.wrap (a0)), .int .u64 3622009729038561421] rfl (by (try simp only [List.map_toArray, List.map_cons, List.map_nil]); first | done | rfl | (simp only [List.length_drop, List.length_take]; rfl)) ?_; (with_reducible refine (bits_Mul64.calls (IntKind.u64.wrap (a0)) 3622009729038561421 t101 t102 _ A6.out).mono ?_); rintro e w' ⟨rfl, ⟨nd, rfl⟩⟩; refine ⟨_, rfl, ?_⟩) | ((with_reducible refine gate_callee (f := 34) rfl ?_); refine goesL_ (some 25) rfl rfl Try.func34 (by kernel_rfl) rfl #[.int .u64 t101, .int .u64 t102, .int .i64 (wrap64 (91 - a1))] rfl (by (try simp only [List.map_toArray, List.map_cons, List.map_nil]); first | done | rfl | (simp only [List.length_drop, List.length_take]; rfl)) ?_; (with_reducible refine (turn_rounded.calls t101 t102 (wrap64 (91 - a1)) t103 _ A7.out).mono ?_); rintro e w' ⟨rfl, ⟨nd, rfl⟩⟩; refine ⟨_, rfl, ?_⟩))
    go_ret2
    exact ⟨by first | rfl | (simp; done) | (simp [*]; done), by repeat (first | exact Drawn0.refl _ | apply Drawn0.step)⟩

/-! ### radomelaw04_sure: function 19 -/
def radomelaw04_sure.f (k : Nat)  : Option (Bool) := (turn_Radians.f k 2147483648 30).bind fun bt104 => (if bt104.2.isNone = true then (if bt104.1 = 3373259426 then ((turn_Of.f 16384).bind fun t107 => (if t107 = 1073741824 then ((turn_From.f 0 4294967295).bind fun t108 => (if t108 = 1 then ((turn_Between.f 5 3 9).bind fun t109 => (if t109 = true then ((turn_Middle.f 2 6).bind fun t110 => (some (t110 == 4))) else (some false))) else (some false))) else (some false))) else (some false)) else (some false))
theorem radomelaw04_sure.mono : ∀ k, LeO (radomelaw04_sure.f k ) (radomelaw04_sure.f (k + 1) ) := by
 intro  k
 unfold radomelaw04_sure.f
 repeat' first
   | (with_reducible exact turn_Radians.mono _ _ _)
   | (with_reducible exact LeO.refl _)
   | (with_reducible exact LeO.none _)
   | (with_reducible refine LeO.ite ?_ ?_)
   | (with_reducible refine LeO.bind ?_ (fun _ => ?_))
   | exact turn_Radians.mono _ _ _
   | exact LeO.none _
   | refine LeO.ite ?_ ?_
   | refine LeO.bind ?_ (fun _ => ?_)
set_option maxHeartbeats 8000000 in
set_option maxRecDepth 100000 in
theorem radomelaw04_sure.calls (k : Nat)  (r : Bool) (w : World) (h : radomelaw04_sure.f k  = some r) :
  Calls Try.prog 19 #[] w fun e w' => e = .returned (.bool r) ∧ Drawn0 w w' := by
 have hu24 := Try.underlying24
 have hu55 := Try.underlying55
 have H : ((turn_Radians.f k 2147483648 30).bind fun bt104 => (if bt104.2.isNone = true then (if bt104.1 = 3373259426 then ((turn_Of.f 16384).bind fun t107 => (if t107 = 1073741824 then ((turn_From.f 0 4294967295).bind fun t108 => (if t108 = 1 then ((turn_Between.f 5 3 9).bind fun t109 => (if t109 = true then ((turn_Middle.f 2 6).bind fun t110 => (some (t110 == 4))) else (some false))) else (some false))) else (some false))) else (some false)) else (some false))) = some r := h
 clear h
 replace H := Option.bind_eq_some_iff.mp H
 obtain ⟨⟨t104, t105⟩, A10, H⟩ := H
 replace H : (if t105.isNone = true then (if t104 = 3373259426 then ((turn_Of.f 16384).bind fun t107 => (if t107 = 1073741824 then ((turn_From.f 0 4294967295).bind fun t108 => (if t108 = 1 then ((turn_Between.f 5 3 9).bind fun t109 => (if t109 = true then ((turn_Middle.f 2 6).bind fun t110 => (some (t110 == 4))) else (some false))) else (some false))) else (some false))) else (some false)) else (some false)) = some r := H
 have A1 := Aside0.mk A10
 clear A10
 rcases t105 with _ | q106
 ·
  have H1 : (if t104 = 3373259426 then ((turn_Of.f 16384).bind fun t107 => (if t107 = 1073741824 then ((turn_From.f 0 4294967295).bind fun t108 => (if t108 = 1 then ((turn_Between.f 5 3 9).bind fun t109 => (if t109 = true then ((turn_Middle.f 2 6).bind fun t110 => (some (t110 == 4))) else (some false))) else (some false))) else (some false))) else (some false)) = some r := by rw [if_pos (show (none : Option Int).isNone = true by rfl)] at H; exact H
  clear H
  have H := H1
  clear H1
  try simp only [errW_none, errW_some]
  by_cases c2 : t104 = 3373259426
  ·
   rw [if_pos c2] at H
   have c2b0 : (t104 == 3373259426) = true := beq_iff_eq.mpr c2
   have c2b1 : (t104 != 3373259426) = false := bne_eq_false_iff_eq.mpr c2
   clear c2
   replace H := Option.bind_eq_some_iff.mp H
   obtain ⟨t107, A30, H⟩ := H
   replace H : (if t107 = 1073741824 then ((turn_From.f 0 4294967295).bind fun t108 => (if t108 = 1 then ((turn_Between.f 5 3 9).bind fun t109 => (if t109 = true then ((turn_Middle.f 2 6).bind fun t110 => (some (t110 == 4))) else (some false))) else (some false))) else (some false)) = some r := H
   have A3 := Aside0.mk A30
   clear A30
   by_cases c4 : t107 = 1073741824
   ·
    rw [if_pos c4] at H
    have c4b0 : (t107 == 1073741824) = true := beq_iff_eq.mpr c4
    have c4b1 : (t107 != 1073741824) = false := bne_eq_false_iff_eq.mpr c4
    clear c4
    replace H := Option.bind_eq_some_iff.mp H
    obtain ⟨t108, A50, H⟩ := H
    replace H : (if t108 = 1 then ((turn_Between.f 5 3 9).bind fun t109 => (if t109 = true then ((turn_Middle.f 2 6).bind fun t110 => (some (t110 == 4))) else (some false))) else (some false)) = some r := H
    have A5 := Aside0.mk A50
    clear A50
    by_cases c6 : t108 = 1
    ·
     rw [if_pos c6] at H
     have c6b0 : (t108 == 1) = true := beq_iff_eq.mpr c6
     have c6b1 : (t108 != 1) = false := bne_eq_false_iff_eq.mpr c6
     clear c6
     replace H := Option.bind_eq_some_iff.mp H
     obtain ⟨t109, A70, H⟩ := H
     replace H : (if t109 = true then ((turn_Middle.f 2 6).bind fun t110 => (some (t110 == 4))) else (some false)) = some r := H
     have A7 := Aside0.mk A70
     clear A70
     by_cases c8 : t109 = true
     ·
      subst c8
      have H1 : ((turn_Middle.f 2 6).bind fun t110 => (some (t110 == 4))) = some r := by rw [if_pos rfl] at H; exact H
      clear H
      have H := H1
      clear H1
      replace H := Option.bind_eq_some_iff.mp H
      obtain ⟨t110, A90, H⟩ := H
      replace H : (some (t110 == 4)) = some r := H
      have A9 := Aside0.mk A90
      clear A90
      obtain rfl := Option.some.inj H
      go_enter Try.func19, Try.ntmps19
      go_wp2_with (first | ((with_reducible refine gate_callee (f := 29) rfl ?_); refine goesL_ (some 4) rfl rfl Try.func29 (by kernel_rfl) rfl #[.int .u32 2147483648, .int .i64 30] rfl (by (try simp only [List.map_toArray, List.map_cons, List.map_nil]); first | done | rfl | (simp only [List.length_drop, List.length_take]; rfl)) ?_; (with_reducible refine (turn_Radians.calls k 2147483648 30 t104 none _ A1.out).mono ?_); rintro e w' ⟨rfl, ⟨nd, rfl⟩⟩; refine ⟨_, rfl, ?_⟩; (try simp only [errW_none, errW_some])) | (go_at_call 12; (with_reducible refine (turn_Of.calls 16384 t107 _ A3.out).mono ?_); rintro e w' ⟨rfl, ⟨nd, rfl⟩⟩) | (go_at_call 13; (with_reducible refine (turn_From.calls 0 4294967295 t108 _ A5.out).mono ?_); rintro e w' ⟨rfl, ⟨nd, rfl⟩⟩) | (go_at_call 15; (with_reducible refine (turn_Between.calls 5 3 9 true _ A7.out).mono ?_); rintro e w' ⟨rfl, ⟨nd, rfl⟩⟩) | (go_at_call 17; (with_reducible refine (turn_Middle.calls 2 6 t110 _ A9.out).mono ?_); rintro e w' ⟨rfl, ⟨nd, rfl⟩⟩))
      go_ret
      exact ⟨by first | rfl | (simp; done) | (simp [*]; done), by repeat (first | exact Drawn0.refl _ | apply Drawn0.step)⟩
     ·
      replace c8 := Bool.eq_false_iff.mpr c8
      subst c8
      have H1 : (some false) = some r := by rw [if_neg (show ¬ (false = true) by decide)] at H; exact H
      clear H
      have H := H1
      clear H1
      obtain rfl := Option.some.inj H
      go_enter Try.func19, Try.ntmps19
      go_wp2_with (first | ((with_reducible refine gate_callee (f := 29) rfl ?_); refine goesL_ (some 4) rfl rfl Try.func29 (by kernel_rfl) rfl #[.int .u32 2147483648, .int .i64 30] rfl (by (try simp only [List.map_toArray, List.map_cons, List.map_nil]); first | done | rfl | (simp only [List.length_drop, List.length_take]; rfl)) ?_; (with_reducible refine (turn_Radians.calls k 2147483648 30 t104 none _ A1.out).mono ?_); rintro e w' ⟨rfl, ⟨nd, rfl⟩⟩; refine ⟨_, rfl, ?_⟩; (try simp only [errW_none, errW_some])) | (go_at_call 12; (with_reducible refine (turn_Of.calls 16384 t107 _ A3.out).mono ?_); rintro e w' ⟨rfl, ⟨nd, rfl⟩⟩) | (go_at_call 13; (with_reducible refine (turn_From.calls 0 4294967295 t108 _ A5.out).mono ?_); rintro e w' ⟨rfl, ⟨nd, rfl⟩⟩) | (go_at_call 15; (with_reducible refine (turn_Between.calls 5 3 9 false _ A7.out).mono ?_); rintro e w' ⟨rfl, ⟨nd, rfl⟩⟩))
      go_ret
      exact ⟨by first | rfl | (simp; done) | (simp [*]; done), by repeat (first | exact Drawn0.refl _ | apply Drawn0.step)⟩
    ·
     rw [if_neg c6] at H
     have c6b0 : (t108 == 1) = false := beq_eq_false_iff_ne.mpr c6
     have c6b1 : (t108 != 1) = true := bne_iff_ne.mpr c6
     obtain rfl := Option.some.inj H
     go_enter Try.func19, Try.ntmps19
     go_wp2_with (first | ((with_reducible refine gate_callee (f := 29) rfl ?_); refine goesL_ (some 4) rfl rfl Try.func29 (by kernel_rfl) rfl #[.int .u32 2147483648, .int .i64 30] rfl (by (try simp only [List.map_toArray, List.map_cons, List.map_nil]); first | done | rfl | (simp only [List.length_drop, List.length_take]; rfl)) ?_; (with_reducible refine (turn_Radians.calls k 2147483648 30 t104 none _ A1.out).mono ?_); rintro e w' ⟨rfl, ⟨nd, rfl⟩⟩; refine ⟨_, rfl, ?_⟩; (try simp only [errW_none, errW_some])) | (go_at_call 12; (with_reducible refine (turn_Of.calls 16384 t107 _ A3.out).mono ?_); rintro e w' ⟨rfl, ⟨nd, rfl⟩⟩) | (go_at_call 13; (with_reducible refine (turn_From.calls 0 4294967295 t108 _ A5.out).mono ?_); rintro e w' ⟨rfl, ⟨nd, rfl⟩⟩))
     go_ret
     exact ⟨by first | rfl | (simp; done) | (simp [*]; done), by repeat (first | exact Drawn0.refl _ | apply Drawn0.step)⟩
   ·
    rw [if_neg c4] at H
    have c4b0 : (t107 == 1073741824) = false := beq_eq_false_iff_ne.mpr c4
    have c4b1 : (t107 != 1073741824) = true := bne_iff_ne.mpr c4
    obtain rfl := Option.some.inj H
    go_enter Try.func19, Try.ntmps19
    go_wp2_with (first | ((with_reducible refine gate_callee (f := 29) rfl ?_); refine goesL_ (some 4) rfl rfl Try.func29 (by kernel_rfl) rfl #[.int .u32 2147483648, .int .i64 30] rfl (by (try simp only [List.map_toArray, List.map_cons, List.map_nil]); first | done | rfl | (simp only [List.length_drop, List.length_take]; rfl)) ?_; (with_reducible refine (turn_Radians.calls k 2147483648 30 t104 none _ A1.out).mono ?_); rintro e w' ⟨rfl, ⟨nd, rfl⟩⟩; refine ⟨_, rfl, ?_⟩; (try simp only [errW_none, errW_some])) | (go_at_call 12; (with_reducible refine (turn_Of.calls 16384 t107 _ A3.out).mono ?_); rintro e w' ⟨rfl, ⟨nd, rfl⟩⟩))
    go_ret
    exact ⟨by first | rfl | (simp; done) | (simp [*]; done), by repeat (first | exact Drawn0.refl _ | apply Drawn0.step)⟩
  ·
   rw [if_neg c2] at H
   have c2b0 : (t104 == 3373259426) = false := beq_eq_false_iff_ne.mpr c2
   have c2b1 : (t104 != 3373259426) = true := bne_iff_ne.mpr c2
   obtain rfl := Option.some.inj H
   go_enter Try.func19, Try.ntmps19
   go_wp2_with (first | ((with_reducible refine gate_callee (f := 29) rfl ?_); refine goesL_ (some 4) rfl rfl Try.func29 (by kernel_rfl) rfl #[.int .u32 2147483648, .int .i64 30] rfl (by (try simp only [List.map_toArray, List.map_cons, List.map_nil]); first | done | rfl | (simp only [List.length_drop, List.length_take]; rfl)) ?_; (with_reducible refine (turn_Radians.calls k 2147483648 30 t104 none _ A1.out).mono ?_); rintro e w' ⟨rfl, ⟨nd, rfl⟩⟩; refine ⟨_, rfl, ?_⟩; (try simp only [errW_none, errW_some])))
   go_ret
   exact ⟨by first | rfl | (simp; done) | (simp [*]; done), by repeat (first | exact Drawn0.refl _ | apply Drawn0.step)⟩
 ·
  have H1 : (some false) = some r := by rw [if_neg (show ¬ (some q106).isNone = true by simp)] at H; exact H
  clear H
  have H := H1
  clear H1
  try simp only [errW_none, errW_some]
  obtain rfl := Option.some.inj H
  go_enter Try.func19, Try.ntmps19
  go_wp2_with (first | ((with_reducible refine gate_callee (f := 29) rfl ?_); refine goesL_ (some 4) rfl rfl Try.func29 (by kernel_rfl) rfl #[.int .u32 2147483648, .int .i64 30] rfl (by (try simp only [List.map_toArray, List.map_cons, List.map_nil]); first | done | rfl | (simp only [List.length_drop, List.length_take]; rfl)) ?_; (with_reducible refine (turn_Radians.calls k 2147483648 30 t104 (some q106) _ A1.out).mono ?_); rintro e w' ⟨rfl, ⟨nd, rfl⟩⟩; refine ⟨_, rfl, ?_⟩; (try simp only [errW_none, errW_some])))
  go_ret
  exact ⟨by first | rfl | (simp; done) | (simp [*]; done), by repeat (first | exact Drawn0.refl _ | apply Drawn0.step)⟩

end Go.Proofs.Ytddcfnhbedpbnaa.QTurnLaws

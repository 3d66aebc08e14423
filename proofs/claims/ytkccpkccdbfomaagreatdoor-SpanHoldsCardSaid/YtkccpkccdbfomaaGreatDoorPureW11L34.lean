/- What a law package makes of digits: a number, and the program's one of its text. -/
import Derived.Test.YtkccpkccdbfomaaGreatDoorPureW10
namespace Go.Proofs.YtkccpkccdbfomaaGreatDoor.Pure
open Go.RowKit Go.Proofs.YtkccpkccdbfomaaGreatDoorK Go.Proofs.YtkccpkccdbfomaaGreatDoor.GSH
set_option linter.unusedVariables false
set_option linter.unusedSimpArgs false
namespace L34
theorem pow10_nat (n : Nat) : ((10 ^ n : Nat) : Int) = (10 : Int) ^ n := by rw [Int.natCast_pow]; rfl
theorem whole_l0 {d : List Int} {neg : Bool} {most : Nat} (hd : ∀ x ∈ d, 0 ≤ x ∧ x ≤ 255) (hm : most ≤ 1000) (hl : d.length < 9000000000000000000) : ∀ (n i : Nat) (x : Int), i + n = min d.length most → 0 ≤ x → x < 10 ^ i →
    ∃ y : Int, Ev (fun k => (radomelaw34_whole.hs k).l0 d neg (most : Int) (Nb x).f_Neg (Nb x).f_D (i : Int)) (Nb (if neg then -y else y)) ∧ 0 ≤ y ∧ y < 10 ^ most
  | 0, i, x, e, h0, h1 => by
    refine ⟨x, ?_, h0, ?_⟩
    · refine Ev.step (fun k => rfl) ?_
      have c : ((decide ((i : Int) < (d.length : Int))) && (decide ((i : Int) < (most : Int)))) = false := by
        rw [Bool.and_eq_false_iff, decide_eq_false_iff_not, decide_eq_false_iff_not]; omega
      simp only [radomelaw34_whole.hs, radomelaw34_whole.b0, c, Bool.false_eq_true, if_false]
      have eta : ∀ y : Int, (⟨(Nb y).f_Neg, (Nb y).f_D⟩ : radomeref01_Num) = Nb y := fun _ => rfl
      cases neg with
      | true => simp only [if_true, eta, Neg_eq, Option.bind_some]; exact Ev.now
      | false => simp only [Bool.false_eq_true, if_false, eta]; exact Ev.now
    · have : (10 : Nat) ^ i ≤ 10 ^ most := Nat.pow_le_pow_right (by decide) (by omega)
      have a := pow10_nat i; have b := pow10_nat most
      omega
  | n + 1, i, x, e, h0, h1 => by
    have hi : i < d.length := by omega
    have hr : 0 ≤ rd d (i : Int) ∧ rd d (i : Int) ≤ 255 := by
      unfold rd; rw [Int.toNat_natCast, List.getD_eq_getElem?_getD, List.getElem?_eq_getElem hi]; exact hd _ (List.getElem_mem hi)
    have em : w64 (Int.tmod (rd d (i : Int)) 10) = rd d (i : Int) % 10 := by rw [Int.tmod_eq_emod_of_nonneg hr.1, w64_id (by omega)]
    have hx : x.natAbs < 10 ^ i := by have := pow10_nat i; omega
    have lx : Ln x ≤ i := Ln_lt hx
    have l10 : Ln 10 ≤ 2 := Ln_lt (by decide)
    have ls : Ln (rd d (i : Int) % 10) ≤ 1 := Ln_lt (by omega)
    have hx2 : (x * 10).natAbs < 10 ^ (i + 1) := by rw [Nat.pow_succ]; omega
    have lx2 : Ln (x * 10) ≤ i + 1 := Ln_lt hx2
    obtain ⟨y, y1, y2⟩ := whole_l0 (neg := neg) hd hm hl n (i + 1) (x * 10 + rd d (i : Int) % 10) (by omega) (by omega) (by
      rw [Int.pow_succ]; omega)
    refine ⟨y, ?_, y2⟩
    refine Ev.step (fun k => rfl) ?_
    have c : ((decide ((i : Int) < (d.length : Int))) && (decide ((i : Int) < (most : Int)))) = true := by
      rw [Bool.and_eq_true, decide_eq_true_eq, decide_eq_true_eq]; omega
    have eta : ∀ y : Int, (⟨(Nb y).f_Neg, (Nb y).f_D⟩ : radomeref01_Num) = Nb y := fun _ => rfl
    simp only [radomelaw34_whole.hs, radomelaw34_whole.b0, c, if_true, if_pos (show (0 : Int) ≤ (i : Int) ∧ (i : Int) < (d.length : Int) by omega), em, wsucc (show i < 1000000000 by omega), eta]
    exact Ev.bind (Of_ev (x := 10) (by decide)) (Ev.bind (Mul_ev (by omega) (by omega)) (Ev.bind (Of_ev (by omega)) (Ev.bind (Add_ev (by omega) (by omega)) y1)))
theorem whole_ev {d : List Int} (hd : ∀ x ∈ d, (Lit.int .u8 x).wf = true) (hl' : d.length < 9000000000000000000) (neg : Bool) {most : Nat} (hm : most ≤ 1000) : ∃ x : Int, Ev (fun k => radomelaw34_whole.f k d neg (most : Int)) (Nb x) ∧ x.natAbs < 10 ^ most ∧ (neg = false → 0 ≤ x) := by
  have hd' : ∀ x ∈ d, 0 ≤ x ∧ x ≤ 255 := fun x hx => by have := hd x hx; simpa [Lit.wf, IntKind.min, IntKind.max, IntKind.signed, IntKind.bits] using this
  obtain ⟨y, y1, y2, y3⟩ := whole_l0 (neg := neg) hd' hm hl' (min d.length most) 0 0 (by omega) (by decide) (by decide)
  have hn : Nb 0 = ⟨false, []⟩ := by unfold Nb; simp [dg_zero]
  refine ⟨if neg then -y else y, ?_, ?_, ?_⟩
  · rw [hn] at y1
    exact y1
  · have := pow10_nat most
    split <;> omega
  · intro h; rw [h]; simpa using y2
theorem giveInt_ev {x : Int} (hx : Fit x) (hl : Ln x < 1300) : Ev (fun k => radomelaw34_giveInt.f k (Nb x)) (Wb x) := by
  unfold radomelaw34_giveInt.f
  have eta : ∀ y : Int, (⟨(Nb y).f_Neg, (Nb y).f_D⟩ : radomeref01_Num) = Nb y := fun _ => rfl
  (try simp only [eta])
  refine Ev.bind (RText_ev (by omega)) (Ev.bind (Parse_ev hl) ?_)
  rw [res_fit hx]; exact Ev.now
end L34
end Go.Proofs.YtkccpkccdbfomaaGreatDoor.Pure

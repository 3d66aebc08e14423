/- What a law package makes of digits: a number, and the program's one of its text. -/
import Derived.Test.YtkccpkccdbfomaaGreatDoorPureW10
namespace Go.Proofs.YtkccpkccdbfomaaGreatDoor.Pure
open Go.RowKit Go.Proofs.YtkccpkccdbfomaaGreatDoorK Go.Proofs.YtkccpkccdbfomaaGreatDoor.GSS
set_option linter.unusedVariables false
set_option linter.unusedSimpArgs false
namespace L34
theorem J0 (n : Nat) : ((10 ^ n : Nat) : Int) = (10 : Int) ^ n := by rw [Int.natCast_pow]; rfl
theorem Oc {d : List Int} {neg : Bool} {most : Nat} (hd : ∀ x ∈ d, 0 ≤ x ∧ x ≤ 255) (hm : most ≤ 1000) (hl : d.length < 9000000000000000000) : ∀ (n i : Nat) (x : Int), i + n = min d.length most → 0 ≤ x → x < 10 ^ i →
    ∃ y : Int, Ev (fun k => (QY.hs k).l0 d neg (most : Int) (Nb x).f_Neg (Nb x).f_D (i : Int)) (Nb (if neg then -y else y)) ∧ 0 ≤ y ∧ y < 10 ^ most
  | 0, i, x, e, h0, h1 => by
    refine ⟨x, ?_, h0, ?_⟩
    · refine Ev.step (fun k => rfl) ?_
      have c : ((decide ((i : Int) < (d.length : Int))) && (decide ((i : Int) < (most : Int)))) = false := by
        rw [Bool.and_eq_false_iff, decide_eq_false_iff_not, decide_eq_false_iff_not]; omega
      simp only [QY.hs, QY.b0, c, Bool.false_eq_true, if_false]
      have eta : ∀ y : Int, (⟨(Nb y).f_Neg, (Nb y).f_D⟩ : Qh) = Nb y := fun _ => rfl
      cases neg with
      | true => simp only [if_true, eta, ML, Option.bind_some]; exact Ev.now
      | false => simp only [Bool.false_eq_true, if_false, eta]; exact Ev.now
    · have : (10 : Nat) ^ i ≤ 10 ^ most := Nat.pow_le_pow_right (by decide) (by omega)
      have a := J0 i; have b := J0 most
      omega
  | n + 1, i, x, e, h0, h1 => by
    have hi : i < d.length := by omega
    have hr : 0 ≤ rd d (i : Int) ∧ rd d (i : Int) ≤ 255 := by
      unfold rd; rw [Int.toNat_natCast, List.getD_eq_getElem?_getD, List.getElem?_eq_getElem hi]; exact hd _ (List.getElem_mem hi)
    have em : w64 (Int.tmod (rd d (i : Int)) 10) = rd d (i : Int) % 10 := by rw [Int.tmod_eq_emod_of_nonneg hr.1, X3 (by omega)]
    have hx : x.natAbs < 10 ^ i := by have := J0 i; omega
    have lx : Ln x ≤ i := Gs hx
    have l10 : Ln 10 ≤ 2 := Gs (by decide)
    have ls : Ln (rd d (i : Int) % 10) ≤ 1 := Gs (by omega)
    have hx2 : (x * 10).natAbs < 10 ^ (i + 1) := by rw [Nat.pow_succ]; omega
    have lx2 : Ln (x * 10) ≤ i + 1 := Gs hx2
    obtain ⟨y, y1, y2⟩ := Oc (neg := neg) hd hm hl n (i + 1) (x * 10 + rd d (i : Int) % 10) (by omega) (by omega) (by
      rw [Int.pow_succ]; omega)
    refine ⟨y, ?_, y2⟩
    refine Ev.step (fun k => rfl) ?_
    have c : ((decide ((i : Int) < (d.length : Int))) && (decide ((i : Int) < (most : Int)))) = true := by
      rw [Bool.and_eq_true, decide_eq_true_eq, decide_eq_true_eq]; omega
    have eta : ∀ y : Int, (⟨(Nb y).f_Neg, (Nb y).f_D⟩ : Qh) = Nb y := fun _ => rfl
    simp only [QY.hs, QY.b0, c, if_true, if_pos (show (0 : Int) ≤ (i : Int) ∧ (i : Int) < (d.length : Int) by omega), em, wsucc (show i < 1000000000 by omega), eta]
    exact Ev.bind (Gi (x := 10) (by decide)) (Ev.bind (Z9 (by omega) (by omega)) (Ev.bind (Gi (by omega)) (Ev.bind (GT (by omega) (by omega)) y1)))
theorem NM {d : List Int} (hd : ∀ x ∈ d, (Lit.int .u8 x).wf = true) (hl' : d.length < 9000000000000000000) (neg : Bool) {most : Nat} (hm : most ≤ 1000) : ∃ x : Int, Ev (fun k => QY.f k d neg (most : Int)) (Nb x) ∧ x.natAbs < 10 ^ most ∧ (neg = false → 0 ≤ x) := by
  have hd' : ∀ x ∈ d, 0 ≤ x ∧ x ≤ 255 := fun x hx => by have := hd x hx; simpa [Lit.wf, IntKind.min, IntKind.max, IntKind.signed, IntKind.bits] using this
  obtain ⟨y, y1, y2, y3⟩ := Oc (neg := neg) hd' hm hl' (min d.length most) 0 0 (by omega) (by decide) (by decide)
  have hn : Nb 0 = ⟨false, []⟩ := by unfold Nb; simp [Za]
  refine ⟨if neg then -y else y, ?_, ?_, ?_⟩
  · rw [hn] at y1
    exact y1
  · have := J0 most
    split <;> omega
  · intro h; rw [h]; simpa using y2
theorem MU {x : Int} (hx : Fit x) (hl : Ln x < 1300) : Ev (fun k => XP.f k (Nb x)) (Wb x) := by
  unfold XP.f
  have eta : ∀ y : Int, (⟨(Nb y).f_Neg, (Nb y).f_D⟩ : Qh) = Nb y := fun _ => rfl
  (try simp only [eta])
  refine Ev.bind (Mz (by omega)) (Ev.bind (Vy hl) ?_)
  rw [J7 hx]; exact Ev.now
end L34
end Go.Proofs.YtkccpkccdbfomaaGreatDoor.Pure

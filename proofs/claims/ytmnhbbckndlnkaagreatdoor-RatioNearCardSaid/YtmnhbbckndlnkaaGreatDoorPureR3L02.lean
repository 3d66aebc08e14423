/- The number nearest to a fraction, and fractions of powers of two. -/
import Derived.Test.YtmnhbbckndlnkaaGreatDoorPureR2L02
namespace Go.Proofs.YtmnhbbckndlnkaaGreatDoor.Pure
open Go.RowKit Go.Proofs.YtmnhbbckndlnkaaGreatDoorK Go.Proofs.YtmnhbbckndlnkaaGreatDoor.GRN
set_option linter.unusedVariables false
set_option linter.unusedSimpArgs false
def Sm (z : Int) : Prop := -9223372036854775808 ≤ z ∧ z ≤ 9223372036854775807
instance (z : Int) : Decidable (Sm z) := inferInstanceAs (Decidable (_ ∧ _))
def smv (z : Int) : Int × Bool := if Sm z then (z, true) else (0, false)
theorem small_end {x v : Int} {a1 : List Int} (hv : v = (x.natAbs : Int)) (hb : v < 18446744073709551616) : (if ((!decide (x < 0)) && (decide (v < 9223372036854775808))) = true then (some (w64 (v), true)) else (if (decide (x < 0) && (decide (v ≤ 9223372036854775808))) = true then (some (w64 ((0 - v) % 18446744073709551616), true)) else (some (0, false)))) = some (smv x) := by
  unfold smv
  by_cases s : x < 0
  · simp only [s, decide_true, Bool.not_true, Bool.false_and, Bool.false_eq_true, if_false, Bool.true_and, decide_eq_true_eq]
    by_cases g : v ≤ 9223372036854775808
    · rw [if_pos g, if_pos (show Sm x by unfold Sm; omega)]
      have e : w64 ((0 - v) % 18446744073709551616) = x := by
        simp only [w64, IntKind.wrap, IntKind.bits, IntKind.signed]; simp; omega
      rw [e]
    · rw [if_neg g, if_neg (show ¬ Sm x by unfold Sm; omega)]
  · simp only [s, decide_false, Bool.not_false, Bool.true_and, decide_eq_true_eq, Bool.false_and, Bool.false_eq_true, if_false]
    by_cases g : v < 9223372036854775808
    · rw [if_pos g, if_pos (show Sm x by unfold Sm; omega), w64_id (by omega), show v = x by omega]
    · rw [if_neg g, if_neg (show ¬ Sm x by unfold Sm; omega)]
theorem ior_zero {d : Int} (h : 0 ≤ d ∧ d ≤ 4294967295) : ior .u64 0 d = d := by
  have := ior_lh' (a := 0) (b := d) (by decide) h
  rw [Int.zero_mul, Int.add_zero] at this
  have h2 := ior_hl' (a := 0) (b := d) (by decide) h
  rw [Int.zero_mul, Int.zero_add] at h2
  exact h2
theorem WSmall_l {x : Int} (l : List Int) (hl : wd x.natAbs = l) (hw : Wg l) (uw : U l = (x.natAbs : Int)) : Ev (fun k => wide_Int_Small.f k (⟨decide (x < 0), l⟩ : wide_Int)) (smv x) := by
  unfold wide_Int_Small.f
  match l, hl with
  | [], hl =>
    simp only [List.length_nil, if_neg (show ¬ 2 < ((0 : Nat) : Int) by decide)]
    refine Ev.step (fun k => rfl) ?_
    simp only [wide_Int_Small.hs, wide_Int_Small.b0, if_neg (show ¬ (0 : Int) < ((0 : Nat) : Int) by decide)]
    simp only [U] at uw
    rw [small_end (a1 := []) (v := 0) (by omega) (by decide)]
    exact Ev.now
  | [a], hl =>
    obtain ⟨ha, -⟩ := Wg_cons.1 hw
    simp only [U] at uw
    simp only [List.length_singleton, if_neg (show ¬ 2 < ((1 : Nat) : Int) by decide)]
    refine Ev.step (fun k => rfl) ?_
    have e0 : w64 (32 * 0) = ((0 : Nat) : Int) := by decide
    simp only [wide_Int_Small.hs, wide_Int_Small.b0, if_pos (show (0 : Int) < ((1 : Nat) : Int) by decide), List.length_singleton, if_pos (show (0 : Int) ≤ 0 ∧ (0 : Int) < ((1 : Nat) : Int) by decide), e0, if_pos (show (0 : Int) ≤ ((0 : Nat) : Int) by decide), shn64 (show 0 ≤ 64 by decide), show rd [a] 0 = a from rfl, Int.pow_zero, Int.mul_one, wmodid ha, ior_zero ha, show w64 (0 + 1) = 1 by decide]
    refine Ev.step (fun k => rfl) ?_
    simp only [wide_Int_Small.hs, wide_Int_Small.b0, if_neg (show ¬ (1 : Int) < ((1 : Nat) : Int) by decide)]
    rw [small_end (a1 := []) (v := a) (by omega) (by omega)]
    exact Ev.now
  | [a, b], hl =>
    obtain ⟨ha, hb0⟩ := Wg_cons.1 hw
    obtain ⟨hb, -⟩ := Wg_cons.1 hb0
    simp only [U] at uw
    simp only [List.length_cons, List.length_nil, if_neg (show ¬ 2 < ((0 + 1 + 1 : Nat) : Int) by decide)]
    refine Ev.step (fun k => rfl) ?_
    have e0 : w64 (32 * 0) = ((0 : Nat) : Int) := by decide
    have e1 : w64 (32 * 1) = ((32 : Nat) : Int) := by decide
    simp only [wide_Int_Small.hs, wide_Int_Small.b0, if_pos (show (0 : Int) < ((0 + 1 + 1 : Nat) : Int) by decide), List.length_cons, List.length_nil, if_pos (show (0 : Int) ≤ 0 ∧ (0 : Int) < ((0 + 1 + 1 : Nat) : Int) by decide), e0, if_pos (show (0 : Int) ≤ ((0 : Nat) : Int) by decide), shn64 (show 0 ≤ 64 by decide), show rd [a, b] 0 = a from rfl, Int.pow_zero, Int.mul_one, wmodid ha, ior_zero ha, show w64 (0 + 1) = 1 by decide]
    refine Ev.step (fun k => rfl) ?_
    simp only [wide_Int_Small.hs, wide_Int_Small.b0, if_pos (show (1 : Int) < ((0 + 1 + 1 : Nat) : Int) by decide), List.length_cons, List.length_nil, if_pos (show (0 : Int) ≤ 1 ∧ (1 : Int) < ((0 + 1 + 1 : Nat) : Int) by decide), e1, if_pos (show (0 : Int) ≤ ((32 : Nat) : Int) by decide), shn64 (show 32 ≤ 64 by decide), show rd [a, b] 1 = b from rfl, wmodid hb, show (2 : Int) ^ 32 = 4294967296 by decide, show (b * 4294967296) % 18446744073709551616 = b * 4294967296 by omega, ior_lh' hb ha, show w64 (1 + 1) = 2 by decide]
    refine Ev.step (fun k => rfl) ?_
    simp only [wide_Int_Small.hs, wide_Int_Small.b0, if_neg (show ¬ (2 : Int) < ((0 + 1 + 1 : Nat) : Int) by decide)]
    rw [small_end (a1 := []) (v := a + b * 4294967296) (by omega) (by omega)]
    exact Ev.now
  | a :: b :: c :: t, hl =>
    simp only [List.length_cons, if_pos (show 2 < ((t.length + 1 + 1 + 1 : Nat) : Int) by omega)]
    have hn : 18446744073709551616 ≤ x.natAbs := by
      refine Decidable.byContradiction fun h => ?_
      have := wd_len_le (n := x.natAbs) (m := 2) (by
        have : (4294967296 : Nat) ^ 2 = 18446744073709551616 := by decide
        omega)
      rw [hl] at this
      simp at this
    have : smv x = (0, false) := by unfold smv; rw [if_neg (show ¬ Sm x by unfold Sm; omega)]
    rw [this]; exact Ev.now
theorem WSmall_ev (x : Int) : Ev (fun k => wide_Int_Small.f k (Wb x)) (smv x) := WSmall_l (wd x.natAbs) rfl (Wg_wd x.natAbs) (U_wd x.natAbs)
def nearR (z : Int) : Int × Option Int := if Sm z then (z, none) else (0, some 12)
theorem near_parts {x D : Int} (hD : 0 < D) : 2 * x / D / 2 = x / D ∧ (2 * x / D ≠ 2 * (x / D) ↔ D ≤ 2 * (x % D)) ∧ (D ≤ 2 * (x % D) → (2 * x % D ≠ 0 ↔ D < 2 * (x % D))) := by
  have h := Int.emod_add_mul_ediv x D
  have h1 := Int.emod_nonneg x (show D ≠ 0 by omega)
  have h2 := Int.emod_lt_of_pos x hD
  generalize x % D = b at *
  generalize x / D = a at *
  by_cases g : D ≤ 2 * b
  · have e : 2 * x = (2 * b - D) + D * (2 * a + 1) := by rw [Int.mul_add, Int.mul_left_comm]; omega
    have q : 2 * x / D = 2 * a + 1 := by rw [e, Int.add_mul_ediv_left _ _ (by omega), Int.ediv_eq_zero_of_lt (by omega) (by omega)]; omega
    have r : 2 * x % D = 2 * b - D := by rw [e, Int.add_mul_emod_self_left, Int.emod_eq_of_lt (by omega) (by omega)]
    rw [q, r]
    exact ⟨by omega, by omega, fun _ => by omega⟩
  · have e : 2 * x = 2 * b + D * (2 * a) := by rw [Int.mul_left_comm]; omega
    have q : 2 * x / D = 2 * a := by rw [e, Int.add_mul_ediv_left _ _ (by omega), Int.ediv_eq_zero_of_lt (by omega) (by omega)]; omega
    rw [q]
    exact ⟨by omega, by omega, fun h => absurd h g⟩
theorem RNear_ev {r : Rat} {B bits : Nat} (hr : Rs B r) (hB : B < LIM) (hb : bits ≤ 1024) : ∃ v e, Ev (fun k => ratio_Ratio_Near.f k (Rb r) (bits : Int)) (v, e) ∧ (e = none ∨ e = some 12) ∧ (4 * (B * 2 ^ bits) + 4 < LIM → (v, e) = nearR (rnd (r.num * 2 ^ bits) (r.den : Int))) := by
  have fn := fit_num hr hB; have fd := fit_den hr hB
  have c : ((decide ((bits : Int) < 0)) || (decide (1024 < (bits : Int)))) = false := by rw [Bool.or_eq_false_iff, decide_eq_false_iff_not, decide_eq_false_iff_not]; omega
  have M := WMove_up (x := r.num) (n := bits + 1) (by have := fit_Wl fn; omega) (by omega)
  have d0 : (0 : Int) < (r.den : Int) := by have := r.den_nz; omega
  have w1 : w64 ((bits : Int) + 1) = ((bits + 1 : Nat) : Int) := wsucc (by omega)
  have ex : r.num * 2 ^ (bits + 1) = 2 * (r.num * 2 ^ bits) := by rw [Int.pow_succ, ← Int.mul_assoc, Int.mul_comm]
  rw [ex] at M
  have hbig : 4 * (B * 2 ^ bits) + 4 < LIM → Fit (2 * (r.num * 2 ^ bits)) ∧ (2 * (r.num * 2 ^ bits)).natAbs + 4 < LIM := by
    intro h
    have h1 : (r.num * 2 ^ bits).natAbs ≤ B * 2 ^ bits := by
      rw [Int.natAbs_mul, pow2_nat, Int.natAbs_natCast]; exact Nat.mul_le_mul_right _ hr.num
    unfold Fit; omega
  obtain ⟨p1, p2, p3⟩ := near_parts (x := r.num * 2 ^ bits) d0
  have un : ∀ k, ratio_Ratio_under.f k (Rb r) = some (Wb (r.den : Int)) := fun k => under_eq k r
  unfold ratio_Ratio_Near.f rnd
  simp only [c, Bool.false_eq_true, if_false, w1, Rb_eta, un, Option.bind_some]
  simp only [Rb_n]
  generalize r.num * 2 ^ bits = x at *
  generalize (r.den : Int) = D at *
  rcases res_cases (2 * x) with ⟨f1, e1⟩ | ⟨f1, e1⟩
  · rw [e1] at M
    have fq : Fit (2 * x / D) := fit_of_le f1 (Int.natAbs_ediv_le_natAbs _ _)
    have fr : Fit (2 * x % D) := by
      have h1 := Int.emod_nonneg (2 * x) (show D ≠ 0 by omega)
      have h2 := Int.emod_lt_of_pos (2 * x) d0
      exact fit_of_le fd (by omega)
    have Dv := WDiv_ev (show D ≠ 0 by omega) f1 fd
    have Md := WMove_down (x := 2 * x / D) (s := 1) fq (by decide)
    rw [show (2 : Int) ^ 1 = 2 by decide, show -((1 : Nat) : Int) = -1 by decide, p1] at Md
    have hq2 : (x / D).natAbs ≤ (2 * x / D).natAbs := by rw [← p1]; exact Int.natAbs_ediv_le_natAbs _ _
    have fa : Fit (x / D) := fit_of_le fq hq2
    have Mu := WMove_up (x := x / D) (n := 1) (by have := fit_Wl fa; omega) (by decide)
    rw [show (2 : Int) ^ 1 = 2 by decide, Int.mul_comm] at Mu
    rcases res_cases (2 * (x / D)) with ⟨f2, e2⟩ | ⟨f2, e2⟩
    · rw [show ((1 : Nat) : Int) = 1 from rfl, e2] at Mu
      have fu : Fit (x / D + 1) := by
        unfold Fit at f2 ⊢
        have : 2 < LIM := by decide +kernel
        omega
      have Ad := WAddF_ev (x := x / D) (y := 1) fa (by unfold Fit; have : 2 < LIM := by decide +kernel
                                                       omega) fu
      -- the end
      have E : ∀ v e, (v, e) = (if ((2 * x / D ≠ 2 * (x / D)) ∧ (2 * x % D ≠ 0 ∨ ¬ Sm (x / D) ∨ (x / D) % 2 ≠ 0)) then nearR (x / D + 1) else nearR (x / D)) → Ev (fun k => (wide_Int_Move.f k (Wb r.num) ((bits + 1 : Nat) : Int)).bind fun y5 => if y5.2.isSome = true then (some (0, y5.2)) else ((wide_Int_Div.f k (⟨y5.1.f_neg, y5.1.f_w⟩ : wide_Int) (⟨(Wb D).f_neg, (Wb D).f_w⟩ : wide_Int)).bind fun y19 => if y19.2.2.isSome = true then (some (0, y19.2.2)) else ((wide_Int_Move.f k (⟨y19.1.f_neg, y19.1.f_w⟩ : wide_Int) (-1)).bind fun y48 => if y48.2.isSome = true then (some (0, y48.2)) else ((wide_Int_Move.f k (⟨y48.1.f_neg, y48.1.f_w⟩ : wide_Int) 1).bind fun y56 => if y56.2.isSome = true then (some (0, y56.2)) else ((wide_Int_Small.f k (⟨y48.1.f_neg, y48.1.f_w⟩ : wide_Int)).bind fun y64 => (wide_Int_Cmp.f k (⟨y19.1.f_neg, y19.1.f_w⟩ : wide_Int) (⟨y56.1.f_neg, y56.1.f_w⟩ : wide_Int)).bind fun y68 => (gd (!decide (y68 = 0)) (wide_Int_Sign.f k (⟨y19.2.1.f_neg, y19.2.1.f_w⟩ : wide_Int)) (0)).bind fun y74 => if ((!decide (y68 = 0)) && (((!decide (y74 = 0)) || (!y64.2)) || (!decide ((Int.tmod y64.1 2) = 0)))) = true then ((wide_Of.f k 1).bind fun y89 => (wide_Int_Add.f k (⟨y48.1.f_neg, y48.1.f_w⟩ : wide_Int) (⟨y89.f_neg, y89.f_w⟩ : wide_Int)).bind fun y95 => if y95.2.isSome = true then (some (0, y95.2)) else ((wide_Int_Small.f k (⟨y95.1.f_neg, y95.1.f_w⟩ : wide_Int)).bind fun y113 => ratio_Ratio_Near.j1 k 0 none y113.1 y113.2)) else (ratio_Ratio_Near.j1 k 0 none y64.1 y64.2)))))) (v, e) := by
        intro v e hve
        have J : ∀ z k, ratio_Ratio_Near.j1 k 0 none (smv z).1 (smv z).2 = some (nearR z) := by
          intro z k
          unfold ratio_Ratio_Near.j1 smv nearR
          by_cases g : Sm z
          · simp only [if_pos g]; rfl
          · simp only [if_neg g]; rfl
        refine Ev.bind M ?_
        simp only [Option.isSome_none, Bool.false_eq_true, if_false, Wb_eta]
        refine Ev.bind Dv ?_
        simp only [Option.isSome_none, Bool.false_eq_true, if_false, Wb_eta]
        refine Ev.bind Md ?_
        simp only [Option.isSome_none, Bool.false_eq_true, if_false, Wb_eta]
        refine Ev.bind Mu ?_
        simp only [Option.isSome_none, Bool.false_eq_true, if_false, Wb_eta]
        refine Ev.bind (WSmall_ev _) (Ev.bind (WCmpC_ev fq f2) ?_)
        have s1 : decide (sgn3 (2 * x / D) (2 * (x / D)) = 0) = decide (2 * x / D = 2 * (x / D)) := by
          rw [decide_eq_decide]; unfold sgn3
          split
          · simp; omega
          · split
            · simp; omega
            · simp; omega
        have g1 : ∀ k, gd (!decide (2 * x / D = 2 * (x / D))) (wide_Int_Sign.f k (Wb (2 * x % D))) 0 = some (if 2 * x / D = 2 * (x / D) then 0 else sg (2 * x % D)) := by
          intro k
          by_cases g : 2 * x / D = 2 * (x / D)
          · simp only [g, decide_true, Bool.not_true, gdf, if_true]
          · simp only [g, decide_false, Bool.not_false, gdt, WSign_eq, if_false]; rfl
        simp only [s1, g1, Option.bind_some]
        have c2 : ((!decide (2 * x / D = 2 * (x / D))) && (((!decide ((if 2 * x / D = 2 * (x / D) then (0 : Int) else sg (2 * x % D)) = 0)) || (!(smv (x / D)).2)) || (!decide ((Int.tmod (smv (x / D)).1 2) = 0)))) = decide ((2 * x / D ≠ 2 * (x / D)) ∧ (2 * x % D ≠ 0 ∨ ¬ Sm (x / D) ∨ (x / D) % 2 ≠ 0)) := by
          by_cases g : 2 * x / D = 2 * (x / D)
          · simp only [g, decide_true, Bool.not_true, Bool.false_and, ne_eq, not_true_eq_false, false_and, decide_false]
          · have sz : decide (sg (2 * x % D) = 0) = decide (2 * x % D = 0) := by
              rw [decide_eq_decide]; unfold sg
              split
              · simp [*]
              · split <;> simp [*]
            have tz : Sm (x / D) → (decide (Int.tmod (x / D) 2 = 0) = decide ((x / D) % 2 = 0)) := fun _ => by
              rw [decide_eq_decide]
              exact ⟨fun h => Int.emod_eq_zero_of_dvd (Int.dvd_of_tmod_eq_zero h), fun h => Int.tmod_eq_zero_of_dvd (Int.dvd_of_emod_eq_zero h)⟩
            simp only [if_neg g, sz]
            by_cases s : Sm (x / D)
            · have : smv (x / D) = (x / D, true) := if_pos s
              simp only [this, tz s]
              simp [g, s]
            · have : smv (x / D) = (0, false) := if_neg s
              simp only [this]
              simp [g, s]
        simp only [c2]
        by_cases g : (2 * x / D ≠ 2 * (x / D)) ∧ (2 * x % D ≠ 0 ∨ ¬ Sm (x / D) ∨ (x / D) % 2 ≠ 0)
        · rw [if_pos g] at hve
          simp only [decide_eq_true g, if_true]
          refine Ev.bind (WOf_ev (x := 1) (by decide)) ?_
          simp only [Wb_eta]
          refine Ev.bind Ad ?_
          simp only [Option.isSome_none, Bool.false_eq_true, if_false, Wb_eta]
          refine Ev.bind (WSmall_ev _) ?_
          simp only [J]
          rw [← hve]; exact Ev.now
        · rw [if_neg g] at hve
          simp only [decide_eq_false g, Bool.false_eq_true, if_false, J]
          rw [← hve]; exact Ev.now
      refine ⟨_, _, E _ _ rfl, ?_, fun _ => ?_⟩
      · have : ∀ (c : Prop) [Decidable c] (z w : Int), (if c then nearR z else nearR w).2 = none ∨ (if c then nearR z else nearR w).2 = some 12 := fun c _ z w => by
          split <;> (unfold nearR; split <;> simp)
        exact this _ _ _
      · show (if _ then _ else _) = _
        -- the two ways to round are one
        by_cases g : D ≤ 2 * (x % D)
        · have q := p2.2 g
          by_cases h : D < x % D + x % D ∨ (x % D + x % D = D ∧ (x / D) % 2 ≠ 0)
          · rw [if_pos h, if_pos ⟨q, by
              rcases h with h | h
              · exact .inl ((p3 g).2 (by omega))
              · exact .inr (.inr h.2)⟩]
          · have r0 : ¬ (2 * x % D ≠ 0) := fun hne => h (.inl (by have := (p3 g).1 hne; omega))
            have o0 : (x / D) % 2 = 0 := Decidable.byContradiction fun hne => h (.inr ⟨by omega, hne⟩)
            rw [if_neg h]
            by_cases s : Sm (x / D)
            · rw [if_neg (fun hh => by rcases hh.2 with a | a | a; exact r0 a; exact a s; exact a o0)]
            · rw [if_pos ⟨q, .inr (.inl s)⟩]
              have m0 := (show (x / D) % 2 = 0 from o0)
              have q1 : ¬ Sm (x / D + 1) := by unfold Sm at *; omega
              unfold nearR
              rw [if_neg s, if_neg q1]
        · have q : 2 * x / D = 2 * (x / D) := Decidable.byContradiction fun hne => g (p2.1 hne)
          rw [if_neg (show ¬ (D < x % D + x % D ∨ (x % D + x % D = D ∧ (x / D) % 2 ≠ 0)) by omega), if_neg (fun hh => hh.1 q)]
    · rw [show ((1 : Nat) : Int) = 1 from rfl, e2] at Mu
      refine ⟨0, some 12, ?_, .inr rfl, fun h => absurd ?_ f2⟩
      · refine Ev.bind M ?_
        simp only [Option.isSome_none, Bool.false_eq_true, if_false, Wb_eta]
        refine Ev.bind Dv ?_
        simp only [Option.isSome_none, Bool.false_eq_true, if_false, Wb_eta]
        refine Ev.bind Md ?_
        simp only [Option.isSome_none, Bool.false_eq_true, if_false, Wb_eta]
        refine Ev.bind Mu ?_
        simp only [Option.isSome_some, if_true]; exact Ev.now
      · have h1 := (hbig h).2
        have h2 := Int.natAbs_ediv_le_natAbs (2 * x) D
        unfold Fit
        by_cases g : D ≤ 2 * (x % D)
        · have := p2.2 g
          omega
        · have q : 2 * x / D = 2 * (x / D) := Decidable.byContradiction fun hne => g (p2.1 hne)
          omega
  · rw [e1] at M
    refine ⟨0, some 12, ?_, .inr rfl, fun h => absurd (hbig h).1 f1⟩
    refine Ev.bind M ?_
    simp only [Option.isSome_some, if_true]; exact Ev.now
theorem RNear_out (k : Nat) (r : ratio_Ratio) {bits : Int} (h : bits < 0 ∨ 1024 < bits) : ratio_Ratio_Near.f k r bits = some (0, some 1) := by
  have : ((decide (bits < 0)) || (decide (1024 < bits))) = true := by rw [Bool.or_eq_true, decide_eq_true_eq, decide_eq_true_eq]; exact h
  simp only [ratio_Ratio_Near.f, this, if_true]
theorem RBits_out (k : Nat) (n : Int) {bits : Int} (h : bits < 0 ∨ 1024 < bits) : ratio_Bits.f k n bits = some (⟨Wb 0, Wb 0⟩, some 1) := by
  have : ((decide (bits < 0)) || (decide (1024 < bits))) = true := by rw [Bool.or_eq_true, decide_eq_true_eq, decide_eq_true_eq]; exact h
  simp only [ratio_Bits.f, this, if_true, wb0]
def S1024 : Nat := (2 ^ 32) ^ 32
theorem S1024_lim : 18446744073709551616 * S1024 < LIM := by decide +kernel
theorem RBits_ev {n : Int} {bits : Nat} (hn : -9223372036854775808 ≤ n ∧ n ≤ 9223372036854775807) (hb : bits ≤ 1024) : Ev (fun k => ratio_Bits.f k n (bits : Int)) (Rb (mkRat n (2 ^ bits)), none) ∧ Rs (max 9223372036854775808 (2 ^ bits)) (mkRat n (2 ^ bits)) := by
  have hl := S1024_lim
  have hp : 2 ^ bits ≤ S1024 := two_pw 32 32 (by omega)
  have p1 : 1 ≤ 2 ^ bits := Nat.pow_pos (by decide)
  have f1 : Fit 1 := by unfold Fit; omega
  have f2 : Fit ((2 : Int) ^ bits) := by unfold Fit; rw [pow2_nat, Int.natAbs_natCast]; omega
  have fn : Fit n := by unfold Fit; omega
  have M := WMove_up (x := 1) (n := bits) (by have := fit_Wl f1; omega) (by omega)
  rw [Int.one_mul, res_fit f2] at M
  have c : ((decide ((bits : Int) < 0)) || (decide (1024 < (bits : Int)))) = false := by rw [Bool.or_eq_false_iff, decide_eq_false_iff_not, decide_eq_false_iff_not]; omega
  refine ⟨?_, Rs_mkRat (by omega) (by omega) (by omega)⟩
  unfold ratio_Bits.f
  simp only [c, Bool.false_eq_true, if_false]
  refine Ev.bind (WOf_ev (x := 1) (by decide)) ?_
  simp only [Wb_eta]
  refine Ev.bind M ?_
  simp only [Option.isSome_none, Bool.false_eq_true, if_false]
  refine Ev.bind (WOf_ev hn) ?_
  simp only [Wb_eta]
  refine Ev.bind (ROf_ev fn f2 (by have := pow2_pos bits; omega)) ?_
  simp only [Rb_eta]
  rw [pow2_nat, Rat.divInt_ofNat]
  exact Ev.now
end Go.Proofs.YtmnhbbckndlnkaaGreatDoor.Pure

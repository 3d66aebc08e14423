/- A text of this session, written by a program (wip/tools): Go functions as Lean functions, and proofs that the code comes to them. -/
import Derived.Test.YtddcfnhbedpbnaaQTurnLawsx0
import Derived.Test.YtddcfnhbedpbnaaQTurnLawsx1
namespace Go.Proofs.Ytddcfnhbedpbnaa.QTurnLaws
open Go.RowKit Go.Proofs.YtddcfnhbedpbnaaW.PrintWords Go.Proofs.YtddcfnhbedpbnaaW.PrintLast Go.Proofs.YtddcfnhbedpbnaaW.PrintMore
attribute [local go_sem] max2_int min2_int max_two min_two max_three min_three max_four min_four   -- for this text's walks alone
set_option linter.unusedVariables false
set_option linter.unusedSimpArgs false

/-! ### radomelaw04_TurnLaws: function 5 -/
def radomelaw04_TurnLaws.j0 : Nat → Int → Int → Int → Bool → Option (Bool)
 | 0, _, _, _, _ => none
 | k + 1, x7, x8, x11, x64 => if x64 = true then (some false) else (if ((x11 - x7) % 4294967296) = ((x8 - x11) % 4294967296) then ((turn_Between.f x8 x7 x7).bind fun t119 => (if (t119 == (x7 == x8)) = true then ((radomelaw04_sure.f k).bind fun t120 => (some t120)) else (some false))) else (if ((((x11 - x7) % 4294967296) + 1) % 4294967296) = ((x8 - x11) % 4294967296) then ((turn_Between.f x8 x7 x7).bind fun t121 => (if (t121 == (x7 == x8)) = true then ((radomelaw04_sure.f k).bind fun t122 => (some t122)) else (some false))) else (some false)))
def radomelaw04_TurnLaws.f (k : Nat) (a0 : Int) (a1 : Int) (a2 : Int) : Option (Bool) := (turn_From.f a0 a1).bind fun t111 => ((turn_From.f a1 a0).bind fun t112 => ((turn_Middle.f a0 a1).bind fun t113 => (if t111 = (wrap32 (-t112)) then (if ((a1 + ((t111) % 4294967296)) % 4294967296) = a0 then ((turn_Of.f a2).bind fun t114 => ((turn_Short.f t114).bind fun t115 => (if t115 = a2 then ((turn_Between.f t113 a0 a1).bind fun t116 => (if t116 = true then ((turn_Between.f a0 a0 a1).bind fun t117 => (if t117 = true then ((turn_Between.f a1 a0 a1).bind fun t118 => (radomelaw04_TurnLaws.j0 k a0 a1 t113 (!t118))) else (radomelaw04_TurnLaws.j0 k a0 a1 t113 true))) else (radomelaw04_TurnLaws.j0 k a0 a1 t113 true))) else (radomelaw04_TurnLaws.j0 k a0 a1 t113 true)))) else (radomelaw04_TurnLaws.j0 k a0 a1 t113 true)) else (radomelaw04_TurnLaws.j0 k a0 a1 t113 true))))
theorem radomelaw04_TurnLaws.mono_l : ∀ k, (∀ y0 y1 y2 y3, LeO (radomelaw04_TurnLaws.j0 k y0 y1 y2 y3) (radomelaw04_TurnLaws.j0 (k + 1) y0 y1 y2 y3))
 | 0 => fun _ _ _ _ r h => by simp [radomelaw04_TurnLaws.j0] at h
 | k + 1 => by
  have ih0 := radomelaw04_TurnLaws.mono_l k
  ·
   intro y0 y1 y2 y3
   unfold radomelaw04_TurnLaws.j0
   repeat' first
   | (with_reducible exact ih0 _ _ _ _)
   | (with_reducible exact radomelaw04_sure.mono _)
   | (with_reducible exact LeO.refl _)
   | (with_reducible exact LeO.none _)
   | (with_reducible refine LeO.ite ?_ ?_)
   | (with_reducible refine LeO.bind ?_ (fun _ => ?_))
   | exact ih0 _ _ _ _
   | exact radomelaw04_sure.mono _
   | exact LeO.none _
   | refine LeO.ite ?_ ?_
   | refine LeO.bind ?_ (fun _ => ?_)
theorem radomelaw04_TurnLaws.mono : ∀ a0 a1 a2 k, LeO (radomelaw04_TurnLaws.f k a0 a1 a2) (radomelaw04_TurnLaws.f (k + 1) a0 a1 a2) := by
 intro a0 a1 a2 k
 have ih0 := radomelaw04_TurnLaws.mono_l k
 unfold radomelaw04_TurnLaws.f
 repeat' first
   | (with_reducible exact ih0 _ _ _ _)
   | (with_reducible exact radomelaw04_sure.mono _)
   | (with_reducible exact LeO.refl _)
   | (with_reducible exact LeO.none _)
   | (with_reducible refine LeO.ite ?_ ?_)
   | (with_reducible refine LeO.bind ?_ (fun _ => ?_))
   | exact ih0 _ _ _ _
   | exact radomelaw04_sure.mono _
   | exact LeO.none _
   | refine LeO.ite ?_ ?_
   | refine LeO.bind ?_ (fun _ => ?_)
set_option maxHeartbeats 8000000 in
set_option maxRecDepth 100000 in
theorem radomelaw04_TurnLaws.calls (k : Nat) (a0 : Int) (a1 : Int) (a2 : Int) (r : Bool) (w : World) (h : radomelaw04_TurnLaws.f k a0 a1 a2 = some r) :
  Calls Try.prog 5 #[.int .u32 a0, .int .u32 a1, .int .u16 a2] w fun e w' => e = .returned (.bool r) ∧ Drawn0 w w' := by
 have H : ((turn_From.f a0 a1).bind fun t111 => ((turn_From.f a1 a0).bind fun t112 => ((turn_Middle.f a0 a1).bind fun t113 => (if t111 = (wrap32 (-t112)) then (if ((a1 + ((t111) % 4294967296)) % 4294967296) = a0 then ((turn_Of.f a2).bind fun t114 => ((turn_Short.f t114).bind fun t115 => (if t115 = a2 then ((turn_Between.f t113 a0 a1).bind fun t116 => (if t116 = true then ((turn_Between.f a0 a0 a1).bind fun t117 => (if t117 = true then ((turn_Between.f a1 a0 a1).bind fun t118 => (radomelaw04_TurnLaws.j0 k a0 a1 t113 (!t118))) else (radomelaw04_TurnLaws.j0 k a0 a1 t113 true))) else (radomelaw04_TurnLaws.j0 k a0 a1 t113 true))) else (radomelaw04_TurnLaws.j0 k a0 a1 t113 true)))) else (radomelaw04_TurnLaws.j0 k a0 a1 t113 true)) else (radomelaw04_TurnLaws.j0 k a0 a1 t113 true))))) = some r := h
 clear h
 replace H := Option.bind_eq_some_iff.mp H
 obtain ⟨t111, A40, H⟩ := H
 replace H : ((turn_From.f a1 a0).bind fun t112 => ((turn_Middle.f a0 a1).bind fun t113 => (if t111 = (wrap32 (-t112)) then (if ((a1 + ((t111) % 4294967296)) % 4294967296) = a0 then ((turn_Of.f a2).bind fun t114 => ((turn_Short.f t114).bind fun t115 => (if t115 = a2 then ((turn_Between.f t113 a0 a1).bind fun t116 => (if t116 = true then ((turn_Between.f a0 a0 a1).bind fun t117 => (if t117 = true then ((turn_Between.f a1 a0 a1).bind fun t118 => (radomelaw04_TurnLaws.j0 k a0 a1 t113 (!t118))) else (radomelaw04_TurnLaws.j0 k a0 a1 t113 true))) else (radomelaw04_TurnLaws.j0 k a0 a1 t113 true))) else (radomelaw04_TurnLaws.j0 k a0 a1 t113 true)))) else (radomelaw04_TurnLaws.j0 k a0 a1 t113 true)) else (radomelaw04_TurnLaws.j0 k a0 a1 t113 true)))) = some r := H
 have A4 := Aside0.mk A40
 clear A40
 replace H := Option.bind_eq_some_iff.mp H
 obtain ⟨t112, A50, H⟩ := H
 replace H : ((turn_Middle.f a0 a1).bind fun t113 => (if t111 = (wrap32 (-t112)) then (if ((a1 + ((t111) % 4294967296)) % 4294967296) = a0 then ((turn_Of.f a2).bind fun t114 => ((turn_Short.f t114).bind fun t115 => (if t115 = a2 then ((turn_Between.f t113 a0 a1).bind fun t116 => (if t116 = true then ((turn_Between.f a0 a0 a1).bind fun t117 => (if t117 = true then ((turn_Between.f a1 a0 a1).bind fun t118 => (radomelaw04_TurnLaws.j0 k a0 a1 t113 (!t118))) else (radomelaw04_TurnLaws.j0 k a0 a1 t113 true))) else (radomelaw04_TurnLaws.j0 k a0 a1 t113 true))) else (radomelaw04_TurnLaws.j0 k a0 a1 t113 true)))) else (radomelaw04_TurnLaws.j0 k a0 a1 t113 true)) else (radomelaw04_TurnLaws.j0 k a0 a1 t113 true))) = some r := H
 have A5 := Aside0.mk A50
 clear A50
 replace H := Option.bind_eq_some_iff.mp H
 obtain ⟨t113, A60, H⟩ := H
 replace H : (if t111 = (wrap32 (-t112)) then (if ((a1 + ((t111) % 4294967296)) % 4294967296) = a0 then ((turn_Of.f a2).bind fun t114 => ((turn_Short.f t114).bind fun t115 => (if t115 = a2 then ((turn_Between.f t113 a0 a1).bind fun t116 => (if t116 = true then ((turn_Between.f a0 a0 a1).bind fun t117 => (if t117 = true then ((turn_Between.f a1 a0 a1).bind fun t118 => (radomelaw04_TurnLaws.j0 k a0 a1 t113 (!t118))) else (radomelaw04_TurnLaws.j0 k a0 a1 t113 true))) else (radomelaw04_TurnLaws.j0 k a0 a1 t113 true))) else (radomelaw04_TurnLaws.j0 k a0 a1 t113 true)))) else (radomelaw04_TurnLaws.j0 k a0 a1 t113 true)) else (radomelaw04_TurnLaws.j0 k a0 a1 t113 true)) = some r := H
 have A6 := Aside0.mk A60
 clear A60
 have HC7 := Aside0.mk H
 clear H
 go_enter Try.func5, Try.ntmps5
 go_upto_region 4 with (first | ((with_reducible refine gate_callee (f := 13) rfl ?_); refine goesL_ (some 18) rfl rfl Try.func13 (by kernel_rfl) rfl #[.int .u32 a0, .int .u32 a1] rfl (by (try simp only [List.map_toArray, List.map_cons, List.map_nil]); first | done | rfl | (simp only [List.length_drop, List.length_take]; rfl)) ?_; (with_reducible refine (turn_From.calls a0 a1 t111 _ A4.out).mono ?_); rintro e w' ⟨rfl, ⟨nd, rfl⟩⟩; refine ⟨_, rfl, ?_⟩) | ((with_reducible refine gate_callee (f := 13) rfl ?_); refine goesL_ (some 21) rfl rfl Try.func13 (by kernel_rfl) rfl #[.int .u32 a1, .int .u32 a0] rfl (by (try simp only [List.map_toArray, List.map_cons, List.map_nil]); first | done | rfl | (simp only [List.length_drop, List.length_take]; rfl)) ?_; (with_reducible refine (turn_From.calls a1 a0 t112 _ A5.out).mono ?_); rintro e w' ⟨rfl, ⟨nd, rfl⟩⟩; refine ⟨_, rfl, ?_⟩) | ((with_reducible refine gate_callee (f := 17) rfl ?_); refine goesL_ (some 24) rfl rfl Try.func17 (by kernel_rfl) rfl #[.int .u32 a0, .int .u32 a1] rfl (by (try simp only [List.map_toArray, List.map_cons, List.map_nil]); first | done | rfl | (simp only [List.length_drop, List.length_take]; rfl)) ?_; (with_reducible refine (turn_Middle.calls a0 a1 t113 _ A6.out).mono ?_); rintro e w' ⟨rfl, ⟨nd, rfl⟩⟩; refine ⟨_, rfl, ?_⟩))
 (try simp only [Act.put, List.setIfInBounds_toArray, List.set_cons_zero, List.set_cons_succ])
 go_cut [64] (fun v64 wc => ∃ (kq : Nat) (x64_6 : Bool), v64 = .bool x64_6 ∧ Aside0 (radomelaw04_TurnLaws.j0 kq a0 a1 t113 x64_6 = some r) ∧ Aside0 (kq ≤ k) ∧ Drawn0 w wc)
 case first =>
  have H := HC7.out
  clear HC7
  by_cases c8 : t111 = (wrap32 (-t112))
  ·
   rw [if_pos c8] at H
   have c8b0 : (t111 == (wrap32 (-t112))) = true := beq_iff_eq.mpr c8
   have c8b1 : (t111 != (wrap32 (-t112))) = false := bne_eq_false_iff_eq.mpr c8
   clear c8
   (first | rw [c8b0] | (simp only [i64_w, i32_w]; rw [c8b0]) | skip)
   by_cases c9 : ((a1 + ((t111) % 4294967296)) % 4294967296) = a0
   ·
    rw [if_pos c9] at H
    have c9b0 : (((a1 + ((t111) % 4294967296)) % 4294967296) == a0) = true := beq_iff_eq.mpr c9
    have c9b1 : (((a1 + ((t111) % 4294967296)) % 4294967296) != a0) = false := bne_eq_false_iff_eq.mpr c9
    (try (have c9n0 := c9b0; simp only [Int.add_emod_emod, Int.emod_add_emod, Int.sub_emod_emod, Int.emod_sub_emod] at c9n0))
    (try (have c9n1 := c9b1; simp only [Int.add_emod_emod, Int.emod_add_emod, Int.sub_emod_emod, Int.emod_sub_emod] at c9n1))
    clear c9
    replace H := Option.bind_eq_some_iff.mp H
    obtain ⟨t114, A100, H⟩ := H
    replace H : ((turn_Short.f t114).bind fun t115 => (if t115 = a2 then ((turn_Between.f t113 a0 a1).bind fun t116 => (if t116 = true then ((turn_Between.f a0 a0 a1).bind fun t117 => (if t117 = true then ((turn_Between.f a1 a0 a1).bind fun t118 => (radomelaw04_TurnLaws.j0 k a0 a1 t113 (!t118))) else (radomelaw04_TurnLaws.j0 k a0 a1 t113 true))) else (radomelaw04_TurnLaws.j0 k a0 a1 t113 true))) else (radomelaw04_TurnLaws.j0 k a0 a1 t113 true))) = some r := H
    have A10 := Aside0.mk A100
    clear A100
    replace H := Option.bind_eq_some_iff.mp H
    obtain ⟨t115, A110, H⟩ := H
    replace H : (if t115 = a2 then ((turn_Between.f t113 a0 a1).bind fun t116 => (if t116 = true then ((turn_Between.f a0 a0 a1).bind fun t117 => (if t117 = true then ((turn_Between.f a1 a0 a1).bind fun t118 => (radomelaw04_TurnLaws.j0 k a0 a1 t113 (!t118))) else (radomelaw04_TurnLaws.j0 k a0 a1 t113 true))) else (radomelaw04_TurnLaws.j0 k a0 a1 t113 true))) else (radomelaw04_TurnLaws.j0 k a0 a1 t113 true)) = some r := H
    have A11 := Aside0.mk A110
    clear A110
    by_cases c12 : t115 = a2
    ·
     rw [if_pos c12] at H
     have c12b0 : (t115 == a2) = true := beq_iff_eq.mpr c12
     have c12b1 : (t115 != a2) = false := bne_eq_false_iff_eq.mpr c12
     clear c12
     replace H := Option.bind_eq_some_iff.mp H
     obtain ⟨t116, A130, H⟩ := H
     replace H : (if t116 = true then ((turn_Between.f a0 a0 a1).bind fun t117 => (if t117 = true then ((turn_Between.f a1 a0 a1).bind fun t118 => (radomelaw04_TurnLaws.j0 k a0 a1 t113 (!t118))) else (radomelaw04_TurnLaws.j0 k a0 a1 t113 true))) else (radomelaw04_TurnLaws.j0 k a0 a1 t113 true)) = some r := H
     have A13 := Aside0.mk A130
     clear A130
     by_cases c14 : t116 = true
     ·
      subst c14
      have H1 : ((turn_Between.f a0 a0 a1).bind fun t117 => (if t117 = true then ((turn_Between.f a1 a0 a1).bind fun t118 => (radomelaw04_TurnLaws.j0 k a0 a1 t113 (!t118))) else (radomelaw04_TurnLaws.j0 k a0 a1 t113 true))) = some r := by rw [if_pos rfl] at H; exact H
      clear H
      have H := H1
      clear H1
      replace H := Option.bind_eq_some_iff.mp H
      obtain ⟨t117, A150, H⟩ := H
      replace H : (if t117 = true then ((turn_Between.f a1 a0 a1).bind fun t118 => (radomelaw04_TurnLaws.j0 k a0 a1 t113 (!t118))) else (radomelaw04_TurnLaws.j0 k a0 a1 t113 true)) = some r := H
      have A15 := Aside0.mk A150
      clear A150
      by_cases c16 : t117 = true
      ·
       subst c16
       have H1 : ((turn_Between.f a1 a0 a1).bind fun t118 => (radomelaw04_TurnLaws.j0 k a0 a1 t113 (!t118))) = some r := by rw [if_pos rfl] at H; exact H
       clear H
       have H := H1
       clear H1
       replace H := Option.bind_eq_some_iff.mp H
       obtain ⟨t118, A170, H⟩ := H
       replace H : (radomelaw04_TurnLaws.j0 k a0 a1 t113 (!t118)) = some r := H
       have A17 := Aside0.mk A170
       clear A170
       have H' := Aside0.mk H
       clear H
       go_wp2_with (first | (go_at_call 12; (with_reducible refine (turn_Of.calls a2 t114 _ A10.out).mono ?_); rintro e w' ⟨rfl, ⟨nd, rfl⟩⟩) | (go_at_call 10; (with_reducible refine (turn_Short.calls t114 t115 _ A11.out).mono ?_); rintro e w' ⟨rfl, ⟨nd, rfl⟩⟩) | (go_at_call 15; (with_reducible refine (turn_Between.calls t113 a0 a1 true _ A13.out).mono ?_); rintro e w' ⟨rfl, ⟨nd, rfl⟩⟩) | (go_at_call 15; (with_reducible refine (turn_Between.calls a0 a0 a1 true _ A15.out).mono ?_); rintro e w' ⟨rfl, ⟨nd, rfl⟩⟩) | (go_at_call 15; (with_reducible refine (turn_Between.calls a1 a0 a1 t118 _ A17.out).mono ?_); rintro e w' ⟨rfl, ⟨nd, rfl⟩⟩))
       go_meet
       case rel => exact ⟨_, (!t118), (by first | rfl | (simp; done) | (simp [*]; done)), H', ⟨by first | omega | exact Nat.le_refl _⟩, by repeat (first | exact Drawn0.refl _ | apply Drawn0.step)⟩
      ·
       replace c16 := Bool.eq_false_iff.mpr c16
       subst c16
       have H1 : (radomelaw04_TurnLaws.j0 k a0 a1 t113 true) = some r := by rw [if_neg (show ¬ (false = true) by decide)] at H; exact H
       clear H
       have H := H1
       clear H1
       have H' := Aside0.mk H
       clear H
       go_wp2_with (first | (go_at_call 12; (with_reducible refine (turn_Of.calls a2 t114 _ A10.out).mono ?_); rintro e w' ⟨rfl, ⟨nd, rfl⟩⟩) | (go_at_call 10; (with_reducible refine (turn_Short.calls t114 t115 _ A11.out).mono ?_); rintro e w' ⟨rfl, ⟨nd, rfl⟩⟩) | (go_at_call 15; (with_reducible refine (turn_Between.calls t113 a0 a1 true _ A13.out).mono ?_); rintro e w' ⟨rfl, ⟨nd, rfl⟩⟩) | (go_at_call 15; (with_reducible refine (turn_Between.calls a0 a0 a1 false _ A15.out).mono ?_); rintro e w' ⟨rfl, ⟨nd, rfl⟩⟩))
       go_meet
       case rel => exact ⟨_, (true), (by first | rfl | (simp; done) | (simp [*]; done)), H', ⟨by first | omega | exact Nat.le_refl _⟩, by repeat (first | exact Drawn0.refl _ | apply Drawn0.step)⟩
     ·
      replace c14 := Bool.eq_false_iff.mpr c14
      subst c14
      have H1 : (radomelaw04_TurnLaws.j0 k a0 a1 t113 true) = some r := by rw [if_neg (show ¬ (false = true) by decide)] at H; exact H
      clear H
      have H := H1
      clear H1
      have H' := Aside0.mk H
      clear H
      go_wp2_with (first | (go_at_call 12; (with_reducible refine (turn_Of.calls a2 t114 _ A10.out).mono ?_); rintro e w' ⟨rfl, ⟨nd, rfl⟩⟩) | (go_at_call 10; (with_reducible refine (turn_Short.calls t114 t115 _ A11.out).mono ?_); rintro e w' ⟨rfl, ⟨nd, rfl⟩⟩) | (go_at_call 15; (with_reducible refine (turn_Between.calls t113 a0 a1 false _ A13.out).mono ?_); rintro e w' ⟨rfl, ⟨nd, rfl⟩⟩))
      go_meet
      case rel => exact ⟨_, (true), (by first | rfl | (simp; done) | (simp [*]; done)), H', ⟨by first | omega | exact Nat.le_refl _⟩, by repeat (first | exact Drawn0.refl _ | apply Drawn0.step)⟩
    ·
     rw [if_neg c12] at H
     have c12b0 : (t115 == a2) = false := beq_eq_false_iff_ne.mpr c12
     have c12b1 : (t115 != a2) = true := bne_iff_ne.mpr c12
     have H' := Aside0.mk H
     clear H
     go_wp2_with (first | (go_at_call 12; (with_reducible refine (turn_Of.calls a2 t114 _ A10.out).mono ?_); rintro e w' ⟨rfl, ⟨nd, rfl⟩⟩) | (go_at_call 10; (with_reducible refine (turn_Short.calls t114 t115 _ A11.out).mono ?_); rintro e w' ⟨rfl, ⟨nd, rfl⟩⟩))
     go_meet
     case rel => exact ⟨_, (true), (by first | rfl | (simp; done) | (simp [*]; done)), H', ⟨by first | omega | exact Nat.le_refl _⟩, by repeat (first | exact Drawn0.refl _ | apply Drawn0.step)⟩
   ·
    rw [if_neg c9] at H
    have c9b0 : (((a1 + ((t111) % 4294967296)) % 4294967296) == a0) = false := beq_eq_false_iff_ne.mpr c9
    have c9b1 : (((a1 + ((t111) % 4294967296)) % 4294967296) != a0) = true := bne_iff_ne.mpr c9
    (try (have c9n0 := c9b0; simp only [Int.add_emod_emod, Int.emod_add_emod, Int.sub_emod_emod, Int.emod_sub_emod] at c9n0))
    (try (have c9n1 := c9b1; simp only [Int.add_emod_emod, Int.emod_add_emod, Int.sub_emod_emod, Int.emod_sub_emod] at c9n1))
    have H' := Aside0.mk H
    clear H
    go_wp2
    go_meet
    case rel => exact ⟨_, (true), (by first | rfl | (simp; done) | (simp [*]; done)), H', ⟨by first | omega | exact Nat.le_refl _⟩, by repeat (first | exact Drawn0.refl _ | apply Drawn0.step)⟩
  ·
   rw [if_neg c8] at H
   have c8b0 : (t111 == (wrap32 (-t112))) = false := beq_eq_false_iff_ne.mpr c8
   have c8b1 : (t111 != (wrap32 (-t112))) = true := bne_iff_ne.mpr c8
   (first | rw [c8b0] | (simp only [i64_w, i32_w]; rw [c8b0]) | skip)
   have H' := Aside0.mk H
   clear H
   go_wp2
   go_meet
   case rel => exact ⟨_, (true), (by first | rfl | (simp; done) | (simp [*]; done)), H', ⟨by first | omega | exact Nat.le_refl _⟩, by repeat (first | exact Drawn0.refl _ | apply Drawn0.step)⟩
 case rest =>
  clear HC7
  try clear c1
  try clear p2
  try clear p3
  try clear c5
  try clear c8
  try clear c8b0
  try clear c8b1
  try clear c9
  try clear c9b0
  try clear c9b1
  try clear c12
  try clear c12b0
  try clear c12b1
  try clear c13
  try clear c14
  try clear c16
  try clear c17
  obtain ⟨kq, x64_6, rfl, HA, HJ6, ⟨mc6, rfl⟩⟩ := hcut
  cases kq with
  | zero => exact absurd HA.out (by simp [radomelaw04_TurnLaws.j0])
  | succ kj6 =>
   have H := HA.out
   clear HA
   simp only [radomelaw04_TurnLaws.j0] at H
   by_cases c18 : x64_6 = true
   ·
    subst c18
    have H1 : (some false) = some r := by rw [if_pos rfl] at H; exact H
    clear H
    have H := H1
    clear H1
    obtain rfl := Option.some.inj H
    go_wp2
    go_ret
    exact ⟨by first | rfl | (simp; done) | (simp [*]; done), by repeat (first | exact Drawn0.refl _ | apply Drawn0.step)⟩
   ·
    replace c18 := Bool.eq_false_iff.mpr c18
    subst c18
    have H1 : (if ((t113 - a0) % 4294967296) = ((a1 - t113) % 4294967296) then ((turn_Between.f a1 a0 a0).bind fun t119 => (if (t119 == (a0 == a1)) = true then ((radomelaw04_sure.f kj6).bind fun t120 => (some t120)) else (some false))) else (if ((((t113 - a0) % 4294967296) + 1) % 4294967296) = ((a1 - t113) % 4294967296) then ((turn_Between.f a1 a0 a0).bind fun t121 => (if (t121 == (a0 == a1)) = true then ((radomelaw04_sure.f kj6).bind fun t122 => (some t122)) else (some false))) else (some false))) = some r := by rw [if_neg (show ¬ (false = true) by decide)] at H; exact H
    clear H
    have H := H1
    clear H1
    by_cases c19 : ((t113 - a0) % 4294967296) = ((a1 - t113) % 4294967296)
    ·
     rw [if_pos c19] at H
     have c19b0 : (((t113 - a0) % 4294967296) == ((a1 - t113) % 4294967296)) = true := beq_iff_eq.mpr c19
     have c19b1 : (((t113 - a0) % 4294967296) != ((a1 - t113) % 4294967296)) = false := bne_eq_false_iff_eq.mpr c19
     (try (have c19n0 := c19b0; simp only [Int.add_emod_emod, Int.emod_add_emod, Int.sub_emod_emod, Int.emod_sub_emod] at c19n0))
     (try (have c19n1 := c19b1; simp only [Int.add_emod_emod, Int.emod_add_emod, Int.sub_emod_emod, Int.emod_sub_emod] at c19n1))
     clear c19
     replace H := Option.bind_eq_some_iff.mp H
     obtain ⟨t119, A200, H⟩ := H
     replace H : (if (t119 == (a0 == a1)) = true then ((radomelaw04_sure.f kj6).bind fun t120 => (some t120)) else (some false)) = some r := H
     have A20 := Aside0.mk A200
     clear A200
     by_cases c21 : (t119 == (a0 == a1)) = true
     ·
      rw [if_pos c21] at H
      have c21b0 : (t119 == (a0 == a1)) = true := c21
      (try (have c21b1 : decide (t119 = (a0 == a1)) = true := by simpa using c21))
      (try (have c21b2 : (t119 == (a0 == a1)) = true := by simpa using c21))
      clear c21
      replace H := Option.bind_eq_some_iff.mp H
      obtain ⟨t120, A220, H⟩ := H
      replace H : (some t120) = some r := H
      have A22 := Aside0.mk A220
      clear A220
      obtain rfl := Option.some.inj H
      go_wp2_with (first | (go_at_call 15; (with_reducible refine (turn_Between.calls a1 a0 a0 t119 _ A20.out).mono ?_); rintro e w' ⟨rfl, ⟨nd, rfl⟩⟩) | (go_at_call 19; (with_reducible refine (radomelaw04_sure.calls kj6  t120 _ A22.out).mono ?_); rintro e w' ⟨rfl, ⟨nd, rfl⟩⟩))
      go_ret
      exact ⟨by first | rfl | (simp; done) | (simp [*]; done), by repeat (first | exact Drawn0.refl _ | apply Drawn0.step)⟩
     ·
      rw [if_neg c21] at H
      have c21b0 : (t119 == (a0 == a1)) = false := by simpa using c21
      (try (have c21b1 : decide (t119 = (a0 == a1)) = false := by simpa using c21))
      (try (have c21b2 : (t119 == (a0 == a1)) = false := by simpa using c21))
      (try (have c21b3 : ¬ (t119 = (a0 == a1)) := by simpa using c21))
      clear c21
      obtain rfl := Option.some.inj H
      go_wp2_with (first | (go_at_call 15; (with_reducible refine (turn_Between.calls a1 a0 a0 t119 _ A20.out).mono ?_); rintro e w' ⟨rfl, ⟨nd, rfl⟩⟩))
      go_ret
      exact ⟨by first | rfl | (simp; done) | (simp [*]; done), by repeat (first | exact Drawn0.refl _ | apply Drawn0.step)⟩
    ·
     rw [if_neg c19] at H
     have c19b0 : (((t113 - a0) % 4294967296) == ((a1 - t113) % 4294967296)) = false := beq_eq_false_iff_ne.mpr c19
     have c19b1 : (((t113 - a0) % 4294967296) != ((a1 - t113) % 4294967296)) = true := bne_iff_ne.mpr c19
     (try (have c19n0 := c19b0; simp only [Int.add_emod_emod, Int.emod_add_emod, Int.sub_emod_emod, Int.emod_sub_emod] at c19n0))
     (try (have c19n1 := c19b1; simp only [Int.add_emod_emod, Int.emod_add_emod, Int.sub_emod_emod, Int.emod_sub_emod] at c19n1))
     by_cases c23 : ((((t113 - a0) % 4294967296) + 1) % 4294967296) = ((a1 - t113) % 4294967296)
     ·
      rw [if_pos c23] at H
      have c23b0 : (((((t113 - a0) % 4294967296) + 1) % 4294967296) == ((a1 - t113) % 4294967296)) = true := beq_iff_eq.mpr c23
      have c23b1 : (((((t113 - a0) % 4294967296) + 1) % 4294967296) != ((a1 - t113) % 4294967296)) = false := bne_eq_false_iff_eq.mpr c23
      (try (have c23n0 := c23b0; simp only [Int.add_emod_emod, Int.emod_add_emod, Int.sub_emod_emod, Int.emod_sub_emod] at c23n0))
      (try (have c23n1 := c23b1; simp only [Int.add_emod_emod, Int.emod_add_emod, Int.sub_emod_emod, Int.emod_sub_emod] at c23n1))
      clear c23
      replace H := Option.bind_eq_some_iff.mp H
      obtain ⟨t121, A240, H⟩ := H
      replace H : (if (t121 == (a0 == a1)) = true then ((radomelaw04_sure.f kj6).bind fun t122 => (some t122)) else (some false)) = some r := H
      have A24 := Aside0.mk A240
      clear A240
      by_cases c25 : (t121 == (a0 == a1)) = true
      ·
       rw [if_pos c25] at H
       have c25b0 : (t121 == (a0 == a1)) = true := c25
       (try (have c25b1 : decide (t121 = (a0 == a1)) = true := by simpa using c25))
       (try (have c25b2 : (t121 == (a0 == a1)) = true := by simpa using c25))
       clear c25
       replace H := Option.bind_eq_some_iff.mp H
       obtain ⟨t122, A260, H⟩ := H
       replace H : (some t122) = some r := H
       have A26 := Aside0.mk A260
       clear A260
       obtain rfl := Option.some.inj H
       go_wp2_with (first | (go_at_call 15; (with_reducible refine (turn_Between.calls a1 a0 a0 t121 _ A24.out).mono ?_); rintro e w' ⟨rfl, ⟨nd, rfl⟩⟩) | (go_at_call 19; (with_reducible refine (radomelaw04_sure.calls kj6  t122 _ A26.out).mono ?_); rintro e w' ⟨rfl, ⟨nd, rfl⟩⟩))
       go_ret
       exact ⟨by first | rfl | (simp; done) | (simp [*]; done), by repeat (first | exact Drawn0.refl _ | apply Drawn0.step)⟩
      ·
       rw [if_neg c25] at H
       have c25b0 : (t121 == (a0 == a1)) = false := by simpa using c25
       (try (have c25b1 : decide (t121 = (a0 == a1)) = false := by simpa using c25))
       (try (have c25b2 : (t121 == (a0 == a1)) = false := by simpa using c25))
       (try (have c25b3 : ¬ (t121 = (a0 == a1)) := by simpa using c25))
       clear c25
       obtain rfl := Option.some.inj H
       go_wp2_with (first | (go_at_call 15; (with_reducible refine (turn_Between.calls a1 a0 a0 t121 _ A24.out).mono ?_); rintro e w' ⟨rfl, ⟨nd, rfl⟩⟩))
       go_ret
       exact ⟨by first | rfl | (simp; done) | (simp [*]; done), by repeat (first | exact Drawn0.refl _ | apply Drawn0.step)⟩
     ·
      rw [if_neg c23] at H
      have c23b0 : (((((t113 - a0) % 4294967296) + 1) % 4294967296) == ((a1 - t113) % 4294967296)) = false := beq_eq_false_iff_ne.mpr c23
      have c23b1 : (((((t113 - a0) % 4294967296) + 1) % 4294967296) != ((a1 - t113) % 4294967296)) = true := bne_iff_ne.mpr c23
      (try (have c23n0 := c23b0; simp only [Int.add_emod_emod, Int.emod_add_emod, Int.sub_emod_emod, Int.emod_sub_emod] at c23n0))
      (try (have c23n1 := c23b1; simp only [Int.add_emod_emod, Int.emod_add_emod, Int.sub_emod_emod, Int.emod_sub_emod] at c23n1))
      obtain rfl := Option.some.inj H
      go_wp2
      go_ret
      exact ⟨by first | rfl | (simp; done) | (simp [*]; done), by repeat (first | exact Drawn0.refl _ | apply Drawn0.step)⟩

/-- THE ONE PURE STATEMENT of radomelaw04_TurnLaws. -/
def radomelaw04_TurnLaws.Pure : Prop := ∀ (a0 : Int) (a1 : Int) (a2 : Int), (Lit.int .u32 a0).wf = true → (Lit.int .u32 a1).wf = true → (Lit.int .u16 a2).wf = true → ∃ k, radomelaw04_TurnLaws.f k a0 a1 a2 = some true
theorem radomelaw04_TurnLaws.walk (P : radomelaw04_TurnLaws.Pure) (a0 : Int) (a1 : Int) (a2 : Int) (w : World) (hv0 : (Lit.int .u32 a0).wf = true) (hv1 : (Lit.int .u32 a1).wf = true) (hv2 : (Lit.int .u16 a2).wf = true) :
  Calls Try.prog 5 #[.int .u32 a0, .int .u32 a1, .int .u16 a2] w fun e w' => e = .returned (.bool true) ∧ Below w.heap.size w w' := by
 obtain ⟨k, h⟩ := P a0 a1 a2 hv0 hv1 hv2
 refine (radomelaw04_TurnLaws.calls k a0 a1 a2 true w h).mono ?_
 rintro e w' ⟨rfl, hd⟩
 exact ⟨rfl, hd.below⟩

end Go.Proofs.Ytddcfnhbedpbnaa.QTurnLaws

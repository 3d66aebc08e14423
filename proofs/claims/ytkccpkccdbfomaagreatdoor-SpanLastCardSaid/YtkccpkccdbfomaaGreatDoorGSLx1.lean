/- A text of this session, written by a program (wip/k/gen.py): Go functions as Lean functions, and proofs that the code comes to them. -/
import Derived.Test.YtkccpkccdbfomaaGreatDoorGSLx0
namespace Go.Proofs.YtkccpkccdbfomaaGreatDoor.GSL
open Go Go.RowKit Go.Proofs.YtkccpkccdbfomaaGreatDoorK Go.Proofs.YtkccpkccdbfomaaGreatDoor
set_option maxRecDepth 100000
set_option maxHeartbeats 2000000
set_option linter.unusedVariables false
set_option linter.unusedSimpArgs false
/-! ### (radome/wide.Int).Move -/
noncomputable def wide_Int_Move.C : Code := (Tryz.f72.body).getD .skip
def wide_Int_Move.out (r : wide_Int × (Option Int)) (H : Hp) (v : Value) : Prop := ∃ v0, v = .tuple ⟨[.agg ⟨[.bool r.1.f_neg, v0]⟩, errV 104 r.2]⟩ ∧ Ro (Kd.int .u32) H v0 r.1.f_w
theorem wide_Int_Move.out_mono (r : wide_Int × (Option Int)) {H H' : Hp} {v : Value} (hle : H.le H') (h : wide_Int_Move.out r H v) : wide_Int_Move.out r H' v := by
 obtain ⟨v0, rfl, h0⟩ := h; exact ⟨v0, rfl, h0.mono hle⟩
abbrev wide_Int_Move.R (H0 : Hp) (L : Items) (r : wide_Int × (Option Int)) : Value → Hp → Items → Prop := fun v H' L' => (∃ p, L' = p ++ L) ∧ H0.le H' ∧ wide_Int_Move.out r H' v
noncomputable def wide_Int_Move.j1 (k : Nat)  (a_0 : Bool) (a_1 : List Int) (lost : Bool) (rest : List Int) : Option (wide_Int × (Option Int)) := (slices_Clone_uint32_uint32.f k rest).bind fun y68 => (wide_made.f k a_0 y68).bind fun y74 => if ((y74.2.isSome || (!a_0)) || (!lost)) = true then (some (y74.1, y74.2)) else ((wide_Of.f k 1).bind fun y97 => (wide_Int_Sub.f k y74.1 y97).bind fun y103 => some (y103.1, y103.2))
noncomputable def wide_Int_Move.f (k : Nat) (a : wide_Int) (n : Int) : Option (wide_Int × (Option Int)) := if ((decide (n < (-4096))) || (decide (4096 < n))) = true then (some ((⟨false, []⟩ : wide_Int), some 1)) else (if 0 ≤ n then (if 0 ≤ w64 (Int.tdiv n 32) ∧ w64 (Int.tdiv n 32) ≤ 70368744177664 then ((wide_up.f k a.f_w (Int.tmod n 32)).bind fun y11 => if (List.replicate (w64 (Int.tdiv n 32) : Int).toNat (0 : Int)).length + y11.length ≤ 35184372088704 then ((wide_made.f k a.f_neg ((List.replicate (w64 (Int.tdiv n 32) : Int).toNat (0 : Int)) ++ y11)).bind fun y26 => some (y26.1, y26.2)) else none) else none) else (if (0 : Int) ≤ 0 ∧ (0 : Int) ≤ min (w64 (Int.tdiv (w64 (0 - n)) 32)) (a.f_w.length : Int) ∧ min (w64 (Int.tdiv (w64 (0 - n)) 32)) (a.f_w.length : Int) ≤ (a.f_w.length : Int) then ((slices_ContainsFunc_uint32_uint32_wide_Int_Move_1.f k (cut a.f_w 0 (min (w64 (Int.tdiv (w64 (0 - n)) 32)) (a.f_w.length : Int)))).bind fun y35 => if (0 : Int) ≤ min (w64 (Int.tdiv (w64 (0 - n)) 32)) (a.f_w.length : Int) ∧ (min (w64 (Int.tdiv (w64 (0 - n)) 32)) (a.f_w.length : Int) : Int) ≤ (a.f_w.length : Int) ∧ (a.f_w.length : Int) ≤ (a.f_w.length : Int) then (if ((decide ((min (w64 (Int.tdiv (w64 (0 - n)) 32)) (a.f_w.length : Int)) < (a.f_w.length : Int))) && (decide ((min (w64 (Int.tdiv (w64 (0 - n)) 32)) (a.f_w.length : Int)) = (w64 (Int.tdiv (w64 (0 - n)) 32))))) = true then (if (!y35) = true → (0 : Int) ≤ 0 ∧ 0 < ((cut a.f_w (min (w64 (Int.tdiv (w64 (0 - n)) 32)) (a.f_w.length : Int)) (a.f_w.length : Int)).length : Int) then (if (!y35) = true → 0 ≤ (Int.tmod (w64 (0 - n)) 32) then ((wide_down.f k (cut a.f_w (min (w64 (Int.tdiv (w64 (0 - n)) 32)) (a.f_w.length : Int)) (a.f_w.length : Int)) (Int.tmod (w64 (0 - n)) 32)).bind fun y62 => wide_Int_Move.j1 k a.f_neg a.f_w (y35 || (!decide ((iand .u32 (rd (cut a.f_w (min (w64 (Int.tdiv (w64 (0 - n)) 32)) (a.f_w.length : Int)) (a.f_w.length : Int)) 0) ((((1 * 2 ^ shn .u32 (Int.tmod (w64 (0 - n)) 32)) % 4294967296) - 1) % 4294967296)) = 0))) y62) else none) else none) else (wide_Int_Move.j1 k a.f_neg a.f_w y35 [])) else none) else none))
theorem wide_Int_Move.j1_mono {k : Nat} : ∀ y0 y1 y2 y3, LeO (wide_Int_Move.j1 k y0 y1 y2 y3) (wide_Int_Move.j1 (k + 1) y0 y1 y2 y3) := fun _ _ _ _ => (LeO.bind (slices_Clone_uint32_uint32.mono k _) fun _ => LeO.bind (wide_made.mono k _ _) fun _ => LeO.ite (LeO.refl _) (LeO.bind (wide_Of.mono k _) fun _ => LeO.bind (wide_Int_Sub.mono k _ _) fun _ => LeO.refl _))
theorem wide_Int_Move.mono : ∀ k y0 y1, LeO (wide_Int_Move.f k y0 y1) (wide_Int_Move.f (k + 1) y0 y1) := fun k _ _ => by unfold wide_Int_Move.f; exact (LeO.ite (LeO.refl _) (LeO.ite (LeO.ite (LeO.bind (wide_up.mono k _ _) fun _ => LeO.ite (LeO.bind (wide_made.mono k _ _) fun _ => LeO.refl _) (LeO.refl _)) (LeO.refl _)) (LeO.ite (LeO.bind (slices_ContainsFunc_uint32_uint32_wide_Int_Move_1.mono k _) fun _ => LeO.ite (LeO.ite (LeO.ite (LeO.ite (LeO.bind (wide_down.mono k _ _) fun _ => wide_Int_Move.j1_mono (k := k)  _ _ _ _) (LeO.refl _)) (LeO.refl _)) (wide_Int_Move.j1_mono (k := k)  _ _ _ _)) (LeO.refl _)) (LeO.refl _))))
noncomputable def wide_Int_Move.Kj1 : List Item := .code (seqR (seqR (seqR (seqR (seqR (seqR (seqR wide_Int_Move.C))))))) :: []
theorem wide_Int_Move.j1_ok {k : Nat} {H0 H : Hp} {L : Items} {r : wide_Int × (Option Int)} {jk_ : Nat → Value} {a_0 : Bool} {a_1 : List Int} {lost : Bool} {rest : List Int} {v_a_1 : Value} {v_rest : Value} {b_a : Nat} {b_t4 : Nat} (hle : H0.le H) (he : wide_Int_Move.j1 k a_0 a_1 lost rest = some r) (h_a_1 : Ro (Kd.int .u32) H v_a_1 a_1) (h_rest : Ro (Kd.int .u32) H v_rest rest) : Wp Tryz.prog 72 109 wide_Int_Move.Kj1 (upd (upd (upd (upd (upd jk_ 2 (.pointer (some ⟨b_a, 0, none⟩))) 4 (.pointer (some ⟨b_t4, 0, none⟩))) 5 (errV 104 none)) 8 (.bool lost)) 9 (v_rest)) H (some (b_t4, .cells ⟨[.bool false, .slice none 0 0]⟩ 24 (0, 0)) :: some (b_a, .cells ⟨[.bool a_0, v_a_1]⟩ 24 (0, 0)) :: L) (wide_Int_Move.R H0 L r) := by
 unfold wide_Int_Move.j1 at he
 unfold wide_Int_Move.Kj1
 refine w_seq ?_
 obtain ⟨y68, hy69, he⟩ := Option.bind_eq_some_iff.1 he
 obtain ⟨y74, hy75, he⟩ := Option.bind_eq_some_iff.1 he
 refine w_none (?_)
 refine w_drawn (p := 10) (tl := [10]) [[], [(0, some 84)], [], [(2, some 86)], [(1, some 85), (3, some 87)], [(4, some 88)], [(5, some 83)], [(5, some 83)], [], [(6, some 89), (8, some 10)]] [some 84, some 85, some 86, some 87, some 88, some 83, some 89, some 90, some 10, none] (fctF (.is (.pointer (some ⟨b_a, 0, none⟩)) :: .is (.bool a_0) :: .is (v_rest) :: .ro (Kd.int .u32) (y68) :: .of (wide_made.out y74) (wide_made.out_mono _) :: .of (fun H v => ∃ v80, v = .tuple ⟨[.agg ⟨[.bool y74.1.f_neg, v80]⟩, errV 104 y74.2]⟩ ∧ Ro (Kd.int .u32) H v80 y74.1.f_w) (by rintro _ _ _ hle ⟨v80, rfl, h81⟩; exact ⟨v80, rfl, h81.mono hle⟩) :: .of (fun H v => ∃ v82, v = .agg ⟨[.bool y74.1.f_neg, v82]⟩ ∧ Ro (Kd.int .u32) H v82 y74.1.f_w) (by rintro _ _ _ hle ⟨v82, rfl, h83⟩; exact ⟨v82, rfl, h83.mono hle⟩) :: .is (errV 104 y74.2) :: .box 24 [.bool false, .slice none 0 0] :: .st 8 (fun H bq_ itq_ => ∃ v85, itq_ = some (bq_, .cells ⟨[.bool y74.1.f_neg, v85]⟩ 24 (0, 0)) ∧ Ro (Kd.int .u32) H v85 y74.1.f_w) (by rintro _ _ _ _ hle ⟨v85, rfl, h86⟩; exact ⟨v85, rfl, h86.mono hle⟩) :: [])) (fun m_ => pk (m_ 9) (m_ 8) :: some (b_t4, .cells ⟨[.bool false, .slice none 0 0]⟩ 24 (0, 0)) :: some (b_a, .cells ⟨[.bool a_0, v_a_1]⟩ 24 (0, 0)) :: L) (fun _ => none) mixed (by kernel_rfl) (by kernel_rfl) rfl (fct_mono (by kernel_rfl)) ⟨(fun H' m_ hH hm_ hu_ => depK_nil <| s_d (m_ 0) rfl (d_fld (o' := 0) Tryz.underlying24 rfl sz4 rfl rfl rfl) (by exact rfl) rfl), (by rintro H' m_ hH hm_ hu_ _ rfl; exact depK_nil <| s_d (m_ 1) rfl (d_loado (v := .bool a_0) ty4 rfl (.there (.there .here)) rfl rfl rfl rfl) (by exact rfl) rfl), (fun H' m_ hH hm_ hu_ => depK_nil <| s_d (m_ 2) rfl (d_move (v := v_rest) rfl) (by exact rfl) rfl), (by rintro H' m_ hH hm_ hu_ _ rfl; exact depK_nil <| s_k (m_ 3) rfl (o_call co119 (vs := [v_rest]) rfl (slices_Clone_uint32_uint32.callsR k hy69 (h_rest.mono hH))) rfl (by rintro v_ H_ _ ⟨rfl, e_, h_⟩; exact ⟨rfl, e_, h_⟩)), (by rintro H' m_ hH hm_ hu_ _ rfl v72 (h73 : Ro (Kd.int .u32) H' v72 y68); exact depK_nil <| s_k (m_ 4) rfl (o_call co115 (vs := [.bool a_0, v72]) rfl (wide_made.calls k hy75 h73)) rfl (by rintro v_ H_ _ ⟨rfl, e_, h_⟩; exact ⟨rfl, e_, h_⟩)), (by rintro H' m_ hH hm_ hu_ _ ⟨v78, rfl, h79⟩; exact depK_nil <| s_d (m_ 5) rfl (d_move (v := .tuple ⟨[.agg ⟨[.bool y74.1.f_neg, v78]⟩, errV 104 y74.2]⟩) rfl) (by exact ⟨v78, rfl, h79⟩) rfl), (by rintro H' m_ hH hm_ hu_ _ ⟨v80, rfl, h81⟩; exact depK_nil <| s_d (m_ 6) rfl (d_ext (vs := [.agg ⟨[.bool y74.1.f_neg, v80]⟩, errV 104 y74.2]) rfl rfl) (by exact ⟨v80, rfl, h81⟩) rfl), (by rintro H' m_ hH hm_ hu_ _ ⟨v80, rfl, h81⟩; exact depK_nil <| s_d (m_ 7) rfl (d_ext (vs := [.agg ⟨[.bool y74.1.f_neg, v80]⟩, errV 104 y74.2]) rfl rfl) (by exact rfl) rfl), (fun H' m_ hH hm_ hu_ => depK_nil <| s_box hm_ rfl rfl (o_alloc zr24 rfl) rfl (fun _ => (pk_upd (hu_ 9 (by kernel_rfl)))) (by exact fun b_ => ⟨b_, rfl, rfl⟩)), (by rintro H' m_ hH hm_ hu_ _ ⟨v82, rfl, h83⟩ _ ⟨b84, rfl, hb84_⟩; exact depK_nil <| s_store2 (Λ' := fun z_ => z_ :: some (b_t4, .cells ⟨[.bool false, .slice none 0 0]⟩ 24 (0, 0)) :: some (b_a, .cells ⟨[.bool a_0, v_a_1]⟩ 24 (0, 0)) :: L) (some (b84, .cells ⟨[.bool y74.1.f_neg, v82]⟩ 24 (0, 0))) hm_ rfl hb84_ rfl (o_store (v := .agg ⟨[.bool y74.1.f_neg, v82]⟩) sz24 rfl rfl rfl rfl (one_cons rfl (one_cons (h83.one) one_nil)) .here (.here (.here .done))) rfl rfl (by exact ⟨rfl, v82, congrArg (fun b_ => (some (b_, Obj.cells ⟨[.bool y74.1.f_neg, v82]⟩ 24 (0, 0)) : Item')) (bof_eq hb84_).symm, h83⟩)), trivial⟩ ?_
 intro H89 e90
 rintro _ _ rfl _ _ rfl _ _ rfl v72 _ (h73 : Ro (Kd.int .u32) H89 v72 y68) _ _ ⟨v78, rfl, h79⟩ _ _ ⟨v80, rfl, h81⟩ _ _ ⟨v82, rfl, h83⟩ _ _ rfl _ _ ⟨b84, rfl, rfl⟩ _ i87 ⟨rfl, v85, h88, h86⟩
 replace h88 : i87 = some (b84, .cells ⟨[.bool y74.1.f_neg, v85]⟩ 24 (0, 0)) := h88
 subst h88
 refine w_it (L' := some (b84, .cells ⟨[.bool y74.1.f_neg, v85]⟩ 24 (0, 0)) :: some (b_t4, .cells ⟨[.bool false, .slice none 0 0]⟩ 24 (0, 0)) :: some (b_a, .cells ⟨[.bool a_0, v_a_1]⟩ 24 (0, 0)) :: L) rfl <| w_d rfl (d_assign (v := errV 104 y74.2) rfl) <| w_done <| w_seq <| w_seq <| w_region rfl <| w_d rfl (d_move (v := errV 104 y74.2) rfl) <| w_d rfl (d_nenil (e := y74.2) Tryz.underlying30 rfl) <| w_d rfl (d_move (v := .bool y74.2.isSome) rfl) <| w_g (g := !y74.2.isSome) rfl rfl rfl wn_f (fun g91 => d_fld (o' := 0) Tryz.underlying24 rfl sz4 rfl rfl rfl) <| w_g (g := !y74.2.isSome) rfl rfl rfl wn_f (fun g92 => d_loado (v := .bool a_0) ty4 (cvt g92) (.there (.there .here)) rfl rfl rfl rfl) <| w_g (g := !y74.2.isSome) rfl rfl rfl wn_f (fun g93 => d_not (b := a_0) (cvt g93)) ?_
 refine w_d rfl (d_or' (b := y74.2.isSome) (p := (!a_0)) rfl rfl rfl) <| w_d rfl (d_move (v := .bool (y74.2.isSome || (!a_0))) rfl) <| w_g (g := !(y74.2.isSome || (!a_0))) rfl rfl rfl wn_f (fun g94 => d_move (v := .bool lost) rfl) <| w_g (g := !(y74.2.isSome || (!a_0))) rfl rfl rfl wn_f (fun g95 => d_not (b := lost) (cvt g95)) <| w_d rfl (d_or' (b := (y74.2.isSome || (!a_0))) (p := (!lost)) rfl rfl rfl) <| w_done ?_
 rcases its he with ⟨c96, he⟩ | ⟨c96, he⟩
 ·
  refine w_then rfl c96 <| w_seq <| w_region rfl <| w_d rfl (d_loado (v := .agg ⟨[.bool y74.1.f_neg, v85]⟩) ty24 rfl .here rfl rfl rfl rfl) <| w_d rfl (d_move (v := errV 104 y74.2) rfl) <| w_a0 rfl (o_store (v := .agg ⟨[.bool y74.1.f_neg, v85]⟩) sz24 rfl rfl rfl rfl (one_cons rfl (one_cons (h86.one) one_nil)) (.there .here) (.here (.here .done))) ?_
  rintro _ _ _ ⟨rfl, rfl, rfl⟩
  refine w_d rfl (d_assign (v := errV 104 y74.2) rfl) <| w_done ?_
  obtain rfl := Option.some.inj he
  refine w_return fn_72 rs_72 (.box (v := .agg ⟨[.bool y74.1.f_neg, v85]⟩) rfl ty24 rfl rfl (.there .here) rfl (.tmp (v := errV 104 y74.2) rfl .nil)) <| ⟨⟨[_, _, _], rfl⟩, hle.trans e90, ⟨v85, rfl, h86⟩⟩
 ·
  refine w_else rfl (Bool.eq_false_iff.2 c96) <| w_skip <| w_seq ?_
  obtain ⟨y97, hy98, he⟩ := Option.bind_eq_some_iff.1 he
  obtain ⟨y103, hy104, he⟩ := Option.bind_eq_some_iff.1 he
  refine w_drawn (p := 5) (tl := [5, 6]) [[], [], [(0, some 104), (1, some 105)], [(2, some 106)], [(2, some 106)]] [some 104, some 105, some 106, some 107, some 108] (fctF (.is (.agg ⟨[.bool y74.1.f_neg, v85]⟩) :: .of (wide_Of.out y97) (wide_Of.out_mono _) :: .of (wide_Int_Sub.out y103) (wide_Int_Sub.out_mono _) :: .of (fun H v => ∃ v109, v = .agg ⟨[.bool y103.1.f_neg, v109]⟩ ∧ Ro (Kd.int .u32) H v109 y103.1.f_w) (by rintro _ _ _ hle ⟨v109, rfl, h110⟩; exact ⟨v109, rfl, h110.mono hle⟩) :: .is (errV 104 y103.2) :: [])) (fun m_ => some (b84, .cells ⟨[.bool y74.1.f_neg, v85]⟩ 24 (0, 0)) :: some (b_t4, .cells ⟨[.bool false, .slice none 0 0]⟩ 24 (0, 0)) :: some (b_a, .cells ⟨[.bool a_0, v_a_1]⟩ 24 (0, 0)) :: L) (fun _ => none) mixed (by kernel_rfl) (by kernel_rfl) rfl (fct_mono (by kernel_rfl)) ⟨(fun H' m_ hH hm_ hu_ => depK_nil <| s_d (m_ 0) rfl (d_loado (v := .agg ⟨[.bool y74.1.f_neg, v85]⟩) ty24 rfl .here rfl rfl rfl rfl) (by exact rfl) rfl), (fun H' m_ hH hm_ hu_ => depK_nil <| s_k (m_ 1) rfl (o_call co71 (vs := [.int .i64 1]) rfl (wide_Of.calls k hy98)) rfl (by rintro v_ H_ _ ⟨rfl, e_, h_⟩; exact ⟨rfl, e_, h_⟩)), (by rintro H' m_ hH hm_ hu_ _ rfl _ ⟨v101, rfl, h102⟩; exact depK_nil <| s_k (m_ 2) rfl (o_call co120 (vs := [.agg ⟨[.bool y74.1.f_neg, v85]⟩, .agg ⟨[.bool y97.f_neg, v101]⟩]) rfl (wide_Int_Sub.calls k (a := y74.1) (b := y97) hy104 (h86.mono hH) h102)) rfl (by rintro v_ H_ _ ⟨rfl, e_, h_⟩; exact ⟨rfl, e_, h_⟩)), (by rintro H' m_ hH hm_ hu_ _ ⟨v107, rfl, h108⟩; exact depK_nil <| s_d (m_ 3) rfl (d_ext (vs := [.agg ⟨[.bool y103.1.f_neg, v107]⟩, errV 104 y103.2]) rfl rfl) (by exact ⟨v107, rfl, h108⟩) rfl), (by rintro H' m_ hH hm_ hu_ _ ⟨v107, rfl, h108⟩; exact depK_nil <| s_d (m_ 4) rfl (d_ext (vs := [.agg ⟨[.bool y103.1.f_neg, v107]⟩, errV 104 y103.2]) rfl rfl) (by exact rfl) rfl), trivial⟩ ?_
  intro H111 e112
  rintro _ _ rfl _ _ ⟨v101, rfl, h102⟩ _ _ ⟨v107, rfl, h108⟩ _ _ ⟨v109, rfl, h110⟩ _ _ rfl
  refine w_a0 rfl (o_store (v := .agg ⟨[.bool y103.1.f_neg, v109]⟩) sz24 rfl rfl rfl rfl (one_cons rfl (one_cons (h110.one) one_nil)) (.there .here) (.here (.here .done))) ?_
  rintro _ _ _ ⟨rfl, rfl, rfl⟩
  refine w_d rfl (d_assign (v := errV 104 y103.2) rfl) <| w_done ?_
  obtain rfl := Option.some.inj he
  refine w_return fn_72 rs_72 (.box (v := .agg ⟨[.bool y103.1.f_neg, v109]⟩) rfl ty24 rfl rfl (.there .here) rfl (.tmp (v := errV 104 y103.2) rfl .nil)) <| ⟨⟨[_, _, _], rfl⟩, hle.trans (e90.trans e112), ⟨v109, rfl, h110⟩⟩
theorem wide_Int_Move.calls (k : Nat) {H : Hp} {L : Items} {a : wide_Int} {n : Int} {v0_a : Value} {r : wide_Int × (Option Int)} (he : wide_Int_Move.f k a n = some r) (h0_a : Ro (Kd.int .u32) H v0_a a.f_w) : Ct Tryz.prog 72 ⟨[.agg ⟨[.bool a.f_neg, v0_a]⟩, .int .i64 n]⟩ H L (fun v H' L' => L = L' ∧ H.le H' ∧ wide_Int_Move.out r H' v) := by
 refine ct_out (O := wide_Int_Move.out r) ?_
 have hle : H.le H := .refl _
 unfold wide_Int_Move.f at he
 refine ct_enter (args := [.agg ⟨[.bool a.f_neg, v0_a]⟩, .int .i64 n]) fn_72 rfl nt_72 rfl <| w_seq <| w_region rfl <| w_a rfl (o_box (v := .agg ⟨[.bool a.f_neg, v0_a]⟩) rfl rfl) ?_
 rintro _ _ _ ⟨b1, rfl, rfl, rfl⟩
 refine w_a rfl (o_alloc zr24 rfl) ?_
 rintro _ _ _ ⟨b2, rfl, rfl, rfl⟩
 refine w_d rfl (d_assign (v := errV 104 none) rfl) <| w_done <| w_seq <| w_seq <| w_region rfl <| w_d rfl (d_move (v := .int .i64 n) rfl) <| w_d rfl (d_lss rfl rfl) <| w_d rfl (d_move (v := .bool (decide (n < (-4096)))) rfl) <| w_g (g := !(decide (n < (-4096)))) rfl rfl rfl wn_f (fun g3 => d_move (v := .int .i64 n) rfl) <| w_g (g := !(decide (n < (-4096)))) rfl rfl rfl wn_f (fun g4 => d_gtr (cvt g4) rfl) <| w_d rfl (d_or' (b := (decide (n < (-4096)))) (p := (decide (4096 < n))) rfl rfl rfl) <| w_done ?_
 rcases its he with ⟨c5, he⟩ | ⟨c5, he⟩
 ·
  refine w_then rfl c5 <| w_seq <| w_region rfl <| w_d rfl (d_build (cs' := [.bool false, .slice none 0 0]) Tryz.underlying24 zr24 rfl (by kernel_rfl) (parts := []) rfl .nil) <| w_d rfl (d_iface (v := .int .i64 1) Tryz.underlying104 rfl rfl) <| w_a0 rfl (o_store (v := .agg ⟨[.bool false, .slice none 0 0]⟩) sz24 rfl rfl rfl rfl (one_cons rfl (one_cons rfl one_nil)) .here (.here (.here .done))) ?_
  rintro _ _ _ ⟨rfl, rfl, rfl⟩
  refine w_d rfl (d_assign (v := errV 104 (some 1)) rfl) <| w_done ?_
  obtain rfl := Option.some.inj he
  refine w_return fn_72 rs_72 (.box (v := .agg ⟨[.bool false, .slice none 0 0]⟩) rfl ty24 rfl rfl .here rfl (.tmp (v := errV 104 (some 1)) rfl .nil)) <| ⟨⟨[_, _], rfl⟩, hle, ⟨.slice none 0 0, rfl, (ro_nil _ _)⟩⟩
 ·
  refine w_else rfl (Bool.eq_false_iff.2 c5) <| w_skip <| w_seq <| w_seq <| w_region rfl <| w_d rfl (d_move (v := .int .i64 n) rfl) <| w_d rfl (d_geq rfl rfl) <| w_done ?_
  rcases its he with ⟨c6, he⟩ | ⟨c6, he⟩
  ·
   refine w_then rfl (decide_eq_true c6) <| w_seq ?_
   obtain ⟨c7, he⟩ := rq he
   obtain ⟨y11, hy12, he⟩ := Option.bind_eq_some_iff.1 he
   refine w_none (?_)
   refine w_drawn (p := 8) (tl := [8, 9]) [[], [(0, some 22)], [(1, some 23)], [], [(3, some 25)], [], [(5, some 27)], [(4, some 26), (6, some 28)]] [some 22, some 23, some 24, some 25, some 26, some 27, some 28, some 29] (fctF (.is (.int .i64 n) :: .is (.int .i64 (w64 (Int.tdiv n 32))) :: .sl (Kd.int .u32) 167 (List.replicate (w64 (Int.tdiv n 32) : Int).toNat (0 : Int)) :: .is (.pointer (some ⟨b1, 1, none⟩)) :: .is (v0_a) :: .is (.int .i64 n) :: .is (.int .i64 (Int.tmod n 32)) :: .ro (Kd.int .u32) (y11) :: [])) (fun m_ => m_ 2 :: some (b2, .cells ⟨[.bool false, .slice none 0 0]⟩ 24 (0, 0)) :: some (b1, .cells ⟨[.bool a.f_neg, v0_a]⟩ 24 (0, 0)) :: L) (fun _ => none) mixed (by kernel_rfl) (by kernel_rfl) rfl (fct_mono (by kernel_rfl)) ⟨(fun H' m_ hH hm_ hu_ => depK_nil <| s_d (m_ 0) rfl (d_move (v := .int .i64 n) rfl) (by exact rfl) rfl), (by rintro H' m_ hH hm_ hu_ _ rfl; exact depK_nil <| s_d (m_ 1) rfl (d_quo (c := w64 (Int.tdiv n 32)) rfl rfl (by decide) rfl) (by exact rfl) rfl), (by rintro H' m_ hH hm_ hu_ _ rfl; exact depK_nil <| s_sl hm_ rfl rfl (o_make' (kd := (Kd.int .u32)) (z0 := 0) Tryz.underlying22 ti167 (zp167 _) rfl rfl (by omega) (by omega) (by omega)) rfl (fun _ => .here) (by exact fun _ _ h_ => h_)), (fun H' m_ hH hm_ hu_ => depK_nil <| s_d (m_ 3) rfl (d_fld (o' := 1) Tryz.underlying24 rfl sz22 rfl rfl rfl) (by exact rfl) rfl), (by rintro H' m_ hH hm_ hu_ _ rfl; exact depK_nil <| s_d (m_ 4) rfl (d_loado (v := v0_a) ty22 rfl (.there (.there .here)) rfl rfl rfl rfl) (by exact rfl) rfl), (fun H' m_ hH hm_ hu_ => depK_nil <| s_d (m_ 5) rfl (d_move (v := .int .i64 n) rfl) (by exact rfl) rfl), (by rintro H' m_ hH hm_ hu_ _ rfl; exact depK_nil <| s_d (m_ 6) rfl (d_rem rfl rfl (by decide)) (by exact rfl) rfl), (by rintro H' m_ hH hm_ hu_ _ rfl _ rfl; exact depK_nil <| s_k (m_ 7) rfl (o_call co114 (vs := [v0_a, .int .i64 (Int.tmod n 32)]) rfl (wide_up.callsR k hy12 ((h0_a.mono hH).src))) rfl (by rintro v_ H_ _ ⟨rfl, e_, h_⟩; exact ⟨rfl, e_, h_⟩)), trivial⟩ ?_
   intro H17 e18
   rintro _ _ rfl _ _ rfl v8 i9 (h10 : Sl (Kd.int .u32) H17 167 i9 v8 (List.replicate (w64 (Int.tdiv n 32) : Int).toNat (0 : Int))) _ _ rfl _ _ rfl _ _ rfl _ _ rfl v15 _ (h16 : Ro (Kd.int .u32) H17 v15 y11)
   obtain ⟨c19, he⟩ := rq he
   refine w_a rfl (o_append' (kd := (Kd.int .u32)) (F := fun z_ => z_ :: some (b2, .cells ⟨[.bool false, .slice none 0 0]⟩ 24 (0, 0)) :: some (b1, .cells ⟨[.bool a.f_neg, v0_a]⟩ 24 (0, 0)) :: L) Tryz.underlying22 Tryz.underlying22 ti167 rfl (by first | omega | (simp only [List.nil_append, List.length_cons, List.length_nil]; omega)) rfl rfl h10 h16.src (fun _ => .here)) ?_
   rintro v20 _ _ ⟨i21, rfl, rfl, h22⟩
   refine w_d rfl (d_assign (v := v20) rfl) <| w_done <| w_seq <| w_region rfl <| w_d rfl (d_fld (o' := 0) Tryz.underlying24 rfl sz4 rfl rfl rfl) <| w_d rfl (d_loado (v := .bool a.f_neg) ty4 rfl (.there (.there .here)) rfl rfl rfl rfl) <| w_d rfl (d_move (v := v20) rfl) <| w_freeze h22 .here ?_
   intro H23 e24 h25
   obtain ⟨y26, hy27, he⟩ := Option.bind_eq_some_iff.1 he
   refine w_a rfl (o_call co115 (vs := [.bool a.f_neg, v20]) rfl (wide_made.calls k hy27 h25)) ?_
   rintro _ H28 _ ⟨rfl, e29, ⟨v30, rfl, h31⟩⟩
   refine w_d rfl (d_ext (vs := [.agg ⟨[.bool y26.1.f_neg, v30]⟩, errV 104 y26.2]) rfl rfl) <| w_d rfl (d_ext (vs := [.agg ⟨[.bool y26.1.f_neg, v30]⟩, errV 104 y26.2]) rfl rfl) <| w_a0 rfl (o_store (v := .agg ⟨[.bool y26.1.f_neg, v30]⟩) sz24 rfl rfl rfl rfl (one_cons rfl (one_cons (h31.one) one_nil)) (.there .here) (.here (.here .done))) ?_
   rintro _ _ _ ⟨rfl, rfl, rfl⟩
   refine w_d rfl (d_assign (v := errV 104 y26.2) rfl) <| w_done ?_
   obtain rfl := Option.some.inj he
   refine w_return fn_72 rs_72 (.box (v := .agg ⟨[.bool y26.1.f_neg, v30]⟩) rfl ty24 rfl rfl (.there .here) rfl (.tmp (v := errV 104 y26.2) rfl .nil)) <| ⟨⟨[_, _, _], rfl⟩, hle.trans ((e18.trans e24).trans e29), ⟨v30, rfl, h31⟩⟩
  ·
   refine w_else rfl (decide_eq_false c6) <| w_skip <| w_seq <| w_region rfl <| w_d rfl (d_move (v := .int .i64 n) rfl) <| w_d rfl (d_neg (c := w64 (0 - n)) rfl rfl) <| w_d rfl (d_quo (c := w64 (Int.tdiv (w64 (0 - n)) 32)) rfl rfl (by decide) rfl) <| w_d rfl (d_fld (o' := 1) Tryz.underlying24 rfl sz22 rfl rfl rfl) <| w_d rfl (d_loado (v := v0_a) ty22 rfl (.there .here) rfl rfl rfl rfl) <| w_d rfl (d_len Tryz.underlying22 rfl h0_a.src) <| w_d rfl (d_min rfl rfl) <| w_d rfl (d_assign (v := .int .i64 (min (w64 (Int.tdiv (w64 (0 - n)) 32)) (a.f_w.length : Int))) rfl) ?_
   refine w_done <| w_seq <| w_region rfl <| w_d rfl (d_fld (o' := 1) Tryz.underlying24 rfl sz22 rfl rfl rfl) <| w_d rfl (d_loado (v := v0_a) ty22 rfl (.there .here) rfl rfl rfl rfl) <| w_d rfl (d_move (v := .int .i64 (min (w64 (Int.tdiv (w64 (0 - n)) 32)) (a.f_w.length : Int))) rfl) ?_
   obtain ⟨c32, he⟩ := rq he
   refine w_a rfl (o_cut (kd := (Kd.int .u32)) Tryz.underlying22 sz167 rfl h0_a (.inl ⟨rfl, rfl⟩) (.inr ⟨_, _, rfl, rfl⟩) c32) ?_
   rintro v33 _ _ ⟨h34, rfl, rfl⟩
   obtain ⟨y35, hy36, he⟩ := Option.bind_eq_some_iff.1 he
   refine w_d rfl (call_d (o_call co116 (vs := [v33, .func (.func 117) #[] #[]]) rfl (slices_ContainsFunc_uint32_uint32_wide_Int_Move_1.calls k hy36 h34.src))) <| w_d rfl (d_assign (v := .bool y35) rfl) <| w_done <| w_seq <| w_region rfl <| w_d rfl (d_fld (o' := 1) Tryz.underlying24 rfl sz22 rfl rfl rfl) <| w_d rfl (d_loado (v := v0_a) ty22 rfl (.there .here) rfl rfl rfl rfl) <| w_d rfl (d_move (v := .int .i64 (min (w64 (Int.tdiv (w64 (0 - n)) 32)) (a.f_w.length : Int))) rfl) ?_
   obtain ⟨c39, he⟩ := rq he
   refine w_a rfl (o_cut (kd := (Kd.int .u32)) Tryz.underlying22 sz167 rfl h0_a (.inr ⟨_, _, rfl, rfl⟩) (.inl ⟨rfl, rfl⟩) c39) ?_
   rintro v40 _ _ ⟨h41, rfl, rfl⟩
   refine w_d rfl (d_assign (v := v40) rfl) <| w_done <| w_seq <| w_seq <| w_region rfl <| w_d rfl (d_move (v := .int .i64 (min (w64 (Int.tdiv (w64 (0 - n)) 32)) (a.f_w.length : Int))) rfl) <| w_d rfl (d_fld (o' := 1) Tryz.underlying24 rfl sz22 rfl rfl rfl) <| w_d rfl (d_loado (v := v0_a) ty22 rfl (.there .here) rfl rfl rfl rfl) <| w_d rfl (d_len Tryz.underlying22 rfl h0_a.src) <| w_d rfl (d_lss rfl rfl) <| w_d rfl (d_move (v := .bool (decide ((min (w64 (Int.tdiv (w64 (0 - n)) 32)) (a.f_w.length : Int)) < (a.f_w.length : Int)))) rfl) <| w_g (g := decide ((min (w64 (Int.tdiv (w64 (0 - n)) 32)) (a.f_w.length : Int)) < (a.f_w.length : Int))) rfl rfl rfl wn_t (fun g42 => d_move (v := .int .i64 (min (w64 (Int.tdiv (w64 (0 - n)) 32)) (a.f_w.length : Int))) rfl) ?_
   refine w_g (g := decide ((min (w64 (Int.tdiv (w64 (0 - n)) 32)) (a.f_w.length : Int)) < (a.f_w.length : Int))) rfl rfl rfl wn_t (fun g43 => d_move (v := .int .i64 n) rfl) <| w_g (g := decide ((min (w64 (Int.tdiv (w64 (0 - n)) 32)) (a.f_w.length : Int)) < (a.f_w.length : Int))) rfl rfl rfl wn_t (fun g44 => d_neg (c := w64 (0 - n)) (cvt g44) rfl) <| w_g (g := decide ((min (w64 (Int.tdiv (w64 (0 - n)) 32)) (a.f_w.length : Int)) < (a.f_w.length : Int))) rfl rfl rfl wn_t (fun g45 => d_quo (c := w64 (Int.tdiv (w64 (0 - n)) 32)) (cvt g45) rfl (by decide) rfl) <| w_g (g := decide ((min (w64 (Int.tdiv (w64 (0 - n)) 32)) (a.f_w.length : Int)) < (a.f_w.length : Int))) rfl rfl rfl wn_t (fun g46 => d_eql (cvt g46) (cvt g46)) <| w_d rfl (d_and' (b := (decide ((min (w64 (Int.tdiv (w64 (0 - n)) 32)) (a.f_w.length : Int)) < (a.f_w.length : Int)))) (p := (decide ((min (w64 (Int.tdiv (w64 (0 - n)) 32)) (a.f_w.length : Int)) = (w64 (Int.tdiv (w64 (0 - n)) 32))))) rfl rfl rfl) <| w_done ?_
   rcases its he with ⟨c47, he⟩ | ⟨c47, he⟩
   ·
    refine w_then rfl c47 <| w_seq ?_
    obtain ⟨c50, he⟩ := rq he
    obtain ⟨c56, he⟩ := rq he
    refine w_drawn (p := 10) (tl := [10, 11, 12, 13]) [[], [(0, some 65)], [(1, some 66)], [(1, some 66), (2, some 67)], [(1, some 66), (3, some 68)], [(1, some 66)], [(1, some 66), (5, some 70)], [(1, some 66), (6, some 71)], [(1, some 66), (7, some 72)], [(1, some 66), (8, some 73)]] [some 65, some 66, some 67, some 68, some 69, some 70, some 71, some 72, some 73, some 74] (fctF (.is (.bool y35) :: .is (.bool y35) :: .is (cond (!y35) v40 undef) :: .is (cond (!y35) (.pointer (some (pel v40 0 1))) undef) :: .is (cond (!y35) (.int .u32 (rd (cut a.f_w (min (w64 (Int.tdiv (w64 (0 - n)) 32)) (a.f_w.length : Int)) (a.f_w.length : Int)) 0)) undef) :: .is (cond (!y35) (.int .i64 n) undef) :: .is (cond (!y35) (.int .i64 (w64 (0 - n))) undef) :: .is (cond (!y35) (.int .i64 (Int.tmod (w64 (0 - n)) 32)) undef) :: .is (cond (!y35) (.int .u32 ((1 * 2 ^ shn .u32 (Int.tmod (w64 (0 - n)) 32)) % 4294967296)) undef) :: .is (cond (!y35) (.int .u32 ((((1 * 2 ^ shn .u32 (Int.tmod (w64 (0 - n)) 32)) % 4294967296) - 1) % 4294967296)) undef) :: [])) (fun m_ => some (b2, .cells ⟨[.bool false, .slice none 0 0]⟩ 24 (0, 0)) :: some (b1, .cells ⟨[.bool a.f_neg, v0_a]⟩ 24 (0, 0)) :: L) (fun _ => none) mixed (by kernel_rfl) (by kernel_rfl) rfl (fct_mono (by kernel_rfl)) ⟨(fun H' m_ hH hm_ hu_ => depK_nil <| s_d (m_ 0) rfl (d_move (v := .bool y35) rfl) (by exact rfl) rfl), (by rintro H' m_ hH hm_ hu_ _ rfl; exact depK_nil <| s_d (m_ 1) rfl (d_move (v := .bool y35) rfl) (by exact rfl) rfl), (by rintro H' m_ hH hm_ hu_ _ rfl; exact depK_nil <| s_g (g := !y35) (m_ 2) rfl rfl rfl wn_f (fun g48 => d_move (v := v40) rfl) rfl (by exact fun g_ => cvt g_) (by exact fun g_ => cnt g_)), (by rintro H' m_ hH hm_ hu_ _ rfl _ rfl; exact depK_nil <| s_g (g := !y35) (m_ 3) rfl rfl rfl wn_f (fun g49 => d_index (sz := 1) Tryz.underlying22 sz167 (cvt g49) (h41.mono hH).src rfl (c50 g49)) rfl (by exact fun g_ => cvt g_) (by exact fun g_ => cnt g_)), (by rintro H' m_ hH hm_ hu_ _ rfl _ rfl; exact depK_nil <| s_g (g := !y35) (m_ 4) rfl rfl rfl wn_f (fun g51 => d_ldint ty167 (cvt g51) (h41.mono hH).src (c50 g51)) rfl (by exact fun g_ => cvt g_) (by exact fun g_ => cnt g_)), (by rintro H' m_ hH hm_ hu_ _ rfl; exact depK_nil <| s_g (g := !y35) (m_ 5) rfl rfl rfl wn_f (fun g52 => d_move (v := .int .i64 n) rfl) rfl (by exact fun g_ => cvt g_) (by exact fun g_ => cnt g_)), (by rintro H' m_ hH hm_ hu_ _ rfl _ rfl; exact depK_nil <| s_g (g := !y35) (m_ 6) rfl rfl rfl wn_f (fun g53 => d_neg (c := w64 (0 - n)) (cvt g53) rfl) rfl (by exact fun g_ => cvt g_) (by exact fun g_ => cnt g_)), (by rintro H' m_ hH hm_ hu_ _ rfl _ rfl; exact depK_nil <| s_g (g := !y35) (m_ 7) rfl rfl rfl wn_f (fun g54 => d_rem (cvt g54) rfl (by decide)) rfl (by exact fun g_ => cvt g_) (by exact fun g_ => cnt g_)), (by rintro H' m_ hH hm_ hu_ _ rfl _ rfl; exact depK_nil <| s_g (g := !y35) (m_ 8) rfl rfl rfl wn_f (fun g55 => d_shl (c := (1 * 2 ^ shn .u32 (Int.tmod (w64 (0 - n)) 32)) % 4294967296) rfl (cvt g55) (c56 g55) rfl) rfl (by exact fun g_ => cvt g_) (by exact fun g_ => cnt g_)), (by rintro H' m_ hH hm_ hu_ _ rfl _ rfl; exact depK_nil <| s_g (g := !y35) (m_ 9) rfl rfl rfl wn_f (fun g57 => d_sub (c := (((1 * 2 ^ shn .u32 (Int.tmod (w64 (0 - n)) 32)) % 4294967296) - 1) % 4294967296) (cvt g57) rfl rfl) rfl (by exact fun g_ => cvt g_) (by exact fun g_ => cnt g_)), trivial⟩ ?_
    intro H58 e59
    rintro _ _ rfl _ _ rfl _ _ rfl _ _ rfl _ _ rfl _ _ rfl _ _ rfl _ _ rfl _ _ rfl _ _ rfl
    refine w_g (g := !y35) rfl rfl rfl wn_f (fun g60 => d_band (cvt g60) (cvt g60)) <| w_g (g := !y35) rfl rfl rfl wn_f (fun g61 => d_neq (cvt g61) rfl) <| w_d rfl (d_or' (b := y35) (p := (!decide ((iand .u32 (rd (cut a.f_w (min (w64 (Int.tdiv (w64 (0 - n)) 32)) (a.f_w.length : Int)) (a.f_w.length : Int)) 0) ((((1 * 2 ^ shn .u32 (Int.tmod (w64 (0 - n)) 32)) % 4294967296) - 1) % 4294967296)) = 0))) rfl rfl rfl) <| w_d rfl (d_assign (v := .bool (y35 || (!decide ((iand .u32 (rd (cut a.f_w (min (w64 (Int.tdiv (w64 (0 - n)) 32)) (a.f_w.length : Int)) (a.f_w.length : Int)) 0) ((((1 * 2 ^ shn .u32 (Int.tmod (w64 (0 - n)) 32)) % 4294967296) - 1) % 4294967296)) = 0)))) rfl) <| w_done <| w_region rfl <| w_d rfl (d_move (v := v40) rfl) <| w_d rfl (d_move (v := .int .i64 n) rfl) <| w_d rfl (d_neg (c := w64 (0 - n)) rfl rfl) <| w_d rfl (d_rem rfl rfl (by decide)) ?_
    obtain ⟨y62, hy63, he⟩ := Option.bind_eq_some_iff.1 he
    refine w_a rfl (o_call co118 (vs := [v40, .int .i64 (Int.tmod (w64 (0 - n)) 32)]) rfl (wide_down.calls k hy63 (h41.mono e59))) ?_
    rintro v66 H64 _ ⟨rfl, e65, h67⟩
    refine w_d rfl (d_assign (v := v66) rfl) <| w_done <| w_sl 2 (.pointer (some ⟨b1, 0, none⟩)) rfl <| w_sl 4 (.pointer (some ⟨b2, 0, none⟩)) rfl <| w_sl 5 (errV 104 none) rfl <| w_sl 8 (.bool (y35 || (!decide ((iand .u32 (rd (cut a.f_w (min (w64 (Int.tdiv (w64 (0 - n)) 32)) (a.f_w.length : Int)) (a.f_w.length : Int)) 0) ((((1 * 2 ^ shn .u32 (Int.tmod (w64 (0 - n)) 32)) % 4294967296) - 1) % 4294967296)) = 0)))) rfl <| w_sl 9 (v66) rfl <| wide_Int_Move.j1_ok (k := k) (hle.trans (e59.trans e65)) he (h0_a.mono (e59.trans e65)) h67
   ·
    refine w_else rfl (Bool.eq_false_iff.2 c47) <| w_region rfl <| w_d rfl (d_assign (v := .slice none 0 0) rfl) <| w_done <| w_sl 2 (.pointer (some ⟨b1, 0, none⟩)) rfl <| w_sl 4 (.pointer (some ⟨b2, 0, none⟩)) rfl <| w_sl 5 (errV 104 none) rfl <| w_sl 8 (.bool y35) rfl <| w_sl 9 (.slice none 0 0) rfl <| wide_Int_Move.j1_ok (k := k) hle he h0_a (ro_nil _ _)
/-! ### (radome/wide.Int).Sign -/
noncomputable def wide_Int_Sign.C : Code := (Tryz.f84.body).getD .skip
def wide_Int_Sign.out (r : Int) (H : Hp) (v : Value) : Prop := v = .int .i64 r
abbrev wide_Int_Sign.R (H0 : Hp) (L : Items) (r : Int) : Value → Hp → Items → Prop := fun v H' L' => (∃ p, L' = p ++ L) ∧ H0.le H' ∧ wide_Int_Sign.out r H' v
noncomputable def wide_Int_Sign.f (k : Nat) (a : wide_Int) : Option Int := if (a.f_w.length : Int) = 0 then (some (0)) else (if a.f_neg = true then (some ((-1))) else (some (1)))
theorem wide_Int_Sign.mono : ∀ k y0, LeO (wide_Int_Sign.f k y0) (wide_Int_Sign.f (k + 1) y0) := fun k _ => by unfold wide_Int_Sign.f; exact (LeO.ite (LeO.refl _) (LeO.ite (LeO.refl _) (LeO.refl _)))
theorem wide_Int_Sign.calls (k : Nat) {H : Hp} {L : Items} {a : wide_Int} {v0_a : Value} {r : Int} (he : wide_Int_Sign.f k a = some r) (h0_a : Ro (Kd.int .u32) H v0_a a.f_w) : Ct Tryz.prog 84 ⟨[.agg ⟨[.bool a.f_neg, v0_a]⟩]⟩ H L (fun v H' L' => L = L' ∧ H = H' ∧ v = .int .i64 r) := by
 refine ct_outs (O := wide_Int_Sign.out r) (fun _ _ h => h) ?_
 have hle : H.le H := .refl _
 unfold wide_Int_Sign.f at he
 refine ct_enter (args := [.agg ⟨[.bool a.f_neg, v0_a]⟩]) fn_84 rfl nt_84 rfl <| w_seq <| w_region rfl <| w_a rfl (o_box (v := .agg ⟨[.bool a.f_neg, v0_a]⟩) rfl rfl) ?_
 rintro _ _ _ ⟨b1, rfl, rfl, rfl⟩
 refine w_d rfl (d_assign (v := .int .i64 0) rfl) <| w_done <| w_seq <| w_block <| w_seq <| w_region rfl <| w_d rfl (d_fld (o' := 1) Tryz.underlying24 rfl sz22 rfl rfl rfl) <| w_d rfl (d_loado (v := v0_a) ty22 rfl .here rfl rfl rfl rfl) <| w_d rfl (d_len Tryz.underlying22 rfl h0_a.src) <| w_d rfl (d_eql rfl rfl) <| w_d rfl (d_assign (v := .bool (decide ((a.f_w.length : Int) = 0))) rfl) <| w_done ?_
 rcases its he with ⟨c2, he⟩ | ⟨c2, he⟩
 ·
  refine w_then rfl (decide_eq_true c2) <| w_seq <| w_region rfl <| w_d rfl (d_assign (v := .int .i64 0) rfl) <| w_done ?_
  obtain rfl := Option.some.inj he
  refine w_return fn_84 rs_84 (.tmp (v := .int .i64 0) rfl .nil) <| ⟨⟨[_], rfl⟩, hle, rfl⟩
 ·
  refine w_else rfl (decide_eq_false c2) <| w_seq <| w_region rfl <| w_d rfl (d_fld (o' := 0) Tryz.underlying24 rfl sz4 rfl rfl rfl) <| w_d rfl (d_loado (v := .bool a.f_neg) ty4 rfl .here rfl rfl rfl rfl) <| w_d rfl (d_assign (v := .bool a.f_neg) rfl) <| w_done ?_
  rcases its he with ⟨c3, he⟩ | ⟨c3, he⟩
  ·
   refine w_then rfl c3 <| w_seq <| w_region rfl <| w_d rfl (d_assign (v := .int .i64 (-1)) rfl) <| w_done ?_
   obtain rfl := Option.some.inj he
   refine w_return fn_84 rs_84 (.tmp (v := .int .i64 (-1)) rfl .nil) <| ⟨⟨[_], rfl⟩, hle, rfl⟩
  ·
   refine w_else rfl (Bool.eq_false_iff.2 c3) <| w_skip <| w_inBlock <| w_seq <| w_region rfl <| w_d rfl (d_assign (v := .int .i64 1) rfl) <| w_done ?_
   obtain rfl := Option.some.inj he
   refine w_return fn_84 rs_84 (.tmp (v := .int .i64 1) rfl .nil) <| ⟨⟨[_], rfl⟩, hle, rfl⟩
/-! ### radome/ratio.abs -/
noncomputable def ratio_abs.C : Code := (Tryz.f123.body).getD .skip
def ratio_abs.out (r : wide_Int) (H : Hp) (v : Value) : Prop := ∃ v0, v = .agg ⟨[.bool r.f_neg, v0]⟩ ∧ Ro (Kd.int .u32) H v0 r.f_w
theorem ratio_abs.out_mono (r : wide_Int) {H H' : Hp} {v : Value} (hle : H.le H') (h : ratio_abs.out r H v) : ratio_abs.out r H' v := by
 obtain ⟨v0, rfl, h0⟩ := h; exact ⟨v0, rfl, h0.mono hle⟩
abbrev ratio_abs.R (H0 : Hp) (L : Items) (r : wide_Int) : Value → Hp → Items → Prop := fun v H' L' => (∃ p, L' = p ++ L) ∧ H0.le H' ∧ ratio_abs.out r H' v
noncomputable def ratio_abs.f (k : Nat) (a : wide_Int) : Option wide_Int := (wide_Int_Sign.f k a).bind fun y3 => if y3 < 0 then ((wide_Int_Neg.f k a).bind fun y8 => some (y8)) else (some (a))
theorem ratio_abs.mono : ∀ k y0, LeO (ratio_abs.f k y0) (ratio_abs.f (k + 1) y0) := fun k _ => by unfold ratio_abs.f; exact (LeO.bind (wide_Int_Sign.mono k _) fun _ => LeO.ite (LeO.bind (wide_Int_Neg.mono k _) fun _ => LeO.refl _) (LeO.refl _))
theorem ratio_abs.calls (k : Nat) {H : Hp} {L : Items} {a : wide_Int} {v0_a : Value} {r : wide_Int} (he : ratio_abs.f k a = some r) (h0_a : Ro (Kd.int .u32) H v0_a a.f_w) : Ct Tryz.prog 123 ⟨[.agg ⟨[.bool a.f_neg, v0_a]⟩]⟩ H L (fun v H' L' => L = L' ∧ H.le H' ∧ ratio_abs.out r H' v) := by
 refine ct_out (O := ratio_abs.out r) ?_
 have hle : H.le H := .refl _
 unfold ratio_abs.f at he
 refine ct_enter (args := [.agg ⟨[.bool a.f_neg, v0_a]⟩]) fn_123 rfl nt_123 rfl <| w_seq <| w_region rfl <| w_a rfl (o_box (v := .agg ⟨[.bool a.f_neg, v0_a]⟩) rfl rfl) ?_
 rintro _ _ _ ⟨b1, rfl, rfl, rfl⟩
 refine w_a rfl (o_alloc zr24 rfl) ?_
 rintro _ _ _ ⟨b2, rfl, rfl, rfl⟩
 refine w_done <| w_seq <| w_seq <| w_region rfl <| w_d rfl (d_loado (v := .agg ⟨[.bool a.f_neg, v0_a]⟩) ty24 rfl (.there .here) rfl rfl rfl rfl) ?_
 obtain ⟨y3, hy4, he⟩ := Option.bind_eq_some_iff.1 he
 refine w_d rfl (call_d (o_call co84 (vs := [.agg ⟨[.bool a.f_neg, v0_a]⟩]) rfl (wide_Int_Sign.calls k (a := a) hy4 h0_a))) <| w_d rfl (d_lss rfl rfl) <| w_done ?_
 rcases its he with ⟨c7, he⟩ | ⟨c7, he⟩
 ·
  refine w_then rfl (decide_eq_true c7) <| w_seq <| w_region rfl <| w_d rfl (d_loado (v := .agg ⟨[.bool a.f_neg, v0_a]⟩) ty24 rfl (.there .here) rfl rfl rfl rfl) ?_
  obtain ⟨y8, hy9, he⟩ := Option.bind_eq_some_iff.1 he
  refine w_a rfl (o_call co121 (vs := [.agg ⟨[.bool a.f_neg, v0_a]⟩]) rfl (wide_Int_Neg.calls k (a := a) hy9 h0_a)) ?_
  rintro _ H10 _ ⟨rfl, e11, ⟨v12, rfl, h13⟩⟩
  refine w_a0 rfl (o_store (v := .agg ⟨[.bool y8.f_neg, v12]⟩) sz24 rfl rfl rfl rfl (one_cons rfl (one_cons (h13.one) one_nil)) .here (.here (.here .done))) ?_
  rintro _ _ _ ⟨rfl, rfl, rfl⟩
  refine w_done ?_
  obtain rfl := Option.some.inj he
  refine w_return fn_123 rs_123 (.box (v := .agg ⟨[.bool y8.f_neg, v12]⟩) rfl ty24 rfl rfl .here rfl .nil) <| ⟨⟨[_, _], rfl⟩, hle.trans e11, ⟨v12, rfl, h13⟩⟩
 ·
  refine w_else rfl (decide_eq_false c7) <| w_skip <| w_seq <| w_region rfl <| w_d rfl (d_loado (v := .agg ⟨[.bool a.f_neg, v0_a]⟩) ty24 rfl (.there .here) rfl rfl rfl rfl) <| w_a0 rfl (o_store (v := .agg ⟨[.bool a.f_neg, v0_a]⟩) sz24 rfl rfl rfl rfl (one_cons rfl (one_cons (h0_a.one) one_nil)) .here (.here (.here .done))) ?_
  rintro _ _ _ ⟨rfl, rfl, rfl⟩
  refine w_done ?_
  obtain rfl := Option.some.inj he
  refine w_return fn_123 rs_123 (.box (v := .agg ⟨[.bool a.f_neg, v0_a]⟩) rfl ty24 rfl rfl .here rfl .nil) <| ⟨⟨[_, _], rfl⟩, hle, ⟨v0_a, rfl, h0_a⟩⟩
/-! ### radome/wide.short -/
noncomputable def wide_short.C : Code := (Tryz.f130.body).getD .skip
def wide_short.out (r : (List Int) × Int) (H : Hp) (v : Value) : Prop := ∃ v0, v = .tuple ⟨[v0, .int .u32 r.2]⟩ ∧ Ro (Kd.int .u32) H v0 r.1
theorem wide_short.out_mono (r : (List Int) × Int) {H H' : Hp} {v : Value} (hle : H.le H') (h : wide_short.out r H v) : wide_short.out r H' v := by
 obtain ⟨v0, rfl, h0⟩ := h; exact ⟨v0, rfl, h0.mono hle⟩
abbrev wide_short.R (H0 : Hp) (L : Items) (r : (List Int) × Int) : Value → Hp → Items → Prop := fun v H' L' => (∃ p, L' = p ++ L) ∧ H0.le H' ∧ wide_short.out r H' v
structure wide_short.Hs where
 l0 : (List Int) → Int → (List Int) → Int → Int → Option ((List Int) × Int)
noncomputable def wide_short.b0 (k : Nat) (h : wide_short.Hs)  (a : List Int) (b : Int) (out : List Int) (rest : Int) (i : Int) : Option ((List Int) × Int) := if 0 ≤ i then (if (0 : Int) ≤ i ∧ i < (a.length : Int) then (if ((b) % 18446744073709551616) ≠ 0 then (if (0 : Int) ≤ i ∧ i < (out.length : Int) then (if ((b) % 18446744073709551616) ≠ 0 then (h.l0 a b (out.set (i : Int).toNat (((Int.tdiv (ior .u64 ((rest * 4294967296) % 18446744073709551616) ((rd a i) % 18446744073709551616)) ((b) % 18446744073709551616)) % 18446744073709551616) % 4294967296)) (Int.tmod (ior .u64 ((rest * 4294967296) % 18446744073709551616) ((rd a i) % 18446744073709551616)) ((b) % 18446744073709551616)) (w64 (i - 1))) else none) else none) else none) else none) else ((wide_trim.f k out).bind fun y15 => some (y15, (rest) % 4294967296))
noncomputable def wide_short.hs : Nat → wide_short.Hs
 | 0 => ⟨fun _ _ _ _ _ => none⟩
 | k + 1 => ⟨fun x0 x1 x2 x3 x4 => wide_short.b0 k (wide_short.hs k) x0 x1 x2 x3 x4⟩
noncomputable def wide_short.f (k : Nat) (a : List Int) (b : Int) : Option ((List Int) × Int) := (fun h : wide_short.Hs => if 0 ≤ (a.length : Int) ∧ (a.length : Int) ≤ 70368744177664 then (h.l0 a b (List.replicate ((a.length : Int) : Int).toNat (0 : Int)) 0 (w64 ((a.length : Int) - 1))) else none) (wide_short.hs k)
structure wide_short.LE (h h' : wide_short.Hs) : Prop where
 l0 : ∀ y0 y1 y2 y3 y4, LeO (h.l0 y0 y1 y2 y3 y4) (h'.l0 y0 y1 y2 y3 y4)
theorem wide_short.b0_mono {k : Nat} {h h' : wide_short.Hs} (hl : wide_short.LE h h') : ∀ y0 y1 y2 y3 y4, LeO (wide_short.b0 k h y0 y1 y2 y3 y4) (wide_short.b0 (k + 1) h' y0 y1 y2 y3 y4) := fun _ _ _ _ _ => (LeO.ite (LeO.ite (LeO.ite (LeO.ite (LeO.ite (hl.l0 _ _ _ _ _) (LeO.refl _)) (LeO.refl _)) (LeO.refl _)) (LeO.refl _)) (LeO.bind (wide_trim.mono k _) fun _ => LeO.refl _))
theorem wide_short.hs_mono : ∀ k, wide_short.LE (wide_short.hs k) (wide_short.hs (k + 1))
 | 0 => ⟨fun _ _ _ _ _ => LeO.none _⟩
 | k + 1 => ⟨wide_short.b0_mono (k := k) (wide_short.hs_mono k)⟩
theorem wide_short.mono : ∀ k y0 y1, LeO (wide_short.f k y0 y1) (wide_short.f (k + 1) y0 y1) := fun k _ _ => have hl := wide_short.hs_mono k; by unfold wide_short.f; exact (LeO.ite (hl.l0 _ _ _ _ _) (LeO.refl _))
noncomputable def wide_short.Kl0 : List Item := .code (lopB (blkB (seqR (seqL (seqR (seqR (seqR wide_short.C))))))) :: .inLoop (lopB (blkB (seqR (seqL (seqR (seqR (seqR wide_short.C))))))) :: .inBlock 0 :: .code (seqR (seqR (seqR (seqR wide_short.C)))) :: []
structure wide_short.OK (h : wide_short.Hs) : Prop where
 l0 : ∀ {H0 H : Hp} {L : Items} {r : (List Int) × Int} {jk_ : Nat → Value} {a : List Int} {b : Int} {out : List Int} {rest : Int} {i : Int} {v_a : Value} {v_out : Value} {i_out : Item'} (_ : H0.le H) (_he : h.l0 a b out rest i = some r) (_h_a : Src (Kd.int .u32) H L v_a a) (_h_out : Sl (Kd.int .u32) H 167 i_out v_out out), Wp Tryz.prog 130 44 wide_short.Kl0 (upd (upd (upd (upd (upd (upd (upd jk_ 0 (v_a)) 1 (.int .u32 b)) 4 (.slice none 0 0)) 5 (.int .u32 0)) 6 (v_out)) 7 (.int .u64 rest)) 8 (.int .i64 i)) H (i_out :: L) (wide_short.R H0 L r)
theorem wide_short.b0_ok {k : Nat} {h : wide_short.Hs} (hh : wide_short.OK h) {H0 H : Hp} {L : Items} {r : (List Int) × Int} {jk_ : Nat → Value} {a : List Int} {b : Int} {out : List Int} {rest : Int} {i : Int} {v_a : Value} {v_out : Value} {i_out : Item'} (hle : H0.le H) (he : wide_short.b0 k h a b out rest i = some r) (h_a : Src (Kd.int .u32) H L v_a a) (h_out : Sl (Kd.int .u32) H 167 i_out v_out out) : Wp Tryz.prog 130 44 wide_short.Kl0 (upd (upd (upd (upd (upd (upd (upd jk_ 0 (v_a)) 1 (.int .u32 b)) 4 (.slice none 0 0)) 5 (.int .u32 0)) 6 (v_out)) 7 (.int .u64 rest)) 8 (.int .i64 i)) H (i_out :: L) (wide_short.R H0 L r) := by
 unfold wide_short.b0 at he
 unfold wide_short.Kl0
 refine w_seq <| w_seq <| w_region rfl <| w_d rfl (d_move (v := .int .i64 i) rfl) <| w_d rfl (d_geq rfl rfl) <| w_done ?_
 rcases its he with ⟨c5, he⟩ | ⟨c5, he⟩
 ·
  refine w_then rfl (decide_eq_true c5) <| w_skip <| w_seq <| w_block <| w_seq <| w_region rfl <| w_d rfl (d_move (v := .int .u64 rest) rfl) <| w_d rfl (d_shl (c := (rest * 4294967296) % 18446744073709551616) rfl rfl (by decide) rfl) <| w_d rfl (d_move (v := v_a) rfl) <| w_d rfl (d_move (v := .int .i64 i) rfl) ?_
  obtain ⟨c6, he⟩ := rq he
  refine w_d rfl (d_index (sz := 1) Tryz.underlying22 sz167 rfl h_a.th rfl c6) <| w_d rfl (d_ldint ty167 rfl h_a.th c6) <| w_d rfl (d_conv (c := (rd a i) % 18446744073709551616) Tryz.underlying167 Tryz.underlying113 rfl rfl) <| w_d rfl (d_bor rfl rfl) <| w_d rfl (d_assign (v := .int .u64 (ior .u64 ((rest * 4294967296) % 18446744073709551616) ((rd a i) % 18446744073709551616))) rfl) <| w_done <| w_seq <| w_region rfl <| w_d rfl (d_move (v := v_out) rfl) <| w_d rfl (d_move (v := .int .i64 i) rfl) <| w_d rfl (d_move (v := .int .u64 (ior .u64 ((rest * 4294967296) % 18446744073709551616) ((rd a i) % 18446744073709551616))) rfl) <| w_d rfl (d_move (v := .int .u32 b) rfl) ?_
  refine w_d rfl (d_conv (c := (b) % 18446744073709551616) Tryz.underlying167 Tryz.underlying113 rfl rfl) ?_
  obtain ⟨c7, he⟩ := rq he
  refine w_d rfl (d_quo (c := (Int.tdiv (ior .u64 ((rest * 4294967296) % 18446744073709551616) ((rd a i) % 18446744073709551616)) ((b) % 18446744073709551616)) % 18446744073709551616) rfl rfl c7 rfl) <| w_d rfl (d_conv (c := ((Int.tdiv (ior .u64 ((rest * 4294967296) % 18446744073709551616) ((rd a i) % 18446744073709551616)) ((b) % 18446744073709551616)) % 18446744073709551616) % 4294967296) Tryz.underlying113 Tryz.underlying167 rfl rfl) ?_
  obtain ⟨c8, he⟩ := rq he
  refine w_d rfl (d_indexS (sz := 1) Tryz.underlying22 sz167 rfl h_out.shp rfl c8) <| w_a0 rfl (o_storeEl (kd := (Kd.int .u32)) (v := .int .u32 (((Int.tdiv (ior .u64 ((rest * 4294967296) % 18446744073709551616) ((rd a i) % 18446744073709551616)) ((b) % 18446744073709551616)) % 18446744073709551616) % 4294967296)) (F := fun z_ => z_ :: L) sz167 rfl rfl rfl rfl h_out c8 (fun _ => .here)) ?_
  rintro _ _ _ ⟨i9, rfl, rfl, rfl, h10⟩
  refine w_done <| w_region rfl <| w_d rfl (d_move (v := .int .u64 (ior .u64 ((rest * 4294967296) % 18446744073709551616) ((rd a i) % 18446744073709551616))) rfl) <| w_d rfl (d_move (v := .int .u32 b) rfl) <| w_d rfl (d_conv (c := (b) % 18446744073709551616) Tryz.underlying167 Tryz.underlying113 rfl rfl) ?_
  obtain ⟨c11, he⟩ := rq he
  refine w_d rfl (d_rem rfl rfl c11) <| w_d rfl (d_assign (v := .int .u64 (Int.tmod (ior .u64 ((rest * 4294967296) % 18446744073709551616) ((rd a i) % 18446744073709551616)) ((b) % 18446744073709551616))) rfl) <| w_done <| w_inBlock <| w_region rfl <| w_d rfl (d_move (v := .int .i64 i) rfl) <| w_d rfl (d_sub (c := w64 (i - 1)) rfl rfl rfl) <| w_d rfl (d_assign (v := .int .i64 (w64 (i - 1))) rfl) <| w_done <| w_inLoop <| w_sl 0 (v_a) rfl <| w_sl 1 (.int .u32 b) rfl ?_
  refine w_sl 4 (.slice none 0 0) rfl <| w_sl 5 (.int .u32 0) rfl <| w_sl 6 (v_out) rfl <| w_sl 7 (.int .u64 (Int.tmod (ior .u64 ((rest * 4294967296) % 18446744073709551616) ((rd a i) % 18446744073709551616)) ((b) % 18446744073709551616))) rfl <| w_sl 8 (.int .i64 (w64 (i - 1))) rfl <| hh.l0 hle he h_a h10
 ·
  refine w_else rfl (decide_eq_false c5) <| w_exit rfl <| w_seq <| w_region rfl <| w_d rfl (d_move (v := v_out) rfl) <| w_freeze h_out .here ?_
  intro H12 e13 h14
  obtain ⟨y15, hy16, he⟩ := Option.bind_eq_some_iff.1 he
  refine w_a rfl (o_call co113 (vs := [v_out]) rfl (wide_trim.calls k hy16 h14)) ?_
  rintro v19 H17 _ ⟨rfl, e18, h20⟩
  refine w_d rfl (d_move (v := .int .u64 rest) rfl) <| w_d rfl (d_conv (c := (rest) % 4294967296) Tryz.underlying113 Tryz.underlying167 rfl rfl) <| w_d rfl (d_assign (v := v19) rfl) <| w_d rfl (d_assign (v := .int .u32 ((rest) % 4294967296)) rfl) <| w_done ?_
  obtain rfl := Option.some.inj he
  refine w_return fn_130 rs_130 (.tmp (v := v19) rfl (.tmp (v := .int .u32 ((rest) % 4294967296)) rfl .nil)) <| ⟨⟨[_], rfl⟩, hle.trans (e13.trans e18), ⟨v19, rfl, h20⟩⟩
theorem wide_short.ok : ∀ k, wide_short.OK (wide_short.hs k)
 | 0 => ⟨(by intros; exact nomatch (show none = some _ from by assumption))⟩
 | k + 1 => ⟨wide_short.b0_ok (k := k) (wide_short.ok k)⟩
theorem wide_short.calls (k : Nat) {H : Hp} {L : Items} {a : List Int} {b : Int} {v0_a : Value} {r : (List Int) × Int} (he : wide_short.f k a b = some r) (h0_a : Src (Kd.int .u32) H L v0_a a) : Ct Tryz.prog 130 ⟨[v0_a, .int .u32 b]⟩ H L (fun v H' L' => L = L' ∧ H.le H' ∧ wide_short.out r H' v) := by
 refine ct_out (O := wide_short.out r) ?_
 have hle : H.le H := .refl _
 have hh := wide_short.ok k
 unfold wide_short.f at he
 refine ct_enter (args := [v0_a, .int .u32 b]) fn_130 rfl nt_130 rfl <| w_seq <| w_region rfl <| w_d rfl (d_assign (v := .slice none 0 0) rfl) <| w_d rfl (d_assign (v := .int .u32 0) rfl) <| w_done <| w_seq <| w_region rfl <| w_d rfl (d_move (v := v0_a) rfl) <| w_d rfl (d_len Tryz.underlying22 rfl h0_a) ?_
 obtain ⟨c1, he⟩ := rq he
 refine w_a rfl (o_make' (kd := (Kd.int .u32)) (z0 := 0) Tryz.underlying22 ti167 (zp167 _) rfl rfl (by omega) (by omega) (by omega)) ?_
 rintro v2 _ _ ⟨i3, rfl, rfl, h4⟩
 refine w_d rfl (d_assign (v := v2) rfl) <| w_done <| w_seq <| w_region rfl <| w_d rfl (d_assign (v := .int .u64 0) rfl) <| w_done <| w_seq <| w_seq <| w_region rfl <| w_d rfl (d_move (v := v0_a) rfl) <| w_d rfl (d_len Tryz.underlying22 rfl h0_a.th) <| w_d rfl (d_sub (c := w64 ((a.length : Int) - 1)) rfl rfl rfl) ?_
 refine w_d rfl (d_assign (v := .int .i64 (w64 ((a.length : Int) - 1))) rfl) <| w_done <| w_block <| w_loop <| w_sl 0 (v0_a) rfl <| w_sl 1 (.int .u32 b) rfl <| w_sl 4 (.slice none 0 0) rfl <| w_sl 5 (.int .u32 0) rfl <| w_sl 6 (v2) rfl <| w_sl 7 (.int .u64 0) rfl <| w_sl 8 (.int .i64 (w64 ((a.length : Int) - 1))) rfl <| hh.l0 hle he h0_a h4
/-! ### math/bits.Len32 -/
noncomputable def bits_Len32.C : Code := (Tryz.f167.body).getD .skip
def bits_Len32.out (r : Int) (H : Hp) (v : Value) : Prop := v = .int .i64 r
abbrev bits_Len32.R (H0 : Hp) (L : Items) (r : Int) : Value → Hp → Items → Prop := fun v H' L' => (∃ p, L' = p ++ L) ∧ H0.le H' ∧ bits_Len32.out r H' v
noncomputable def bits_Len32.j2 (k : Nat)  (x : Int) (n : Int) : Option Int := if (0 : Int) ≤ (x) % 256 ∧ (x) % 256 < (str_0.size : Int) then (some (w64 (n + (w64 (bt str_0 ((x) % 256)))))) else none
noncomputable def bits_Len32.j1 (k : Nat)  (x : Int) (n : Int) : Option Int := if 256 ≤ x then (bits_Len32.j2 k (x / 256) (w64 (n + 8))) else (bits_Len32.j2 k x n)
noncomputable def bits_Len32.f (k : Nat) (x : Int) : Option Int := if 65536 ≤ x then (bits_Len32.j1 k (x / 65536) 16) else (bits_Len32.j1 k x 0)
theorem bits_Len32.j2_mono {k : Nat} : ∀ y0 y1, LeO (bits_Len32.j2 k y0 y1) (bits_Len32.j2 (k + 1) y0 y1) := fun _ _ => (LeO.ite (LeO.refl _) (LeO.refl _))
theorem bits_Len32.j1_mono {k : Nat} : ∀ y0 y1, LeO (bits_Len32.j1 k y0 y1) (bits_Len32.j1 (k + 1) y0 y1) := fun _ _ => (LeO.ite (bits_Len32.j2_mono (k := k)  _ _) (bits_Len32.j2_mono (k := k)  _ _))
theorem bits_Len32.mono : ∀ k y0, LeO (bits_Len32.f k y0) (bits_Len32.f (k + 1) y0) := fun k _ => by unfold bits_Len32.f; exact (LeO.ite (bits_Len32.j1_mono (k := k)  _ _) (bits_Len32.j1_mono (k := k)  _ _))
noncomputable def bits_Len32.Kj1 : List Item := .code (seqR (seqR bits_Len32.C)) :: []
noncomputable def bits_Len32.Kj2 : List Item := .code (seqR (seqR (seqR bits_Len32.C))) :: []
theorem bits_Len32.j2_ok {k : Nat} {H0 H : Hp} {L : Items} {r : Int} {jk_ : Nat → Value} {x : Int} {n : Int} (hle : H0.le H) (he : bits_Len32.j2 k x n = some r) : Wp Tryz.prog 167 19 bits_Len32.Kj2 (upd (upd jk_ 0 (.int .u32 x)) 2 (.int .i64 n)) H (L) (bits_Len32.R H0 L r) := by
 unfold bits_Len32.j2 at he
 unfold bits_Len32.Kj2
 refine w_seq <| w_region rfl <| w_d rfl (d_move (v := .int .i64 n) rfl) <| w_d rfl (d_move (v := .int .u32 x) rfl) <| w_d rfl (d_conv (c := (x) % 256) Tryz.underlying167 Tryz.underlying5 rfl rfl) ?_
 obtain ⟨c3, he⟩ := rq he
 refine w_d rfl (d_bt Tryz.underlying9 rfl rfl c3) <| w_d rfl (d_conv (c := w64 (bt str_0 ((x) % 256))) Tryz.underlying5 Tryz.underlying3 rfl rfl) <| w_d rfl (d_add (c := w64 (n + (w64 (bt str_0 ((x) % 256))))) rfl rfl rfl) <| w_d rfl (d_assign (v := .int .i64 (w64 (n + (w64 (bt str_0 ((x) % 256)))))) rfl) <| w_done ?_
 obtain rfl := Option.some.inj he
 refine w_return fn_167 rs_167 (.tmp (v := .int .i64 (w64 (n + (w64 (bt str_0 ((x) % 256)))))) rfl .nil) <| ⟨⟨[], rfl⟩, hle, rfl⟩
theorem bits_Len32.j1_ok {k : Nat} {H0 H : Hp} {L : Items} {r : Int} {jk_ : Nat → Value} {x : Int} {n : Int} (hle : H0.le H) (he : bits_Len32.j1 k x n = some r) : Wp Tryz.prog 167 19 bits_Len32.Kj1 (upd (upd jk_ 0 (.int .u32 x)) 2 (.int .i64 n)) H (L) (bits_Len32.R H0 L r) := by
 unfold bits_Len32.j1 at he
 unfold bits_Len32.Kj1
 refine w_seq <| w_seq <| w_region rfl <| w_d rfl (d_move (v := .int .u32 x) rfl) <| w_d rfl (d_geq rfl rfl) <| w_done ?_
 rcases its he with ⟨c2, he⟩ | ⟨c2, he⟩
 ·
  refine w_then rfl (decide_eq_true c2) <| w_seq <| w_region rfl <| w_d rfl (d_move (v := .int .u32 x) rfl) <| w_d rfl (d_shr (c := x / 256) rfl rfl (by decide) rfl) <| w_d rfl (d_assign (v := .int .u32 (x / 256)) rfl) <| w_done <| w_region rfl <| w_d rfl (d_move (v := .int .i64 n) rfl) <| w_d rfl (d_add (c := w64 (n + 8)) rfl rfl rfl) <| w_d rfl (d_assign (v := .int .i64 (w64 (n + 8))) rfl) <| w_done ?_
  refine w_sl 0 (.int .u32 (x / 256)) rfl <| w_sl 2 (.int .i64 (w64 (n + 8))) rfl <| bits_Len32.j2_ok (k := k) hle he
 ·
  refine w_else rfl (decide_eq_false c2) <| w_skip <| w_sl 0 (.int .u32 x) rfl <| w_sl 2 (.int .i64 n) rfl <| bits_Len32.j2_ok (k := k) hle he
theorem bits_Len32.calls (k : Nat) {H : Hp} {L : Items} {x : Int} {r : Int} (he : bits_Len32.f k x = some r) : Ct Tryz.prog 167 ⟨[.int .u32 x]⟩ H L (fun v H' L' => L = L' ∧ H = H' ∧ v = .int .i64 r) := by
 refine ct_outs (O := bits_Len32.out r) (fun _ _ h => h) ?_
 have hle : H.le H := .refl _
 unfold bits_Len32.f at he
 refine ct_enter (args := [.int .u32 x]) fn_167 rfl nt_167 rfl <| w_seq <| w_region rfl <| w_d rfl (d_assign (v := .int .i64 0) rfl) <| w_done <| w_seq <| w_seq <| w_region rfl <| w_d rfl (d_move (v := .int .u32 x) rfl) <| w_d rfl (d_geq rfl rfl) <| w_done ?_
 rcases its he with ⟨c1, he⟩ | ⟨c1, he⟩
 ·
  refine w_then rfl (decide_eq_true c1) <| w_seq <| w_region rfl <| w_d rfl (d_move (v := .int .u32 x) rfl) <| w_d rfl (d_shr (c := x / 65536) rfl rfl (by decide) rfl) <| w_d rfl (d_assign (v := .int .u32 (x / 65536)) rfl) <| w_done <| w_region rfl <| w_d rfl (d_assign (v := .int .i64 16) rfl) <| w_done <| w_sl 0 (.int .u32 (x / 65536)) rfl <| w_sl 2 (.int .i64 16) rfl <| bits_Len32.j1_ok (k := k) hle he
 ·
  refine w_else rfl (decide_eq_false c1) <| w_skip <| w_sl 0 (.int .u32 x) rfl <| w_sl 2 (.int .i64 0) rfl <| bits_Len32.j1_ok (k := k) hle he
/-! ### math/bits.LeadingZeros32 -/
noncomputable def bits_LeadingZeros32.C : Code := (Tryz.f155.body).getD .skip
def bits_LeadingZeros32.out (r : Int) (H : Hp) (v : Value) : Prop := v = .int .i64 r
abbrev bits_LeadingZeros32.R (H0 : Hp) (L : Items) (r : Int) : Value → Hp → Items → Prop := fun v H' L' => (∃ p, L' = p ++ L) ∧ H0.le H' ∧ bits_LeadingZeros32.out r H' v
noncomputable def bits_LeadingZeros32.f (k : Nat) (x : Int) : Option Int := (bits_Len32.f k x).bind fun y1 => some (w64 (32 - y1))
theorem bits_LeadingZeros32.mono : ∀ k y0, LeO (bits_LeadingZeros32.f k y0) (bits_LeadingZeros32.f (k + 1) y0) := fun k _ => by unfold bits_LeadingZeros32.f; exact (LeO.bind (bits_Len32.mono k _) fun _ => LeO.refl _)
theorem bits_LeadingZeros32.calls (k : Nat) {H : Hp} {L : Items} {x : Int} {r : Int} (he : bits_LeadingZeros32.f k x = some r) : Ct Tryz.prog 155 ⟨[.int .u32 x]⟩ H L (fun v H' L' => L = L' ∧ H = H' ∧ v = .int .i64 r) := by
 refine ct_outs (O := bits_LeadingZeros32.out r) (fun _ _ h => h) ?_
 have hle : H.le H := .refl _
 unfold bits_LeadingZeros32.f at he
 refine ct_enter (args := [.int .u32 x]) fn_155 rfl nt_155 rfl <| w_seq <| w_region rfl <| w_d rfl (d_assign (v := .int .i64 0) rfl) <| w_done <| w_seq <| w_region rfl <| w_d rfl (d_move (v := .int .u32 x) rfl) ?_
 obtain ⟨y1, hy2, he⟩ := Option.bind_eq_some_iff.1 he
 refine w_d rfl (call_d (o_call co167 (vs := [.int .u32 x]) rfl (bits_Len32.calls k hy2))) <| w_d rfl (d_sub (c := w64 (32 - y1)) rfl rfl rfl) <| w_d rfl (d_assign (v := .int .i64 (w64 (32 - y1))) rfl) <| w_done ?_
 obtain rfl := Option.some.inj he
 refine w_return fn_155 rs_155 (.tmp (v := .int .i64 (w64 (32 - y1))) rfl .nil) <| ⟨⟨[], rfl⟩, hle, rfl⟩
/-! ### radome/wide.guess -/
noncomputable def wide_guess.C : Code := (Tryz.f156.body).getD .skip
def wide_guess.out (r : Int) (H : Hp) (v : Value) : Prop := v = .int .u64 r
abbrev wide_guess.R (H0 : Hp) (L : Items) (r : Int) : Value → Hp → Items → Prop := fun v H' L' => (∃ p, L' = p ++ L) ∧ H0.le H' ∧ wide_guess.out r H' v
structure wide_guess.Hs where
 l0 : (List Int) → (List Int) → Int → Int → Int → Int → Option Int
noncomputable def wide_guess.b0 (k : Nat) (h : wide_guess.Hs)  (r_ : List Int) (d : List Int) (i : Int) (n : Int) (q : Int) (left : Int) : Option Int := if (!(decide (4294967296 ≤ q))) = true → (0 : Int) ≤ w64 (n - 2) ∧ w64 (n - 2) < (d.length : Int) then (if (!(decide (4294967296 ≤ q))) = true → (0 : Int) ≤ w64 ((w64 (i + n)) - 2) ∧ w64 ((w64 (i + n)) - 2) < (r_.length : Int) then (if ((decide (4294967296 ≤ q)) || (decide ((ior .u64 ((left * 4294967296) % 18446744073709551616) ((rd r_ (w64 ((w64 (i + n)) - 2))) % 18446744073709551616)) < ((q * ((rd d (w64 (n - 2))) % 18446744073709551616)) % 18446744073709551616)))) = true then (if (0 : Int) ≤ w64 (n - 1) ∧ w64 (n - 1) < (d.length : Int) then (if 4294967296 ≤ ((left + ((rd d (w64 (n - 1))) % 18446744073709551616)) % 18446744073709551616) then (some ((q - 1) % 18446744073709551616)) else (h.l0 r_ d i n ((q - 1) % 18446744073709551616) ((left + ((rd d (w64 (n - 1))) % 18446744073709551616)) % 18446744073709551616))) else none) else (some (q))) else none) else none
noncomputable def wide_guess.hs : Nat → wide_guess.Hs
 | 0 => ⟨fun _ _ _ _ _ _ => none⟩
 | k + 1 => ⟨fun x0 x1 x2 x3 x4 x5 => wide_guess.b0 k (wide_guess.hs k) x0 x1 x2 x3 x4 x5⟩
noncomputable def wide_guess.f (k : Nat) (r_ : List Int) (d : List Int) (i : Int) : Option Int := (fun h : wide_guess.Hs => if (0 : Int) ≤ w64 (i + (d.length : Int)) ∧ w64 (i + (d.length : Int)) < (r_.length : Int) then (if (0 : Int) ≤ w64 ((w64 (i + (d.length : Int))) - 1) ∧ w64 ((w64 (i + (d.length : Int))) - 1) < (r_.length : Int) then (if (0 : Int) ≤ w64 ((d.length : Int) - 1) ∧ w64 ((d.length : Int) - 1) < (d.length : Int) then (if ((rd d (w64 ((d.length : Int) - 1))) % 18446744073709551616) ≠ 0 then (if (0 : Int) ≤ w64 ((d.length : Int) - 1) ∧ w64 ((d.length : Int) - 1) < (d.length : Int) then (if ((rd d (w64 ((d.length : Int) - 1))) % 18446744073709551616) ≠ 0 then (h.l0 r_ d i (d.length : Int) ((Int.tdiv (ior .u64 ((((rd r_ (w64 (i + (d.length : Int)))) % 18446744073709551616) * 4294967296) % 18446744073709551616) ((rd r_ (w64 ((w64 (i + (d.length : Int))) - 1))) % 18446744073709551616)) ((rd d (w64 ((d.length : Int) - 1))) % 18446744073709551616)) % 18446744073709551616) (Int.tmod (ior .u64 ((((rd r_ (w64 (i + (d.length : Int)))) % 18446744073709551616) * 4294967296) % 18446744073709551616) ((rd r_ (w64 ((w64 (i + (d.length : Int))) - 1))) % 18446744073709551616)) ((rd d (w64 ((d.length : Int) - 1))) % 18446744073709551616))) else none) else none) else none) else none) else none) else none) (wide_guess.hs k)
structure wide_guess.LE (h h' : wide_guess.Hs) : Prop where
 l0 : ∀ y0 y1 y2 y3 y4 y5, LeO (h.l0 y0 y1 y2 y3 y4 y5) (h'.l0 y0 y1 y2 y3 y4 y5)
theorem wide_guess.b0_mono {k : Nat} {h h' : wide_guess.Hs} (hl : wide_guess.LE h h') : ∀ y0 y1 y2 y3 y4 y5, LeO (wide_guess.b0 k h y0 y1 y2 y3 y4 y5) (wide_guess.b0 (k + 1) h' y0 y1 y2 y3 y4 y5) := fun _ _ _ _ _ _ => (LeO.ite (LeO.ite (LeO.ite (LeO.ite (LeO.ite (LeO.refl _) (hl.l0 _ _ _ _ _ _)) (LeO.refl _)) (LeO.refl _)) (LeO.refl _)) (LeO.refl _))
theorem wide_guess.hs_mono : ∀ k, wide_guess.LE (wide_guess.hs k) (wide_guess.hs (k + 1))
 | 0 => ⟨fun _ _ _ _ _ _ => LeO.none _⟩
 | k + 1 => ⟨wide_guess.b0_mono (k := k) (wide_guess.hs_mono k)⟩
theorem wide_guess.mono : ∀ k y0 y1 y2, LeO (wide_guess.f k y0 y1 y2) (wide_guess.f (k + 1) y0 y1 y2) := fun k _ _ _ => have hl := wide_guess.hs_mono k; by unfold wide_guess.f; exact (LeO.ite (LeO.ite (LeO.ite (LeO.ite (LeO.ite (LeO.ite (hl.l0 _ _ _ _ _ _) (LeO.refl _)) (LeO.refl _)) (LeO.refl _)) (LeO.refl _)) (LeO.refl _)) (LeO.refl _))
noncomputable def wide_guess.Kl0 : List Item := .code (lopB (blkB (seqL (seqR (seqR (seqR (seqR wide_guess.C))))))) :: .inLoop (lopB (blkB (seqL (seqR (seqR (seqR (seqR wide_guess.C))))))) :: .inBlock 0 :: .code (seqR (seqR (seqR (seqR (seqR wide_guess.C))))) :: []
structure wide_guess.OK (h : wide_guess.Hs) : Prop where
 l0 : ∀ {H0 H : Hp} {L : Items} {r : Int} {jk_ : Nat → Value} {r_ : List Int} {d : List Int} {i : Int} {n : Int} {q : Int} {left : Int} {v_r_ : Value} {v_d : Value} (_ : H0.le H) (_he : h.l0 r_ d i n q left = some r) (_h_r_ : Src (Kd.int .u32) H L v_r_ r_) (_h_d : Src (Kd.int .u32) H L v_d d), Wp Tryz.prog 156 83 wide_guess.Kl0 (upd (upd (upd (upd (upd (upd (upd jk_ 0 (v_r_)) 1 (v_d)) 2 (.int .i64 i)) 6 (.int .u64 0)) 7 (.int .i64 n)) 9 (.int .u64 q)) 10 (.int .u64 left)) H (L) (wide_guess.R H0 L r)
theorem wide_guess.b0_ok {k : Nat} {h : wide_guess.Hs} (hh : wide_guess.OK h) {H0 H : Hp} {L : Items} {r : Int} {jk_ : Nat → Value} {r_ : List Int} {d : List Int} {i : Int} {n : Int} {q : Int} {left : Int} {v_r_ : Value} {v_d : Value} (hle : H0.le H) (he : wide_guess.b0 k h r_ d i n q left = some r) (h_r_ : Src (Kd.int .u32) H L v_r_ r_) (h_d : Src (Kd.int .u32) H L v_d d) : Wp Tryz.prog 156 83 wide_guess.Kl0 (upd (upd (upd (upd (upd (upd (upd jk_ 0 (v_r_)) 1 (v_d)) 2 (.int .i64 i)) 6 (.int .u64 0)) 7 (.int .i64 n)) 9 (.int .u64 q)) 10 (.int .u64 left)) H (L) (wide_guess.R H0 L r) := by
 unfold wide_guess.b0 at he
 unfold wide_guess.Kl0
 refine w_seq <| w_seq ?_
 obtain ⟨c16, he⟩ := rq he
 obtain ⟨c28, he⟩ := rq he
 refine w_drawn (p := 22) (tl := [22, 23]) [[], [(0, some 46)], [(1, some 47)], [(2, some 48)], [(2, some 48)], [(2, some 48)], [(2, some 48), (5, some 51)], [(2, some 48), (4, some 50), (6, some 52)], [(2, some 48), (7, some 53)], [(2, some 48), (8, some 54)], [(2, some 48), (3, some 49), (9, some 55)], [(2, some 48)], [(2, some 48), (11, some 57)], [(2, some 48)], [(2, some 48)], [(2, some 48)], [(2, some 48), (14, some 60), (15, some 61)], [(2, some 48), (16, some 62)], [(2, some 48), (13, some 59), (17, some 63)], [(2, some 48), (18, some 64)], [(2, some 48), (19, some 65)], [(2, some 48), (12, some 58), (20, some 66)]] [some 46, some 47, some 48, some 49, some 50, some 51, some 52, some 53, some 54, some 55, some 56, some 57, some 58, some 59, some 60, some 61, some 62, some 63, some 64, some 65, some 66, some 67] (fctF (.is (.int .u64 q) :: .is (.bool (decide (4294967296 ≤ q))) :: .is (.bool (decide (4294967296 ≤ q))) :: .is (cond (!(decide (4294967296 ≤ q))) (.int .u64 q) undef) :: .is (cond (!(decide (4294967296 ≤ q))) v_d undef) :: .is (cond (!(decide (4294967296 ≤ q))) (.int .i64 n) undef) :: .is (cond (!(decide (4294967296 ≤ q))) (.int .i64 (w64 (n - 2))) undef) :: .is (cond (!(decide (4294967296 ≤ q))) (.pointer (some (pel v_d (w64 (n - 2)) 1))) undef) :: .is (cond (!(decide (4294967296 ≤ q))) (.int .u32 (rd d (w64 (n - 2)))) undef) :: .is (cond (!(decide (4294967296 ≤ q))) (.int .u64 ((rd d (w64 (n - 2))) % 18446744073709551616)) undef) :: .is (cond (!(decide (4294967296 ≤ q))) (.int .u64 ((q * ((rd d (w64 (n - 2))) % 18446744073709551616)) % 18446744073709551616)) undef) :: .is (cond (!(decide (4294967296 ≤ q))) (.int .u64 left) undef) :: .is (cond (!(decide (4294967296 ≤ q))) (.int .u64 ((left * 4294967296) % 18446744073709551616)) undef) :: .is (cond (!(decide (4294967296 ≤ q))) v_r_ undef) :: .is (cond (!(decide (4294967296 ≤ q))) (.int .i64 i) undef) :: .is (cond (!(decide (4294967296 ≤ q))) (.int .i64 n) undef) :: .is (cond (!(decide (4294967296 ≤ q))) (.int .i64 (w64 (i + n))) undef) :: .is (cond (!(decide (4294967296 ≤ q))) (.int .i64 (w64 ((w64 (i + n)) - 2))) undef) :: .is (cond (!(decide (4294967296 ≤ q))) (.pointer (some (pel v_r_ (w64 ((w64 (i + n)) - 2)) 1))) undef) :: .is (cond (!(decide (4294967296 ≤ q))) (.int .u32 (rd r_ (w64 ((w64 (i + n)) - 2)))) undef) :: .is (cond (!(decide (4294967296 ≤ q))) (.int .u64 ((rd r_ (w64 ((w64 (i + n)) - 2))) % 18446744073709551616)) undef) :: .is (cond (!(decide (4294967296 ≤ q))) (.int .u64 (ior .u64 ((left * 4294967296) % 18446744073709551616) ((rd r_ (w64 ((w64 (i + n)) - 2))) % 18446744073709551616))) undef) :: [])) (fun m_ => L) (fun _ => none) mixed (by kernel_rfl) (by kernel_rfl) rfl (fct_mono (by kernel_rfl)) ⟨(fun H' m_ hH hm_ hu_ => depK_nil <| s_d (m_ 0) rfl (d_move (v := .int .u64 q) rfl) (by exact rfl) rfl), (by rintro H' m_ hH hm_ hu_ _ rfl; exact depK_nil <| s_d (m_ 1) rfl (d_geq rfl rfl) (by exact rfl) rfl), (by rintro H' m_ hH hm_ hu_ _ rfl; exact depK_nil <| s_d (m_ 2) rfl (d_move (v := .bool (decide (4294967296 ≤ q))) rfl) (by exact rfl) rfl), (by rintro H' m_ hH hm_ hu_ _ rfl; exact depK_nil <| s_g (g := !(decide (4294967296 ≤ q))) (m_ 3) rfl rfl rfl wn_f (fun g11 => d_move (v := .int .u64 q) rfl) rfl (by exact fun g_ => cvt g_) (by exact fun g_ => cnt g_)), (by rintro H' m_ hH hm_ hu_ _ rfl; exact depK_nil <| s_g (g := !(decide (4294967296 ≤ q))) (m_ 4) rfl rfl rfl wn_f (fun g12 => d_move (v := v_d) rfl) rfl (by exact fun g_ => cvt g_) (by exact fun g_ => cnt g_)), (by rintro H' m_ hH hm_ hu_ _ rfl; exact depK_nil <| s_g (g := !(decide (4294967296 ≤ q))) (m_ 5) rfl rfl rfl wn_f (fun g13 => d_move (v := .int .i64 n) rfl) rfl (by exact fun g_ => cvt g_) (by exact fun g_ => cnt g_)), (by rintro H' m_ hH hm_ hu_ _ rfl _ rfl; exact depK_nil <| s_g (g := !(decide (4294967296 ≤ q))) (m_ 6) rfl rfl rfl wn_f (fun g14 => d_sub (c := w64 (n - 2)) (cvt g14) rfl rfl) rfl (by exact fun g_ => cvt g_) (by exact fun g_ => cnt g_)), (by rintro H' m_ hH hm_ hu_ _ rfl _ rfl _ rfl; exact depK_nil <| s_g (g := !(decide (4294967296 ≤ q))) (m_ 7) rfl rfl rfl wn_f (fun g15 => d_index (sz := 1) Tryz.underlying22 sz167 (cvt g15) (h_d.mono hH) (cvt g15) (c16 g15)) rfl (by exact fun g_ => cvt g_) (by exact fun g_ => cnt g_)), (by rintro H' m_ hH hm_ hu_ _ rfl _ rfl; exact depK_nil <| s_g (g := !(decide (4294967296 ≤ q))) (m_ 8) rfl rfl rfl wn_f (fun g17 => d_ldint ty167 (cvt g17) (h_d.mono hH) (c16 g17)) rfl (by exact fun g_ => cvt g_) (by exact fun g_ => cnt g_)), (by rintro H' m_ hH hm_ hu_ _ rfl _ rfl; exact depK_nil <| s_g (g := !(decide (4294967296 ≤ q))) (m_ 9) rfl rfl rfl wn_f (fun g18 => d_conv (c := (rd d (w64 (n - 2))) % 18446744073709551616) Tryz.underlying167 Tryz.underlying113 (cvt g18) rfl) rfl (by exact fun g_ => cvt g_) (by exact fun g_ => cnt g_)), (by rintro H' m_ hH hm_ hu_ _ rfl _ rfl _ rfl; exact depK_nil <| s_g (g := !(decide (4294967296 ≤ q))) (m_ 10) rfl rfl rfl wn_f (fun g19 => d_mul (c := (q * ((rd d (w64 (n - 2))) % 18446744073709551616)) % 18446744073709551616) (cvt g19) (cvt g19) rfl) rfl (by exact fun g_ => cvt g_) (by exact fun g_ => cnt g_)), (by rintro H' m_ hH hm_ hu_ _ rfl; exact depK_nil <| s_g (g := !(decide (4294967296 ≤ q))) (m_ 11) rfl rfl rfl wn_f (fun g20 => d_move (v := .int .u64 left) rfl) rfl (by exact fun g_ => cvt g_) (by exact fun g_ => cnt g_)), (by rintro H' m_ hH hm_ hu_ _ rfl _ rfl; exact depK_nil <| s_g (g := !(decide (4294967296 ≤ q))) (m_ 12) rfl rfl rfl wn_f (fun g21 => d_shl (c := (left * 4294967296) % 18446744073709551616) (cvt g21) rfl (by decide) rfl) rfl (by exact fun g_ => cvt g_) (by exact fun g_ => cnt g_)), (by rintro H' m_ hH hm_ hu_ _ rfl; exact depK_nil <| s_g (g := !(decide (4294967296 ≤ q))) (m_ 13) rfl rfl rfl wn_f (fun g22 => d_move (v := v_r_) rfl) rfl (by exact fun g_ => cvt g_) (by exact fun g_ => cnt g_)), (by rintro H' m_ hH hm_ hu_ _ rfl; exact depK_nil <| s_g (g := !(decide (4294967296 ≤ q))) (m_ 14) rfl rfl rfl wn_f (fun g23 => d_move (v := .int .i64 i) rfl) rfl (by exact fun g_ => cvt g_) (by exact fun g_ => cnt g_)), (by rintro H' m_ hH hm_ hu_ _ rfl; exact depK_nil <| s_g (g := !(decide (4294967296 ≤ q))) (m_ 15) rfl rfl rfl wn_f (fun g24 => d_move (v := .int .i64 n) rfl) rfl (by exact fun g_ => cvt g_) (by exact fun g_ => cnt g_)), (by rintro H' m_ hH hm_ hu_ _ rfl _ rfl _ rfl; exact depK_nil <| s_g (g := !(decide (4294967296 ≤ q))) (m_ 16) rfl rfl rfl wn_f (fun g25 => d_add (c := w64 (i + n)) (cvt g25) (cvt g25) rfl) rfl (by exact fun g_ => cvt g_) (by exact fun g_ => cnt g_)), (by rintro H' m_ hH hm_ hu_ _ rfl _ rfl; exact depK_nil <| s_g (g := !(decide (4294967296 ≤ q))) (m_ 17) rfl rfl rfl wn_f (fun g26 => d_sub (c := w64 ((w64 (i + n)) - 2)) (cvt g26) rfl rfl) rfl (by exact fun g_ => cvt g_) (by exact fun g_ => cnt g_)), (by rintro H' m_ hH hm_ hu_ _ rfl _ rfl _ rfl; exact depK_nil <| s_g (g := !(decide (4294967296 ≤ q))) (m_ 18) rfl rfl rfl wn_f (fun g27 => d_index (sz := 1) Tryz.underlying22 sz167 (cvt g27) (h_r_.mono hH) (cvt g27) (c28 g27)) rfl (by exact fun g_ => cvt g_) (by exact fun g_ => cnt g_)), (by rintro H' m_ hH hm_ hu_ _ rfl _ rfl; exact depK_nil <| s_g (g := !(decide (4294967296 ≤ q))) (m_ 19) rfl rfl rfl wn_f (fun g29 => d_ldint ty167 (cvt g29) (h_r_.mono hH) (c28 g29)) rfl (by exact fun g_ => cvt g_) (by exact fun g_ => cnt g_)), (by rintro H' m_ hH hm_ hu_ _ rfl _ rfl; exact depK_nil <| s_g (g := !(decide (4294967296 ≤ q))) (m_ 20) rfl rfl rfl wn_f (fun g30 => d_conv (c := (rd r_ (w64 ((w64 (i + n)) - 2))) % 18446744073709551616) Tryz.underlying167 Tryz.underlying113 (cvt g30) rfl) rfl (by exact fun g_ => cvt g_) (by exact fun g_ => cnt g_)), (by rintro H' m_ hH hm_ hu_ _ rfl _ rfl _ rfl; exact depK_nil <| s_g (g := !(decide (4294967296 ≤ q))) (m_ 21) rfl rfl rfl wn_f (fun g31 => d_bor (cvt g31) (cvt g31)) rfl (by exact fun g_ => cvt g_) (by exact fun g_ => cnt g_)), trivial⟩ ?_
 intro H32 e33
 rintro _ _ rfl _ _ rfl _ _ rfl _ _ rfl _ _ rfl _ _ rfl _ _ rfl _ _ rfl _ _ rfl _ _ rfl _ _ rfl _ _ rfl _ _ rfl _ _ rfl _ _ rfl _ _ rfl _ _ rfl _ _ rfl _ _ rfl _ _ rfl _ _ rfl _ _ rfl
 refine w_g (g := !(decide (4294967296 ≤ q))) rfl rfl rfl wn_f (fun g34 => d_gtr (cvt g34) (cvt g34)) <| w_d rfl (d_or' (b := (decide (4294967296 ≤ q))) (p := (decide ((ior .u64 ((left * 4294967296) % 18446744073709551616) ((rd r_ (w64 ((w64 (i + n)) - 2))) % 18446744073709551616)) < ((q * ((rd d (w64 (n - 2))) % 18446744073709551616)) % 18446744073709551616)))) rfl rfl rfl) <| w_done ?_
 rcases its he with ⟨c35, he⟩ | ⟨c35, he⟩
 ·
  refine w_then rfl c35 <| w_skip <| w_block <| w_seq <| w_region rfl <| w_d rfl (d_move (v := .int .u64 q) rfl) <| w_d rfl (d_sub (c := (q - 1) % 18446744073709551616) rfl rfl rfl) <| w_d rfl (d_assign (v := .int .u64 ((q - 1) % 18446744073709551616)) rfl) <| w_done <| w_seq <| w_region rfl <| w_d rfl (d_move (v := .int .u64 left) rfl) ?_
  refine w_d rfl (d_move (v := v_d) rfl) <| w_d rfl (d_move (v := .int .i64 n) rfl) <| w_d rfl (d_sub (c := w64 (n - 1)) rfl rfl rfl) ?_
  obtain ⟨c36, he⟩ := rq he
  refine w_d rfl (d_index (sz := 1) Tryz.underlying22 sz167 rfl (h_d.mono e33) rfl c36) <| w_d rfl (d_ldint ty167 rfl (h_d.mono e33) c36) <| w_d rfl (d_conv (c := (rd d (w64 (n - 1))) % 18446744073709551616) Tryz.underlying167 Tryz.underlying113 rfl rfl) <| w_d rfl (d_add (c := (left + ((rd d (w64 (n - 1))) % 18446744073709551616)) % 18446744073709551616) rfl rfl rfl) <| w_d rfl (d_assign (v := .int .u64 ((left + ((rd d (w64 (n - 1))) % 18446744073709551616)) % 18446744073709551616)) rfl) <| w_done <| w_seq <| w_region rfl <| w_d rfl (d_move (v := .int .u64 ((left + ((rd d (w64 (n - 1))) % 18446744073709551616)) % 18446744073709551616)) rfl) <| w_d rfl (d_geq rfl rfl) <| w_done ?_
  rcases its he with ⟨c37, he⟩ | ⟨c37, he⟩
  ·
   refine w_then rfl (decide_eq_true c37) <| w_exit rfl <| w_seq <| w_region rfl <| w_d rfl (d_move (v := .int .u64 ((q - 1) % 18446744073709551616)) rfl) <| w_d rfl (d_assign (v := .int .u64 ((q - 1) % 18446744073709551616)) rfl) <| w_done ?_
   obtain rfl := Option.some.inj he
   refine w_return fn_156 rs_156 (.tmp (v := .int .u64 ((q - 1) % 18446744073709551616)) rfl .nil) <| ⟨⟨[], rfl⟩, hle.trans e33, rfl⟩
  ·
   refine w_else rfl (decide_eq_false c37) <| w_skip <| w_inBlock <| w_inLoop <| w_sl 0 (v_r_) rfl <| w_sl 1 (v_d) rfl <| w_sl 2 (.int .i64 i) rfl <| w_sl 6 (.int .u64 0) rfl <| w_sl 7 (.int .i64 n) rfl <| w_sl 9 (.int .u64 ((q - 1) % 18446744073709551616)) rfl <| w_sl 10 (.int .u64 ((left + ((rd d (w64 (n - 1))) % 18446744073709551616)) % 18446744073709551616)) rfl <| hh.l0 (hle.trans e33) he (h_r_.mono e33) (h_d.mono e33)
 ·
  refine w_else rfl (Bool.eq_false_iff.2 c35) <| w_exit rfl <| w_seq <| w_region rfl <| w_d rfl (d_move (v := .int .u64 q) rfl) <| w_d rfl (d_assign (v := .int .u64 q) rfl) <| w_done ?_
  obtain rfl := Option.some.inj he
  refine w_return fn_156 rs_156 (.tmp (v := .int .u64 q) rfl .nil) <| ⟨⟨[], rfl⟩, hle.trans e33, rfl⟩
theorem wide_guess.ok : ∀ k, wide_guess.OK (wide_guess.hs k)
 | 0 => ⟨(by intros; exact nomatch (show none = some _ from by assumption))⟩
 | k + 1 => ⟨wide_guess.b0_ok (k := k) (wide_guess.ok k)⟩
theorem wide_guess.calls (k : Nat) {H : Hp} {L : Items} {r_ : List Int} {d : List Int} {i : Int} {v0_r_ : Value} {v1_d : Value} {r : Int} (he : wide_guess.f k r_ d i = some r) (h0_r_ : Src (Kd.int .u32) H L v0_r_ r_) (h1_d : Src (Kd.int .u32) H L v1_d d) : Ct Tryz.prog 156 ⟨[v0_r_, v1_d, .int .i64 i]⟩ H L (fun v H' L' => L = L' ∧ H = H' ∧ v = .int .u64 r) := by
 refine ct_outs (O := wide_guess.out r) (fun _ _ h => h) ?_
 have hle : H.le H := .refl _
 have hh := wide_guess.ok k
 unfold wide_guess.f at he
 refine ct_enter (args := [v0_r_, v1_d, .int .i64 i]) fn_156 rfl nt_156 rfl <| w_seq <| w_region rfl <| w_d rfl (d_assign (v := .int .u64 0) rfl) <| w_done <| w_seq <| w_region rfl <| w_d rfl (d_move (v := v1_d) rfl) <| w_d rfl (d_len Tryz.underlying22 rfl h1_d) <| w_d rfl (d_assign (v := .int .i64 (d.length : Int)) rfl) <| w_done <| w_seq ?_
 obtain ⟨c1, he⟩ := rq he
 obtain ⟨c2, he⟩ := rq he
 refine w_drawn (p := 16) (tl := [16, 17]) [[], [], [], [(1, some 14), (2, some 15)], [(0, some 13), (3, some 16)], [(4, some 17)], [(5, some 18)], [(6, some 19)], [], [], [], [(9, some 22), (10, some 23)], [(11, some 24)], [(8, some 21), (12, some 25)], [(13, some 26)], [(14, some 27)]] [some 13, some 14, some 15, some 16, some 17, some 18, some 19, some 20, some 21, some 22, some 23, some 24, some 25, some 26, some 27, some 28] (fctF (.is (v0_r_) :: .is (.int .i64 i) :: .is (.int .i64 (d.length : Int)) :: .is (.int .i64 (w64 (i + (d.length : Int)))) :: .is (.pointer (some (pel v0_r_ (w64 (i + (d.length : Int))) 1))) :: .is (.int .u32 (rd r_ (w64 (i + (d.length : Int))))) :: .is (.int .u64 ((rd r_ (w64 (i + (d.length : Int)))) % 18446744073709551616)) :: .is (.int .u64 ((((rd r_ (w64 (i + (d.length : Int)))) % 18446744073709551616) * 4294967296) % 18446744073709551616)) :: .is (v0_r_) :: .is (.int .i64 i) :: .is (.int .i64 (d.length : Int)) :: .is (.int .i64 (w64 (i + (d.length : Int)))) :: .is (.int .i64 (w64 ((w64 (i + (d.length : Int))) - 1))) :: .is (.pointer (some (pel v0_r_ (w64 ((w64 (i + (d.length : Int))) - 1)) 1))) :: .is (.int .u32 (rd r_ (w64 ((w64 (i + (d.length : Int))) - 1)))) :: .is (.int .u64 ((rd r_ (w64 ((w64 (i + (d.length : Int))) - 1))) % 18446744073709551616)) :: [])) (fun m_ => L) (fun _ => none) mixed (by kernel_rfl) (by kernel_rfl) rfl (fct_mono (by kernel_rfl)) ⟨(fun H' m_ hH hm_ hu_ => depK_nil <| s_d (m_ 0) rfl (d_move (v := v0_r_) rfl) (by exact rfl) rfl), (fun H' m_ hH hm_ hu_ => depK_nil <| s_d (m_ 1) rfl (d_move (v := .int .i64 i) rfl) (by exact rfl) rfl), (fun H' m_ hH hm_ hu_ => depK_nil <| s_d (m_ 2) rfl (d_move (v := .int .i64 (d.length : Int)) rfl) (by exact rfl) rfl), (by rintro H' m_ hH hm_ hu_ _ rfl _ rfl; exact depK_nil <| s_d (m_ 3) rfl (d_add (c := w64 (i + (d.length : Int))) rfl rfl rfl) (by exact rfl) rfl), (by rintro H' m_ hH hm_ hu_ _ rfl _ rfl; exact depK_nil <| s_d (m_ 4) rfl (d_index (sz := 1) Tryz.underlying22 sz167 rfl (h0_r_.mono hH) rfl c1) (by exact rfl) rfl), (by rintro H' m_ hH hm_ hu_ _ rfl; exact depK_nil <| s_d (m_ 5) rfl (d_ldint ty167 rfl (h0_r_.mono hH) c1) (by exact rfl) rfl), (by rintro H' m_ hH hm_ hu_ _ rfl; exact depK_nil <| s_d (m_ 6) rfl (d_conv (c := (rd r_ (w64 (i + (d.length : Int)))) % 18446744073709551616) Tryz.underlying167 Tryz.underlying113 rfl rfl) (by exact rfl) rfl), (by rintro H' m_ hH hm_ hu_ _ rfl; exact depK_nil <| s_d (m_ 7) rfl (d_shl (c := (((rd r_ (w64 (i + (d.length : Int)))) % 18446744073709551616) * 4294967296) % 18446744073709551616) rfl rfl (by decide) rfl) (by exact rfl) rfl), (fun H' m_ hH hm_ hu_ => depK_nil <| s_d (m_ 8) rfl (d_move (v := v0_r_) rfl) (by exact rfl) rfl), (fun H' m_ hH hm_ hu_ => depK_nil <| s_d (m_ 9) rfl (d_move (v := .int .i64 i) rfl) (by exact rfl) rfl), (fun H' m_ hH hm_ hu_ => depK_nil <| s_d (m_ 10) rfl (d_move (v := .int .i64 (d.length : Int)) rfl) (by exact rfl) rfl), (by rintro H' m_ hH hm_ hu_ _ rfl _ rfl; exact depK_nil <| s_d (m_ 11) rfl (d_add (c := w64 (i + (d.length : Int))) rfl rfl rfl) (by exact rfl) rfl), (by rintro H' m_ hH hm_ hu_ _ rfl; exact depK_nil <| s_d (m_ 12) rfl (d_sub (c := w64 ((w64 (i + (d.length : Int))) - 1)) rfl rfl rfl) (by exact rfl) rfl), (by rintro H' m_ hH hm_ hu_ _ rfl _ rfl; exact depK_nil <| s_d (m_ 13) rfl (d_index (sz := 1) Tryz.underlying22 sz167 rfl (h0_r_.mono hH) rfl c2) (by exact rfl) rfl), (by rintro H' m_ hH hm_ hu_ _ rfl; exact depK_nil <| s_d (m_ 14) rfl (d_ldint ty167 rfl (h0_r_.mono hH) c2) (by exact rfl) rfl), (by rintro H' m_ hH hm_ hu_ _ rfl; exact depK_nil <| s_d (m_ 15) rfl (d_conv (c := (rd r_ (w64 ((w64 (i + (d.length : Int))) - 1))) % 18446744073709551616) Tryz.underlying167 Tryz.underlying113 rfl rfl) (by exact rfl) rfl), trivial⟩ ?_
 intro H3 e4
 rintro _ _ rfl _ _ rfl _ _ rfl _ _ rfl _ _ rfl _ _ rfl _ _ rfl _ _ rfl _ _ rfl _ _ rfl _ _ rfl _ _ rfl _ _ rfl _ _ rfl _ _ rfl _ _ rfl
 refine w_d rfl (d_bor rfl rfl) <| w_d rfl (d_assign (v := .int .u64 (ior .u64 ((((rd r_ (w64 (i + (d.length : Int)))) % 18446744073709551616) * 4294967296) % 18446744073709551616) ((rd r_ (w64 ((w64 (i + (d.length : Int))) - 1))) % 18446744073709551616))) rfl) <| w_done <| w_seq ?_
 obtain ⟨c5, he⟩ := rq he
 obtain ⟨c6, he⟩ := rq he
 obtain ⟨c7, he⟩ := rq he
 obtain ⟨c8, he⟩ := rq he
 refine w_drawn (p := 17) (tl := [17]) [[], [], [], [(2, some 32)], [(1, some 31), (3, some 33)], [(4, some 34)], [(5, some 35)], [(0, some 30), (6, some 36)], [], [], [], [(10, some 40)], [(9, some 39), (11, some 41)], [(12, some 42)], [(13, some 43)], [(8, some 38), (14, some 44)], [(7, some 37)]] [some 30, some 31, some 32, some 33, some 34, some 35, some 36, some 37, some 38, some 39, some 40, some 41, some 42, some 43, some 44, some 45, some 9] (fctF (.is (.int .u64 (ior .u64 ((((rd r_ (w64 (i + (d.length : Int)))) % 18446744073709551616) * 4294967296) % 18446744073709551616) ((rd r_ (w64 ((w64 (i + (d.length : Int))) - 1))) % 18446744073709551616))) :: .is (v1_d) :: .is (.int .i64 (d.length : Int)) :: .is (.int .i64 (w64 ((d.length : Int) - 1))) :: .is (.pointer (some (pel v1_d (w64 ((d.length : Int) - 1)) 1))) :: .is (.int .u32 (rd d (w64 ((d.length : Int) - 1)))) :: .is (.int .u64 ((rd d (w64 ((d.length : Int) - 1))) % 18446744073709551616)) :: .is (.int .u64 ((Int.tdiv (ior .u64 ((((rd r_ (w64 (i + (d.length : Int)))) % 18446744073709551616) * 4294967296) % 18446744073709551616) ((rd r_ (w64 ((w64 (i + (d.length : Int))) - 1))) % 18446744073709551616)) ((rd d (w64 ((d.length : Int) - 1))) % 18446744073709551616)) % 18446744073709551616)) :: .is (.int .u64 (ior .u64 ((((rd r_ (w64 (i + (d.length : Int)))) % 18446744073709551616) * 4294967296) % 18446744073709551616) ((rd r_ (w64 ((w64 (i + (d.length : Int))) - 1))) % 18446744073709551616))) :: .is (v1_d) :: .is (.int .i64 (d.length : Int)) :: .is (.int .i64 (w64 ((d.length : Int) - 1))) :: .is (.pointer (some (pel v1_d (w64 ((d.length : Int) - 1)) 1))) :: .is (.int .u32 (rd d (w64 ((d.length : Int) - 1)))) :: .is (.int .u64 ((rd d (w64 ((d.length : Int) - 1))) % 18446744073709551616)) :: .is (.int .u64 (Int.tmod (ior .u64 ((((rd r_ (w64 (i + (d.length : Int)))) % 18446744073709551616) * 4294967296) % 18446744073709551616) ((rd r_ (w64 ((w64 (i + (d.length : Int))) - 1))) % 18446744073709551616)) ((rd d (w64 ((d.length : Int) - 1))) % 18446744073709551616))) :: .is (.int .u64 ((Int.tdiv (ior .u64 ((((rd r_ (w64 (i + (d.length : Int)))) % 18446744073709551616) * 4294967296) % 18446744073709551616) ((rd r_ (w64 ((w64 (i + (d.length : Int))) - 1))) % 18446744073709551616)) ((rd d (w64 ((d.length : Int) - 1))) % 18446744073709551616)) % 18446744073709551616)) :: [])) (fun m_ => L) (fun _ => none) mixed (by kernel_rfl) (by kernel_rfl) rfl (fct_mono (by kernel_rfl)) ⟨(fun H' m_ hH hm_ hu_ => depK_nil <| s_d (m_ 0) rfl (d_move (v := .int .u64 (ior .u64 ((((rd r_ (w64 (i + (d.length : Int)))) % 18446744073709551616) * 4294967296) % 18446744073709551616) ((rd r_ (w64 ((w64 (i + (d.length : Int))) - 1))) % 18446744073709551616))) rfl) (by exact rfl) rfl), (fun H' m_ hH hm_ hu_ => depK_nil <| s_d (m_ 1) rfl (d_move (v := v1_d) rfl) (by exact rfl) rfl), (fun H' m_ hH hm_ hu_ => depK_nil <| s_d (m_ 2) rfl (d_move (v := .int .i64 (d.length : Int)) rfl) (by exact rfl) rfl), (by rintro H' m_ hH hm_ hu_ _ rfl; exact depK_nil <| s_d (m_ 3) rfl (d_sub (c := w64 ((d.length : Int) - 1)) rfl rfl rfl) (by exact rfl) rfl), (by rintro H' m_ hH hm_ hu_ _ rfl _ rfl; exact depK_nil <| s_d (m_ 4) rfl (d_index (sz := 1) Tryz.underlying22 sz167 rfl (h1_d.mono (e4.trans hH)) rfl c5) (by exact rfl) rfl), (by rintro H' m_ hH hm_ hu_ _ rfl; exact depK_nil <| s_d (m_ 5) rfl (d_ldint ty167 rfl (h1_d.mono (e4.trans hH)) c5) (by exact rfl) rfl), (by rintro H' m_ hH hm_ hu_ _ rfl; exact depK_nil <| s_d (m_ 6) rfl (d_conv (c := (rd d (w64 ((d.length : Int) - 1))) % 18446744073709551616) Tryz.underlying167 Tryz.underlying113 rfl rfl) (by exact rfl) rfl), (by rintro H' m_ hH hm_ hu_ _ rfl _ rfl; exact depK_nil <| s_d (m_ 7) rfl (d_quo (c := (Int.tdiv (ior .u64 ((((rd r_ (w64 (i + (d.length : Int)))) % 18446744073709551616) * 4294967296) % 18446744073709551616) ((rd r_ (w64 ((w64 (i + (d.length : Int))) - 1))) % 18446744073709551616)) ((rd d (w64 ((d.length : Int) - 1))) % 18446744073709551616)) % 18446744073709551616) rfl rfl c6 rfl) (by exact rfl) rfl), (fun H' m_ hH hm_ hu_ => depK_nil <| s_d (m_ 8) rfl (d_move (v := .int .u64 (ior .u64 ((((rd r_ (w64 (i + (d.length : Int)))) % 18446744073709551616) * 4294967296) % 18446744073709551616) ((rd r_ (w64 ((w64 (i + (d.length : Int))) - 1))) % 18446744073709551616))) rfl) (by exact rfl) rfl), (fun H' m_ hH hm_ hu_ => depK_nil <| s_d (m_ 9) rfl (d_move (v := v1_d) rfl) (by exact rfl) rfl), (fun H' m_ hH hm_ hu_ => depK_nil <| s_d (m_ 10) rfl (d_move (v := .int .i64 (d.length : Int)) rfl) (by exact rfl) rfl), (by rintro H' m_ hH hm_ hu_ _ rfl; exact depK_nil <| s_d (m_ 11) rfl (d_sub (c := w64 ((d.length : Int) - 1)) rfl rfl rfl) (by exact rfl) rfl), (by rintro H' m_ hH hm_ hu_ _ rfl _ rfl; exact depK_nil <| s_d (m_ 12) rfl (d_index (sz := 1) Tryz.underlying22 sz167 rfl (h1_d.mono (e4.trans hH)) rfl c7) (by exact rfl) rfl), (by rintro H' m_ hH hm_ hu_ _ rfl; exact depK_nil <| s_d (m_ 13) rfl (d_ldint ty167 rfl (h1_d.mono (e4.trans hH)) c7) (by exact rfl) rfl), (by rintro H' m_ hH hm_ hu_ _ rfl; exact depK_nil <| s_d (m_ 14) rfl (d_conv (c := (rd d (w64 ((d.length : Int) - 1))) % 18446744073709551616) Tryz.underlying167 Tryz.underlying113 rfl rfl) (by exact rfl) rfl), (by rintro H' m_ hH hm_ hu_ _ rfl _ rfl; exact depK_nil <| s_d (m_ 15) rfl (d_rem rfl rfl c8) (by exact rfl) rfl), (by rintro H' m_ hH hm_ hu_ _ rfl; exact depK_nil <| s_d (m_ 16) rfl (d_assign (v := .int .u64 ((Int.tdiv (ior .u64 ((((rd r_ (w64 (i + (d.length : Int)))) % 18446744073709551616) * 4294967296) % 18446744073709551616) ((rd r_ (w64 ((w64 (i + (d.length : Int))) - 1))) % 18446744073709551616)) ((rd d (w64 ((d.length : Int) - 1))) % 18446744073709551616)) % 18446744073709551616)) rfl) (by exact rfl) rfl), trivial⟩ ?_
 intro H9 e10
 rintro _ _ rfl _ _ rfl _ _ rfl _ _ rfl _ _ rfl _ _ rfl _ _ rfl _ _ rfl _ _ rfl _ _ rfl _ _ rfl _ _ rfl _ _ rfl _ _ rfl _ _ rfl _ _ rfl _ _ rfl
 refine w_d rfl (d_assign (v := .int .u64 (Int.tmod (ior .u64 ((((rd r_ (w64 (i + (d.length : Int)))) % 18446744073709551616) * 4294967296) % 18446744073709551616) ((rd r_ (w64 ((w64 (i + (d.length : Int))) - 1))) % 18446744073709551616)) ((rd d (w64 ((d.length : Int) - 1))) % 18446744073709551616))) rfl) <| w_done <| w_seq <| w_block <| w_loop <| w_sl 0 (v0_r_) rfl <| w_sl 1 (v1_d) rfl <| w_sl 2 (.int .i64 i) rfl <| w_sl 6 (.int .u64 0) rfl <| w_sl 7 (.int .i64 (d.length : Int)) rfl <| w_sl 9 (.int .u64 ((Int.tdiv (ior .u64 ((((rd r_ (w64 (i + (d.length : Int)))) % 18446744073709551616) * 4294967296) % 18446744073709551616) ((rd r_ (w64 ((w64 (i + (d.length : Int))) - 1))) % 18446744073709551616)) ((rd d (w64 ((d.length : Int) - 1))) % 18446744073709551616)) % 18446744073709551616)) rfl <| w_sl 10 (.int .u64 (Int.tmod (ior .u64 ((((rd r_ (w64 (i + (d.length : Int)))) % 18446744073709551616) * 4294967296) % 18446744073709551616) ((rd r_ (w64 ((w64 (i + (d.length : Int))) - 1))) % 18446744073709551616)) ((rd d (w64 ((d.length : Int) - 1))) % 18446744073709551616))) rfl <| hh.l0 (hle.trans (e4.trans e10)) he (h0_r_.mono (e4.trans e10)) (h1_d.mono (e4.trans e10))
/-! ### radome/wide.takeOff -/
noncomputable def wide_takeOff.C : Code := (Tryz.f157.body).getD .skip
def wide_takeOff.out (r : Bool × (List Int)) (H : Hp) (v : Value) : Prop := v = .bool r.1
abbrev wide_takeOff.R (vr_ : Value) (H0 : Hp) (L : Items) (r : Bool × (List Int)) : Value → Hp → Items → Prop := fun v H' L' => (∃ p it', L' = p ++ it' :: L ∧ Sl (Kd.int .u32) H' 167 it' vr_ r.2) ∧ H0.le H' ∧ v = .bool r.1
structure wide_takeOff.Hs where
 l0 : (List Int) → (List Int) → Int → Int → Int → Int → Int → Option (Bool × (List Int))
noncomputable def wide_takeOff.j2 (k : Nat) (h : wide_takeOff.Hs)  (r_ : List Int) (d : List Int) (i : Int) (q : Int) (borrow : Int) (carry : Int) (j_ : Int) (p : Int) : Option (Bool × (List Int)) := if (0 : Int) ≤ w64 (i + j_) ∧ w64 (i + j_) < (r_.length : Int) then (if (0 : Int) ≤ w64 (i + j_) ∧ w64 (i + j_) < (r_.length : Int) then (h.l0 (r_.set (w64 (i + j_) : Int).toNat ((w64 ((w64 ((w64 (rd r_ (w64 (i + j_)))) - (w64 ((p) % 4294967296)))) + borrow)) % 4294967296)) d i q ((w64 ((w64 ((w64 (rd r_ (w64 (i + j_)))) - (w64 ((p) % 4294967296)))) + borrow)) / 4294967296) (p / 4294967296) (w64 (j_ + 1))) else none) else none
noncomputable def wide_takeOff.b0 (k : Nat) (h : wide_takeOff.Hs)  (r_ : List Int) (d : List Int) (i : Int) (q : Int) (borrow : Int) (carry : Int) (j_ : Int) : Option (Bool × (List Int)) := if j_ ≤ (d.length : Int) then (if j_ < (d.length : Int) then (if (0 : Int) ≤ j_ ∧ j_ < (d.length : Int) then (wide_takeOff.j2 k h r_ d i q borrow carry j_ ((carry + ((q * ((rd d j_) % 18446744073709551616)) % 18446744073709551616)) % 18446744073709551616)) else none) else (wide_takeOff.j2 k h r_ d i q borrow carry j_ carry)) else (some (decide (borrow < 0), r_))
noncomputable def wide_takeOff.hs : Nat → wide_takeOff.Hs
 | 0 => ⟨fun _ _ _ _ _ _ _ => none⟩
 | k + 1 => ⟨fun x0 x1 x2 x3 x4 x5 x6 => wide_takeOff.b0 k (wide_takeOff.hs k) x0 x1 x2 x3 x4 x5 x6⟩
noncomputable def wide_takeOff.f (k : Nat) (r_ : List Int) (d : List Int) (i : Int) (q : Int) : Option (Bool × (List Int)) := (fun h : wide_takeOff.Hs => h.l0 r_ d i q 0 0 0) (wide_takeOff.hs k)
structure wide_takeOff.LE (h h' : wide_takeOff.Hs) : Prop where
 l0 : ∀ y0 y1 y2 y3 y4 y5 y6, LeO (h.l0 y0 y1 y2 y3 y4 y5 y6) (h'.l0 y0 y1 y2 y3 y4 y5 y6)
theorem wide_takeOff.j2_mono {k : Nat} {h h' : wide_takeOff.Hs} (hl : wide_takeOff.LE h h') : ∀ y0 y1 y2 y3 y4 y5 y6 y7, LeO (wide_takeOff.j2 k h y0 y1 y2 y3 y4 y5 y6 y7) (wide_takeOff.j2 (k + 1) h' y0 y1 y2 y3 y4 y5 y6 y7) := fun _ _ _ _ _ _ _ _ => (LeO.ite (LeO.ite (hl.l0 _ _ _ _ _ _ _) (LeO.refl _)) (LeO.refl _))
theorem wide_takeOff.b0_mono {k : Nat} {h h' : wide_takeOff.Hs} (hl : wide_takeOff.LE h h') : ∀ y0 y1 y2 y3 y4 y5 y6, LeO (wide_takeOff.b0 k h y0 y1 y2 y3 y4 y5 y6) (wide_takeOff.b0 (k + 1) h' y0 y1 y2 y3 y4 y5 y6) := fun _ _ _ _ _ _ _ => (LeO.ite (LeO.ite (LeO.ite (wide_takeOff.j2_mono (k := k) hl _ _ _ _ _ _ _ _) (LeO.refl _)) (wide_takeOff.j2_mono (k := k) hl _ _ _ _ _ _ _ _)) (LeO.refl _))
theorem wide_takeOff.hs_mono : ∀ k, wide_takeOff.LE (wide_takeOff.hs k) (wide_takeOff.hs (k + 1))
 | 0 => ⟨fun _ _ _ _ _ _ _ => LeO.none _⟩
 | k + 1 => ⟨wide_takeOff.b0_mono (k := k) (wide_takeOff.hs_mono k)⟩
theorem wide_takeOff.mono : ∀ k y0 y1 y2 y3, LeO (wide_takeOff.f k y0 y1 y2 y3) (wide_takeOff.f (k + 1) y0 y1 y2 y3) := fun k _ _ _ _ => have hl := wide_takeOff.hs_mono k; by unfold wide_takeOff.f; exact (hl.l0 _ _ _ _ _ _ _)
noncomputable def wide_takeOff.Kl0 : List Item := .code (lopB (blkB (seqR (seqL (seqR (seqR (seqR wide_takeOff.C))))))) :: .inLoop (lopB (blkB (seqR (seqL (seqR (seqR (seqR wide_takeOff.C))))))) :: .inBlock 0 :: .code (seqR (seqR (seqR (seqR wide_takeOff.C)))) :: []
noncomputable def wide_takeOff.Kj2 : List Item := .code (seqR (seqR (blkB (seqL (seqR (lopB (blkB (seqR (seqL (seqR (seqR (seqR wide_takeOff.C)))))))))))) :: .inBlock 1 :: .code (seqR (seqR (lopB (blkB (seqR (seqL (seqR (seqR (seqR wide_takeOff.C))))))))) :: .inLoop (lopB (blkB (seqR (seqL (seqR (seqR (seqR wide_takeOff.C))))))) :: .inBlock 0 :: .code (seqR (seqR (seqR (seqR wide_takeOff.C)))) :: []
structure wide_takeOff.OK (h : wide_takeOff.Hs) : Prop where
 l0 : ∀ {H0 H : Hp} {L : Items} {r : Bool × (List Int)} {jk_ : Nat → Value} {r_ : List Int} {d : List Int} {i : Int} {q : Int} {borrow : Int} {carry : Int} {j_ : Int} {vr_ : Value} {v_d : Value} {i_r_ : Item'} (_ : H0.le H) (_he : h.l0 r_ d i q borrow carry j_ = some r) (_h_r_ : Sl (Kd.int .u32) H 167 i_r_ vr_ r_) (_h_d : Src (Kd.int .u32) H L v_d d), Wp Tryz.prog 157 60 wide_takeOff.Kl0 (upd (upd (upd (upd (upd (upd (upd (upd jk_ 0 (vr_)) 1 (v_d)) 2 (.int .i64 i)) 3 (.int .u64 q)) 8 (.bool false)) 9 (.int .i64 borrow)) 10 (.int .u64 carry)) 11 (.int .i64 j_)) H (i_r_ :: L) (wide_takeOff.R vr_ H0 L r)
theorem wide_takeOff.j2_ok {k : Nat} {h : wide_takeOff.Hs} (hh : wide_takeOff.OK h) {H0 H : Hp} {L : Items} {r : Bool × (List Int)} {jk_ : Nat → Value} {r_ : List Int} {d : List Int} {i : Int} {q : Int} {borrow : Int} {carry : Int} {j_ : Int} {p : Int} {vr_ : Value} {v_d : Value} {i_r_ : Item'} (hle : H0.le H) (he : wide_takeOff.j2 k h r_ d i q borrow carry j_ p = some r) (h_r_ : Sl (Kd.int .u32) H 167 i_r_ vr_ r_) (h_d : Src (Kd.int .u32) H L v_d d) : Wp Tryz.prog 157 60 wide_takeOff.Kj2 (upd (upd (upd (upd (upd (upd (upd (upd (upd jk_ 0 (vr_)) 1 (v_d)) 2 (.int .i64 i)) 3 (.int .u64 q)) 8 (.bool false)) 9 (.int .i64 borrow)) 10 (.int .u64 carry)) 11 (.int .i64 j_)) 12 (.int .u64 p)) H (i_r_ :: L) (wide_takeOff.R vr_ H0 L r) := by
 unfold wide_takeOff.j2 at he
 unfold wide_takeOff.Kj2
 refine w_seq <| w_region rfl <| w_d rfl (d_move (v := .int .u64 p) rfl) <| w_d rfl (d_shr (c := p / 4294967296) rfl rfl (by decide) rfl) <| w_d rfl (d_assign (v := .int .u64 (p / 4294967296)) rfl) <| w_done <| w_seq <| w_region rfl <| w_d rfl (d_move (v := vr_) rfl) <| w_d rfl (d_move (v := .int .i64 i) rfl) <| w_d rfl (d_move (v := .int .i64 j_) rfl) <| w_d rfl (d_add (c := w64 (i + j_)) rfl rfl rfl) ?_
 obtain ⟨c4, he⟩ := rq he
 refine w_d rfl (d_indexS (sz := 1) Tryz.underlying22 sz167 rfl h_r_.shp rfl c4) <| w_d rfl (d_ldint ty167 rfl (h_r_.src .here) c4) <| w_d rfl (d_conv (c := w64 (rd r_ (w64 (i + j_)))) Tryz.underlying167 Tryz.underlying2 rfl rfl) <| w_d rfl (d_move (v := .int .u64 p) rfl) <| w_d rfl (d_conv (c := (p) % 4294967296) Tryz.underlying113 Tryz.underlying167 rfl rfl) <| w_d rfl (d_conv (c := w64 ((p) % 4294967296)) Tryz.underlying167 Tryz.underlying2 rfl rfl) <| w_d rfl (d_sub (c := w64 ((w64 (rd r_ (w64 (i + j_)))) - (w64 ((p) % 4294967296)))) rfl rfl rfl) <| w_d rfl (d_move (v := .int .i64 borrow) rfl) <| w_d rfl (d_add (c := w64 ((w64 ((w64 (rd r_ (w64 (i + j_)))) - (w64 ((p) % 4294967296)))) + borrow)) rfl rfl rfl) <| w_d rfl (d_assign (v := .int .i64 (w64 ((w64 ((w64 (rd r_ (w64 (i + j_)))) - (w64 ((p) % 4294967296)))) + borrow))) rfl) <| w_done <| w_seq ?_
 refine w_region rfl <| w_d rfl (d_move (v := vr_) rfl) <| w_d rfl (d_move (v := .int .i64 i) rfl) <| w_d rfl (d_move (v := .int .i64 j_) rfl) <| w_d rfl (d_add (c := w64 (i + j_)) rfl rfl rfl) <| w_d rfl (d_move (v := .int .i64 (w64 ((w64 ((w64 (rd r_ (w64 (i + j_)))) - (w64 ((p) % 4294967296)))) + borrow))) rfl) <| w_d rfl (d_conv (c := (w64 ((w64 ((w64 (rd r_ (w64 (i + j_)))) - (w64 ((p) % 4294967296)))) + borrow)) % 4294967296) Tryz.underlying2 Tryz.underlying167 rfl rfl) ?_
 obtain ⟨c5, he⟩ := rq he
 refine w_d rfl (d_indexS (sz := 1) Tryz.underlying22 sz167 rfl h_r_.shp rfl c5) <| w_a0 rfl (o_storeEl (kd := (Kd.int .u32)) (v := .int .u32 ((w64 ((w64 ((w64 (rd r_ (w64 (i + j_)))) - (w64 ((p) % 4294967296)))) + borrow)) % 4294967296)) (F := fun z_ => z_ :: L) sz167 rfl rfl rfl rfl h_r_ c5 (fun _ => .here)) ?_
 rintro _ _ _ ⟨i6, rfl, rfl, rfl, h7⟩
 refine w_done <| w_region rfl <| w_d rfl (d_move (v := .int .i64 (w64 ((w64 ((w64 (rd r_ (w64 (i + j_)))) - (w64 ((p) % 4294967296)))) + borrow))) rfl) <| w_d rfl (d_shr (c := (w64 ((w64 ((w64 (rd r_ (w64 (i + j_)))) - (w64 ((p) % 4294967296)))) + borrow)) / 4294967296) rfl rfl (by decide) rfl) <| w_d rfl (d_assign (v := .int .i64 ((w64 ((w64 ((w64 (rd r_ (w64 (i + j_)))) - (w64 ((p) % 4294967296)))) + borrow)) / 4294967296)) rfl) <| w_done <| w_inBlock <| w_region rfl <| w_d rfl (d_move (v := .int .i64 j_) rfl) <| w_d rfl (d_add (c := w64 (j_ + 1)) rfl rfl rfl) <| w_d rfl (d_assign (v := .int .i64 (w64 (j_ + 1))) rfl) <| w_done ?_
 refine w_inLoop <| w_sl 0 (vr_) rfl <| w_sl 1 (v_d) rfl <| w_sl 2 (.int .i64 i) rfl <| w_sl 3 (.int .u64 q) rfl <| w_sl 8 (.bool false) rfl <| w_sl 9 (.int .i64 ((w64 ((w64 ((w64 (rd r_ (w64 (i + j_)))) - (w64 ((p) % 4294967296)))) + borrow)) / 4294967296)) rfl <| w_sl 10 (.int .u64 (p / 4294967296)) rfl <| w_sl 11 (.int .i64 (w64 (j_ + 1))) rfl <| hh.l0 hle he h7 h_d
theorem wide_takeOff.b0_ok {k : Nat} {h : wide_takeOff.Hs} (hh : wide_takeOff.OK h) {H0 H : Hp} {L : Items} {r : Bool × (List Int)} {jk_ : Nat → Value} {r_ : List Int} {d : List Int} {i : Int} {q : Int} {borrow : Int} {carry : Int} {j_ : Int} {vr_ : Value} {v_d : Value} {i_r_ : Item'} (hle : H0.le H) (he : wide_takeOff.b0 k h r_ d i q borrow carry j_ = some r) (h_r_ : Sl (Kd.int .u32) H 167 i_r_ vr_ r_) (h_d : Src (Kd.int .u32) H L v_d d) : Wp Tryz.prog 157 60 wide_takeOff.Kl0 (upd (upd (upd (upd (upd (upd (upd (upd jk_ 0 (vr_)) 1 (v_d)) 2 (.int .i64 i)) 3 (.int .u64 q)) 8 (.bool false)) 9 (.int .i64 borrow)) 10 (.int .u64 carry)) 11 (.int .i64 j_)) H (i_r_ :: L) (wide_takeOff.R vr_ H0 L r) := by
 unfold wide_takeOff.b0 at he
 unfold wide_takeOff.Kl0
 refine w_seq <| w_seq <| w_region rfl <| w_d rfl (d_move (v := .int .i64 j_) rfl) <| w_d rfl (d_move (v := v_d) rfl) <| w_d rfl (d_len Tryz.underlying22 rfl h_d.th) <| w_d rfl (d_leq rfl rfl) <| w_done ?_
 rcases its he with ⟨c1, he⟩ | ⟨c1, he⟩
 ·
  refine w_then rfl (decide_eq_true c1) <| w_skip <| w_seq <| w_block <| w_seq <| w_region rfl <| w_d rfl (d_move (v := .int .u64 carry) rfl) <| w_d rfl (d_assign (v := .int .u64 carry) rfl) <| w_done <| w_seq <| w_seq <| w_region rfl ?_
  refine w_d rfl (d_move (v := .int .i64 j_) rfl) <| w_d rfl (d_move (v := v_d) rfl) <| w_d rfl (d_len Tryz.underlying22 rfl h_d.th) <| w_d rfl (d_lss rfl rfl) <| w_done ?_
  rcases its he with ⟨c2, he⟩ | ⟨c2, he⟩
  ·
   refine w_then rfl (decide_eq_true c2) <| w_region rfl <| w_d rfl (d_move (v := .int .u64 carry) rfl) <| w_d rfl (d_move (v := .int .u64 q) rfl) <| w_d rfl (d_move (v := v_d) rfl) <| w_d rfl (d_move (v := .int .i64 j_) rfl) ?_
   obtain ⟨c3, he⟩ := rq he
   refine w_d rfl (d_index (sz := 1) Tryz.underlying22 sz167 rfl h_d.th rfl c3) <| w_d rfl (d_ldint ty167 rfl h_d.th c3) <| w_d rfl (d_conv (c := (rd d j_) % 18446744073709551616) Tryz.underlying167 Tryz.underlying113 rfl rfl) <| w_d rfl (d_mul (c := (q * ((rd d j_) % 18446744073709551616)) % 18446744073709551616) rfl rfl rfl) <| w_d rfl (d_add (c := (carry + ((q * ((rd d j_) % 18446744073709551616)) % 18446744073709551616)) % 18446744073709551616) rfl rfl rfl) <| w_d rfl (d_assign (v := .int .u64 ((carry + ((q * ((rd d j_) % 18446744073709551616)) % 18446744073709551616)) % 18446744073709551616)) rfl) <| w_done <| w_sl 0 (vr_) rfl <| w_sl 1 (v_d) rfl <| w_sl 2 (.int .i64 i) rfl <| w_sl 3 (.int .u64 q) rfl <| w_sl 8 (.bool false) rfl ?_
   refine w_sl 9 (.int .i64 borrow) rfl <| w_sl 10 (.int .u64 carry) rfl <| w_sl 11 (.int .i64 j_) rfl <| w_sl 12 (.int .u64 ((carry + ((q * ((rd d j_) % 18446744073709551616)) % 18446744073709551616)) % 18446744073709551616)) rfl <| wide_takeOff.j2_ok (k := k) hh hle he h_r_ h_d
  ·
   refine w_else rfl (decide_eq_false c2) <| w_skip <| w_sl 0 (vr_) rfl <| w_sl 1 (v_d) rfl <| w_sl 2 (.int .i64 i) rfl <| w_sl 3 (.int .u64 q) rfl <| w_sl 8 (.bool false) rfl <| w_sl 9 (.int .i64 borrow) rfl <| w_sl 10 (.int .u64 carry) rfl <| w_sl 11 (.int .i64 j_) rfl <| w_sl 12 (.int .u64 carry) rfl <| wide_takeOff.j2_ok (k := k) hh hle he h_r_ h_d
 ·
  refine w_else rfl (decide_eq_false c1) <| w_exit rfl <| w_seq <| w_region rfl <| w_d rfl (d_move (v := .int .i64 borrow) rfl) <| w_d rfl (d_lss rfl rfl) <| w_d rfl (d_assign (v := .bool (decide (borrow < 0))) rfl) <| w_done ?_
  obtain rfl := Option.some.inj he
  refine w_return fn_157 rs_157 (.tmp (v := .bool (decide (borrow < 0))) rfl .nil) <| ⟨⟨[], _, rfl, h_r_⟩, hle, rfl⟩
theorem wide_takeOff.ok : ∀ k, wide_takeOff.OK (wide_takeOff.hs k)
 | 0 => ⟨(by intros; exact nomatch (show none = some _ from by assumption))⟩
 | k + 1 => ⟨wide_takeOff.b0_ok (k := k) (wide_takeOff.ok k)⟩
theorem wide_takeOff.calls (k : Nat) {H : Hp} {L : Items} {r_ : List Int} {d : List Int} {i : Int} {q : Int} {vr_ : Value} {it_ : Item'} {v0_d : Value} {r : Bool × (List Int)} (he : wide_takeOff.f k r_ d i q = some r) (hr_ : Sl (Kd.int .u32) H 167 it_ vr_ r_) (h0_d : Src (Kd.int .u32) H L v0_d d) : Ct Tryz.prog 157 ⟨[vr_, v0_d, .int .i64 i, .int .u64 q]⟩ H (it_ :: L) (fun v H' L' => ∃ it', L' = it' :: L ∧ H.le H' ∧ Sl (Kd.int .u32) H' 167 it' vr_ r.2 ∧ v = .bool r.1) := by
 refine ct_mut (Q := fun v => v = .bool r.1) ?_
 have hle : H.le H := .refl _
 have hh := wide_takeOff.ok k
 unfold wide_takeOff.f at he
 refine ct_enter (args := [vr_, v0_d, .int .i64 i, .int .u64 q]) fn_157 rfl nt_157 rfl <| w_seq <| w_region rfl <| w_d rfl (d_assign (v := .bool false) rfl) <| w_done <| w_seq <| w_region rfl <| w_d rfl (d_assign (v := .int .i64 0) rfl) <| w_done <| w_seq <| w_region rfl <| w_d rfl (d_assign (v := .int .u64 0) rfl) ?_
 refine w_done <| w_seq <| w_seq <| w_region rfl <| w_d rfl (d_assign (v := .int .i64 0) rfl) <| w_done <| w_block <| w_loop <| w_sl 0 (vr_) rfl <| w_sl 1 (v0_d) rfl <| w_sl 2 (.int .i64 i) rfl <| w_sl 3 (.int .u64 q) rfl ?_
 refine w_sl 8 (.bool false) rfl <| w_sl 9 (.int .i64 0) rfl <| w_sl 10 (.int .u64 0) rfl <| w_sl 11 (.int .i64 0) rfl <| hh.l0 hle he hr_ h0_d
/-! ### radome/wide.giveBack -/
noncomputable def wide_giveBack.C : Code := (Tryz.f158.body).getD .skip
def wide_giveBack.out (r : (List Int)) (H : Hp) (v : Value) : Prop := v = .tuple ⟨[]⟩
abbrev wide_giveBack.R (vr_ : Value) (H0 : Hp) (L : Items) (r : (List Int)) : Value → Hp → Items → Prop := fun v H' L' => (∃ p it', L' = p ++ it' :: L ∧ Sl (Kd.int .u32) H' 167 it' vr_ r) ∧ H0.le H' ∧ v = .tuple ⟨[]⟩
structure wide_giveBack.Hs where
 l0 : (List Int) → (List Int) → Int → Int → Int → Option (List Int)
noncomputable def wide_giveBack.j2 (k : Nat) (h : wide_giveBack.Hs)  (r_ : List Int) (d : List Int) (i : Int) (carry : Int) (j_ : Int) (s : Int) : Option (List Int) := if (0 : Int) ≤ w64 (i + j_) ∧ w64 (i + j_) < (r_.length : Int) then (h.l0 (r_.set (w64 (i + j_) : Int).toNat ((s) % 4294967296)) d i (s / 4294967296) (w64 (j_ + 1))) else none
noncomputable def wide_giveBack.b0 (k : Nat) (h : wide_giveBack.Hs)  (r_ : List Int) (d : List Int) (i : Int) (carry : Int) (j_ : Int) : Option (List Int) := if j_ ≤ (d.length : Int) then (if (0 : Int) ≤ w64 (i + j_) ∧ w64 (i + j_) < (r_.length : Int) then (if j_ < (d.length : Int) then (if (0 : Int) ≤ j_ ∧ j_ < (d.length : Int) then (wide_giveBack.j2 k h r_ d i carry j_ ((((((rd r_ (w64 (i + j_))) % 18446744073709551616) + carry) % 18446744073709551616) + ((rd d j_) % 18446744073709551616)) % 18446744073709551616)) else none) else (wide_giveBack.j2 k h r_ d i carry j_ ((((rd r_ (w64 (i + j_))) % 18446744073709551616) + carry) % 18446744073709551616))) else none) else (some (r_))
noncomputable def wide_giveBack.hs : Nat → wide_giveBack.Hs
 | 0 => ⟨fun _ _ _ _ _ => none⟩
 | k + 1 => ⟨fun x0 x1 x2 x3 x4 => wide_giveBack.b0 k (wide_giveBack.hs k) x0 x1 x2 x3 x4⟩
noncomputable def wide_giveBack.f (k : Nat) (r_ : List Int) (d : List Int) (i : Int) : Option (List Int) := (fun h : wide_giveBack.Hs => h.l0 r_ d i 0 0) (wide_giveBack.hs k)
structure wide_giveBack.LE (h h' : wide_giveBack.Hs) : Prop where
 l0 : ∀ y0 y1 y2 y3 y4, LeO (h.l0 y0 y1 y2 y3 y4) (h'.l0 y0 y1 y2 y3 y4)
theorem wide_giveBack.j2_mono {k : Nat} {h h' : wide_giveBack.Hs} (hl : wide_giveBack.LE h h') : ∀ y0 y1 y2 y3 y4 y5, LeO (wide_giveBack.j2 k h y0 y1 y2 y3 y4 y5) (wide_giveBack.j2 (k + 1) h' y0 y1 y2 y3 y4 y5) := fun _ _ _ _ _ _ => (LeO.ite (hl.l0 _ _ _ _ _) (LeO.refl _))
theorem wide_giveBack.b0_mono {k : Nat} {h h' : wide_giveBack.Hs} (hl : wide_giveBack.LE h h') : ∀ y0 y1 y2 y3 y4, LeO (wide_giveBack.b0 k h y0 y1 y2 y3 y4) (wide_giveBack.b0 (k + 1) h' y0 y1 y2 y3 y4) := fun _ _ _ _ _ => (LeO.ite (LeO.ite (LeO.ite (LeO.ite (wide_giveBack.j2_mono (k := k) hl _ _ _ _ _ _) (LeO.refl _)) (wide_giveBack.j2_mono (k := k) hl _ _ _ _ _ _)) (LeO.refl _)) (LeO.refl _))
theorem wide_giveBack.hs_mono : ∀ k, wide_giveBack.LE (wide_giveBack.hs k) (wide_giveBack.hs (k + 1))
 | 0 => ⟨fun _ _ _ _ _ => LeO.none _⟩
 | k + 1 => ⟨wide_giveBack.b0_mono (k := k) (wide_giveBack.hs_mono k)⟩
theorem wide_giveBack.mono : ∀ k y0 y1 y2, LeO (wide_giveBack.f k y0 y1 y2) (wide_giveBack.f (k + 1) y0 y1 y2) := fun k _ _ _ => have hl := wide_giveBack.hs_mono k; by unfold wide_giveBack.f; exact (hl.l0 _ _ _ _ _)
noncomputable def wide_giveBack.Kl0 : List Item := .code (lopB (blkB (seqR (seqR wide_giveBack.C)))) :: .inLoop (lopB (blkB (seqR (seqR wide_giveBack.C)))) :: .inBlock 0 :: []
noncomputable def wide_giveBack.Kj2 : List Item := .code (seqR (seqR (blkB (seqL (seqR (lopB (blkB (seqR (seqR wide_giveBack.C))))))))) :: .inBlock 1 :: .code (seqR (seqR (lopB (blkB (seqR (seqR wide_giveBack.C)))))) :: .inLoop (lopB (blkB (seqR (seqR wide_giveBack.C)))) :: .inBlock 0 :: []
structure wide_giveBack.OK (h : wide_giveBack.Hs) : Prop where
 l0 : ∀ {H0 H : Hp} {L : Items} {r : (List Int)} {jk_ : Nat → Value} {r_ : List Int} {d : List Int} {i : Int} {carry : Int} {j_ : Int} {vr_ : Value} {v_d : Value} {i_r_ : Item'} (_ : H0.le H) (_he : h.l0 r_ d i carry j_ = some r) (_h_r_ : Sl (Kd.int .u32) H 167 i_r_ vr_ r_) (_h_d : Src (Kd.int .u32) H L v_d d), Wp Tryz.prog 158 44 wide_giveBack.Kl0 (upd (upd (upd (upd (upd jk_ 0 (vr_)) 1 (v_d)) 2 (.int .i64 i)) 6 (.int .u64 carry)) 7 (.int .i64 j_)) H (i_r_ :: L) (wide_giveBack.R vr_ H0 L r)
theorem wide_giveBack.j2_ok {k : Nat} {h : wide_giveBack.Hs} (hh : wide_giveBack.OK h) {H0 H : Hp} {L : Items} {r : (List Int)} {jk_ : Nat → Value} {r_ : List Int} {d : List Int} {i : Int} {carry : Int} {j_ : Int} {s : Int} {vr_ : Value} {v_d : Value} {i_r_ : Item'} (hle : H0.le H) (he : wide_giveBack.j2 k h r_ d i carry j_ s = some r) (h_r_ : Sl (Kd.int .u32) H 167 i_r_ vr_ r_) (h_d : Src (Kd.int .u32) H L v_d d) : Wp Tryz.prog 158 44 wide_giveBack.Kj2 (upd (upd (upd (upd (upd (upd jk_ 0 (vr_)) 1 (v_d)) 2 (.int .i64 i)) 6 (.int .u64 carry)) 7 (.int .i64 j_)) 8 (.int .u64 s)) H (i_r_ :: L) (wide_giveBack.R vr_ H0 L r) := by
 unfold wide_giveBack.j2 at he
 unfold wide_giveBack.Kj2
 refine w_seq <| w_region rfl <| w_d rfl (d_move (v := vr_) rfl) <| w_d rfl (d_move (v := .int .i64 i) rfl) <| w_d rfl (d_move (v := .int .i64 j_) rfl) <| w_d rfl (d_add (c := w64 (i + j_)) rfl rfl rfl) <| w_d rfl (d_move (v := .int .u64 s) rfl) <| w_d rfl (d_conv (c := (s) % 4294967296) Tryz.underlying113 Tryz.underlying167 rfl rfl) ?_
 obtain ⟨c5, he⟩ := rq he
 refine w_d rfl (d_indexS (sz := 1) Tryz.underlying22 sz167 rfl h_r_.shp rfl c5) <| w_a0 rfl (o_storeEl (kd := (Kd.int .u32)) (v := .int .u32 ((s) % 4294967296)) (F := fun z_ => z_ :: L) sz167 rfl rfl rfl rfl h_r_ c5 (fun _ => .here)) ?_
 rintro _ _ _ ⟨i6, rfl, rfl, rfl, h7⟩
 refine w_done <| w_region rfl <| w_d rfl (d_move (v := .int .u64 s) rfl) <| w_d rfl (d_shr (c := s / 4294967296) rfl rfl (by decide) rfl) <| w_d rfl (d_assign (v := .int .u64 (s / 4294967296)) rfl) <| w_done <| w_inBlock <| w_region rfl <| w_d rfl (d_move (v := .int .i64 j_) rfl) <| w_d rfl (d_add (c := w64 (j_ + 1)) rfl rfl rfl) <| w_d rfl (d_assign (v := .int .i64 (w64 (j_ + 1))) rfl) <| w_done ?_
 refine w_inLoop <| w_sl 0 (vr_) rfl <| w_sl 1 (v_d) rfl <| w_sl 2 (.int .i64 i) rfl <| w_sl 6 (.int .u64 (s / 4294967296)) rfl <| w_sl 7 (.int .i64 (w64 (j_ + 1))) rfl <| hh.l0 hle he h7 h_d
theorem wide_giveBack.b0_ok {k : Nat} {h : wide_giveBack.Hs} (hh : wide_giveBack.OK h) {H0 H : Hp} {L : Items} {r : (List Int)} {jk_ : Nat → Value} {r_ : List Int} {d : List Int} {i : Int} {carry : Int} {j_ : Int} {vr_ : Value} {v_d : Value} {i_r_ : Item'} (hle : H0.le H) (he : wide_giveBack.b0 k h r_ d i carry j_ = some r) (h_r_ : Sl (Kd.int .u32) H 167 i_r_ vr_ r_) (h_d : Src (Kd.int .u32) H L v_d d) : Wp Tryz.prog 158 44 wide_giveBack.Kl0 (upd (upd (upd (upd (upd jk_ 0 (vr_)) 1 (v_d)) 2 (.int .i64 i)) 6 (.int .u64 carry)) 7 (.int .i64 j_)) H (i_r_ :: L) (wide_giveBack.R vr_ H0 L r) := by
 unfold wide_giveBack.b0 at he
 unfold wide_giveBack.Kl0
 refine w_seq <| w_seq <| w_region rfl <| w_d rfl (d_move (v := .int .i64 j_) rfl) <| w_d rfl (d_move (v := v_d) rfl) <| w_d rfl (d_len Tryz.underlying22 rfl h_d.th) <| w_d rfl (d_leq rfl rfl) <| w_done ?_
 rcases its he with ⟨c1, he⟩ | ⟨c1, he⟩
 ·
  refine w_then rfl (decide_eq_true c1) <| w_skip <| w_seq <| w_block <| w_seq <| w_region rfl <| w_d rfl (d_move (v := vr_) rfl) <| w_d rfl (d_move (v := .int .i64 i) rfl) <| w_d rfl (d_move (v := .int .i64 j_) rfl) <| w_d rfl (d_add (c := w64 (i + j_)) rfl rfl rfl) ?_
  obtain ⟨c2, he⟩ := rq he
  refine w_d rfl (d_indexS (sz := 1) Tryz.underlying22 sz167 rfl h_r_.shp rfl c2) <| w_d rfl (d_ldint ty167 rfl (h_r_.src .here) c2) <| w_d rfl (d_conv (c := (rd r_ (w64 (i + j_))) % 18446744073709551616) Tryz.underlying167 Tryz.underlying113 rfl rfl) <| w_d rfl (d_move (v := .int .u64 carry) rfl) <| w_d rfl (d_add (c := (((rd r_ (w64 (i + j_))) % 18446744073709551616) + carry) % 18446744073709551616) rfl rfl rfl) <| w_d rfl (d_assign (v := .int .u64 ((((rd r_ (w64 (i + j_))) % 18446744073709551616) + carry) % 18446744073709551616)) rfl) <| w_done <| w_seq <| w_seq <| w_region rfl <| w_d rfl (d_move (v := .int .i64 j_) rfl) <| w_d rfl (d_move (v := v_d) rfl) ?_
  refine w_d rfl (d_len Tryz.underlying22 rfl h_d.th) <| w_d rfl (d_lss rfl rfl) <| w_done ?_
  rcases its he with ⟨c3, he⟩ | ⟨c3, he⟩
  ·
   refine w_then rfl (decide_eq_true c3) <| w_region rfl <| w_d rfl (d_move (v := .int .u64 ((((rd r_ (w64 (i + j_))) % 18446744073709551616) + carry) % 18446744073709551616)) rfl) <| w_d rfl (d_move (v := v_d) rfl) <| w_d rfl (d_move (v := .int .i64 j_) rfl) ?_
   obtain ⟨c4, he⟩ := rq he
   refine w_d rfl (d_index (sz := 1) Tryz.underlying22 sz167 rfl h_d.th rfl c4) <| w_d rfl (d_ldint ty167 rfl h_d.th c4) <| w_d rfl (d_conv (c := (rd d j_) % 18446744073709551616) Tryz.underlying167 Tryz.underlying113 rfl rfl) <| w_d rfl (d_add (c := (((((rd r_ (w64 (i + j_))) % 18446744073709551616) + carry) % 18446744073709551616) + ((rd d j_) % 18446744073709551616)) % 18446744073709551616) rfl rfl rfl) <| w_d rfl (d_assign (v := .int .u64 ((((((rd r_ (w64 (i + j_))) % 18446744073709551616) + carry) % 18446744073709551616) + ((rd d j_) % 18446744073709551616)) % 18446744073709551616)) rfl) <| w_done <| w_sl 0 (vr_) rfl <| w_sl 1 (v_d) rfl <| w_sl 2 (.int .i64 i) rfl <| w_sl 6 (.int .u64 carry) rfl <| w_sl 7 (.int .i64 j_) rfl <| w_sl 8 (.int .u64 ((((((rd r_ (w64 (i + j_))) % 18446744073709551616) + carry) % 18446744073709551616) + ((rd d j_) % 18446744073709551616)) % 18446744073709551616)) rfl <| wide_giveBack.j2_ok (k := k) hh hle he h_r_ h_d
  ·
   refine w_else rfl (decide_eq_false c3) <| w_skip <| w_sl 0 (vr_) rfl <| w_sl 1 (v_d) rfl <| w_sl 2 (.int .i64 i) rfl <| w_sl 6 (.int .u64 carry) rfl <| w_sl 7 (.int .i64 j_) rfl <| w_sl 8 (.int .u64 ((((rd r_ (w64 (i + j_))) % 18446744073709551616) + carry) % 18446744073709551616)) rfl <| wide_giveBack.j2_ok (k := k) hh hle he h_r_ h_d
 ·
  refine w_else rfl (decide_eq_false c1) <| w_exit rfl ?_
  obtain rfl := Option.some.inj he
  refine w_finish fn_158 rs_158 .nil <| ⟨⟨[], _, rfl, h_r_⟩, hle, rfl⟩
theorem wide_giveBack.ok : ∀ k, wide_giveBack.OK (wide_giveBack.hs k)
 | 0 => ⟨(by intros; exact nomatch (show none = some _ from by assumption))⟩
 | k + 1 => ⟨wide_giveBack.b0_ok (k := k) (wide_giveBack.ok k)⟩
theorem wide_giveBack.calls (k : Nat) {H : Hp} {L : Items} {r_ : List Int} {d : List Int} {i : Int} {vr_ : Value} {it_ : Item'} {v0_d : Value} {r : (List Int)} (he : wide_giveBack.f k r_ d i = some r) (hr_ : Sl (Kd.int .u32) H 167 it_ vr_ r_) (h0_d : Src (Kd.int .u32) H L v0_d d) : Ct Tryz.prog 158 ⟨[vr_, v0_d, .int .i64 i]⟩ H (it_ :: L) (fun v H' L' => ∃ it', L' = it' :: L ∧ H.le H' ∧ Sl (Kd.int .u32) H' 167 it' vr_ r ∧ v = .tuple ⟨[]⟩) := by
 refine ct_mut (Q := fun v => v = .tuple ⟨[]⟩) ?_
 have hle : H.le H := .refl _
 have hh := wide_giveBack.ok k
 unfold wide_giveBack.f at he
 refine ct_enter (args := [vr_, v0_d, .int .i64 i]) fn_158 rfl nt_158 rfl <| w_seq <| w_region rfl <| w_d rfl (d_assign (v := .int .u64 0) rfl) <| w_done <| w_seq <| w_region rfl <| w_d rfl (d_assign (v := .int .i64 0) rfl) <| w_done <| w_block <| w_loop <| w_sl 0 (vr_) rfl ?_
 refine w_sl 1 (v0_d) rfl <| w_sl 2 (.int .i64 i) rfl <| w_sl 6 (.int .u64 0) rfl <| w_sl 7 (.int .i64 0) rfl <| hh.l0 hle he hr_ h0_d
/-! ### radome/wide.long -/
noncomputable def wide_long.C : Code := (Tryz.f142.body).getD .skip
def wide_long.out (r : (List Int) × (List Int)) (H : Hp) (v : Value) : Prop := ∃ v0, ∃ v1, v = .tuple ⟨[v0, v1]⟩ ∧ Ro (Kd.int .u32) H v0 r.1 ∧ Ro (Kd.int .u32) H v1 r.2
theorem wide_long.out_mono (r : (List Int) × (List Int)) {H H' : Hp} {v : Value} (hle : H.le H') (h : wide_long.out r H v) : wide_long.out r H' v := by
 obtain ⟨v0, v1, rfl, h0, h1⟩ := h; exact ⟨v0, v1, rfl, h0.mono hle, h1.mono hle⟩
abbrev wide_long.R (H0 : Hp) (L : Items) (r : (List Int) × (List Int)) : Value → Hp → Items → Prop := fun v H' L' => (∃ p, L' = p ++ L) ∧ H0.le H' ∧ wide_long.out r H' v
structure wide_long.Hs where
 l0 : Int → (List Int) → (List Int) → (List Int) → Int → Option ((List Int) × (List Int))
noncomputable def wide_long.j2 (k : Nat) (h : wide_long.Hs)  (n : Int) (d : List Int) (r_ : List Int) (q : List Int) (i : Int) (g : Int) : Option ((List Int) × (List Int)) := if (0 : Int) ≤ i ∧ i < (q.length : Int) then (h.l0 n d r_ (q.set (i : Int).toNat ((g) % 4294967296)) (w64 (i - 1))) else none
noncomputable def wide_long.b0 (k : Nat) (h : wide_long.Hs)  (n : Int) (d : List Int) (r_ : List Int) (q : List Int) (i : Int) : Option ((List Int) × (List Int)) := if 0 ≤ i then ((wide_guess.f k r_ d i).bind fun y63 => (wide_takeOff.f k r_ d i y63).bind fun y67 => if y67.1 = true then ((wide_giveBack.f k y67.2 d i).bind fun y74 => wide_long.j2 k h n d y74 q i ((y63 - 1) % 18446744073709551616)) else (wide_long.j2 k h n d y67.2 q i y63)) else ((wide_trim.f k q).bind fun y83 => (wide_down.f k r_ n).bind fun y92 => some (y83, y92))
noncomputable def wide_long.hs : Nat → wide_long.Hs
 | 0 => ⟨fun _ _ _ _ _ => none⟩
 | k + 1 => ⟨fun x0 x1 x2 x3 x4 => wide_long.b0 k (wide_long.hs k) x0 x1 x2 x3 x4⟩
noncomputable def wide_long.f (k : Nat) (a : List Int) (b : List Int) : Option ((List Int) × (List Int)) := (fun h : wide_long.Hs => (wide_less.f k a b).bind fun y1 => if y1 < 0 then (some ([], a)) else (if (b.length : Int) = 1 then (if (0 : Int) ≤ 0 ∧ 0 < (b.length : Int) then ((wide_short.f k a (rd b 0)).bind fun y8 => (wide_trim.f k [y8.2]).bind fun y20 => some (y8.1, y20)) else none) else (if (0 : Int) ≤ w64 ((b.length : Int) - 1) ∧ w64 ((b.length : Int) - 1) < (b.length : Int) then ((bits_LeadingZeros32.f k (rd b (w64 ((b.length : Int) - 1)))).bind fun y27 => (wide_up.f k b y27).bind fun y31 => (wide_trim.f k y31).bind fun y43 => (wide_up.f k a y27).bind fun y49 => if 0 ≤ w64 ((y49.length : Int) - (y43.length : Int)) ∧ w64 ((y49.length : Int) - (y43.length : Int)) ≤ 70368744177664 then (h.l0 y27 y43 y49 (List.replicate (w64 ((y49.length : Int) - (y43.length : Int)) : Int).toNat (0 : Int)) (w64 (((List.replicate (w64 ((y49.length : Int) - (y43.length : Int)) : Int).toNat (0 : Int)).length : Int) - 1))) else none) else none))) (wide_long.hs k)
structure wide_long.LE (h h' : wide_long.Hs) : Prop where
 l0 : ∀ y0 y1 y2 y3 y4, LeO (h.l0 y0 y1 y2 y3 y4) (h'.l0 y0 y1 y2 y3 y4)
theorem wide_long.j2_mono {k : Nat} {h h' : wide_long.Hs} (hl : wide_long.LE h h') : ∀ y0 y1 y2 y3 y4 y5, LeO (wide_long.j2 k h y0 y1 y2 y3 y4 y5) (wide_long.j2 (k + 1) h' y0 y1 y2 y3 y4 y5) := fun _ _ _ _ _ _ => (LeO.ite (hl.l0 _ _ _ _ _) (LeO.refl _))
theorem wide_long.b0_mono {k : Nat} {h h' : wide_long.Hs} (hl : wide_long.LE h h') : ∀ y0 y1 y2 y3 y4, LeO (wide_long.b0 k h y0 y1 y2 y3 y4) (wide_long.b0 (k + 1) h' y0 y1 y2 y3 y4) := fun _ _ _ _ _ => (LeO.ite (LeO.bind (wide_guess.mono k _ _ _) fun _ => LeO.bind (wide_takeOff.mono k _ _ _ _) fun _ => LeO.ite (LeO.bind (wide_giveBack.mono k _ _ _) fun _ => wide_long.j2_mono (k := k) hl _ _ _ _ _ _) (wide_long.j2_mono (k := k) hl _ _ _ _ _ _)) (LeO.bind (wide_trim.mono k _) fun _ => LeO.bind (wide_down.mono k _ _) fun _ => LeO.refl _))
theorem wide_long.hs_mono : ∀ k, wide_long.LE (wide_long.hs k) (wide_long.hs (k + 1))
 | 0 => ⟨fun _ _ _ _ _ => LeO.none _⟩
 | k + 1 => ⟨wide_long.b0_mono (k := k) (wide_long.hs_mono k)⟩
theorem wide_long.mono : ∀ k y0 y1, LeO (wide_long.f k y0 y1) (wide_long.f (k + 1) y0 y1) := fun k _ _ => have hl := wide_long.hs_mono k; by unfold wide_long.f; exact (LeO.bind (wide_less.mono k _ _) fun _ => LeO.ite (LeO.refl _) (LeO.ite (LeO.ite (LeO.bind (wide_short.mono k _ _) fun _ => LeO.bind (wide_trim.mono k _) fun _ => LeO.refl _) (LeO.refl _)) (LeO.ite (LeO.bind (bits_LeadingZeros32.mono k _) fun _ => LeO.bind (wide_up.mono k _ _) fun _ => LeO.bind (wide_trim.mono k _) fun _ => LeO.bind (wide_up.mono k _ _) fun _ => LeO.ite (hl.l0 _ _ _ _ _) (LeO.refl _)) (LeO.refl _))))
noncomputable def wide_long.Kl0 : List Item := .code (lopB (blkB (seqR (seqL (seqR (seqR (seqR (seqR (seqR (seqR (seqR wide_long.C))))))))))) :: .inLoop (lopB (blkB (seqR (seqL (seqR (seqR (seqR (seqR (seqR (seqR (seqR wide_long.C))))))))))) :: .inBlock 0 :: .code (seqR (seqR (seqR (seqR (seqR (seqR (seqR (seqR wide_long.C)))))))) :: []
noncomputable def wide_long.Kj2 : List Item := .code (seqR (seqR (blkB (seqL (seqR (lopB (blkB (seqR (seqL (seqR (seqR (seqR (seqR (seqR (seqR (seqR wide_long.C)))))))))))))))) :: .inBlock 1 :: .code (seqR (seqR (lopB (blkB (seqR (seqL (seqR (seqR (seqR (seqR (seqR (seqR (seqR wide_long.C))))))))))))) :: .inLoop (lopB (blkB (seqR (seqL (seqR (seqR (seqR (seqR (seqR (seqR (seqR wide_long.C))))))))))) :: .inBlock 0 :: .code (seqR (seqR (seqR (seqR (seqR (seqR (seqR (seqR wide_long.C)))))))) :: []
structure wide_long.OK (h : wide_long.Hs) : Prop where
 l0 : ∀ {H0 H : Hp} {L : Items} {r : (List Int) × (List Int)} {jk_ : Nat → Value} {n : Int} {d : List Int} {r_ : List Int} {q : List Int} {i : Int} {v_d : Value} {v_r_ : Value} {v_q : Value} {i_r_ : Item'} {i_q : Item'} (_ : H0.le H) (_he : h.l0 n d r_ q i = some r) (_h_d : Ro (Kd.int .u32) H v_d d) (_h_r_ : Sl (Kd.int .u32) H 167 i_r_ v_r_ r_) (_h_q : Sl (Kd.int .u32) H 167 i_q v_q q), Wp Tryz.prog 142 86 wide_long.Kl0 (upd (upd (upd (upd (upd (upd (upd jk_ 4 (.slice none 0 0)) 5 (.slice none 0 0)) 8 (.int .i64 n)) 9 (v_d)) 10 (v_r_)) 11 (v_q)) 12 (.int .i64 i)) H (i_q :: i_r_ :: L) (wide_long.R H0 L r)
theorem wide_long.j2_ok {k : Nat} {h : wide_long.Hs} (hh : wide_long.OK h) {H0 H : Hp} {L : Items} {r : (List Int) × (List Int)} {jk_ : Nat → Value} {n : Int} {d : List Int} {r_ : List Int} {q : List Int} {i : Int} {g : Int} {v_d : Value} {v_r_ : Value} {v_q : Value} {i_r_ : Item'} {i_q : Item'} (hle : H0.le H) (he : wide_long.j2 k h n d r_ q i g = some r) (h_d : Ro (Kd.int .u32) H v_d d) (h_r_ : Sl (Kd.int .u32) H 167 i_r_ v_r_ r_) (h_q : Sl (Kd.int .u32) H 167 i_q v_q q) : Wp Tryz.prog 142 86 wide_long.Kj2 (upd (upd (upd (upd (upd (upd (upd (upd jk_ 4 (.slice none 0 0)) 5 (.slice none 0 0)) 8 (.int .i64 n)) 9 (v_d)) 10 (v_r_)) 11 (v_q)) 12 (.int .i64 i)) 13 (.int .u64 g)) H (i_q :: i_r_ :: L) (wide_long.R H0 L r) := by
 unfold wide_long.j2 at he
 unfold wide_long.Kj2
 refine w_region rfl <| w_d rfl (d_move (v := v_q) rfl) <| w_d rfl (d_move (v := .int .i64 i) rfl) <| w_d rfl (d_move (v := .int .u64 g) rfl) <| w_d rfl (d_conv (c := (g) % 4294967296) Tryz.underlying113 Tryz.underlying167 rfl rfl) ?_
 obtain ⟨c98, he⟩ := rq he
 refine w_d rfl (d_indexS (sz := 1) Tryz.underlying22 sz167 rfl h_q.shp rfl c98) <| w_a0 rfl (o_storeEl (kd := (Kd.int .u32)) (v := .int .u32 ((g) % 4294967296)) (F := fun z_ => z_ :: i_r_ :: L) sz167 rfl rfl rfl rfl h_q c98 (fun _ => .here)) ?_
 rintro _ _ _ ⟨i99, rfl, rfl, rfl, h100⟩
 refine w_done <| w_inBlock <| w_region rfl <| w_d rfl (d_move (v := .int .i64 i) rfl) <| w_d rfl (d_sub (c := w64 (i - 1)) rfl rfl rfl) <| w_d rfl (d_assign (v := .int .i64 (w64 (i - 1))) rfl) <| w_done <| w_inLoop <| w_sl 4 (.slice none 0 0) rfl <| w_sl 5 (.slice none 0 0) rfl <| w_sl 8 (.int .i64 n) rfl <| w_sl 9 (v_d) rfl ?_
 refine w_sl 10 (v_r_) rfl <| w_sl 11 (v_q) rfl <| w_sl 12 (.int .i64 (w64 (i - 1))) rfl <| hh.l0 hle he h_d h_r_ h100
theorem wide_long.b0_ok {k : Nat} {h : wide_long.Hs} (hh : wide_long.OK h) {H0 H : Hp} {L : Items} {r : (List Int) × (List Int)} {jk_ : Nat → Value} {n : Int} {d : List Int} {r_ : List Int} {q : List Int} {i : Int} {v_d : Value} {v_r_ : Value} {v_q : Value} {i_r_ : Item'} {i_q : Item'} (hle : H0.le H) (he : wide_long.b0 k h n d r_ q i = some r) (h_d : Ro (Kd.int .u32) H v_d d) (h_r_ : Sl (Kd.int .u32) H 167 i_r_ v_r_ r_) (h_q : Sl (Kd.int .u32) H 167 i_q v_q q) : Wp Tryz.prog 142 86 wide_long.Kl0 (upd (upd (upd (upd (upd (upd (upd jk_ 4 (.slice none 0 0)) 5 (.slice none 0 0)) 8 (.int .i64 n)) 9 (v_d)) 10 (v_r_)) 11 (v_q)) 12 (.int .i64 i)) H (i_q :: i_r_ :: L) (wide_long.R H0 L r) := by
 unfold wide_long.b0 at he
 unfold wide_long.Kl0
 refine w_seq <| w_seq <| w_region rfl <| w_d rfl (d_move (v := .int .i64 i) rfl) <| w_d rfl (d_geq rfl rfl) <| w_done ?_
 rcases its he with ⟨c62, he⟩ | ⟨c62, he⟩
 ·
  refine w_then rfl (decide_eq_true c62) <| w_skip <| w_seq <| w_block <| w_seq <| w_region rfl <| w_d rfl (d_move (v := v_r_) rfl) <| w_d rfl (d_move (v := v_d) rfl) <| w_d rfl (d_move (v := .int .i64 i) rfl) ?_
  obtain ⟨y63, hy64, he⟩ := Option.bind_eq_some_iff.1 he
  refine w_d rfl (call_d (o_call co156 (vs := [v_r_, v_d, .int .i64 i]) rfl (wide_guess.calls k hy64 (h_r_.src (.there .here)) h_d.src))) <| w_d rfl (d_assign (v := .int .u64 y63) rfl) <| w_done <| w_seq <| w_seq <| w_region rfl <| w_d rfl (d_move (v := v_r_) rfl) <| w_d rfl (d_move (v := v_d) rfl) <| w_d rfl (d_move (v := .int .i64 i) rfl) <| w_d rfl (d_move (v := .int .u64 y63) rfl) ?_
  obtain ⟨y67, hy68, he⟩ := Option.bind_eq_some_iff.1 he
  refine w_a rfl (o_call co157 (vs := [v_r_, v_d, .int .i64 i, .int .u64 y63]) rfl (ct_at (F := fun z_ => i_q :: z_ :: L) (wide_takeOff.calls k hy68 h_r_ h_d.src) (.there .here) (fun _ => (.there .here)))) ?_
  rintro _ H69 _ ⟨i71, rfl, e70, h72, rfl⟩
  refine w_done ?_
  rcases its he with ⟨c73, he⟩ | ⟨c73, he⟩
  ·
   refine w_then rfl c73 <| w_seq <| w_region rfl <| w_d rfl (d_move (v := .int .u64 y63) rfl) <| w_d rfl (d_sub (c := (y63 - 1) % 18446744073709551616) rfl rfl rfl) <| w_d rfl (d_assign (v := .int .u64 ((y63 - 1) % 18446744073709551616)) rfl) <| w_done <| w_region rfl <| w_d rfl (d_move (v := v_r_) rfl) <| w_d rfl (d_move (v := v_d) rfl) <| w_d rfl (d_move (v := .int .i64 i) rfl) ?_
   obtain ⟨y74, hy75, he⟩ := Option.bind_eq_some_iff.1 he
   refine w_a rfl (o_call co158 (vs := [v_r_, v_d, .int .i64 i]) rfl (ct_at (F := fun z_ => i_q :: z_ :: L) (wide_giveBack.calls k hy75 h72 ((h_d.mono e70).src)) (.there .here) (fun _ => (.there .here)))) ?_
   rintro _ H76 _ ⟨i78, rfl, e77, h79, rfl⟩
   refine w_done <| w_sl 4 (.slice none 0 0) rfl <| w_sl 5 (.slice none 0 0) rfl <| w_sl 8 (.int .i64 n) rfl <| w_sl 9 (v_d) rfl <| w_sl 10 (v_r_) rfl <| w_sl 11 (v_q) rfl <| w_sl 12 (.int .i64 i) rfl <| w_sl 13 (.int .u64 ((y63 - 1) % 18446744073709551616)) rfl <| wide_long.j2_ok (k := k) hh (hle.trans (e70.trans e77)) he (h_d.mono (e70.trans e77)) h79 (h_q.mono (e70.trans e77))
  ·
   refine w_else rfl (Bool.eq_false_iff.2 c73) <| w_skip <| w_sl 4 (.slice none 0 0) rfl <| w_sl 5 (.slice none 0 0) rfl <| w_sl 8 (.int .i64 n) rfl <| w_sl 9 (v_d) rfl <| w_sl 10 (v_r_) rfl <| w_sl 11 (v_q) rfl <| w_sl 12 (.int .i64 i) rfl <| w_sl 13 (.int .u64 y63) rfl <| wide_long.j2_ok (k := k) hh (hle.trans e70) he (h_d.mono e70) h72 (h_q.mono e70)
 ·
  refine w_else rfl (decide_eq_false c62) <| w_exit rfl <| w_seq <| w_region rfl <| w_d rfl (d_move (v := v_q) rfl) <| w_freeze h_q .here ?_
  intro H80 e81 h82
  obtain ⟨y83, hy84, he⟩ := Option.bind_eq_some_iff.1 he
  refine w_a rfl (o_call co113 (vs := [v_q]) rfl (wide_trim.calls k hy84 h82)) ?_
  rintro v87 H85 _ ⟨rfl, e86, h88⟩
  refine w_d rfl (d_move (v := v_r_) rfl) <| w_d rfl (d_move (v := .int .i64 n) rfl) <| w_freeze (h_r_.mono (e81.trans e86)) (.there .here) ?_
  intro H89 e90 h91
  obtain ⟨y92, hy93, he⟩ := Option.bind_eq_some_iff.1 he
  refine w_a rfl (o_call co118 (vs := [v_r_, .int .i64 n]) rfl (wide_down.calls k hy93 h91)) ?_
  rintro v96 H94 _ ⟨rfl, e95, h97⟩
  refine w_d rfl (d_assign (v := v87) rfl) <| w_d rfl (d_assign (v := v96) rfl) <| w_done ?_
  obtain rfl := Option.some.inj he
  refine w_return fn_142 rs_142 (.tmp (v := v87) rfl (.tmp (v := v96) rfl .nil)) <| ⟨⟨[_, _], rfl⟩, hle.trans (((e81.trans e86).trans e90).trans e95), ⟨v87, v96, rfl, (h88.mono (e90.trans e95)), h97⟩⟩
theorem wide_long.ok : ∀ k, wide_long.OK (wide_long.hs k)
 | 0 => ⟨(by intros; exact nomatch (show none = some _ from by assumption))⟩
 | k + 1 => ⟨wide_long.b0_ok (k := k) (wide_long.ok k)⟩
theorem wide_long.calls (k : Nat) {H : Hp} {L : Items} {a : List Int} {b : List Int} {v0_a : Value} {v1_b : Value} {r : (List Int) × (List Int)} (he : wide_long.f k a b = some r) (h0_a : Ro (Kd.int .u32) H v0_a a) (h1_b : Src (Kd.int .u32) H L v1_b b) : Ct Tryz.prog 142 ⟨[v0_a, v1_b]⟩ H L (fun v H' L' => L = L' ∧ H.le H' ∧ wide_long.out r H' v) := by
 refine ct_out (O := wide_long.out r) ?_
 have hle : H.le H := .refl _
 have hh := wide_long.ok k
 unfold wide_long.f at he
 refine ct_enter (args := [v0_a, v1_b]) fn_142 rfl nt_142 rfl <| w_seq <| w_region rfl <| w_d rfl (d_assign (v := .slice none 0 0) rfl) <| w_d rfl (d_assign (v := .slice none 0 0) rfl) <| w_done <| w_seq <| w_seq <| w_region rfl <| w_d rfl (d_move (v := v0_a) rfl) <| w_d rfl (d_move (v := v1_b) rfl) ?_
 obtain ⟨y1, hy2, he⟩ := Option.bind_eq_some_iff.1 he
 refine w_d rfl (call_d (o_call co137 (vs := [v0_a, v1_b]) rfl (wide_less.calls k hy2 h0_a.src h1_b))) <| w_d rfl (d_lss rfl rfl) <| w_done ?_
 rcases its he with ⟨c5, he⟩ | ⟨c5, he⟩
 ·
  refine w_then rfl (decide_eq_true c5) <| w_seq <| w_region rfl <| w_d rfl (d_move (v := v0_a) rfl) <| w_d rfl (d_assign (v := .slice none 0 0) rfl) <| w_d rfl (d_assign (v := v0_a) rfl) <| w_done ?_
  obtain rfl := Option.some.inj he
  refine w_return fn_142 rs_142 (.tmp (v := .slice none 0 0) rfl (.tmp (v := v0_a) rfl .nil)) <| ⟨⟨[], rfl⟩, hle, ⟨.slice none 0 0, v0_a, rfl, (ro_nil _ _), h0_a⟩⟩
 ·
  refine w_else rfl (decide_eq_false c5) <| w_skip <| w_seq <| w_seq <| w_region rfl <| w_d rfl (d_move (v := v1_b) rfl) <| w_d rfl (d_len Tryz.underlying22 rfl h1_b) <| w_d rfl (d_eql rfl rfl) <| w_done ?_
  rcases its he with ⟨c6, he⟩ | ⟨c6, he⟩
  ·
   refine w_then rfl (decide_eq_true c6) <| w_seq <| w_region rfl <| w_d rfl (d_move (v := v0_a) rfl) <| w_d rfl (d_move (v := v1_b) rfl) ?_
   obtain ⟨c7, he⟩ := rq he
   refine w_d rfl (d_index (sz := 1) Tryz.underlying22 sz167 rfl h1_b rfl c7) <| w_d rfl (d_ldint ty167 rfl h1_b c7) ?_
   obtain ⟨y8, hy9, he⟩ := Option.bind_eq_some_iff.1 he
   refine w_a rfl (o_call co130 (vs := [v0_a, .int .u32 (rd b 0)]) rfl (wide_short.calls k hy9 h0_a.src)) ?_
   rintro _ H10 _ ⟨rfl, e11, ⟨v12, rfl, h13⟩⟩
   refine w_d rfl (d_move (v := .tuple ⟨[v12, .int .u32 y8.2]⟩) rfl) <| w_d rfl (d_ext (vs := [v12, .int .u32 y8.2]) rfl rfl) <| w_d rfl (d_ext (vs := [v12, .int .u32 y8.2]) rfl rfl) <| w_d rfl (d_assign (v := v12) rfl) <| w_d rfl (d_assign (v := .int .u32 y8.2) rfl) <| w_done <| w_seq <| w_region rfl <| w_d rfl (d_move (v := v12) rfl) <| w_d rfl (d_move (v := .int .u32 y8.2) rfl) <| w_a rfl (o_buildSlice' (kd := (Kd.int .u32)) (css := [[.int .u32 y8.2]]) (xs := [y8.2]) (parts := [(0, .int .u32 y8.2)]) Tryz.underlying22 ti167 rfl ⟨_, _, rfl, rfl, rfl⟩ ⟨rfl, trivial⟩ rfl (by decide)) ?_
   rintro v14 _ _ ⟨i15, rfl, rfl, h16⟩
   refine w_freeze h16 .here ?_
   intro H17 e18 h19
   obtain ⟨y20, hy21, he⟩ := Option.bind_eq_some_iff.1 he
   refine w_a rfl (o_call co113 (vs := [v14]) rfl (wide_trim.calls k hy21 h19)) ?_
   rintro v24 H22 _ ⟨rfl, e23, h25⟩
   refine w_d rfl (d_assign (v := v12) rfl) <| w_d rfl (d_assign (v := v24) rfl) <| w_done ?_
   obtain rfl := Option.some.inj he
   refine w_return fn_142 rs_142 (.tmp (v := v12) rfl (.tmp (v := v24) rfl .nil)) <| ⟨⟨[_], rfl⟩, hle.trans ((e11.trans e18).trans e23), ⟨v12, v24, rfl, (h13.mono (e18.trans e23)), h25⟩⟩
  ·
   refine w_else rfl (decide_eq_false c6) <| w_skip <| w_seq <| w_region rfl <| w_d rfl (d_move (v := v1_b) rfl) <| w_d rfl (d_move (v := v1_b) rfl) <| w_d rfl (d_len Tryz.underlying22 rfl h1_b) <| w_d rfl (d_sub (c := w64 ((b.length : Int) - 1)) rfl rfl rfl) ?_
   obtain ⟨c26, he⟩ := rq he
   refine w_d rfl (d_index (sz := 1) Tryz.underlying22 sz167 rfl h1_b rfl c26) <| w_d rfl (d_ldint ty167 rfl h1_b c26) ?_
   obtain ⟨y27, hy28, he⟩ := Option.bind_eq_some_iff.1 he
   refine w_d rfl (call_d (o_call co155 (vs := [.int .u32 (rd b (w64 ((b.length : Int) - 1)))]) rfl (bits_LeadingZeros32.calls k hy28))) <| w_d rfl (d_assign (v := .int .i64 y27) rfl) <| w_done <| w_seq <| w_region rfl <| w_d rfl (d_move (v := v1_b) rfl) <| w_d rfl (d_move (v := .int .i64 y27) rfl) ?_
   obtain ⟨y31, hy32, he⟩ := Option.bind_eq_some_iff.1 he
   refine w_a rfl (o_call co114 (vs := [v1_b, .int .i64 y27]) rfl (wide_up.calls k hy32 h1_b)) ?_
   rintro v37 H33 _ ⟨i38, rfl, e34, h39⟩
   refine w_freeze h39 .here ?_
   intro H40 e41 h42
   obtain ⟨y43, hy44, he⟩ := Option.bind_eq_some_iff.1 he
   refine w_a rfl (o_call co113 (vs := [v37]) rfl (wide_trim.calls k hy44 h42)) ?_
   rintro v47 H45 _ ⟨rfl, e46, h48⟩
   refine w_d rfl (d_assign (v := v47) rfl) <| w_done <| w_seq <| w_region rfl <| w_d rfl (d_move (v := v0_a) rfl) <| w_d rfl (d_move (v := .int .i64 y27) rfl) ?_
   obtain ⟨y49, hy50, he⟩ := Option.bind_eq_some_iff.1 he
   refine w_a rfl (o_call co114 (vs := [v0_a, .int .i64 y27]) rfl (wide_up.calls k hy50 ((h0_a.mono ((e34.trans e41).trans e46)).src))) ?_
   rintro v55 H51 _ ⟨i56, rfl, e52, h57⟩
   refine w_d rfl (d_assign (v := v55) rfl) <| w_done <| w_seq <| w_region rfl <| w_d rfl (d_move (v := v55) rfl) <| w_d rfl (d_lenS Tryz.underlying22 rfl h57.shp) <| w_d rfl (d_move (v := v47) rfl) <| w_d rfl (d_len Tryz.underlying22 rfl (h48.mono e52).src) <| w_d rfl (d_sub (c := w64 ((y49.length : Int) - (y43.length : Int))) rfl rfl rfl) ?_
   obtain ⟨c58, he⟩ := rq he
   refine w_a rfl (o_make' (kd := (Kd.int .u32)) (z0 := 0) Tryz.underlying22 ti167 (zp167 _) rfl rfl (by omega) (by omega) (by omega)) ?_
   rintro v59 _ _ ⟨i60, rfl, rfl, h61⟩
   refine w_d rfl (d_assign (v := v59) rfl) <| w_done <| w_seq <| w_seq <| w_region rfl <| w_d rfl (d_move (v := v59) rfl) <| w_d rfl (d_lenS Tryz.underlying22 rfl h61.shp) <| w_d rfl (d_sub (c := w64 (((List.replicate (w64 ((y49.length : Int) - (y43.length : Int)) : Int).toNat (0 : Int)).length : Int) - 1)) rfl rfl rfl) <| w_d rfl (d_assign (v := .int .i64 (w64 (((List.replicate (w64 ((y49.length : Int) - (y43.length : Int)) : Int).toNat (0 : Int)).length : Int) - 1))) rfl) <| w_done <| w_block <| w_loop ?_
   refine w_del (.there (.there .here)) <| w_sl 4 (.slice none 0 0) rfl <| w_sl 5 (.slice none 0 0) rfl <| w_sl 8 (.int .i64 y27) rfl <| w_sl 9 (v47) rfl <| w_sl 10 (v55) rfl <| w_sl 11 (v59) rfl <| w_sl 12 (.int .i64 (w64 (((List.replicate (w64 ((y49.length : Int) - (y43.length : Int)) : Int).toNat (0 : Int)).length : Int) - 1))) rfl <| hh.l0 (hle.trans (((e34.trans e41).trans e46).trans e52)) he (h48.mono e52) h57 h61
end Go.Proofs.YtkccpkccdbfomaaGreatDoor.GSL

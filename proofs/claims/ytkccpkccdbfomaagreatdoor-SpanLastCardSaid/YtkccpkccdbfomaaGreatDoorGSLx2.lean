/- A text of this session, written by a program (wip/k/gen.py): Go functions as Lean functions, and proofs that the code comes to them. -/
import Derived.Test.YtkccpkccdbfomaaGreatDoorGSLx1
namespace Go.Proofs.YtkccpkccdbfomaaGreatDoor.GSL
open Go Go.RowKit Go.Proofs.YtkccpkccdbfomaaGreatDoorK Go.Proofs.YtkccpkccdbfomaaGreatDoor
set_option maxRecDepth 100000
set_option maxHeartbeats 2000000
set_option linter.unusedVariables false
set_option linter.unusedSimpArgs false
/-! ### (radome/wide.Int).Div -/
noncomputable def wide_Int_Div.C : Code := (Tryz.f124.body).getD .skip
def wide_Int_Div.out (r : wide_Int × wide_Int × (Option Int)) (H : Hp) (v : Value) : Prop := ∃ v0, ∃ v1, v = .tuple ⟨[.agg ⟨[.bool r.1.f_neg, v0]⟩, .agg ⟨[.bool r.2.1.f_neg, v1]⟩, errV 104 r.2.2]⟩ ∧ Ro (Kd.int .u32) H v0 r.1.f_w ∧ Ro (Kd.int .u32) H v1 r.2.1.f_w
theorem wide_Int_Div.out_mono (r : wide_Int × wide_Int × (Option Int)) {H H' : Hp} {v : Value} (hle : H.le H') (h : wide_Int_Div.out r H v) : wide_Int_Div.out r H' v := by
 obtain ⟨v0, v1, rfl, h0, h1⟩ := h; exact ⟨v0, v1, rfl, h0.mono hle, h1.mono hle⟩
abbrev wide_Int_Div.R (H0 : Hp) (L : Items) (r : wide_Int × wide_Int × (Option Int)) : Value → Hp → Items → Prop := fun v H' L' => (∃ p, L' = p ++ L) ∧ H0.le H' ∧ wide_Int_Div.out r H' v
noncomputable def wide_Int_Div.j1 (k : Nat)  (b_0 : Bool) (b_1 : List Int) (r_ : List Int) (x_0 : Bool) (x_1 : List Int) (one_0 : Bool) (one_1 : List Int) : Option (wide_Int × wide_Int × (Option Int)) := (wide_Int_Add.f k (⟨x_0, x_1⟩ : wide_Int) (⟨one_0, one_1⟩ : wide_Int)).bind fun y50 => if y50.2.isSome = true then (some ((⟨false, []⟩ : wide_Int), (⟨false, []⟩ : wide_Int), y50.2)) else ((wide_minus.f k b_1 r_).bind fun y57 => some (y50.1, (⟨false, y57⟩ : wide_Int), none))
noncomputable def wide_Int_Div.f (k : Nat) (a : wide_Int) (b : wide_Int) : Option (wide_Int × wide_Int × (Option Int)) := if (b.f_w.length : Int) = 0 then (some ((⟨false, []⟩ : wide_Int), (⟨false, []⟩ : wide_Int), some 11)) else ((wide_long.f k a.f_w b.f_w).bind fun y6 => (wide_made.f k (!(a.f_neg == b.f_neg)) y6.1).bind fun y14 => if y14.2.isSome = true then (some ((⟨false, []⟩ : wide_Int), (⟨false, []⟩ : wide_Int), y14.2)) else (if ((!a.f_neg) || (decide ((y6.2.length : Int) = 0))) = true then ((slices_Clone_uint32_uint32.f k y6.2).bind fun y26 => some (y14.1, (⟨false, y26⟩ : wide_Int), none)) else ((wide_Of.f k 1).bind fun y36 => if (!b.f_neg) = true then ((wide_Int_Neg.f k y36).bind fun y44 => wide_Int_Div.j1 k b.f_neg b.f_w y6.2 y14.1.f_neg y14.1.f_w y44.f_neg y44.f_w) else (wide_Int_Div.j1 k b.f_neg b.f_w y6.2 y14.1.f_neg y14.1.f_w y36.f_neg y36.f_w))))
theorem wide_Int_Div.j1_mono {k : Nat} : ∀ y0 y1 y2 y3 y4 y5 y6, LeO (wide_Int_Div.j1 k y0 y1 y2 y3 y4 y5 y6) (wide_Int_Div.j1 (k + 1) y0 y1 y2 y3 y4 y5 y6) := fun _ _ _ _ _ _ _ => (LeO.bind (wide_Int_Add.mono k _ _) fun _ => LeO.ite (LeO.refl _) (LeO.bind (wide_minus.mono k _ _) fun _ => LeO.refl _))
theorem wide_Int_Div.mono : ∀ k y0 y1, LeO (wide_Int_Div.f k y0 y1) (wide_Int_Div.f (k + 1) y0 y1) := fun k _ _ => by unfold wide_Int_Div.f; exact (LeO.ite (LeO.refl _) (LeO.bind (wide_long.mono k _ _) fun _ => LeO.bind (wide_made.mono k _ _) fun _ => LeO.ite (LeO.refl _) (LeO.ite (LeO.bind (slices_Clone_uint32_uint32.mono k _) fun _ => LeO.refl _) (LeO.bind (wide_Of.mono k _) fun _ => LeO.ite (LeO.bind (wide_Int_Neg.mono k _) fun _ => wide_Int_Div.j1_mono (k := k)  _ _ _ _ _ _ _) (wide_Int_Div.j1_mono (k := k)  _ _ _ _ _ _ _)))))
noncomputable def wide_Int_Div.Kj1 : List Item := .code (seqR (seqR (seqR (seqR (seqR (seqR (seqR (seqR wide_Int_Div.C)))))))) :: []
theorem wide_Int_Div.j1_ok {k : Nat} {H0 H : Hp} {L : Items} {r : wide_Int × wide_Int × (Option Int)} {jk_ : Nat → Value} {b_0 : Bool} {b_1 : List Int} {r_ : List Int} {x_0 : Bool} {x_1 : List Int} {one_0 : Bool} {one_1 : List Int} {v_b_1 : Value} {v_r_ : Value} {v_x_1 : Value} {v_one_1 : Value} {b_b : Nat} {b_t4 : Nat} {b_t5 : Nat} {b_x : Nat} {b_one_ : Nat} (hle : H0.le H) (he : wide_Int_Div.j1 k b_0 b_1 r_ x_0 x_1 one_0 one_1 = some r) (h_b_1 : Ro (Kd.int .u32) H v_b_1 b_1) (h_r_ : Ro (Kd.int .u32) H v_r_ r_) (h_x_1 : Ro (Kd.int .u32) H v_x_1 x_1) (h_one_1 : Ro (Kd.int .u32) H v_one_1 one_1) : Wp Tryz.prog 124 77 wide_Int_Div.Kj1 (upd (upd (upd (upd (upd (upd (upd jk_ 3 (.pointer (some ⟨b_b, 0, none⟩))) 4 (.pointer (some ⟨b_t4, 0, none⟩))) 5 (.pointer (some ⟨b_t5, 0, none⟩))) 6 (errV 104 none)) 8 (v_r_)) 9 (.pointer (some ⟨b_x, 0, none⟩))) 11 (.pointer (some ⟨b_one_, 0, none⟩))) H (some (b_one_, .cells ⟨[.bool one_0, v_one_1]⟩ 24 (0, 0)) :: some (b_x, .cells ⟨[.bool x_0, v_x_1]⟩ 24 (0, 0)) :: some (b_t5, .cells ⟨[.bool false, .slice none 0 0]⟩ 24 (0, 0)) :: some (b_t4, .cells ⟨[.bool false, .slice none 0 0]⟩ 24 (0, 0)) :: some (b_b, .cells ⟨[.bool b_0, v_b_1]⟩ 24 (0, 0)) :: L) (wide_Int_Div.R H0 L r) := by
 unfold wide_Int_Div.j1 at he
 unfold wide_Int_Div.Kj1
 refine w_seq <| w_region rfl <| w_d rfl (d_loado (v := .agg ⟨[.bool x_0, v_x_1]⟩) ty24 rfl (.there .here) rfl rfl rfl rfl) <| w_d rfl (d_loado (v := .agg ⟨[.bool one_0, v_one_1]⟩) ty24 rfl .here rfl rfl rfl rfl) ?_
 obtain ⟨y50, hy51, he⟩ := Option.bind_eq_some_iff.1 he
 refine w_a rfl (o_call co127 (vs := [.agg ⟨[.bool x_0, v_x_1]⟩, .agg ⟨[.bool one_0, v_one_1]⟩]) rfl (wide_Int_Add.calls k (a := ⟨x_0, x_1⟩) (b := ⟨one_0, one_1⟩) hy51 h_x_1 h_one_1)) ?_
 rintro _ H52 _ ⟨rfl, e53, ⟨v54, rfl, h55⟩⟩
 refine w_d rfl (d_move (v := .tuple ⟨[.agg ⟨[.bool y50.1.f_neg, v54]⟩, errV 104 y50.2]⟩) rfl) <| w_d rfl (d_ext (vs := [.agg ⟨[.bool y50.1.f_neg, v54]⟩, errV 104 y50.2]) rfl rfl) <| w_d rfl (d_ext (vs := [.agg ⟨[.bool y50.1.f_neg, v54]⟩, errV 104 y50.2]) rfl rfl) <| w_a0 rfl (o_store (v := .agg ⟨[.bool y50.1.f_neg, v54]⟩) sz24 rfl rfl rfl rfl (one_cons rfl (one_cons (h55.one) one_nil)) (.there .here) (.here (.here .done))) ?_
 rintro _ _ _ ⟨rfl, rfl, rfl⟩
 refine w_d rfl (d_assign (v := errV 104 y50.2) rfl) <| w_done <| w_seq <| w_seq <| w_region rfl <| w_d rfl (d_move (v := errV 104 y50.2) rfl) <| w_d rfl (d_nenil (e := y50.2) Tryz.underlying30 rfl) <| w_done ?_
 rcases its he with ⟨c56, he⟩ | ⟨c56, he⟩
 ·
  refine w_then rfl c56 <| w_seq <| w_region rfl <| w_d rfl (d_build (cs' := [.bool false, .slice none 0 0]) Tryz.underlying24 zr24 rfl (by kernel_rfl) (parts := []) rfl .nil) <| w_d rfl (d_build (cs' := [.bool false, .slice none 0 0]) Tryz.underlying24 zr24 rfl (by kernel_rfl) (parts := []) rfl .nil) <| w_d rfl (d_move (v := errV 104 y50.2) rfl) <| w_a0 rfl (o_store (v := .agg ⟨[.bool false, .slice none 0 0]⟩) sz24 rfl rfl rfl rfl (one_cons rfl (one_cons rfl one_nil)) (.there (.there (.there .here))) (.here (.here .done))) ?_
  rintro _ _ _ ⟨rfl, rfl, rfl⟩
  refine w_a0 rfl (o_store (v := .agg ⟨[.bool false, .slice none 0 0]⟩) sz24 rfl rfl rfl rfl (one_cons rfl (one_cons rfl one_nil)) (.there (.there .here)) (.here (.here .done))) ?_
  rintro _ _ _ ⟨rfl, rfl, rfl⟩
  refine w_d rfl (d_assign (v := errV 104 y50.2) rfl) <| w_done ?_
  obtain rfl := Option.some.inj he
  refine w_return fn_124 rs_124 (.box (v := .agg ⟨[.bool false, .slice none 0 0]⟩) rfl ty24 rfl rfl (.there (.there (.there .here))) rfl (.box (v := .agg ⟨[.bool false, .slice none 0 0]⟩) rfl ty24 rfl rfl (.there (.there .here)) rfl (.tmp (v := errV 104 y50.2) rfl .nil))) <| ⟨⟨[_, _, _, _, _], rfl⟩, hle.trans e53, ⟨.slice none 0 0, .slice none 0 0, rfl, (ro_nil _ _), (ro_nil _ _)⟩⟩
 ·
  refine w_else rfl (Bool.eq_false_iff.2 c56) <| w_skip <| w_seq ?_
  obtain ⟨y57, hy58, he⟩ := Option.bind_eq_some_iff.1 he
  refine w_drawn (p := 7) (tl := [7, 8]) [[], [], [(1, some 72)], [], [(2, some 73), (3, some 74)], [(4, some 75)], [(0, some 71)]] [some 71, some 72, some 73, some 74, some 75, some 76, none] (fctF (.is (.agg ⟨[.bool y50.1.f_neg, v54]⟩) :: .is (.pointer (some ⟨b_b, 1, none⟩)) :: .is (v_b_1) :: .is (v_r_) :: .ro (Kd.int .u32) (y57) :: .of (fun H v => ∃ v63, v = .agg ⟨[.bool false, v63]⟩ ∧ Ro (Kd.int .u32) H v63 y57) (by rintro _ _ _ hle ⟨v63, rfl, h64⟩; exact ⟨v63, rfl, h64.mono hle⟩) :: .itm (fun H itq_ => itq_ = some (b_t4, .cells ⟨[.bool y50.1.f_neg, v54]⟩ 24 (0, 0))) (by rintro _ _ _ hle rfl; exact rfl) :: [])) (fun m_ => some (b_one_, .cells ⟨[.bool one_0, v_one_1]⟩ 24 (0, 0)) :: some (b_x, .cells ⟨[.bool y50.1.f_neg, v54]⟩ 24 (0, 0)) :: some (b_t5, .cells ⟨[.bool false, .slice none 0 0]⟩ 24 (0, 0)) :: m_ 6 :: some (b_b, .cells ⟨[.bool b_0, v_b_1]⟩ 24 (0, 0)) :: L) (fun i_ => if i_ = 6 then some (b_t4, .cells ⟨[.bool false, .slice none 0 0]⟩ 24 (0, 0)) else none) mixed (by kernel_rfl) (by kernel_rfl) rfl (fct_mono (by kernel_rfl)) ⟨(fun H' m_ hH hm_ hu_ => depK_nil <| s_d (m_ 0) rfl (d_loado (v := .agg ⟨[.bool y50.1.f_neg, v54]⟩) ty24 rfl (.there .here) rfl rfl rfl rfl) (by exact rfl) rfl), (fun H' m_ hH hm_ hu_ => depK_nil <| s_d (m_ 1) rfl (d_fld (o' := 1) Tryz.underlying24 rfl sz22 rfl rfl rfl) (by exact rfl) rfl), (by rintro H' m_ hH hm_ hu_ _ rfl; exact depK_nil <| s_d (m_ 2) rfl (d_loado (v := v_b_1) ty22 rfl (.there (.there (.there (.there .here)))) rfl rfl rfl rfl) (by exact rfl) rfl), (fun H' m_ hH hm_ hu_ => depK_nil <| s_d (m_ 3) rfl (d_move (v := v_r_) rfl) (by exact rfl) rfl), (by rintro H' m_ hH hm_ hu_ _ rfl _ rfl; exact depK_nil <| s_k (m_ 4) rfl (o_call co143 (vs := [v_b_1, v_r_]) rfl (wide_minus.calls k hy58 ((h_b_1.mono (e53.trans hH)).src) ((h_r_.mono (e53.trans hH)).src))) rfl (by rintro v_ H_ _ ⟨rfl, e_, h_⟩; exact ⟨rfl, e_, h_⟩)), (by rintro H' m_ hH hm_ hu_ v61 (h62 : Ro (Kd.int .u32) H' v61 y57); exact depK_nil <| s_d (m_ 5) rfl (d_build (cs' := [.bool false, v61]) Tryz.underlying24 zr24 rfl (by kernel_rfl) (parts := [(0, .bool false), (1, v61)]) rfl (.cons (place_of rfl sz4 rfl) rfl rfl (.here .done) (.cons (place_of rfl sz22 rfl) h62.cells rfl (.there (.here .done)) .nil))) (by exact ⟨v61, rfl, h62⟩) rfl), (by rintro H' m_ hH hm_ hu_ _ rfl; exact depK_nil <| s_store (some (b_t4, .cells ⟨[.bool y50.1.f_neg, v54]⟩ 24 (0, 0))) hm_ rfl (o_store (v := .agg ⟨[.bool y50.1.f_neg, v54]⟩) sz24 rfl rfl rfl rfl (one_cons rfl (one_cons (h55.one) one_nil)) (.there (.there (.there .here))) (.here (.here .done))) rfl (by exact ⟨rfl, rfl⟩)), trivial⟩ ?_
  intro H65 e66
  rintro _ _ rfl _ _ rfl _ _ rfl _ _ rfl v61 _ (h62 : Ro (Kd.int .u32) H65 v61 y57) _ _ ⟨v63, rfl, h64⟩ _ _ ⟨rfl, rfl⟩
  refine w_it (L' := some (b_one_, .cells ⟨[.bool one_0, v_one_1]⟩ 24 (0, 0)) :: some (b_x, .cells ⟨[.bool y50.1.f_neg, v54]⟩ 24 (0, 0)) :: some (b_t5, .cells ⟨[.bool false, .slice none 0 0]⟩ 24 (0, 0)) :: some (b_t4, .cells ⟨[.bool y50.1.f_neg, v54]⟩ 24 (0, 0)) :: some (b_b, .cells ⟨[.bool b_0, v_b_1]⟩ 24 (0, 0)) :: L) rfl <| w_a0 rfl (o_store (v := .agg ⟨[.bool false, v63]⟩) sz24 rfl rfl rfl rfl (one_cons rfl (one_cons (h64.one) one_nil)) (.there (.there .here)) (.here (.here .done))) ?_
  rintro _ _ _ ⟨rfl, rfl, rfl⟩
  refine w_d rfl (d_assign (v := errV 104 none) rfl) <| w_done ?_
  obtain rfl := Option.some.inj he
  refine w_return fn_124 rs_124 (.box (v := .agg ⟨[.bool y50.1.f_neg, v54]⟩) rfl ty24 rfl rfl (.there (.there (.there .here))) rfl (.box (v := .agg ⟨[.bool false, v63]⟩) rfl ty24 rfl rfl (.there (.there .here)) rfl (.tmp (v := errV 104 none) rfl .nil))) <| ⟨⟨[_, _, _, _, _], rfl⟩, hle.trans (e53.trans e66), ⟨v54, v63, rfl, (h55.mono e66), h64⟩⟩
theorem wide_Int_Div.calls (k : Nat) {H : Hp} {L : Items} {a : wide_Int} {b : wide_Int} {v0_a : Value} {v1_b : Value} {r : wide_Int × wide_Int × (Option Int)} (he : wide_Int_Div.f k a b = some r) (h0_a : Ro (Kd.int .u32) H v0_a a.f_w) (h1_b : Ro (Kd.int .u32) H v1_b b.f_w) : Ct Tryz.prog 124 ⟨[.agg ⟨[.bool a.f_neg, v0_a]⟩, .agg ⟨[.bool b.f_neg, v1_b]⟩]⟩ H L (fun v H' L' => L = L' ∧ H.le H' ∧ wide_Int_Div.out r H' v) := by
 refine ct_out (O := wide_Int_Div.out r) ?_
 have hle : H.le H := .refl _
 unfold wide_Int_Div.f at he
 refine ct_enter (args := [.agg ⟨[.bool a.f_neg, v0_a]⟩, .agg ⟨[.bool b.f_neg, v1_b]⟩]) fn_124 rfl nt_124 rfl <| w_seq <| w_region rfl <| w_a rfl (o_box (v := .agg ⟨[.bool a.f_neg, v0_a]⟩) rfl rfl) ?_
 rintro _ _ _ ⟨b1, rfl, rfl, rfl⟩
 refine w_a rfl (o_box (v := .agg ⟨[.bool b.f_neg, v1_b]⟩) rfl rfl) ?_
 rintro _ _ _ ⟨b2, rfl, rfl, rfl⟩
 refine w_a rfl (o_alloc zr24 rfl) ?_
 rintro _ _ _ ⟨b3, rfl, rfl, rfl⟩
 refine w_a rfl (o_alloc zr24 rfl) ?_
 rintro _ _ _ ⟨b4, rfl, rfl, rfl⟩
 refine w_d rfl (d_assign (v := errV 104 none) rfl) <| w_done <| w_seq <| w_seq <| w_region rfl <| w_d rfl (d_fld (o' := 1) Tryz.underlying24 rfl sz22 rfl rfl rfl) <| w_d rfl (d_loado (v := v1_b) ty22 rfl (.there (.there .here)) rfl rfl rfl rfl) <| w_d rfl (d_len Tryz.underlying22 rfl h1_b.src) <| w_d rfl (d_eql rfl rfl) <| w_done ?_
 rcases its he with ⟨c5, he⟩ | ⟨c5, he⟩
 ·
  refine w_then rfl (decide_eq_true c5) <| w_seq <| w_region rfl <| w_d rfl (d_build (cs' := [.bool false, .slice none 0 0]) Tryz.underlying24 zr24 rfl (by kernel_rfl) (parts := []) rfl .nil) <| w_d rfl (d_build (cs' := [.bool false, .slice none 0 0]) Tryz.underlying24 zr24 rfl (by kernel_rfl) (parts := []) rfl .nil) <| w_d rfl (d_iface (v := .int .i64 11) Tryz.underlying104 rfl rfl) <| w_a0 rfl (o_store (v := .agg ⟨[.bool false, .slice none 0 0]⟩) sz24 rfl rfl rfl rfl (one_cons rfl (one_cons rfl one_nil)) (.there .here) (.here (.here .done))) ?_
  rintro _ _ _ ⟨rfl, rfl, rfl⟩
  refine w_a0 rfl (o_store (v := .agg ⟨[.bool false, .slice none 0 0]⟩) sz24 rfl rfl rfl rfl (one_cons rfl (one_cons rfl one_nil)) .here (.here (.here .done))) ?_
  rintro _ _ _ ⟨rfl, rfl, rfl⟩
  refine w_d rfl (d_assign (v := errV 104 (some 11)) rfl) <| w_done ?_
  obtain rfl := Option.some.inj he
  refine w_return fn_124 rs_124 (.box (v := .agg ⟨[.bool false, .slice none 0 0]⟩) rfl ty24 rfl rfl (.there .here) rfl (.box (v := .agg ⟨[.bool false, .slice none 0 0]⟩) rfl ty24 rfl rfl .here rfl (.tmp (v := errV 104 (some 11)) rfl .nil))) <| ⟨⟨[_, _, _, _], rfl⟩, hle, ⟨.slice none 0 0, .slice none 0 0, rfl, (ro_nil _ _), (ro_nil _ _)⟩⟩
 ·
  refine w_else rfl (decide_eq_false c5) <| w_skip <| w_seq <| w_region rfl <| w_d rfl (d_fld (o' := 1) Tryz.underlying24 rfl sz22 rfl rfl rfl) <| w_d rfl (d_loado (v := v0_a) ty22 rfl (.there (.there (.there .here))) rfl rfl rfl rfl) <| w_d rfl (d_fld (o' := 1) Tryz.underlying24 rfl sz22 rfl rfl rfl) <| w_d rfl (d_loado (v := v1_b) ty22 rfl (.there (.there .here)) rfl rfl rfl rfl) ?_
  obtain ⟨y6, hy7, he⟩ := Option.bind_eq_some_iff.1 he
  refine w_a rfl (o_call co142 (vs := [v0_a, v1_b]) rfl (wide_long.calls k hy7 h0_a h1_b.src)) ?_
  rintro _ H8 _ ⟨rfl, e9, ⟨v10, v12, rfl, h11, h13⟩⟩
  refine w_d rfl (d_move (v := .tuple ⟨[v10, v12]⟩) rfl) <| w_d rfl (d_ext (vs := [v10, v12]) rfl rfl) <| w_d rfl (d_ext (vs := [v10, v12]) rfl rfl) <| w_d rfl (d_assign (v := v10) rfl) <| w_d rfl (d_assign (v := v12) rfl) <| w_done <| w_seq <| w_region rfl <| w_d rfl (d_fld (o' := 0) Tryz.underlying24 rfl sz4 rfl rfl rfl) <| w_d rfl (d_loado (v := .bool a.f_neg) ty4 rfl (.there (.there (.there .here))) rfl rfl rfl rfl) <| w_d rfl (d_fld (o' := 0) Tryz.underlying24 rfl sz4 rfl rfl rfl) <| w_d rfl (d_loado (v := .bool b.f_neg) ty4 rfl (.there (.there .here)) rfl rfl rfl rfl) ?_
  refine w_d rfl (d_neb (a := a.f_neg) (b := b.f_neg) Tryz.underlying4 rfl rfl) <| w_d rfl (d_move (v := v10) rfl) ?_
  obtain ⟨y14, hy15, he⟩ := Option.bind_eq_some_iff.1 he
  refine w_a rfl (o_call co115 (vs := [.bool (!(a.f_neg == b.f_neg)), v10]) rfl (wide_made.calls k hy15 h11)) ?_
  rintro _ H16 _ ⟨rfl, e17, ⟨v18, rfl, h19⟩⟩
  refine w_d rfl (d_move (v := .tuple ⟨[.agg ⟨[.bool y14.1.f_neg, v18]⟩, errV 104 y14.2]⟩) rfl) <| w_d rfl (d_ext (vs := [.agg ⟨[.bool y14.1.f_neg, v18]⟩, errV 104 y14.2]) rfl rfl) <| w_d rfl (d_ext (vs := [.agg ⟨[.bool y14.1.f_neg, v18]⟩, errV 104 y14.2]) rfl rfl) <| w_a rfl (o_alloc zr24 rfl) ?_
  rintro _ _ _ ⟨b20, rfl, rfl, rfl⟩
  refine w_a0 rfl (o_store (v := .agg ⟨[.bool y14.1.f_neg, v18]⟩) sz24 rfl rfl rfl rfl (one_cons rfl (one_cons (h19.one) one_nil)) .here (.here (.here .done))) ?_
  rintro _ _ _ ⟨rfl, rfl, rfl⟩
  refine w_d rfl (d_assign (v := errV 104 y14.2) rfl) <| w_done <| w_seq <| w_seq <| w_region rfl <| w_d rfl (d_move (v := errV 104 y14.2) rfl) <| w_d rfl (d_nenil (e := y14.2) Tryz.underlying30 rfl) <| w_done ?_
  rcases its he with ⟨c21, he⟩ | ⟨c21, he⟩
  ·
   refine w_then rfl c21 <| w_seq <| w_region rfl <| w_d rfl (d_build (cs' := [.bool false, .slice none 0 0]) Tryz.underlying24 zr24 rfl (by kernel_rfl) (parts := []) rfl .nil) <| w_d rfl (d_build (cs' := [.bool false, .slice none 0 0]) Tryz.underlying24 zr24 rfl (by kernel_rfl) (parts := []) rfl .nil) <| w_d rfl (d_move (v := errV 104 y14.2) rfl) <| w_a0 rfl (o_store (v := .agg ⟨[.bool false, .slice none 0 0]⟩) sz24 rfl rfl rfl rfl (one_cons rfl (one_cons rfl one_nil)) (.there (.there .here)) (.here (.here .done))) ?_
   rintro _ _ _ ⟨rfl, rfl, rfl⟩
   refine w_a0 rfl (o_store (v := .agg ⟨[.bool false, .slice none 0 0]⟩) sz24 rfl rfl rfl rfl (one_cons rfl (one_cons rfl one_nil)) (.there .here) (.here (.here .done))) ?_
   rintro _ _ _ ⟨rfl, rfl, rfl⟩
   refine w_d rfl (d_assign (v := errV 104 y14.2) rfl) <| w_done ?_
   obtain rfl := Option.some.inj he
   refine w_return fn_124 rs_124 (.box (v := .agg ⟨[.bool false, .slice none 0 0]⟩) rfl ty24 rfl rfl (.there (.there .here)) rfl (.box (v := .agg ⟨[.bool false, .slice none 0 0]⟩) rfl ty24 rfl rfl (.there .here) rfl (.tmp (v := errV 104 y14.2) rfl .nil))) <| ⟨⟨[_, _, _, _, _], rfl⟩, hle.trans (e9.trans e17), ⟨.slice none 0 0, .slice none 0 0, rfl, (ro_nil _ _), (ro_nil _ _)⟩⟩
  ·
   refine w_else rfl (Bool.eq_false_iff.2 c21) <| w_skip <| w_seq <| w_seq <| w_region rfl <| w_d rfl (d_fld (o' := 0) Tryz.underlying24 rfl sz4 rfl rfl rfl) <| w_d rfl (d_loado (v := .bool a.f_neg) ty4 rfl (.there (.there (.there (.there .here)))) rfl rfl rfl rfl) <| w_d rfl (d_not (b := a.f_neg) rfl) <| w_d rfl (d_move (v := .bool (!a.f_neg)) rfl) <| w_g (g := !(!a.f_neg)) rfl rfl rfl wn_f (fun g22 => d_move (v := v12) rfl) <| w_g (g := !(!a.f_neg)) rfl rfl rfl wn_f (fun g23 => d_len Tryz.underlying22 (cvt g23) (h13.mono e17).src) <| w_g (g := !(!a.f_neg)) rfl rfl rfl wn_f (fun g24 => d_eql (cvt g24) rfl) ?_
   refine w_d rfl (d_or' (b := (!a.f_neg)) (p := (decide ((y6.2.length : Int) = 0))) rfl rfl rfl) <| w_done ?_
   rcases its he with ⟨c25, he⟩ | ⟨c25, he⟩
   ·
    refine w_then rfl c25 <| w_seq ?_
    obtain ⟨y26, hy27, he⟩ := Option.bind_eq_some_iff.1 he
    refine w_drawn (p := 5) (tl := [5, 6]) [[], [], [(1, some 51)], [(2, some 52)], [(0, some 50)]] [some 50, some 51, some 52, some 53, none] (fctF (.is (.agg ⟨[.bool y14.1.f_neg, v18]⟩) :: .is (v12) :: .ro (Kd.int .u32) (y26) :: .of (fun H v => ∃ v32, v = .agg ⟨[.bool false, v32]⟩ ∧ Ro (Kd.int .u32) H v32 y26) (by rintro _ _ _ hle ⟨v32, rfl, h33⟩; exact ⟨v32, rfl, h33.mono hle⟩) :: .itm (fun H itq_ => itq_ = some (b3, .cells ⟨[.bool y14.1.f_neg, v18]⟩ 24 (0, 0))) (by rintro _ _ _ hle rfl; exact rfl) :: [])) (fun m_ => some (b20, .cells ⟨[.bool y14.1.f_neg, v18]⟩ 24 (0, 0)) :: some (b4, .cells ⟨[.bool false, .slice none 0 0]⟩ 24 (0, 0)) :: m_ 4 :: some (b2, .cells ⟨[.bool b.f_neg, v1_b]⟩ 24 (0, 0)) :: some (b1, .cells ⟨[.bool a.f_neg, v0_a]⟩ 24 (0, 0)) :: L) (fun i_ => if i_ = 4 then some (b3, .cells ⟨[.bool false, .slice none 0 0]⟩ 24 (0, 0)) else none) mixed (by kernel_rfl) (by kernel_rfl) rfl (fct_mono (by kernel_rfl)) ⟨(fun H' m_ hH hm_ hu_ => depK_nil <| s_d (m_ 0) rfl (d_loado (v := .agg ⟨[.bool y14.1.f_neg, v18]⟩) ty24 rfl .here rfl rfl rfl rfl) (by exact rfl) rfl), (fun H' m_ hH hm_ hu_ => depK_nil <| s_d (m_ 1) rfl (d_move (v := v12) rfl) (by exact rfl) rfl), (by rintro H' m_ hH hm_ hu_ _ rfl; exact depK_nil <| s_k (m_ 2) rfl (o_call co119 (vs := [v12]) rfl (slices_Clone_uint32_uint32.callsR k hy27 (h13.mono (e17.trans hH)))) rfl (by rintro v_ H_ _ ⟨rfl, e_, h_⟩; exact ⟨rfl, e_, h_⟩)), (by rintro H' m_ hH hm_ hu_ v30 (h31 : Ro (Kd.int .u32) H' v30 y26); exact depK_nil <| s_d (m_ 3) rfl (d_build (cs' := [.bool false, v30]) Tryz.underlying24 zr24 rfl (by kernel_rfl) (parts := [(0, .bool false), (1, v30)]) rfl (.cons (place_of rfl sz4 rfl) rfl rfl (.here .done) (.cons (place_of rfl sz22 rfl) h31.cells rfl (.there (.here .done)) .nil))) (by exact ⟨v30, rfl, h31⟩) rfl), (by rintro H' m_ hH hm_ hu_ _ rfl; exact depK_nil <| s_store (some (b3, .cells ⟨[.bool y14.1.f_neg, v18]⟩ 24 (0, 0))) hm_ rfl (o_store (v := .agg ⟨[.bool y14.1.f_neg, v18]⟩) sz24 rfl rfl rfl rfl (one_cons rfl (one_cons (h19.one) one_nil)) (.there (.there .here)) (.here (.here .done))) rfl (by exact ⟨rfl, rfl⟩)), trivial⟩ ?_
    intro H34 e35
    rintro _ _ rfl _ _ rfl v30 _ (h31 : Ro (Kd.int .u32) H34 v30 y26) _ _ ⟨v32, rfl, h33⟩ _ _ ⟨rfl, rfl⟩
    refine w_it (L' := some (b20, .cells ⟨[.bool y14.1.f_neg, v18]⟩ 24 (0, 0)) :: some (b4, .cells ⟨[.bool false, .slice none 0 0]⟩ 24 (0, 0)) :: some (b3, .cells ⟨[.bool y14.1.f_neg, v18]⟩ 24 (0, 0)) :: some (b2, .cells ⟨[.bool b.f_neg, v1_b]⟩ 24 (0, 0)) :: some (b1, .cells ⟨[.bool a.f_neg, v0_a]⟩ 24 (0, 0)) :: L) rfl <| w_a0 rfl (o_store (v := .agg ⟨[.bool false, v32]⟩) sz24 rfl rfl rfl rfl (one_cons rfl (one_cons (h33.one) one_nil)) (.there .here) (.here (.here .done))) ?_
    rintro _ _ _ ⟨rfl, rfl, rfl⟩
    refine w_d rfl (d_assign (v := errV 104 none) rfl) <| w_done ?_
    obtain rfl := Option.some.inj he
    refine w_return fn_124 rs_124 (.box (v := .agg ⟨[.bool y14.1.f_neg, v18]⟩) rfl ty24 rfl rfl (.there (.there .here)) rfl (.box (v := .agg ⟨[.bool false, v32]⟩) rfl ty24 rfl rfl (.there .here) rfl (.tmp (v := errV 104 none) rfl .nil))) <| ⟨⟨[_, _, _, _, _], rfl⟩, hle.trans ((e9.trans e17).trans e35), ⟨v18, v32, rfl, (h19.mono e35), h33⟩⟩
   ·
    refine w_else rfl (Bool.eq_false_iff.2 c25) <| w_skip <| w_seq <| w_region rfl ?_
    obtain ⟨y36, hy37, he⟩ := Option.bind_eq_some_iff.1 he
    refine w_a rfl (o_call co71 (vs := [.int .i64 1]) rfl (wide_Of.calls k hy37)) ?_
    rintro _ H38 _ ⟨rfl, e39, ⟨v40, rfl, h41⟩⟩
    refine w_a rfl (o_alloc zr24 rfl) ?_
    rintro _ _ _ ⟨b42, rfl, rfl, rfl⟩
    refine w_a0 rfl (o_store (v := .agg ⟨[.bool y36.f_neg, v40]⟩) sz24 rfl rfl rfl rfl (one_cons rfl (one_cons (h41.one) one_nil)) .here (.here (.here .done))) ?_
    rintro _ _ _ ⟨rfl, rfl, rfl⟩
    refine w_done <| w_seq <| w_seq <| w_region rfl <| w_d rfl (d_fld (o' := 0) Tryz.underlying24 rfl sz4 rfl rfl rfl) <| w_d rfl (d_loado (v := .bool b.f_neg) ty4 rfl (.there (.there (.there (.there .here)))) rfl rfl rfl rfl) <| w_d rfl (d_not (b := b.f_neg) rfl) <| w_done ?_
    rcases its he with ⟨c43, he⟩ | ⟨c43, he⟩
    ·
     refine w_then rfl c43 <| w_region rfl <| w_d rfl (d_loado (v := .agg ⟨[.bool y36.f_neg, v40]⟩) ty24 rfl .here rfl rfl rfl rfl) ?_
     obtain ⟨y44, hy45, he⟩ := Option.bind_eq_some_iff.1 he
     refine w_a rfl (o_call co121 (vs := [.agg ⟨[.bool y36.f_neg, v40]⟩]) rfl (wide_Int_Neg.calls k (a := y36) hy45 h41)) ?_
     rintro _ H46 _ ⟨rfl, e47, ⟨v48, rfl, h49⟩⟩
     refine w_a0 rfl (o_store (v := .agg ⟨[.bool y44.f_neg, v48]⟩) sz24 rfl rfl rfl rfl (one_cons rfl (one_cons (h49.one) one_nil)) .here (.here (.here .done))) ?_
     rintro _ _ _ ⟨rfl, rfl, rfl⟩
     refine w_done <| w_del (.there (.there (.there (.there (.there .here))))) <| w_sl 3 (.pointer (some ⟨b2, 0, none⟩)) rfl <| w_sl 4 (.pointer (some ⟨b3, 0, none⟩)) rfl <| w_sl 5 (.pointer (some ⟨b4, 0, none⟩)) rfl <| w_sl 6 (errV 104 none) rfl <| w_sl 8 (v12) rfl <| w_sl 9 (.pointer (some ⟨b20, 0, none⟩)) rfl <| w_sl 11 (.pointer (some ⟨b42, 0, none⟩)) rfl <| wide_Int_Div.j1_ok (k := k) (hle.trans (((e9.trans e17).trans e39).trans e47)) he (h1_b.mono (((e9.trans e17).trans e39).trans e47)) (h13.mono ((e17.trans e39).trans e47)) (h19.mono (e39.trans e47)) h49
    ·
     refine w_else rfl (Bool.eq_false_iff.2 c43) <| w_skip <| w_del (.there (.there (.there (.there (.there .here))))) <| w_sl 3 (.pointer (some ⟨b2, 0, none⟩)) rfl <| w_sl 4 (.pointer (some ⟨b3, 0, none⟩)) rfl <| w_sl 5 (.pointer (some ⟨b4, 0, none⟩)) rfl <| w_sl 6 (errV 104 none) rfl <| w_sl 8 (v12) rfl <| w_sl 9 (.pointer (some ⟨b20, 0, none⟩)) rfl <| w_sl 11 (.pointer (some ⟨b42, 0, none⟩)) rfl <| wide_Int_Div.j1_ok (k := k) (hle.trans ((e9.trans e17).trans e39)) he (h1_b.mono ((e9.trans e17).trans e39)) (h13.mono (e17.trans e39)) (h19.mono e39) h41
/-! ### radome/ratio.common -/
noncomputable def ratio_common.C : Code := (Tryz.f122.body).getD .skip
def ratio_common.out (r : wide_Int × (Option Int)) (H : Hp) (v : Value) : Prop := ∃ v0, v = .tuple ⟨[.agg ⟨[.bool r.1.f_neg, v0]⟩, errV 104 r.2]⟩ ∧ Ro (Kd.int .u32) H v0 r.1.f_w
theorem ratio_common.out_mono (r : wide_Int × (Option Int)) {H H' : Hp} {v : Value} (hle : H.le H') (h : ratio_common.out r H v) : ratio_common.out r H' v := by
 obtain ⟨v0, rfl, h0⟩ := h; exact ⟨v0, rfl, h0.mono hle⟩
abbrev ratio_common.R (H0 : Hp) (L : Items) (r : wide_Int × (Option Int)) : Value → Hp → Items → Prop := fun v H' L' => (∃ p, L' = p ++ L) ∧ H0.le H' ∧ ratio_common.out r H' v
structure ratio_common.Hs where
 l0 : Bool → (List Int) → Bool → (List Int) → Bool → (List Int) → (Option Int) → Option (wide_Int × (Option Int))
noncomputable def ratio_common.b0 (k : Nat) (h : ratio_common.Hs)  (a_0 : Bool) (a_1 : List Int) (b_0 : Bool) (b_1 : List Int) (t4_0 : Bool) (t4_1 : List Int) (t5 : Option Int) : Option (wide_Int × (Option Int)) := (wide_Int_Sign.f k (⟨b_0, b_1⟩ : wide_Int)).bind fun y4 => if y4 = 0 then (some ((⟨a_0, a_1⟩ : wide_Int), none)) else ((wide_Int_Div.f k (⟨a_0, a_1⟩ : wide_Int) (⟨b_0, b_1⟩ : wide_Int)).bind fun y9 => if y9.2.2.isSome = true then (some ((⟨false, []⟩ : wide_Int), y9.2.2)) else (h.l0 b_0 b_1 y9.2.1.f_neg y9.2.1.f_w t4_0 t4_1 t5))
noncomputable def ratio_common.hs : Nat → ratio_common.Hs
 | 0 => ⟨fun _ _ _ _ _ _ _ => none⟩
 | k + 1 => ⟨fun x0 x1 x2 x3 x4 x5 x6 => ratio_common.b0 k (ratio_common.hs k) x0 x1 x2 x3 x4 x5 x6⟩
noncomputable def ratio_common.f (k : Nat) (a : wide_Int) (b : wide_Int) : Option (wide_Int × (Option Int)) := (fun h : ratio_common.Hs => h.l0 a.f_neg a.f_w b.f_neg b.f_w false [] none) (ratio_common.hs k)
structure ratio_common.LE (h h' : ratio_common.Hs) : Prop where
 l0 : ∀ y0 y1 y2 y3 y4 y5 y6, LeO (h.l0 y0 y1 y2 y3 y4 y5 y6) (h'.l0 y0 y1 y2 y3 y4 y5 y6)
theorem ratio_common.b0_mono {k : Nat} {h h' : ratio_common.Hs} (hl : ratio_common.LE h h') : ∀ y0 y1 y2 y3 y4 y5 y6, LeO (ratio_common.b0 k h y0 y1 y2 y3 y4 y5 y6) (ratio_common.b0 (k + 1) h' y0 y1 y2 y3 y4 y5 y6) := fun _ _ _ _ _ _ _ => (LeO.bind (wide_Int_Sign.mono k _) fun _ => LeO.ite (LeO.refl _) (LeO.bind (wide_Int_Div.mono k _ _) fun _ => LeO.ite (LeO.refl _) (hl.l0 _ _ _ _ _ _ _)))
theorem ratio_common.hs_mono : ∀ k, ratio_common.LE (ratio_common.hs k) (ratio_common.hs (k + 1))
 | 0 => ⟨fun _ _ _ _ _ _ _ => LeO.none _⟩
 | k + 1 => ⟨ratio_common.b0_mono (k := k) (ratio_common.hs_mono k)⟩
theorem ratio_common.mono : ∀ k y0 y1, LeO (ratio_common.f k y0 y1) (ratio_common.f (k + 1) y0 y1) := fun k _ _ => have hl := ratio_common.hs_mono k; by unfold ratio_common.f; exact (hl.l0 _ _ _ _ _ _ _)
noncomputable def ratio_common.Kl0 : List Item := .code (lopB (blkB (seqL (seqR ratio_common.C)))) :: .inLoop (lopB (blkB (seqL (seqR ratio_common.C)))) :: .inBlock 0 :: .code (seqR (seqR ratio_common.C)) :: []
structure ratio_common.OK (h : ratio_common.Hs) : Prop where
 l0 : ∀ {H0 H : Hp} {L : Items} {r : wide_Int × (Option Int)} {jk_ : Nat → Value} {a_0 : Bool} {a_1 : List Int} {b_0 : Bool} {b_1 : List Int} {t4_0 : Bool} {t4_1 : List Int} {t5 : Option Int} {v_a_1 : Value} {v_b_1 : Value} {v_t4_1 : Value} {b_a : Nat} {b_b : Nat} {b_t4 : Nat} (_ : H0.le H) (_he : h.l0 a_0 a_1 b_0 b_1 t4_0 t4_1 t5 = some r) (_h_a_1 : Ro (Kd.int .u32) H v_a_1 a_1) (_h_b_1 : Ro (Kd.int .u32) H v_b_1 b_1) (_h_t4_1 : Ro (Kd.int .u32) H v_t4_1 t4_1), Wp Tryz.prog 122 26 ratio_common.Kl0 (upd (upd (upd (upd jk_ 2 (.pointer (some ⟨b_a, 0, none⟩))) 3 (.pointer (some ⟨b_b, 0, none⟩))) 4 (.pointer (some ⟨b_t4, 0, none⟩))) 5 (errV 104 t5)) H (some (b_t4, .cells ⟨[.bool t4_0, v_t4_1]⟩ 24 (0, 0)) :: some (b_b, .cells ⟨[.bool b_0, v_b_1]⟩ 24 (0, 0)) :: some (b_a, .cells ⟨[.bool a_0, v_a_1]⟩ 24 (0, 0)) :: L) (ratio_common.R H0 L r)
theorem ratio_common.b0_ok {k : Nat} {h : ratio_common.Hs} (hh : ratio_common.OK h) {H0 H : Hp} {L : Items} {r : wide_Int × (Option Int)} {jk_ : Nat → Value} {a_0 : Bool} {a_1 : List Int} {b_0 : Bool} {b_1 : List Int} {t4_0 : Bool} {t4_1 : List Int} {t5 : Option Int} {v_a_1 : Value} {v_b_1 : Value} {v_t4_1 : Value} {b_a : Nat} {b_b : Nat} {b_t4 : Nat} (hle : H0.le H) (he : ratio_common.b0 k h a_0 a_1 b_0 b_1 t4_0 t4_1 t5 = some r) (h_a_1 : Ro (Kd.int .u32) H v_a_1 a_1) (h_b_1 : Ro (Kd.int .u32) H v_b_1 b_1) (h_t4_1 : Ro (Kd.int .u32) H v_t4_1 t4_1) : Wp Tryz.prog 122 26 ratio_common.Kl0 (upd (upd (upd (upd jk_ 2 (.pointer (some ⟨b_a, 0, none⟩))) 3 (.pointer (some ⟨b_b, 0, none⟩))) 4 (.pointer (some ⟨b_t4, 0, none⟩))) 5 (errV 104 t5)) H (some (b_t4, .cells ⟨[.bool t4_0, v_t4_1]⟩ 24 (0, 0)) :: some (b_b, .cells ⟨[.bool b_0, v_b_1]⟩ 24 (0, 0)) :: some (b_a, .cells ⟨[.bool a_0, v_a_1]⟩ 24 (0, 0)) :: L) (ratio_common.R H0 L r) := by
 unfold ratio_common.b0 at he
 unfold ratio_common.Kl0
 refine w_seq <| w_seq <| w_region rfl <| w_d rfl (d_loado (v := .agg ⟨[.bool b_0, v_b_1]⟩) ty24 rfl (.there .here) rfl rfl rfl rfl) ?_
 obtain ⟨y4, hy5, he⟩ := Option.bind_eq_some_iff.1 he
 refine w_d rfl (call_d (o_call co84 (vs := [.agg ⟨[.bool b_0, v_b_1]⟩]) rfl (wide_Int_Sign.calls k (a := ⟨b_0, b_1⟩) hy5 h_b_1))) <| w_d rfl (d_neq rfl rfl) <| w_done ?_
 rcases its he with ⟨c8, he⟩ | ⟨c8, he⟩
 ·
  refine w_else rfl (nd_t c8) <| w_exit rfl <| w_seq <| w_region rfl <| w_d rfl (d_loado (v := .agg ⟨[.bool a_0, v_a_1]⟩) ty24 rfl (.there (.there .here)) rfl rfl rfl rfl) <| w_a0 rfl (o_store (v := .agg ⟨[.bool a_0, v_a_1]⟩) sz24 rfl rfl rfl rfl (one_cons rfl (one_cons (h_a_1.one) one_nil)) .here (.here (.here .done))) ?_
  rintro _ _ _ ⟨rfl, rfl, rfl⟩
  refine w_d rfl (d_assign (v := errV 104 none) rfl) <| w_done ?_
  obtain rfl := Option.some.inj he
  refine w_return fn_122 rs_122 (.box (v := .agg ⟨[.bool a_0, v_a_1]⟩) rfl ty24 rfl rfl .here rfl (.tmp (v := errV 104 none) rfl .nil)) <| ⟨⟨[_, _, _], rfl⟩, hle, ⟨v_a_1, rfl, h_a_1⟩⟩
 ·
  refine w_then rfl (nd_f c8) <| w_skip <| w_block <| w_seq <| w_region rfl <| w_d rfl (d_loado (v := .agg ⟨[.bool a_0, v_a_1]⟩) ty24 rfl (.there (.there .here)) rfl rfl rfl rfl) <| w_d rfl (d_loado (v := .agg ⟨[.bool b_0, v_b_1]⟩) ty24 rfl (.there .here) rfl rfl rfl rfl) ?_
  obtain ⟨y9, hy10, he⟩ := Option.bind_eq_some_iff.1 he
  refine w_a rfl (o_call co124 (vs := [.agg ⟨[.bool a_0, v_a_1]⟩, .agg ⟨[.bool b_0, v_b_1]⟩]) rfl (wide_Int_Div.calls k (a := ⟨a_0, a_1⟩) (b := ⟨b_0, b_1⟩) hy10 h_a_1 h_b_1)) ?_
  rintro _ H11 _ ⟨rfl, e12, ⟨v13, v15, rfl, h14, h16⟩⟩
  refine w_d rfl (d_move (v := .tuple ⟨[.agg ⟨[.bool y9.1.f_neg, v13]⟩, .agg ⟨[.bool y9.2.1.f_neg, v15]⟩, errV 104 y9.2.2]⟩) rfl) <| w_d rfl (d_ext (vs := [.agg ⟨[.bool y9.1.f_neg, v13]⟩, .agg ⟨[.bool y9.2.1.f_neg, v15]⟩, errV 104 y9.2.2]) rfl rfl) <| w_d rfl (d_ext (vs := [.agg ⟨[.bool y9.1.f_neg, v13]⟩, .agg ⟨[.bool y9.2.1.f_neg, v15]⟩, errV 104 y9.2.2]) rfl rfl) <| w_d rfl (d_ext (vs := [.agg ⟨[.bool y9.1.f_neg, v13]⟩, .agg ⟨[.bool y9.2.1.f_neg, v15]⟩, errV 104 y9.2.2]) rfl rfl) <| w_a rfl (o_alloc zr24 rfl) ?_
  rintro _ _ _ ⟨b17, rfl, rfl, rfl⟩
  refine w_a rfl (o_alloc zr24 rfl) ?_
  rintro _ _ _ ⟨b18, rfl, rfl, rfl⟩
  refine w_a0 rfl (o_store (v := .agg ⟨[.bool y9.1.f_neg, v13]⟩) sz24 rfl rfl rfl rfl (one_cons rfl (one_cons (h14.one) one_nil)) (.there .here) (.here (.here .done))) ?_
  rintro _ _ _ ⟨rfl, rfl, rfl⟩
  refine w_a0 rfl (o_store (v := .agg ⟨[.bool y9.2.1.f_neg, v15]⟩) sz24 rfl rfl rfl rfl (one_cons rfl (one_cons (h16.one) one_nil)) .here (.here (.here .done))) ?_
  rintro _ _ _ ⟨rfl, rfl, rfl⟩
  refine w_d rfl (d_assign (v := errV 104 y9.2.2) rfl) <| w_done <| w_seq <| w_seq <| w_region rfl <| w_d rfl (d_move (v := errV 104 y9.2.2) rfl) <| w_d rfl (d_nenil (e := y9.2.2) Tryz.underlying30 rfl) <| w_done ?_
  rcases its he with ⟨c19, he⟩ | ⟨c19, he⟩
  ·
   refine w_then rfl c19 <| w_seq <| w_region rfl <| w_d rfl (d_build (cs' := [.bool false, .slice none 0 0]) Tryz.underlying24 zr24 rfl (by kernel_rfl) (parts := []) rfl .nil) <| w_d rfl (d_move (v := errV 104 y9.2.2) rfl) <| w_a0 rfl (o_store (v := .agg ⟨[.bool false, .slice none 0 0]⟩) sz24 rfl rfl rfl rfl (one_cons rfl (one_cons rfl one_nil)) (.there (.there .here)) (.here (.here .done))) ?_
   rintro _ _ _ ⟨rfl, rfl, rfl⟩
   refine w_d rfl (d_assign (v := errV 104 y9.2.2) rfl) <| w_done ?_
   obtain rfl := Option.some.inj he
   refine w_return fn_122 rs_122 (.box (v := .agg ⟨[.bool false, .slice none 0 0]⟩) rfl ty24 rfl rfl (.there (.there .here)) rfl (.tmp (v := errV 104 y9.2.2) rfl .nil)) <| ⟨⟨[_, _, _, _, _], rfl⟩, hle.trans e12, ⟨.slice none 0 0, rfl, (ro_nil _ _)⟩⟩
  ·
   refine w_else rfl (Bool.eq_false_iff.2 c19) <| w_skip <| w_drawn (p := 3) (tl := [3]) [[], [], [(0, some 23)]] [some 23, some 24, none] (fctF (.is (.agg ⟨[.bool b_0, v_b_1]⟩) :: .is (.agg ⟨[.bool y9.2.1.f_neg, v15]⟩) :: .itm (fun H itq_ => itq_ = some (b_a, .cells ⟨[.bool b_0, v_b_1]⟩ 24 (0, 0))) (by rintro _ _ _ hle rfl; exact rfl) :: [])) (fun m_ => some (b18, .cells ⟨[.bool y9.2.1.f_neg, v15]⟩ 24 (0, 0)) :: some (b17, .cells ⟨[.bool y9.1.f_neg, v13]⟩ 24 (0, 0)) :: some (b_t4, .cells ⟨[.bool t4_0, v_t4_1]⟩ 24 (0, 0)) :: some (b_b, .cells ⟨[.bool b_0, v_b_1]⟩ 24 (0, 0)) :: m_ 2 :: L) (fun i_ => if i_ = 2 then some (b_a, .cells ⟨[.bool a_0, v_a_1]⟩ 24 (0, 0)) else none) mixed (by kernel_rfl) (by kernel_rfl) rfl (fct_mono (by kernel_rfl)) ⟨(fun H' m_ hH hm_ hu_ => depK_nil <| s_d (m_ 0) rfl (d_loado (v := .agg ⟨[.bool b_0, v_b_1]⟩) ty24 rfl (.there (.there (.there .here))) rfl rfl rfl rfl) (by exact rfl) rfl), (fun H' m_ hH hm_ hu_ => depK_nil <| s_d (m_ 1) rfl (d_loado (v := .agg ⟨[.bool y9.2.1.f_neg, v15]⟩) ty24 rfl .here rfl rfl rfl rfl) (by exact rfl) rfl), (by rintro H' m_ hH hm_ hu_ _ rfl; exact depK_nil <| s_store (some (b_a, .cells ⟨[.bool b_0, v_b_1]⟩ 24 (0, 0))) hm_ rfl (o_store (v := .agg ⟨[.bool b_0, v_b_1]⟩) sz24 rfl rfl rfl rfl (one_cons rfl (one_cons (h_b_1.one) one_nil)) (.there (.there (.there (.there .here)))) (.here (.here .done))) rfl (by exact ⟨rfl, rfl⟩)), trivial⟩ ?_
   intro H20 e21
   rintro _ _ rfl _ _ rfl _ _ ⟨rfl, rfl⟩
   refine w_it (L' := some (b18, .cells ⟨[.bool y9.2.1.f_neg, v15]⟩ 24 (0, 0)) :: some (b17, .cells ⟨[.bool y9.1.f_neg, v13]⟩ 24 (0, 0)) :: some (b_t4, .cells ⟨[.bool t4_0, v_t4_1]⟩ 24 (0, 0)) :: some (b_b, .cells ⟨[.bool b_0, v_b_1]⟩ 24 (0, 0)) :: some (b_a, .cells ⟨[.bool b_0, v_b_1]⟩ 24 (0, 0)) :: L) rfl <| w_a0 rfl (o_store (v := .agg ⟨[.bool y9.2.1.f_neg, v15]⟩) sz24 rfl rfl rfl rfl (one_cons rfl (one_cons (h16.one) one_nil)) (.there (.there (.there .here))) (.here (.here .done))) ?_
   rintro _ _ _ ⟨rfl, rfl, rfl⟩
   refine w_done <| w_inBlock <| w_inLoop <| w_del (.there .here) <| w_del .here <| w_sl 2 (.pointer (some ⟨b_a, 0, none⟩)) rfl <| w_sl 3 (.pointer (some ⟨b_b, 0, none⟩)) rfl <| w_sl 4 (.pointer (some ⟨b_t4, 0, none⟩)) rfl <| w_sl 5 (errV 104 t5) rfl <| hh.l0 (hle.trans (e12.trans e21)) he (h_b_1.mono (e12.trans e21)) (h16.mono e21) (h_t4_1.mono (e12.trans e21))
theorem ratio_common.ok : ∀ k, ratio_common.OK (ratio_common.hs k)
 | 0 => ⟨(by intros; exact nomatch (show none = some _ from by assumption))⟩
 | k + 1 => ⟨ratio_common.b0_ok (k := k) (ratio_common.ok k)⟩
theorem ratio_common.calls (k : Nat) {H : Hp} {L : Items} {a : wide_Int} {b : wide_Int} {v0_a : Value} {v1_b : Value} {r : wide_Int × (Option Int)} (he : ratio_common.f k a b = some r) (h0_a : Ro (Kd.int .u32) H v0_a a.f_w) (h1_b : Ro (Kd.int .u32) H v1_b b.f_w) : Ct Tryz.prog 122 ⟨[.agg ⟨[.bool a.f_neg, v0_a]⟩, .agg ⟨[.bool b.f_neg, v1_b]⟩]⟩ H L (fun v H' L' => L = L' ∧ H.le H' ∧ ratio_common.out r H' v) := by
 refine ct_out (O := ratio_common.out r) ?_
 have hle : H.le H := .refl _
 have hh := ratio_common.ok k
 unfold ratio_common.f at he
 refine ct_enter (args := [.agg ⟨[.bool a.f_neg, v0_a]⟩, .agg ⟨[.bool b.f_neg, v1_b]⟩]) fn_122 rfl nt_122 rfl <| w_seq <| w_region rfl <| w_a rfl (o_box (v := .agg ⟨[.bool a.f_neg, v0_a]⟩) rfl rfl) ?_
 rintro _ _ _ ⟨b1, rfl, rfl, rfl⟩
 refine w_a rfl (o_box (v := .agg ⟨[.bool b.f_neg, v1_b]⟩) rfl rfl) ?_
 rintro _ _ _ ⟨b2, rfl, rfl, rfl⟩
 refine w_a rfl (o_alloc zr24 rfl) ?_
 rintro _ _ _ ⟨b3, rfl, rfl, rfl⟩
 refine w_d rfl (d_assign (v := errV 104 none) rfl) <| w_done <| w_seq <| w_block <| w_loop <| w_sl 2 (.pointer (some ⟨b1, 0, none⟩)) rfl <| w_sl 3 (.pointer (some ⟨b2, 0, none⟩)) rfl <| w_sl 4 (.pointer (some ⟨b3, 0, none⟩)) rfl <| w_sl 5 (errV 104 none) rfl <| hh.l0 hle he h0_a h1_b (ro_nil _ _)
/-! ### radome/ratio.Of -/
noncomputable def ratio_Of.C : Code := (Tryz.f73.body).getD .skip
def ratio_Of.out (r : ratio_Ratio × (Option Int)) (H : Hp) (v : Value) : Prop := ∃ v0, ∃ v1, v = .tuple ⟨[.agg ⟨[.bool r.1.f_n.f_neg, v0, .bool r.1.f_d.f_neg, v1]⟩, errV 104 r.2]⟩ ∧ Ro (Kd.int .u32) H v0 r.1.f_n.f_w ∧ Ro (Kd.int .u32) H v1 r.1.f_d.f_w
theorem ratio_Of.out_mono (r : ratio_Ratio × (Option Int)) {H H' : Hp} {v : Value} (hle : H.le H') (h : ratio_Of.out r H v) : ratio_Of.out r H' v := by
 obtain ⟨v0, v1, rfl, h0, h1⟩ := h; exact ⟨v0, v1, rfl, h0.mono hle, h1.mono hle⟩
abbrev ratio_Of.R (H0 : Hp) (L : Items) (r : ratio_Ratio × (Option Int)) : Value → Hp → Items → Prop := fun v H' L' => (∃ p, L' = p ++ L) ∧ H0.le H' ∧ ratio_Of.out r H' v
noncomputable def ratio_Of.j1 (k : Nat)  (n_0 : Bool) (n_1 : List Int) (d_0 : Bool) (d_1 : List Int) : Option (ratio_Ratio × (Option Int)) := (ratio_abs.f k (⟨n_0, n_1⟩ : wide_Int)).bind fun y28 => (ratio_common.f k y28 (⟨d_0, d_1⟩ : wide_Int)).bind fun y34 => if y34.2.isSome = true then (some ((⟨(⟨false, []⟩ : wide_Int), (⟨false, []⟩ : wide_Int)⟩ : ratio_Ratio), y34.2)) else ((wide_Int_Div.f k (⟨n_0, n_1⟩ : wide_Int) y34.1).bind fun y52 => if y52.2.2.isSome = true then (some ((⟨(⟨false, []⟩ : wide_Int), (⟨false, []⟩ : wide_Int)⟩ : ratio_Ratio), y52.2.2)) else ((wide_Int_Div.f k (⟨d_0, d_1⟩ : wide_Int) y34.1).bind fun y63 => if y63.2.2.isSome = true then (some ((⟨(⟨false, []⟩ : wide_Int), (⟨false, []⟩ : wide_Int)⟩ : ratio_Ratio), y63.2.2)) else (some ((⟨y52.1, y63.1⟩ : ratio_Ratio), none))))
noncomputable def ratio_Of.f (k : Nat) (n : wide_Int) (d : wide_Int) : Option (ratio_Ratio × (Option Int)) := (wide_Int_Sign.f k d).bind fun y4 => if y4 = 0 then (some ((⟨(⟨false, []⟩ : wide_Int), (⟨false, []⟩ : wide_Int)⟩ : ratio_Ratio), some 11)) else ((wide_Int_Sign.f k d).bind fun y9 => if y9 < 0 then ((wide_Int_Neg.f k n).bind fun y14 => (wide_Int_Neg.f k d).bind fun y22 => ratio_Of.j1 k y14.f_neg y14.f_w y22.f_neg y22.f_w) else (ratio_Of.j1 k n.f_neg n.f_w d.f_neg d.f_w))
theorem ratio_Of.j1_mono {k : Nat} : ∀ y0 y1 y2 y3, LeO (ratio_Of.j1 k y0 y1 y2 y3) (ratio_Of.j1 (k + 1) y0 y1 y2 y3) := fun _ _ _ _ => (LeO.bind (ratio_abs.mono k _) fun _ => LeO.bind (ratio_common.mono k _ _) fun _ => LeO.ite (LeO.refl _) (LeO.bind (wide_Int_Div.mono k _ _) fun _ => LeO.ite (LeO.refl _) (LeO.bind (wide_Int_Div.mono k _ _) fun _ => LeO.ite (LeO.refl _) (LeO.refl _))))
theorem ratio_Of.mono : ∀ k y0 y1, LeO (ratio_Of.f k y0 y1) (ratio_Of.f (k + 1) y0 y1) := fun k _ _ => by unfold ratio_Of.f; exact (LeO.bind (wide_Int_Sign.mono k _) fun _ => LeO.ite (LeO.refl _) (LeO.bind (wide_Int_Sign.mono k _) fun _ => LeO.ite (LeO.bind (wide_Int_Neg.mono k _) fun _ => LeO.bind (wide_Int_Neg.mono k _) fun _ => ratio_Of.j1_mono (k := k)  _ _ _ _) (ratio_Of.j1_mono (k := k)  _ _ _ _)))
noncomputable def ratio_Of.Kj1 : List Item := .code (seqR (seqR (seqR ratio_Of.C))) :: []
theorem ratio_Of.j1_ok {k : Nat} {H0 H : Hp} {L : Items} {r : ratio_Ratio × (Option Int)} {jk_ : Nat → Value} {n_0 : Bool} {n_1 : List Int} {d_0 : Bool} {d_1 : List Int} {v_n_1 : Value} {v_d_1 : Value} {b_n : Nat} {b_d : Nat} {b_t4 : Nat} (hle : H0.le H) (he : ratio_Of.j1 k n_0 n_1 d_0 d_1 = some r) (h_n_1 : Ro (Kd.int .u32) H v_n_1 n_1) (h_d_1 : Ro (Kd.int .u32) H v_d_1 d_1) : Wp Tryz.prog 73 60 ratio_Of.Kj1 (upd (upd (upd (upd jk_ 2 (.pointer (some ⟨b_n, 0, none⟩))) 3 (.pointer (some ⟨b_d, 0, none⟩))) 4 (.pointer (some ⟨b_t4, 0, none⟩))) 5 (errV 104 none)) H (some (b_t4, .cells ⟨[.bool false, .slice none 0 0, .bool false, .slice none 0 0]⟩ 26 (0, 0)) :: some (b_d, .cells ⟨[.bool d_0, v_d_1]⟩ 24 (0, 0)) :: some (b_n, .cells ⟨[.bool n_0, v_n_1]⟩ 24 (0, 0)) :: L) (ratio_Of.R H0 L r) := by
 unfold ratio_Of.j1 at he
 unfold ratio_Of.Kj1
 refine w_seq ?_
 obtain ⟨y28, hy29, he⟩ := Option.bind_eq_some_iff.1 he
 obtain ⟨y34, hy35, he⟩ := Option.bind_eq_some_iff.1 he
 refine w_none (?_)
 refine w_drawn (p := 9) (tl := [9]) [[], [(0, some 25)], [], [(1, some 26), (2, some 27)], [(3, some 28)], [(4, some 24)], [(4, some 24)], [], [(5, some 29), (7, some 6)]] [some 25, some 26, some 27, some 28, some 24, some 29, some 30, some 6, none] (fctF (.is (.agg ⟨[.bool n_0, v_n_1]⟩) :: .of (ratio_abs.out y28) (ratio_abs.out_mono _) :: .is (.agg ⟨[.bool d_0, v_d_1]⟩) :: .of (ratio_common.out y34) (ratio_common.out_mono _) :: .of (fun H v => ∃ v40, v = .tuple ⟨[.agg ⟨[.bool y34.1.f_neg, v40]⟩, errV 104 y34.2]⟩ ∧ Ro (Kd.int .u32) H v40 y34.1.f_w) (by rintro _ _ _ hle ⟨v40, rfl, h41⟩; exact ⟨v40, rfl, h41.mono hle⟩) :: .of (fun H v => ∃ v42, v = .agg ⟨[.bool y34.1.f_neg, v42]⟩ ∧ Ro (Kd.int .u32) H v42 y34.1.f_w) (by rintro _ _ _ hle ⟨v42, rfl, h43⟩; exact ⟨v42, rfl, h43.mono hle⟩) :: .is (errV 104 y34.2) :: .box 24 [.bool false, .slice none 0 0] :: .st 7 (fun H bq_ itq_ => ∃ v45, itq_ = some (bq_, .cells ⟨[.bool y34.1.f_neg, v45]⟩ 24 (0, 0)) ∧ Ro (Kd.int .u32) H v45 y34.1.f_w) (by rintro _ _ _ _ hle ⟨v45, rfl, h46⟩; exact ⟨v45, rfl, h46.mono hle⟩) :: [])) (fun m_ => pk (m_ 8) (m_ 7) :: some (b_t4, .cells ⟨[.bool false, .slice none 0 0, .bool false, .slice none 0 0]⟩ 26 (0, 0)) :: some (b_d, .cells ⟨[.bool d_0, v_d_1]⟩ 24 (0, 0)) :: some (b_n, .cells ⟨[.bool n_0, v_n_1]⟩ 24 (0, 0)) :: L) (fun _ => none) mixed (by kernel_rfl) (by kernel_rfl) rfl (fct_mono (by kernel_rfl)) ⟨(fun H' m_ hH hm_ hu_ => depK_nil <| s_d (m_ 0) rfl (d_loado (v := .agg ⟨[.bool n_0, v_n_1]⟩) ty24 rfl (.there (.there (.there .here))) rfl rfl rfl rfl) (by exact rfl) rfl), (by rintro H' m_ hH hm_ hu_ _ rfl; exact depK_nil <| s_k (m_ 1) rfl (o_call co123 (vs := [.agg ⟨[.bool n_0, v_n_1]⟩]) rfl (ratio_abs.calls k (a := ⟨n_0, n_1⟩) hy29 (h_n_1.mono hH))) rfl (by rintro v_ H_ _ ⟨rfl, e_, h_⟩; exact ⟨rfl, e_, h_⟩)), (fun H' m_ hH hm_ hu_ => depK_nil <| s_d (m_ 2) rfl (d_loado (v := .agg ⟨[.bool d_0, v_d_1]⟩) ty24 rfl (.there (.there .here)) rfl rfl rfl rfl) (by exact rfl) rfl), (by rintro H' m_ hH hm_ hu_ _ ⟨v32, rfl, h33⟩ _ rfl; exact depK_nil <| s_k (m_ 3) rfl (o_call co122 (vs := [.agg ⟨[.bool y28.f_neg, v32]⟩, .agg ⟨[.bool d_0, v_d_1]⟩]) rfl (ratio_common.calls k (a := y28) (b := ⟨d_0, d_1⟩) hy35 h33 (h_d_1.mono hH))) rfl (by rintro v_ H_ _ ⟨rfl, e_, h_⟩; exact ⟨rfl, e_, h_⟩)), (by rintro H' m_ hH hm_ hu_ _ ⟨v38, rfl, h39⟩; exact depK_nil <| s_d (m_ 4) rfl (d_move (v := .tuple ⟨[.agg ⟨[.bool y34.1.f_neg, v38]⟩, errV 104 y34.2]⟩) rfl) (by exact ⟨v38, rfl, h39⟩) rfl), (by rintro H' m_ hH hm_ hu_ _ ⟨v40, rfl, h41⟩; exact depK_nil <| s_d (m_ 5) rfl (d_ext (vs := [.agg ⟨[.bool y34.1.f_neg, v40]⟩, errV 104 y34.2]) rfl rfl) (by exact ⟨v40, rfl, h41⟩) rfl), (by rintro H' m_ hH hm_ hu_ _ ⟨v40, rfl, h41⟩; exact depK_nil <| s_d (m_ 6) rfl (d_ext (vs := [.agg ⟨[.bool y34.1.f_neg, v40]⟩, errV 104 y34.2]) rfl rfl) (by exact rfl) rfl), (fun H' m_ hH hm_ hu_ => depK_nil <| s_box hm_ rfl rfl (o_alloc zr24 rfl) rfl (fun _ => (pk_upd (hu_ 8 (by kernel_rfl)))) (by exact fun b_ => ⟨b_, rfl, rfl⟩)), (by rintro H' m_ hH hm_ hu_ _ ⟨v42, rfl, h43⟩ _ ⟨b44, rfl, hb44_⟩; exact depK_nil <| s_store2 (Λ' := fun z_ => z_ :: some (b_t4, .cells ⟨[.bool false, .slice none 0 0, .bool false, .slice none 0 0]⟩ 26 (0, 0)) :: some (b_d, .cells ⟨[.bool d_0, v_d_1]⟩ 24 (0, 0)) :: some (b_n, .cells ⟨[.bool n_0, v_n_1]⟩ 24 (0, 0)) :: L) (some (b44, .cells ⟨[.bool y34.1.f_neg, v42]⟩ 24 (0, 0))) hm_ rfl hb44_ rfl (o_store (v := .agg ⟨[.bool y34.1.f_neg, v42]⟩) sz24 rfl rfl rfl rfl (one_cons rfl (one_cons (h43.one) one_nil)) .here (.here (.here .done))) rfl rfl (by exact ⟨rfl, v42, congrArg (fun b_ => (some (b_, Obj.cells ⟨[.bool y34.1.f_neg, v42]⟩ 24 (0, 0)) : Item')) (bof_eq hb44_).symm, h43⟩)), trivial⟩ ?_
 intro H49 e50
 rintro _ _ rfl _ _ ⟨v32, rfl, h33⟩ _ _ rfl _ _ ⟨v38, rfl, h39⟩ _ _ ⟨v40, rfl, h41⟩ _ _ ⟨v42, rfl, h43⟩ _ _ rfl _ _ ⟨b44, rfl, rfl⟩ _ i47 ⟨rfl, v45, h48, h46⟩
 replace h48 : i47 = some (b44, .cells ⟨[.bool y34.1.f_neg, v45]⟩ 24 (0, 0)) := h48
 subst h48
 refine w_it (L' := some (b44, .cells ⟨[.bool y34.1.f_neg, v45]⟩ 24 (0, 0)) :: some (b_t4, .cells ⟨[.bool false, .slice none 0 0, .bool false, .slice none 0 0]⟩ 26 (0, 0)) :: some (b_d, .cells ⟨[.bool d_0, v_d_1]⟩ 24 (0, 0)) :: some (b_n, .cells ⟨[.bool n_0, v_n_1]⟩ 24 (0, 0)) :: L) rfl <| w_d rfl (d_assign (v := errV 104 y34.2) rfl) <| w_done <| w_seq <| w_seq <| w_region rfl <| w_d rfl (d_move (v := errV 104 y34.2) rfl) <| w_d rfl (d_nenil (e := y34.2) Tryz.underlying30 rfl) <| w_done ?_
 rcases its he with ⟨c51, he⟩ | ⟨c51, he⟩
 ·
  refine w_then rfl c51 <| w_seq <| w_region rfl <| w_d rfl (d_build (cs' := [.bool false, .slice none 0 0, .bool false, .slice none 0 0]) Tryz.underlying26 zr26 rfl (by kernel_rfl) (parts := []) rfl .nil) <| w_d rfl (d_move (v := errV 104 y34.2) rfl) <| w_a0 rfl (o_store (v := .agg ⟨[.bool false, .slice none 0 0, .bool false, .slice none 0 0]⟩) sz26 rfl rfl rfl rfl (one_cons rfl (one_cons rfl (one_cons rfl (one_cons rfl one_nil)))) (.there .here) (.here (.here (.here (.here .done))))) ?_
  rintro _ _ _ ⟨rfl, rfl, rfl⟩
  refine w_d rfl (d_assign (v := errV 104 y34.2) rfl) <| w_done ?_
  obtain rfl := Option.some.inj he
  refine w_return fn_73 rs_73 (.box (v := .agg ⟨[.bool false, .slice none 0 0, .bool false, .slice none 0 0]⟩) rfl ty26 rfl rfl (.there .here) rfl (.tmp (v := errV 104 y34.2) rfl .nil)) <| ⟨⟨[_, _, _, _], rfl⟩, hle.trans e50, ⟨.slice none 0 0, .slice none 0 0, rfl, (ro_nil _ _), (ro_nil _ _)⟩⟩
 ·
  refine w_else rfl (Bool.eq_false_iff.2 c51) <| w_skip <| w_seq <| w_region rfl <| w_d rfl (d_loado (v := .agg ⟨[.bool n_0, v_n_1]⟩) ty24 rfl (.there (.there (.there .here))) rfl rfl rfl rfl) <| w_d rfl (d_loado (v := .agg ⟨[.bool y34.1.f_neg, v45]⟩) ty24 rfl .here rfl rfl rfl rfl) ?_
  obtain ⟨y52, hy53, he⟩ := Option.bind_eq_some_iff.1 he
  refine w_a rfl (o_call co124 (vs := [.agg ⟨[.bool n_0, v_n_1]⟩, .agg ⟨[.bool y34.1.f_neg, v45]⟩]) rfl (wide_Int_Div.calls k (a := ⟨n_0, n_1⟩) (b := y34.1) hy53 (h_n_1.mono e50) h46)) ?_
  rintro _ H54 _ ⟨rfl, e55, ⟨v56, v58, rfl, h57, h59⟩⟩
  refine w_d rfl (d_move (v := .tuple ⟨[.agg ⟨[.bool y52.1.f_neg, v56]⟩, .agg ⟨[.bool y52.2.1.f_neg, v58]⟩, errV 104 y52.2.2]⟩) rfl) <| w_d rfl (d_ext (vs := [.agg ⟨[.bool y52.1.f_neg, v56]⟩, .agg ⟨[.bool y52.2.1.f_neg, v58]⟩, errV 104 y52.2.2]) rfl rfl) <| w_d rfl (d_ext (vs := [.agg ⟨[.bool y52.1.f_neg, v56]⟩, .agg ⟨[.bool y52.2.1.f_neg, v58]⟩, errV 104 y52.2.2]) rfl rfl) <| w_d rfl (d_ext (vs := [.agg ⟨[.bool y52.1.f_neg, v56]⟩, .agg ⟨[.bool y52.2.1.f_neg, v58]⟩, errV 104 y52.2.2]) rfl rfl) <| w_a rfl (o_alloc zr24 rfl) ?_
  rintro _ _ _ ⟨b60, rfl, rfl, rfl⟩
  refine w_a rfl (o_alloc zr24 rfl) ?_
  rintro _ _ _ ⟨b61, rfl, rfl, rfl⟩
  refine w_a0 rfl (o_store (v := .agg ⟨[.bool y52.1.f_neg, v56]⟩) sz24 rfl rfl rfl rfl (one_cons rfl (one_cons (h57.one) one_nil)) (.there .here) (.here (.here .done))) ?_
  rintro _ _ _ ⟨rfl, rfl, rfl⟩
  refine w_a0 rfl (o_store (v := .agg ⟨[.bool y52.2.1.f_neg, v58]⟩) sz24 rfl rfl rfl rfl (one_cons rfl (one_cons (h59.one) one_nil)) .here (.here (.here .done))) ?_
  rintro _ _ _ ⟨rfl, rfl, rfl⟩
  refine w_d rfl (d_assign (v := errV 104 y52.2.2) rfl) <| w_done <| w_seq <| w_seq <| w_region rfl <| w_d rfl (d_move (v := errV 104 y52.2.2) rfl) <| w_d rfl (d_nenil (e := y52.2.2) Tryz.underlying30 rfl) <| w_done ?_
  rcases its he with ⟨c62, he⟩ | ⟨c62, he⟩
  ·
   refine w_then rfl c62 <| w_seq <| w_region rfl <| w_d rfl (d_build (cs' := [.bool false, .slice none 0 0, .bool false, .slice none 0 0]) Tryz.underlying26 zr26 rfl (by kernel_rfl) (parts := []) rfl .nil) <| w_d rfl (d_move (v := errV 104 y52.2.2) rfl) <| w_a0 rfl (o_store (v := .agg ⟨[.bool false, .slice none 0 0, .bool false, .slice none 0 0]⟩) sz26 rfl rfl rfl rfl (one_cons rfl (one_cons rfl (one_cons rfl (one_cons rfl one_nil)))) (.there (.there (.there .here))) (.here (.here (.here (.here .done))))) ?_
   rintro _ _ _ ⟨rfl, rfl, rfl⟩
   refine w_d rfl (d_assign (v := errV 104 y52.2.2) rfl) <| w_done ?_
   obtain rfl := Option.some.inj he
   refine w_return fn_73 rs_73 (.box (v := .agg ⟨[.bool false, .slice none 0 0, .bool false, .slice none 0 0]⟩) rfl ty26 rfl rfl (.there (.there (.there .here))) rfl (.tmp (v := errV 104 y52.2.2) rfl .nil)) <| ⟨⟨[_, _, _, _, _, _], rfl⟩, hle.trans (e50.trans e55), ⟨.slice none 0 0, .slice none 0 0, rfl, (ro_nil _ _), (ro_nil _ _)⟩⟩
  ·
   refine w_else rfl (Bool.eq_false_iff.2 c62) <| w_skip <| w_seq <| w_region rfl <| w_d rfl (d_loado (v := .agg ⟨[.bool d_0, v_d_1]⟩) ty24 rfl (.there (.there (.there (.there .here)))) rfl rfl rfl rfl) <| w_d rfl (d_loado (v := .agg ⟨[.bool y34.1.f_neg, v45]⟩) ty24 rfl (.there (.there .here)) rfl rfl rfl rfl) ?_
   obtain ⟨y63, hy64, he⟩ := Option.bind_eq_some_iff.1 he
   refine w_a rfl (o_call co124 (vs := [.agg ⟨[.bool d_0, v_d_1]⟩, .agg ⟨[.bool y34.1.f_neg, v45]⟩]) rfl (wide_Int_Div.calls k (a := ⟨d_0, d_1⟩) (b := y34.1) hy64 (h_d_1.mono (e50.trans e55)) (h46.mono e55))) ?_
   rintro _ H65 _ ⟨rfl, e66, ⟨v67, v69, rfl, h68, h70⟩⟩
   refine w_d rfl (d_move (v := .tuple ⟨[.agg ⟨[.bool y63.1.f_neg, v67]⟩, .agg ⟨[.bool y63.2.1.f_neg, v69]⟩, errV 104 y63.2.2]⟩) rfl) <| w_d rfl (d_ext (vs := [.agg ⟨[.bool y63.1.f_neg, v67]⟩, .agg ⟨[.bool y63.2.1.f_neg, v69]⟩, errV 104 y63.2.2]) rfl rfl) <| w_d rfl (d_ext (vs := [.agg ⟨[.bool y63.1.f_neg, v67]⟩, .agg ⟨[.bool y63.2.1.f_neg, v69]⟩, errV 104 y63.2.2]) rfl rfl) <| w_d rfl (d_ext (vs := [.agg ⟨[.bool y63.1.f_neg, v67]⟩, .agg ⟨[.bool y63.2.1.f_neg, v69]⟩, errV 104 y63.2.2]) rfl rfl) <| w_a rfl (o_alloc zr24 rfl) ?_
   rintro _ _ _ ⟨b71, rfl, rfl, rfl⟩
   refine w_a rfl (o_alloc zr24 rfl) ?_
   rintro _ _ _ ⟨b72, rfl, rfl, rfl⟩
   refine w_a0 rfl (o_store (v := .agg ⟨[.bool y63.1.f_neg, v67]⟩) sz24 rfl rfl rfl rfl (one_cons rfl (one_cons (h68.one) one_nil)) (.there .here) (.here (.here .done))) ?_
   rintro _ _ _ ⟨rfl, rfl, rfl⟩
   refine w_a0 rfl (o_store (v := .agg ⟨[.bool y63.2.1.f_neg, v69]⟩) sz24 rfl rfl rfl rfl (one_cons rfl (one_cons (h70.one) one_nil)) .here (.here (.here .done))) ?_
   rintro _ _ _ ⟨rfl, rfl, rfl⟩
   refine w_d rfl (d_assign (v := errV 104 y63.2.2) rfl) <| w_done <| w_seq <| w_seq <| w_region rfl <| w_d rfl (d_move (v := errV 104 y63.2.2) rfl) <| w_d rfl (d_nenil (e := y63.2.2) Tryz.underlying30 rfl) <| w_done ?_
   rcases its he with ⟨c73, he⟩ | ⟨c73, he⟩
   ·
    refine w_then rfl c73 <| w_seq <| w_region rfl <| w_d rfl (d_build (cs' := [.bool false, .slice none 0 0, .bool false, .slice none 0 0]) Tryz.underlying26 zr26 rfl (by kernel_rfl) (parts := []) rfl .nil) <| w_d rfl (d_move (v := errV 104 y63.2.2) rfl) <| w_a0 rfl (o_store (v := .agg ⟨[.bool false, .slice none 0 0, .bool false, .slice none 0 0]⟩) sz26 rfl rfl rfl rfl (one_cons rfl (one_cons rfl (one_cons rfl (one_cons rfl one_nil)))) (.there (.there (.there (.there (.there .here))))) (.here (.here (.here (.here .done))))) ?_
    rintro _ _ _ ⟨rfl, rfl, rfl⟩
    refine w_d rfl (d_assign (v := errV 104 y63.2.2) rfl) <| w_done ?_
    obtain rfl := Option.some.inj he
    refine w_return fn_73 rs_73 (.box (v := .agg ⟨[.bool false, .slice none 0 0, .bool false, .slice none 0 0]⟩) rfl ty26 rfl rfl (.there (.there (.there (.there (.there .here))))) rfl (.tmp (v := errV 104 y63.2.2) rfl .nil)) <| ⟨⟨[_, _, _, _, _, _, _, _], rfl⟩, hle.trans ((e50.trans e55).trans e66), ⟨.slice none 0 0, .slice none 0 0, rfl, (ro_nil _ _), (ro_nil _ _)⟩⟩
   ·
    refine w_else rfl (Bool.eq_false_iff.2 c73) <| w_skip <| w_seq <| w_region rfl <| w_d rfl (d_loado (v := .agg ⟨[.bool y52.1.f_neg, v56]⟩) ty24 rfl (.there (.there (.there .here))) rfl rfl rfl rfl) <| w_d rfl (d_loado (v := .agg ⟨[.bool y63.1.f_neg, v67]⟩) ty24 rfl (.there .here) rfl rfl rfl rfl) <| w_d rfl (d_build (cs' := [.bool y52.1.f_neg, v56, .bool y63.1.f_neg, v67]) Tryz.underlying26 zr26 rfl (by kernel_rfl) (parts := [(0, .agg ⟨[.bool y52.1.f_neg, v56]⟩), (1, .agg ⟨[.bool y63.1.f_neg, v67]⟩)]) rfl (.cons (place_of rfl sz24 rfl) rfl rfl (.here (.here .done)) (.cons (place_of rfl sz24 rfl) rfl rfl (.there (.there (.here (.here .done)))) .nil))) <| w_a0 rfl (o_store (v := .agg ⟨[.bool y52.1.f_neg, v56, .bool y63.1.f_neg, v67]⟩) sz26 rfl rfl rfl rfl (one_cons rfl (one_cons (h57.one) (one_cons rfl (one_cons (h68.one) one_nil)))) (.there (.there (.there (.there (.there .here))))) (.here (.here (.here (.here .done))))) ?_
    rintro _ _ _ ⟨rfl, rfl, rfl⟩
    refine w_d rfl (d_assign (v := errV 104 none) rfl) <| w_done ?_
    obtain rfl := Option.some.inj he
    refine w_return fn_73 rs_73 (.box (v := .agg ⟨[.bool y52.1.f_neg, v56, .bool y63.1.f_neg, v67]⟩) rfl ty26 rfl rfl (.there (.there (.there (.there (.there .here))))) rfl (.tmp (v := errV 104 none) rfl .nil)) <| ⟨⟨[_, _, _, _, _, _, _, _], rfl⟩, hle.trans ((e50.trans e55).trans e66), ⟨v56, v67, rfl, (h57.mono e66), h68⟩⟩
theorem ratio_Of.calls (k : Nat) {H : Hp} {L : Items} {n : wide_Int} {d : wide_Int} {v0_n : Value} {v1_d : Value} {r : ratio_Ratio × (Option Int)} (he : ratio_Of.f k n d = some r) (h0_n : Ro (Kd.int .u32) H v0_n n.f_w) (h1_d : Ro (Kd.int .u32) H v1_d d.f_w) : Ct Tryz.prog 73 ⟨[.agg ⟨[.bool n.f_neg, v0_n]⟩, .agg ⟨[.bool d.f_neg, v1_d]⟩]⟩ H L (fun v H' L' => L = L' ∧ H.le H' ∧ ratio_Of.out r H' v) := by
 refine ct_out (O := ratio_Of.out r) ?_
 have hle : H.le H := .refl _
 unfold ratio_Of.f at he
 refine ct_enter (args := [.agg ⟨[.bool n.f_neg, v0_n]⟩, .agg ⟨[.bool d.f_neg, v1_d]⟩]) fn_73 rfl nt_73 rfl <| w_seq <| w_region rfl <| w_a rfl (o_box (v := .agg ⟨[.bool n.f_neg, v0_n]⟩) rfl rfl) ?_
 rintro _ _ _ ⟨b1, rfl, rfl, rfl⟩
 refine w_a rfl (o_box (v := .agg ⟨[.bool d.f_neg, v1_d]⟩) rfl rfl) ?_
 rintro _ _ _ ⟨b2, rfl, rfl, rfl⟩
 refine w_a rfl (o_alloc zr26 rfl) ?_
 rintro _ _ _ ⟨b3, rfl, rfl, rfl⟩
 refine w_d rfl (d_assign (v := errV 104 none) rfl) <| w_done <| w_seq <| w_seq <| w_region rfl <| w_d rfl (d_loado (v := .agg ⟨[.bool d.f_neg, v1_d]⟩) ty24 rfl (.there .here) rfl rfl rfl rfl) ?_
 obtain ⟨y4, hy5, he⟩ := Option.bind_eq_some_iff.1 he
 refine w_d rfl (call_d (o_call co84 (vs := [.agg ⟨[.bool d.f_neg, v1_d]⟩]) rfl (wide_Int_Sign.calls k (a := d) hy5 h1_d))) <| w_d rfl (d_eql rfl rfl) <| w_done ?_
 rcases its he with ⟨c8, he⟩ | ⟨c8, he⟩
 ·
  refine w_then rfl (decide_eq_true c8) <| w_seq <| w_region rfl <| w_d rfl (d_build (cs' := [.bool false, .slice none 0 0, .bool false, .slice none 0 0]) Tryz.underlying26 zr26 rfl (by kernel_rfl) (parts := []) rfl .nil) <| w_d rfl (d_iface (v := .int .i64 11) Tryz.underlying104 rfl rfl) <| w_a0 rfl (o_store (v := .agg ⟨[.bool false, .slice none 0 0, .bool false, .slice none 0 0]⟩) sz26 rfl rfl rfl rfl (one_cons rfl (one_cons rfl (one_cons rfl (one_cons rfl one_nil)))) .here (.here (.here (.here (.here .done))))) ?_
  rintro _ _ _ ⟨rfl, rfl, rfl⟩
  refine w_d rfl (d_assign (v := errV 104 (some 11)) rfl) <| w_done ?_
  obtain rfl := Option.some.inj he
  refine w_return fn_73 rs_73 (.box (v := .agg ⟨[.bool false, .slice none 0 0, .bool false, .slice none 0 0]⟩) rfl ty26 rfl rfl .here rfl (.tmp (v := errV 104 (some 11)) rfl .nil)) <| ⟨⟨[_, _, _], rfl⟩, hle, ⟨.slice none 0 0, .slice none 0 0, rfl, (ro_nil _ _), (ro_nil _ _)⟩⟩
 ·
  refine w_else rfl (decide_eq_false c8) <| w_skip <| w_seq <| w_seq <| w_region rfl <| w_d rfl (d_loado (v := .agg ⟨[.bool d.f_neg, v1_d]⟩) ty24 rfl (.there .here) rfl rfl rfl rfl) ?_
  obtain ⟨y9, hy10, he⟩ := Option.bind_eq_some_iff.1 he
  refine w_d rfl (call_d (o_call co84 (vs := [.agg ⟨[.bool d.f_neg, v1_d]⟩]) rfl (wide_Int_Sign.calls k (a := d) hy10 h1_d))) <| w_d rfl (d_lss rfl rfl) <| w_done ?_
  rcases its he with ⟨c13, he⟩ | ⟨c13, he⟩
  ·
   refine w_then rfl (decide_eq_true c13) ?_
   obtain ⟨y14, hy15, he⟩ := Option.bind_eq_some_iff.1 he
   refine w_drawn (p := 3) (tl := [3, 4, 5]) [[], [(0, some 20)], []] [some 20, some 21, some 22] (fctF (.is (.agg ⟨[.bool n.f_neg, v0_n]⟩) :: .of (wide_Int_Neg.out y14) (wide_Int_Neg.out_mono _) :: .is (.agg ⟨[.bool d.f_neg, v1_d]⟩) :: [])) (fun m_ => some (b3, .cells ⟨[.bool false, .slice none 0 0, .bool false, .slice none 0 0]⟩ 26 (0, 0)) :: some (b2, .cells ⟨[.bool d.f_neg, v1_d]⟩ 24 (0, 0)) :: some (b1, .cells ⟨[.bool n.f_neg, v0_n]⟩ 24 (0, 0)) :: L) (fun _ => none) mixed (by kernel_rfl) (by kernel_rfl) rfl (fct_mono (by kernel_rfl)) ⟨(fun H' m_ hH hm_ hu_ => depK_nil <| s_d (m_ 0) rfl (d_loado (v := .agg ⟨[.bool n.f_neg, v0_n]⟩) ty24 rfl (.there (.there .here)) rfl rfl rfl rfl) (by exact rfl) rfl), (by rintro H' m_ hH hm_ hu_ _ rfl; exact depK_nil <| s_k (m_ 1) rfl (o_call co121 (vs := [.agg ⟨[.bool n.f_neg, v0_n]⟩]) rfl (wide_Int_Neg.calls k (a := n) hy15 (h0_n.mono hH))) rfl (by rintro v_ H_ _ ⟨rfl, e_, h_⟩; exact ⟨rfl, e_, h_⟩)), (fun H' m_ hH hm_ hu_ => depK_nil <| s_d (m_ 2) rfl (d_loado (v := .agg ⟨[.bool d.f_neg, v1_d]⟩) ty24 rfl (.there .here) rfl rfl rfl rfl) (by exact rfl) rfl), trivial⟩ ?_
   intro H20 e21
   rintro _ _ rfl _ _ ⟨v18, rfl, h19⟩ _ _ rfl
   obtain ⟨y22, hy23, he⟩ := Option.bind_eq_some_iff.1 he
   refine w_a rfl (o_call co121 (vs := [.agg ⟨[.bool d.f_neg, v1_d]⟩]) rfl (wide_Int_Neg.calls k (a := d) hy23 (h1_d.mono e21))) ?_
   rintro _ H24 _ ⟨rfl, e25, ⟨v26, rfl, h27⟩⟩
   refine w_a0 rfl (o_store (v := .agg ⟨[.bool y14.f_neg, v18]⟩) sz24 rfl rfl rfl rfl (one_cons rfl (one_cons (h19.one) one_nil)) (.there (.there .here)) (.here (.here .done))) ?_
   rintro _ _ _ ⟨rfl, rfl, rfl⟩
   refine w_a0 rfl (o_store (v := .agg ⟨[.bool y22.f_neg, v26]⟩) sz24 rfl rfl rfl rfl (one_cons rfl (one_cons (h27.one) one_nil)) (.there .here) (.here (.here .done))) ?_
   rintro _ _ _ ⟨rfl, rfl, rfl⟩
   refine w_done <| w_sl 2 (.pointer (some ⟨b1, 0, none⟩)) rfl <| w_sl 3 (.pointer (some ⟨b2, 0, none⟩)) rfl <| w_sl 4 (.pointer (some ⟨b3, 0, none⟩)) rfl <| w_sl 5 (errV 104 none) rfl <| ratio_Of.j1_ok (k := k) (hle.trans (e21.trans e25)) he (h19.mono e25) h27
  ·
   refine w_else rfl (decide_eq_false c13) <| w_skip <| w_sl 2 (.pointer (some ⟨b1, 0, none⟩)) rfl <| w_sl 3 (.pointer (some ⟨b2, 0, none⟩)) rfl <| w_sl 4 (.pointer (some ⟨b3, 0, none⟩)) rfl <| w_sl 5 (errV 104 none) rfl <| ratio_Of.j1_ok (k := k) hle he h0_n h1_d
/-! ### radome/ratio.Bits -/
noncomputable def ratio_Bits.C : Code := (Tryz.f18.body).getD .skip
def ratio_Bits.out (r : ratio_Ratio × (Option Int)) (H : Hp) (v : Value) : Prop := ∃ v0, ∃ v1, v = .tuple ⟨[.agg ⟨[.bool r.1.f_n.f_neg, v0, .bool r.1.f_d.f_neg, v1]⟩, errV 104 r.2]⟩ ∧ Ro (Kd.int .u32) H v0 r.1.f_n.f_w ∧ Ro (Kd.int .u32) H v1 r.1.f_d.f_w
theorem ratio_Bits.out_mono (r : ratio_Ratio × (Option Int)) {H H' : Hp} {v : Value} (hle : H.le H') (h : ratio_Bits.out r H v) : ratio_Bits.out r H' v := by
 obtain ⟨v0, v1, rfl, h0, h1⟩ := h; exact ⟨v0, v1, rfl, h0.mono hle, h1.mono hle⟩
abbrev ratio_Bits.R (H0 : Hp) (L : Items) (r : ratio_Ratio × (Option Int)) : Value → Hp → Items → Prop := fun v H' L' => (∃ p, L' = p ++ L) ∧ H0.le H' ∧ ratio_Bits.out r H' v
noncomputable def ratio_Bits.f (k : Nat) (n : Int) (bits : Int) : Option (ratio_Ratio × (Option Int)) := if ((decide (bits < 0)) || (decide (1024 < bits))) = true then (some ((⟨(⟨false, []⟩ : wide_Int), (⟨false, []⟩ : wide_Int)⟩ : ratio_Ratio), some 1)) else ((wide_Of.f k 1).bind fun y5 => (wide_Int_Move.f k y5 bits).bind fun y11 => if y11.2.isSome = true then (some ((⟨(⟨false, []⟩ : wide_Int), (⟨false, []⟩ : wide_Int)⟩ : ratio_Ratio), y11.2)) else ((wide_Of.f k n).bind fun y19 => (ratio_Of.f k y19 y11.1).bind fun y25 => some (y25.1, y25.2)))
theorem ratio_Bits.mono : ∀ k y0 y1, LeO (ratio_Bits.f k y0 y1) (ratio_Bits.f (k + 1) y0 y1) := fun k _ _ => by unfold ratio_Bits.f; exact (LeO.ite (LeO.refl _) (LeO.bind (wide_Of.mono k _) fun _ => LeO.bind (wide_Int_Move.mono k _ _) fun _ => LeO.ite (LeO.refl _) (LeO.bind (wide_Of.mono k _) fun _ => LeO.bind (ratio_Of.mono k _ _) fun _ => LeO.refl _)))
theorem ratio_Bits.calls (k : Nat) {H : Hp} {L : Items} {n : Int} {bits : Int} {r : ratio_Ratio × (Option Int)} (he : ratio_Bits.f k n bits = some r) : Ct Tryz.prog 18 ⟨[.int .i64 n, .int .i64 bits]⟩ H L (fun v H' L' => L = L' ∧ H.le H' ∧ ratio_Bits.out r H' v) := by
 refine ct_out (O := ratio_Bits.out r) ?_
 have hle : H.le H := .refl _
 unfold ratio_Bits.f at he
 refine ct_enter (args := [.int .i64 n, .int .i64 bits]) fn_18 rfl nt_18 rfl <| w_seq <| w_region rfl <| w_a rfl (o_alloc zr26 rfl) ?_
 rintro _ _ _ ⟨b1, rfl, rfl, rfl⟩
 refine w_d rfl (d_assign (v := errV 104 none) rfl) <| w_done <| w_seq <| w_seq <| w_region rfl <| w_d rfl (d_move (v := .int .i64 bits) rfl) <| w_d rfl (d_lss rfl rfl) <| w_d rfl (d_move (v := .bool (decide (bits < 0))) rfl) <| w_g (g := !(decide (bits < 0))) rfl rfl rfl wn_f (fun g2 => d_move (v := .int .i64 bits) rfl) <| w_g (g := !(decide (bits < 0))) rfl rfl rfl wn_f (fun g3 => d_gtr (cvt g3) rfl) <| w_d rfl (d_or' (b := (decide (bits < 0))) (p := (decide (1024 < bits))) rfl rfl rfl) <| w_done ?_
 rcases its he with ⟨c4, he⟩ | ⟨c4, he⟩
 ·
  refine w_then rfl c4 <| w_seq <| w_region rfl <| w_d rfl (d_build (cs' := [.bool false, .slice none 0 0, .bool false, .slice none 0 0]) Tryz.underlying26 zr26 rfl (by kernel_rfl) (parts := []) rfl .nil) <| w_d rfl (d_iface (v := .int .i64 1) Tryz.underlying104 rfl rfl) <| w_a0 rfl (o_store (v := .agg ⟨[.bool false, .slice none 0 0, .bool false, .slice none 0 0]⟩) sz26 rfl rfl rfl rfl (one_cons rfl (one_cons rfl (one_cons rfl (one_cons rfl one_nil)))) .here (.here (.here (.here (.here .done))))) ?_
  rintro _ _ _ ⟨rfl, rfl, rfl⟩
  refine w_d rfl (d_assign (v := errV 104 (some 1)) rfl) <| w_done ?_
  obtain rfl := Option.some.inj he
  refine w_return fn_18 rs_18 (.box (v := .agg ⟨[.bool false, .slice none 0 0, .bool false, .slice none 0 0]⟩) rfl ty26 rfl rfl .here rfl (.tmp (v := errV 104 (some 1)) rfl .nil)) <| ⟨⟨[_], rfl⟩, hle, ⟨.slice none 0 0, .slice none 0 0, rfl, (ro_nil _ _), (ro_nil _ _)⟩⟩
 ·
  refine w_else rfl (Bool.eq_false_iff.2 c4) <| w_skip <| w_seq <| w_region rfl ?_
  obtain ⟨y5, hy6, he⟩ := Option.bind_eq_some_iff.1 he
  refine w_a rfl (o_call co71 (vs := [.int .i64 1]) rfl (wide_Of.calls k hy6)) ?_
  rintro _ H7 _ ⟨rfl, e8, ⟨v9, rfl, h10⟩⟩
  refine w_d rfl (d_move (v := .int .i64 bits) rfl) ?_
  obtain ⟨y11, hy12, he⟩ := Option.bind_eq_some_iff.1 he
  refine w_a rfl (o_call co72 (vs := [.agg ⟨[.bool y5.f_neg, v9]⟩, .int .i64 bits]) rfl (wide_Int_Move.calls k (a := y5) hy12 h10)) ?_
  rintro _ H13 _ ⟨rfl, e14, ⟨v15, rfl, h16⟩⟩
  refine w_d rfl (d_move (v := .tuple ⟨[.agg ⟨[.bool y11.1.f_neg, v15]⟩, errV 104 y11.2]⟩) rfl) <| w_d rfl (d_ext (vs := [.agg ⟨[.bool y11.1.f_neg, v15]⟩, errV 104 y11.2]) rfl rfl) <| w_d rfl (d_ext (vs := [.agg ⟨[.bool y11.1.f_neg, v15]⟩, errV 104 y11.2]) rfl rfl) <| w_a rfl (o_alloc zr24 rfl) ?_
  rintro _ _ _ ⟨b17, rfl, rfl, rfl⟩
  refine w_a0 rfl (o_store (v := .agg ⟨[.bool y11.1.f_neg, v15]⟩) sz24 rfl rfl rfl rfl (one_cons rfl (one_cons (h16.one) one_nil)) .here (.here (.here .done))) ?_
  rintro _ _ _ ⟨rfl, rfl, rfl⟩
  refine w_d rfl (d_assign (v := errV 104 y11.2) rfl) <| w_done <| w_seq <| w_seq <| w_region rfl <| w_d rfl (d_move (v := errV 104 y11.2) rfl) <| w_d rfl (d_nenil (e := y11.2) Tryz.underlying30 rfl) <| w_done ?_
  rcases its he with ⟨c18, he⟩ | ⟨c18, he⟩
  ·
   refine w_then rfl c18 <| w_seq <| w_region rfl <| w_d rfl (d_build (cs' := [.bool false, .slice none 0 0, .bool false, .slice none 0 0]) Tryz.underlying26 zr26 rfl (by kernel_rfl) (parts := []) rfl .nil) <| w_d rfl (d_move (v := errV 104 y11.2) rfl) <| w_a0 rfl (o_store (v := .agg ⟨[.bool false, .slice none 0 0, .bool false, .slice none 0 0]⟩) sz26 rfl rfl rfl rfl (one_cons rfl (one_cons rfl (one_cons rfl (one_cons rfl one_nil)))) (.there .here) (.here (.here (.here (.here .done))))) ?_
   rintro _ _ _ ⟨rfl, rfl, rfl⟩
   refine w_d rfl (d_assign (v := errV 104 y11.2) rfl) <| w_done ?_
   obtain rfl := Option.some.inj he
   refine w_return fn_18 rs_18 (.box (v := .agg ⟨[.bool false, .slice none 0 0, .bool false, .slice none 0 0]⟩) rfl ty26 rfl rfl (.there .here) rfl (.tmp (v := errV 104 y11.2) rfl .nil)) <| ⟨⟨[_, _], rfl⟩, hle.trans (e8.trans e14), ⟨.slice none 0 0, .slice none 0 0, rfl, (ro_nil _ _), (ro_nil _ _)⟩⟩
  ·
   refine w_else rfl (Bool.eq_false_iff.2 c18) <| w_skip <| w_seq ?_
   obtain ⟨y19, hy20, he⟩ := Option.bind_eq_some_iff.1 he
   obtain ⟨y25, hy26, he⟩ := Option.bind_eq_some_iff.1 he
   refine w_drawn (p := 6) (tl := [6, 7]) [[], [(0, some 26)], [], [(1, some 27), (2, some 28)], [(3, some 29)], [(3, some 29)]] [some 26, some 27, some 28, some 29, some 30, some 31] (fctF (.is (.int .i64 n) :: .of (wide_Of.out y19) (wide_Of.out_mono _) :: .is (.agg ⟨[.bool y11.1.f_neg, v15]⟩) :: .of (ratio_Of.out y25) (ratio_Of.out_mono _) :: .of (fun H v => ∃ v33, ∃ v35, v = .agg ⟨[.bool y25.1.f_n.f_neg, v33, .bool y25.1.f_d.f_neg, v35]⟩ ∧ Ro (Kd.int .u32) H v33 y25.1.f_n.f_w ∧ Ro (Kd.int .u32) H v35 y25.1.f_d.f_w) (by rintro _ _ _ hle ⟨v33, v35, rfl, h34, h36⟩; exact ⟨v33, v35, rfl, h34.mono hle, h36.mono hle⟩) :: .is (errV 104 y25.2) :: [])) (fun m_ => some (b17, .cells ⟨[.bool y11.1.f_neg, v15]⟩ 24 (0, 0)) :: some (b1, .cells ⟨[.bool false, .slice none 0 0, .bool false, .slice none 0 0]⟩ 26 (0, 0)) :: L) (fun _ => none) mixed (by kernel_rfl) (by kernel_rfl) rfl (fct_mono (by kernel_rfl)) ⟨(fun H' m_ hH hm_ hu_ => depK_nil <| s_d (m_ 0) rfl (d_move (v := .int .i64 n) rfl) (by exact rfl) rfl), (by rintro H' m_ hH hm_ hu_ _ rfl; exact depK_nil <| s_k (m_ 1) rfl (o_call co71 (vs := [.int .i64 n]) rfl (wide_Of.calls k hy20)) rfl (by rintro v_ H_ _ ⟨rfl, e_, h_⟩; exact ⟨rfl, e_, h_⟩)), (fun H' m_ hH hm_ hu_ => depK_nil <| s_d (m_ 2) rfl (d_loado (v := .agg ⟨[.bool y11.1.f_neg, v15]⟩) ty24 rfl .here rfl rfl rfl rfl) (by exact rfl) rfl), (by rintro H' m_ hH hm_ hu_ _ ⟨v23, rfl, h24⟩ _ rfl; exact depK_nil <| s_k (m_ 3) rfl (o_call co73 (vs := [.agg ⟨[.bool y19.f_neg, v23]⟩, .agg ⟨[.bool y11.1.f_neg, v15]⟩]) rfl (ratio_Of.calls k (n := y19) (d := y11.1) hy26 h24 (h16.mono hH))) rfl (by rintro v_ H_ _ ⟨rfl, e_, h_⟩; exact ⟨rfl, e_, h_⟩)), (by rintro H' m_ hH hm_ hu_ _ ⟨v29, v31, rfl, h30, h32⟩; exact depK_nil <| s_d (m_ 4) rfl (d_ext (vs := [.agg ⟨[.bool y25.1.f_n.f_neg, v29, .bool y25.1.f_d.f_neg, v31]⟩, errV 104 y25.2]) rfl rfl) (by exact ⟨v29, v31, rfl, h30, h32⟩) rfl), (by rintro H' m_ hH hm_ hu_ _ ⟨v29, v31, rfl, h30, h32⟩; exact depK_nil <| s_d (m_ 5) rfl (d_ext (vs := [.agg ⟨[.bool y25.1.f_n.f_neg, v29, .bool y25.1.f_d.f_neg, v31]⟩, errV 104 y25.2]) rfl rfl) (by exact rfl) rfl), trivial⟩ ?_
   intro H37 e38
   rintro _ _ rfl _ _ ⟨v23, rfl, h24⟩ _ _ rfl _ _ ⟨v29, v31, rfl, h30, h32⟩ _ _ ⟨v33, v35, rfl, h34, h36⟩ _ _ rfl
   refine w_a0 rfl (o_store (v := .agg ⟨[.bool y25.1.f_n.f_neg, v33, .bool y25.1.f_d.f_neg, v35]⟩) sz26 rfl rfl rfl rfl (one_cons rfl (one_cons (h34.one) (one_cons rfl (one_cons (h36.one) one_nil)))) (.there .here) (.here (.here (.here (.here .done))))) ?_
   rintro _ _ _ ⟨rfl, rfl, rfl⟩
   refine w_d rfl (d_assign (v := errV 104 y25.2) rfl) <| w_done ?_
   obtain rfl := Option.some.inj he
   refine w_return fn_18 rs_18 (.box (v := .agg ⟨[.bool y25.1.f_n.f_neg, v33, .bool y25.1.f_d.f_neg, v35]⟩) rfl ty26 rfl rfl (.there .here) rfl (.tmp (v := errV 104 y25.2) rfl .nil)) <| ⟨⟨[_, _], rfl⟩, hle.trans ((e8.trans e14).trans e38), ⟨v33, v35, rfl, h34, h36⟩⟩
/-! ### (radome/ratio.Ratio).under -/
noncomputable def ratio_Ratio_under.C : Code := (Tryz.f78.body).getD .skip
def ratio_Ratio_under.out (r : wide_Int) (H : Hp) (v : Value) : Prop := ∃ v0, v = .agg ⟨[.bool r.f_neg, v0]⟩ ∧ Ro (Kd.int .u32) H v0 r.f_w
theorem ratio_Ratio_under.out_mono (r : wide_Int) {H H' : Hp} {v : Value} (hle : H.le H') (h : ratio_Ratio_under.out r H v) : ratio_Ratio_under.out r H' v := by
 obtain ⟨v0, rfl, h0⟩ := h; exact ⟨v0, rfl, h0.mono hle⟩
abbrev ratio_Ratio_under.R (H0 : Hp) (L : Items) (r : wide_Int) : Value → Hp → Items → Prop := fun v H' L' => (∃ p, L' = p ++ L) ∧ H0.le H' ∧ ratio_Ratio_under.out r H' v
noncomputable def ratio_Ratio_under.f (k : Nat) (a : ratio_Ratio) : Option wide_Int := (wide_Int_Sign.f k a.f_d).bind fun y3 => if y3 = 0 then ((wide_Of.f k 1).bind fun y8 => some (y8)) else (some (a.f_d))
theorem ratio_Ratio_under.mono : ∀ k y0, LeO (ratio_Ratio_under.f k y0) (ratio_Ratio_under.f (k + 1) y0) := fun k _ => by unfold ratio_Ratio_under.f; exact (LeO.bind (wide_Int_Sign.mono k _) fun _ => LeO.ite (LeO.bind (wide_Of.mono k _) fun _ => LeO.refl _) (LeO.refl _))
theorem ratio_Ratio_under.calls (k : Nat) {H : Hp} {L : Items} {a : ratio_Ratio} {v0_a : Value} {v1_a : Value} {r : wide_Int} (he : ratio_Ratio_under.f k a = some r) (h0_a : Ro (Kd.int .u32) H v0_a a.f_n.f_w) (h1_a : Ro (Kd.int .u32) H v1_a a.f_d.f_w) : Ct Tryz.prog 78 ⟨[.agg ⟨[.bool a.f_n.f_neg, v0_a, .bool a.f_d.f_neg, v1_a]⟩]⟩ H L (fun v H' L' => L = L' ∧ H.le H' ∧ ratio_Ratio_under.out r H' v) := by
 refine ct_out (O := ratio_Ratio_under.out r) ?_
 have hle : H.le H := .refl _
 unfold ratio_Ratio_under.f at he
 refine ct_enter (args := [.agg ⟨[.bool a.f_n.f_neg, v0_a, .bool a.f_d.f_neg, v1_a]⟩]) fn_78 rfl nt_78 rfl <| w_seq <| w_region rfl <| w_a rfl (o_box (v := .agg ⟨[.bool a.f_n.f_neg, v0_a, .bool a.f_d.f_neg, v1_a]⟩) rfl rfl) ?_
 rintro _ _ _ ⟨b1, rfl, rfl, rfl⟩
 refine w_a rfl (o_alloc zr24 rfl) ?_
 rintro _ _ _ ⟨b2, rfl, rfl, rfl⟩
 refine w_done <| w_seq <| w_seq <| w_region rfl <| w_d rfl (d_fld (o' := 2) Tryz.underlying26 rfl sz24 rfl rfl rfl) <| w_d rfl (d_loado (v := .agg ⟨[.bool a.f_d.f_neg, v1_a]⟩) ty24 rfl (.there .here) rfl rfl rfl rfl) ?_
 obtain ⟨y3, hy4, he⟩ := Option.bind_eq_some_iff.1 he
 refine w_d rfl (call_d (o_call co84 (vs := [.agg ⟨[.bool a.f_d.f_neg, v1_a]⟩]) rfl (wide_Int_Sign.calls k (a := a.f_d) hy4 h1_a))) <| w_d rfl (d_eql rfl rfl) <| w_done ?_
 rcases its he with ⟨c7, he⟩ | ⟨c7, he⟩
 ·
  refine w_then rfl (decide_eq_true c7) <| w_seq <| w_region rfl ?_
  obtain ⟨y8, hy9, he⟩ := Option.bind_eq_some_iff.1 he
  refine w_a rfl (o_call co71 (vs := [.int .i64 1]) rfl (wide_Of.calls k hy9)) ?_
  rintro _ H10 _ ⟨rfl, e11, ⟨v12, rfl, h13⟩⟩
  refine w_a0 rfl (o_store (v := .agg ⟨[.bool y8.f_neg, v12]⟩) sz24 rfl rfl rfl rfl (one_cons rfl (one_cons (h13.one) one_nil)) .here (.here (.here .done))) ?_
  rintro _ _ _ ⟨rfl, rfl, rfl⟩
  refine w_done ?_
  obtain rfl := Option.some.inj he
  refine w_return fn_78 rs_78 (.box (v := .agg ⟨[.bool y8.f_neg, v12]⟩) rfl ty24 rfl rfl .here rfl .nil) <| ⟨⟨[_, _], rfl⟩, hle.trans e11, ⟨v12, rfl, h13⟩⟩
 ·
  refine w_else rfl (decide_eq_false c7) <| w_skip <| w_seq <| w_region rfl <| w_d rfl (d_fld (o' := 2) Tryz.underlying26 rfl sz24 rfl rfl rfl) <| w_d rfl (d_loado (v := .agg ⟨[.bool a.f_d.f_neg, v1_a]⟩) ty24 rfl (.there .here) rfl rfl rfl rfl) <| w_a0 rfl (o_store (v := .agg ⟨[.bool a.f_d.f_neg, v1_a]⟩) sz24 rfl rfl rfl rfl (one_cons rfl (one_cons (h1_a.one) one_nil)) .here (.here (.here .done))) ?_
  rintro _ _ _ ⟨rfl, rfl, rfl⟩
  refine w_done ?_
  obtain rfl := Option.some.inj he
  refine w_return fn_78 rs_78 (.box (v := .agg ⟨[.bool a.f_d.f_neg, v1_a]⟩) rfl ty24 rfl rfl .here rfl .nil) <| ⟨⟨[_, _], rfl⟩, hle, ⟨v1_a, rfl, h1_a⟩⟩
/-! ### radome/wide.times -/
noncomputable def wide_times.C : Code := (Tryz.f145.body).getD .skip
abbrev wide_times.out (r : (List Int)) (H : Hp) (v : Value) : Prop := Ro (Kd.int .u32) H v r
abbrev wide_times.R (H0 : Hp) (L : Items) (r : (List Int)) : Value → Hp → Items → Prop := fun v H' L' => (∃ p, L' = p ++ L) ∧ H0.le H' ∧ wide_times.out r H' v
structure wide_times.Hs where
 l0 : (List Int) → (List Int) → (List Int) → Int → Int → Option (List Int)
 l1 : (List Int) → (List Int) → Int → Int → Int → (List Int) → Int → Int → (List Int) → Int → Int → Option (List Int)
noncomputable def wide_times.b0 (k : Nat) (h : wide_times.Hs)  (b : List Int) (out : List Int) (t18 : List Int) (t19 : Int) (t20 : Int) : Option (List Int) := if t20 < t19 then (if (0 : Int) ≤ t20 ∧ t20 < (t18.length : Int) then (h.l1 b out t20 (rd t18 t20) 0 t18 t19 t20 b (b.length : Int) 0) else none) else (some (out))
noncomputable def wide_times.b1 (k : Nat) (h : wide_times.Hs)  (b : List Int) (out : List Int) (i : Int) (x : Int) (carry : Int) (t18 : List Int) (t19 : Int) (t20 : Int) (t25 : List Int) (t26 : Int) (t27 : Int) : Option (List Int) := if t27 < t26 then (if (0 : Int) ≤ t27 ∧ t27 < (t25.length : Int) then (if (0 : Int) ≤ w64 (i + t27) ∧ w64 (i + t27) < (out.length : Int) then (if (0 : Int) ≤ w64 (i + t27) ∧ w64 (i + t27) < (out.length : Int) then (h.l1 b (out.set (w64 (i + t27) : Int).toNat (((((((((x) % 18446744073709551616) * ((rd t25 t27) % 18446744073709551616)) % 18446744073709551616) + ((rd out (w64 (i + t27))) % 18446744073709551616)) % 18446744073709551616) + carry) % 18446744073709551616) % 4294967296)) i x (((((((((x) % 18446744073709551616) * ((rd t25 t27) % 18446744073709551616)) % 18446744073709551616) + ((rd out (w64 (i + t27))) % 18446744073709551616)) % 18446744073709551616) + carry) % 18446744073709551616) / 4294967296) t18 t19 t20 t25 t26 (w64 (t27 + 1))) else none) else none) else none) else (if (0 : Int) ≤ w64 (i + (b.length : Int)) ∧ w64 (i + (b.length : Int)) < (out.length : Int) then (h.l0 b (out.set (w64 (i + (b.length : Int)) : Int).toNat ((carry) % 4294967296)) t18 t19 (w64 (t20 + 1))) else none)
noncomputable def wide_times.hs : Nat → wide_times.Hs
 | 0 => ⟨fun _ _ _ _ _ => none, fun _ _ _ _ _ _ _ _ _ _ _ => none⟩
 | k + 1 => ⟨fun x0 x1 x2 x3 x4 => wide_times.b0 k (wide_times.hs k) x0 x1 x2 x3 x4, fun x0 x1 x2 x3 x4 x5 x6 x7 x8 x9 x10 => wide_times.b1 k (wide_times.hs k) x0 x1 x2 x3 x4 x5 x6 x7 x8 x9 x10⟩
noncomputable def wide_times.f (k : Nat) (a : List Int) (b : List Int) : Option (List Int) := (fun h : wide_times.Hs => if 0 ≤ w64 ((a.length : Int) + (b.length : Int)) ∧ w64 ((a.length : Int) + (b.length : Int)) ≤ 70368744177664 then (h.l0 b (List.replicate (w64 ((a.length : Int) + (b.length : Int)) : Int).toNat (0 : Int)) a (a.length : Int) 0) else none) (wide_times.hs k)
structure wide_times.LE (h h' : wide_times.Hs) : Prop where
 l0 : ∀ y0 y1 y2 y3 y4, LeO (h.l0 y0 y1 y2 y3 y4) (h'.l0 y0 y1 y2 y3 y4)
 l1 : ∀ y0 y1 y2 y3 y4 y5 y6 y7 y8 y9 y10, LeO (h.l1 y0 y1 y2 y3 y4 y5 y6 y7 y8 y9 y10) (h'.l1 y0 y1 y2 y3 y4 y5 y6 y7 y8 y9 y10)
theorem wide_times.b0_mono {k : Nat} {h h' : wide_times.Hs} (hl : wide_times.LE h h') : ∀ y0 y1 y2 y3 y4, LeO (wide_times.b0 k h y0 y1 y2 y3 y4) (wide_times.b0 (k + 1) h' y0 y1 y2 y3 y4) := fun _ _ _ _ _ => (LeO.ite (LeO.ite (hl.l1 _ _ _ _ _ _ _ _ _ _ _) (LeO.refl _)) (LeO.refl _))
theorem wide_times.b1_mono {k : Nat} {h h' : wide_times.Hs} (hl : wide_times.LE h h') : ∀ y0 y1 y2 y3 y4 y5 y6 y7 y8 y9 y10, LeO (wide_times.b1 k h y0 y1 y2 y3 y4 y5 y6 y7 y8 y9 y10) (wide_times.b1 (k + 1) h' y0 y1 y2 y3 y4 y5 y6 y7 y8 y9 y10) := fun _ _ _ _ _ _ _ _ _ _ _ => (LeO.ite (LeO.ite (LeO.ite (LeO.ite (hl.l1 _ _ _ _ _ _ _ _ _ _ _) (LeO.refl _)) (LeO.refl _)) (LeO.refl _)) (LeO.ite (hl.l0 _ _ _ _ _) (LeO.refl _)))
theorem wide_times.hs_mono : ∀ k, wide_times.LE (wide_times.hs k) (wide_times.hs (k + 1))
 | 0 => ⟨fun _ _ _ _ _ => LeO.none _, fun _ _ _ _ _ _ _ _ _ _ _ => LeO.none _⟩
 | k + 1 => ⟨wide_times.b0_mono (k := k) (wide_times.hs_mono k), wide_times.b1_mono (k := k) (wide_times.hs_mono k)⟩
theorem wide_times.mono : ∀ k y0 y1, LeO (wide_times.f k y0 y1) (wide_times.f (k + 1) y0 y1) := fun k _ _ => have hl := wide_times.hs_mono k; by unfold wide_times.f; exact (LeO.ite (hl.l0 _ _ _ _ _) (LeO.refl _))
noncomputable def wide_times.Kl0 : List Item := .code (lopB (blkB (seqR (seqL (seqR (seqR wide_times.C)))))) :: .inLoop (lopB (blkB (seqR (seqL (seqR (seqR wide_times.C)))))) :: .inBlock 0 :: .code (seqR (seqR (seqR wide_times.C))) :: []
noncomputable def wide_times.Kl1 : List Item := .code (lopB (blkB (seqR (seqL (seqR (seqR (blkB (seqL (seqR (seqR (lopB (blkB (seqR (seqL (seqR (seqR wide_times.C)))))))))))))))) :: .inLoop (lopB (blkB (seqR (seqL (seqR (seqR (blkB (seqL (seqR (seqR (lopB (blkB (seqR (seqL (seqR (seqR wide_times.C)))))))))))))))) :: .inBlock 2 :: .code (seqR (seqR (seqR (blkB (seqL (seqR (seqR (lopB (blkB (seqR (seqL (seqR (seqR wide_times.C))))))))))))) :: .inBlock 1 :: .code (seqR (seqR (seqR (lopB (blkB (seqR (seqL (seqR (seqR wide_times.C))))))))) :: .inLoop (lopB (blkB (seqR (seqL (seqR (seqR wide_times.C)))))) :: .inBlock 0 :: .code (seqR (seqR (seqR wide_times.C))) :: []
structure wide_times.OK (h : wide_times.Hs) : Prop where
 l0 : ∀ {H0 H : Hp} {L : Items} {r : (List Int)} {jk_ : Nat → Value} {b : List Int} {out : List Int} {t18 : List Int} {t19 : Int} {t20 : Int} {v_b : Value} {v_out : Value} {v_t18 : Value} {i_out : Item'} (_ : H0.le H) (_he : h.l0 b out t18 t19 t20 = some r) (_h_b : Src (Kd.int .u32) H L v_b b) (_h_out : Sl (Kd.int .u32) H 167 i_out v_out out) (_h_t18 : Src (Kd.int .u32) H L v_t18 t18), Wp Tryz.prog 145 67 wide_times.Kl0 (upd (upd (upd (upd (upd (upd jk_ 1 (v_b)) 4 (.slice none 0 0)) 5 (v_out)) 18 (v_t18)) 19 (.int .i64 t19)) 20 (.int .i64 t20)) H (i_out :: L) (wide_times.R H0 L r)
 l1 : ∀ {H0 H : Hp} {L : Items} {r : (List Int)} {jk_ : Nat → Value} {b : List Int} {out : List Int} {i : Int} {x : Int} {carry : Int} {t18 : List Int} {t19 : Int} {t20 : Int} {t25 : List Int} {t26 : Int} {t27 : Int} {v_b : Value} {v_out : Value} {v_t18 : Value} {v_t25 : Value} {i_out : Item'} (_ : H0.le H) (_he : h.l1 b out i x carry t18 t19 t20 t25 t26 t27 = some r) (_h_b : Src (Kd.int .u32) H L v_b b) (_h_out : Sl (Kd.int .u32) H 167 i_out v_out out) (_h_t18 : Src (Kd.int .u32) H L v_t18 t18) (_h_t25 : Src (Kd.int .u32) H L v_t25 t25), Wp Tryz.prog 145 67 wide_times.Kl1 (upd (upd (upd (upd (upd (upd (upd (upd (upd (upd (upd (upd jk_ 1 (v_b)) 4 (.slice none 0 0)) 5 (v_out)) 6 (.int .i64 i)) 7 (.int .u32 x)) 8 (.int .u64 carry)) 18 (v_t18)) 19 (.int .i64 t19)) 20 (.int .i64 t20)) 25 (v_t25)) 26 (.int .i64 t26)) 27 (.int .i64 t27)) H (i_out :: L) (wide_times.R H0 L r)
theorem wide_times.b0_ok {k : Nat} {h : wide_times.Hs} (hh : wide_times.OK h) {H0 H : Hp} {L : Items} {r : (List Int)} {jk_ : Nat → Value} {b : List Int} {out : List Int} {t18 : List Int} {t19 : Int} {t20 : Int} {v_b : Value} {v_out : Value} {v_t18 : Value} {i_out : Item'} (hle : H0.le H) (he : wide_times.b0 k h b out t18 t19 t20 = some r) (h_b : Src (Kd.int .u32) H L v_b b) (h_out : Sl (Kd.int .u32) H 167 i_out v_out out) (h_t18 : Src (Kd.int .u32) H L v_t18 t18) : Wp Tryz.prog 145 67 wide_times.Kl0 (upd (upd (upd (upd (upd (upd jk_ 1 (v_b)) 4 (.slice none 0 0)) 5 (v_out)) 18 (v_t18)) 19 (.int .i64 t19)) 20 (.int .i64 t20)) H (i_out :: L) (wide_times.R H0 L r) := by
 unfold wide_times.b0 at he
 unfold wide_times.Kl0
 refine w_seq <| w_region rfl <| w_d rfl (d_lss rfl rfl) <| w_done <| w_seq ?_
 rcases its he with ⟨c5, he⟩ | ⟨c5, he⟩
 ·
  refine w_then rfl (decide_eq_true c5) <| w_skip <| w_seq <| w_block <| w_seq <| w_region rfl <| w_d rfl (d_move (v := .int .i64 t20) rfl) ?_
  obtain ⟨c6, he⟩ := rq he
  refine w_d rfl (d_index (sz := 1) Tryz.underlying22 sz167 rfl h_t18.th rfl c6) <| w_d rfl (d_ldint ty167 rfl h_t18.th c6) <| w_d rfl (d_assign (v := .int .i64 t20) rfl) <| w_d rfl (d_assign (v := .int .u32 (rd t18 t20)) rfl) <| w_done <| w_seq <| w_region rfl <| w_d rfl (d_assign (v := .int .u64 0) rfl) <| w_done <| w_seq <| w_seq <| w_region rfl ?_
  refine w_d rfl (d_move (v := v_b) rfl) <| w_d rfl (d_len Tryz.underlying22 rfl h_b.th) <| w_d rfl (d_move (v := .int .i64 0) rfl) <| w_done <| w_block <| w_loop <| w_sl 1 (v_b) rfl <| w_sl 4 (.slice none 0 0) rfl <| w_sl 5 (v_out) rfl <| w_sl 6 (.int .i64 t20) rfl <| w_sl 7 (.int .u32 (rd t18 t20)) rfl <| w_sl 8 (.int .u64 0) rfl ?_
  refine w_sl 18 (v_t18) rfl <| w_sl 19 (.int .i64 t19) rfl <| w_sl 20 (.int .i64 t20) rfl <| w_sl 25 (v_b) rfl <| w_sl 26 (.int .i64 (b.length : Int)) rfl <| w_sl 27 (.int .i64 0) rfl <| hh.l1 hle he h_b h_out h_t18 h_b
 ·
  refine w_else rfl (decide_eq_false c5) <| w_exit rfl <| w_seq <| w_region rfl <| w_d rfl (d_move (v := v_out) rfl) <| w_d rfl (d_assign (v := v_out) rfl) <| w_done <| w_freeze h_out .here ?_
  intro H7 e8 h9
  obtain rfl := Option.some.inj he
  refine w_return fn_145 rs_145 (.tmp (v := v_out) rfl .nil) <| ⟨⟨[_], rfl⟩, hle.trans e8, h9⟩
theorem wide_times.b1_ok {k : Nat} {h : wide_times.Hs} (hh : wide_times.OK h) {H0 H : Hp} {L : Items} {r : (List Int)} {jk_ : Nat → Value} {b : List Int} {out : List Int} {i : Int} {x : Int} {carry : Int} {t18 : List Int} {t19 : Int} {t20 : Int} {t25 : List Int} {t26 : Int} {t27 : Int} {v_b : Value} {v_out : Value} {v_t18 : Value} {v_t25 : Value} {i_out : Item'} (hle : H0.le H) (he : wide_times.b1 k h b out i x carry t18 t19 t20 t25 t26 t27 = some r) (h_b : Src (Kd.int .u32) H L v_b b) (h_out : Sl (Kd.int .u32) H 167 i_out v_out out) (h_t18 : Src (Kd.int .u32) H L v_t18 t18) (h_t25 : Src (Kd.int .u32) H L v_t25 t25) : Wp Tryz.prog 145 67 wide_times.Kl1 (upd (upd (upd (upd (upd (upd (upd (upd (upd (upd (upd (upd jk_ 1 (v_b)) 4 (.slice none 0 0)) 5 (v_out)) 6 (.int .i64 i)) 7 (.int .u32 x)) 8 (.int .u64 carry)) 18 (v_t18)) 19 (.int .i64 t19)) 20 (.int .i64 t20)) 25 (v_t25)) 26 (.int .i64 t26)) 27 (.int .i64 t27)) H (i_out :: L) (wide_times.R H0 L r) := by
 unfold wide_times.b1 at he
 unfold wide_times.Kl1
 refine w_seq <| w_region rfl <| w_d rfl (d_lss rfl rfl) <| w_done <| w_seq ?_
 rcases its he with ⟨c10, he⟩ | ⟨c10, he⟩
 ·
  refine w_then rfl (decide_eq_true c10) <| w_skip <| w_seq <| w_block <| w_seq <| w_region rfl <| w_d rfl (d_move (v := .int .i64 t27) rfl) ?_
  obtain ⟨c11, he⟩ := rq he
  refine w_d rfl (d_index (sz := 1) Tryz.underlying22 sz167 rfl h_t25.th rfl c11) <| w_d rfl (d_ldint ty167 rfl h_t25.th c11) <| w_d rfl (d_assign (v := .int .i64 t27) rfl) <| w_d rfl (d_assign (v := .int .u32 (rd t25 t27)) rfl) <| w_done <| w_seq <| w_region rfl <| w_d rfl (d_move (v := .int .u32 x) rfl) <| w_d rfl (d_conv (c := (x) % 18446744073709551616) Tryz.underlying167 Tryz.underlying113 rfl rfl) <| w_d rfl (d_move (v := .int .u32 (rd t25 t27)) rfl) <| w_d rfl (d_conv (c := (rd t25 t27) % 18446744073709551616) Tryz.underlying167 Tryz.underlying113 rfl rfl) <| w_d rfl (d_mul (c := (((x) % 18446744073709551616) * ((rd t25 t27) % 18446744073709551616)) % 18446744073709551616) rfl rfl rfl) ?_
  refine w_d rfl (d_move (v := v_out) rfl) <| w_d rfl (d_move (v := .int .i64 i) rfl) <| w_d rfl (d_move (v := .int .i64 t27) rfl) <| w_d rfl (d_add (c := w64 (i + t27)) rfl rfl rfl) ?_
  obtain ⟨c12, he⟩ := rq he
  refine w_d rfl (d_indexS (sz := 1) Tryz.underlying22 sz167 rfl h_out.shp rfl c12) <| w_d rfl (d_ldint ty167 rfl (h_out.src .here) c12) <| w_d rfl (d_conv (c := (rd out (w64 (i + t27))) % 18446744073709551616) Tryz.underlying167 Tryz.underlying113 rfl rfl) <| w_d rfl (d_add (c := (((((x) % 18446744073709551616) * ((rd t25 t27) % 18446744073709551616)) % 18446744073709551616) + ((rd out (w64 (i + t27))) % 18446744073709551616)) % 18446744073709551616) rfl rfl rfl) <| w_d rfl (d_move (v := .int .u64 carry) rfl) <| w_d rfl (d_add (c := (((((((x) % 18446744073709551616) * ((rd t25 t27) % 18446744073709551616)) % 18446744073709551616) + ((rd out (w64 (i + t27))) % 18446744073709551616)) % 18446744073709551616) + carry) % 18446744073709551616) rfl rfl rfl) <| w_d rfl (d_assign (v := .int .u64 ((((((((x) % 18446744073709551616) * ((rd t25 t27) % 18446744073709551616)) % 18446744073709551616) + ((rd out (w64 (i + t27))) % 18446744073709551616)) % 18446744073709551616) + carry) % 18446744073709551616)) rfl) <| w_done <| w_seq <| w_region rfl <| w_d rfl (d_move (v := v_out) rfl) <| w_d rfl (d_move (v := .int .i64 i) rfl) ?_
  refine w_d rfl (d_move (v := .int .i64 t27) rfl) <| w_d rfl (d_add (c := w64 (i + t27)) rfl rfl rfl) <| w_d rfl (d_move (v := .int .u64 ((((((((x) % 18446744073709551616) * ((rd t25 t27) % 18446744073709551616)) % 18446744073709551616) + ((rd out (w64 (i + t27))) % 18446744073709551616)) % 18446744073709551616) + carry) % 18446744073709551616)) rfl) <| w_d rfl (d_conv (c := ((((((((x) % 18446744073709551616) * ((rd t25 t27) % 18446744073709551616)) % 18446744073709551616) + ((rd out (w64 (i + t27))) % 18446744073709551616)) % 18446744073709551616) + carry) % 18446744073709551616) % 4294967296) Tryz.underlying113 Tryz.underlying167 rfl rfl) ?_
  obtain ⟨c13, he⟩ := rq he
  refine w_d rfl (d_indexS (sz := 1) Tryz.underlying22 sz167 rfl h_out.shp rfl c13) <| w_a0 rfl (o_storeEl (kd := (Kd.int .u32)) (v := .int .u32 (((((((((x) % 18446744073709551616) * ((rd t25 t27) % 18446744073709551616)) % 18446744073709551616) + ((rd out (w64 (i + t27))) % 18446744073709551616)) % 18446744073709551616) + carry) % 18446744073709551616) % 4294967296)) (F := fun z_ => z_ :: L) sz167 rfl rfl rfl rfl h_out c13 (fun _ => .here)) ?_
  rintro _ _ _ ⟨i14, rfl, rfl, rfl, h15⟩
  refine w_done <| w_region rfl <| w_d rfl (d_move (v := .int .u64 ((((((((x) % 18446744073709551616) * ((rd t25 t27) % 18446744073709551616)) % 18446744073709551616) + ((rd out (w64 (i + t27))) % 18446744073709551616)) % 18446744073709551616) + carry) % 18446744073709551616)) rfl) <| w_d rfl (d_shr (c := ((((((((x) % 18446744073709551616) * ((rd t25 t27) % 18446744073709551616)) % 18446744073709551616) + ((rd out (w64 (i + t27))) % 18446744073709551616)) % 18446744073709551616) + carry) % 18446744073709551616) / 4294967296) rfl rfl (by decide) rfl) <| w_d rfl (d_assign (v := .int .u64 (((((((((x) % 18446744073709551616) * ((rd t25 t27) % 18446744073709551616)) % 18446744073709551616) + ((rd out (w64 (i + t27))) % 18446744073709551616)) % 18446744073709551616) + carry) % 18446744073709551616) / 4294967296)) rfl) <| w_done <| w_inBlock <| w_region rfl <| w_d rfl (d_add (c := w64 (t27 + 1)) rfl rfl rfl) <| w_d rfl (d_move (v := .int .i64 (w64 (t27 + 1))) rfl) <| w_done <| w_inLoop ?_
  refine w_sl 1 (v_b) rfl <| w_sl 4 (.slice none 0 0) rfl <| w_sl 5 (v_out) rfl <| w_sl 6 (.int .i64 i) rfl <| w_sl 7 (.int .u32 x) rfl <| w_sl 8 (.int .u64 (((((((((x) % 18446744073709551616) * ((rd t25 t27) % 18446744073709551616)) % 18446744073709551616) + ((rd out (w64 (i + t27))) % 18446744073709551616)) % 18446744073709551616) + carry) % 18446744073709551616) / 4294967296)) rfl <| w_sl 18 (v_t18) rfl <| w_sl 19 (.int .i64 t19) rfl <| w_sl 20 (.int .i64 t20) rfl <| w_sl 25 (v_t25) rfl <| w_sl 26 (.int .i64 t26) rfl <| w_sl 27 (.int .i64 (w64 (t27 + 1))) rfl <| hh.l1 hle he h_b h15 h_t18 h_t25
 ·
  refine w_else rfl (decide_eq_false c10) <| w_exit rfl <| w_region rfl <| w_d rfl (d_move (v := v_out) rfl) <| w_d rfl (d_move (v := .int .i64 i) rfl) <| w_d rfl (d_move (v := v_b) rfl) <| w_d rfl (d_len Tryz.underlying22 rfl h_b.th) <| w_d rfl (d_add (c := w64 (i + (b.length : Int))) rfl rfl rfl) <| w_d rfl (d_move (v := .int .u64 carry) rfl) <| w_d rfl (d_conv (c := (carry) % 4294967296) Tryz.underlying113 Tryz.underlying167 rfl rfl) ?_
  obtain ⟨c16, he⟩ := rq he
  refine w_d rfl (d_indexS (sz := 1) Tryz.underlying22 sz167 rfl h_out.shp rfl c16) <| w_a0 rfl (o_storeEl (kd := (Kd.int .u32)) (v := .int .u32 ((carry) % 4294967296)) (F := fun z_ => z_ :: L) sz167 rfl rfl rfl rfl h_out c16 (fun _ => .here)) ?_
  rintro _ _ _ ⟨i17, rfl, rfl, rfl, h18⟩
  refine w_done <| w_inBlock <| w_region rfl <| w_d rfl (d_add (c := w64 (t20 + 1)) rfl rfl rfl) <| w_d rfl (d_move (v := .int .i64 (w64 (t20 + 1))) rfl) <| w_done <| w_inLoop <| w_sl 1 (v_b) rfl <| w_sl 4 (.slice none 0 0) rfl <| w_sl 5 (v_out) rfl <| w_sl 18 (v_t18) rfl <| w_sl 19 (.int .i64 t19) rfl ?_
  refine w_sl 20 (.int .i64 (w64 (t20 + 1))) rfl <| hh.l0 hle he h_b h18 h_t18
theorem wide_times.ok : ∀ k, wide_times.OK (wide_times.hs k)
 | 0 => ⟨(by intros; exact nomatch (show none = some _ from by assumption)), (by intros; exact nomatch (show none = some _ from by assumption))⟩
 | k + 1 => ⟨wide_times.b0_ok (k := k) (wide_times.ok k), wide_times.b1_ok (k := k) (wide_times.ok k)⟩
theorem wide_times.calls (k : Nat) {H : Hp} {L : Items} {a : List Int} {b : List Int} {v0_a : Value} {v1_b : Value} {r : (List Int)} (he : wide_times.f k a b = some r) (h0_a : Src (Kd.int .u32) H L v0_a a) (h1_b : Src (Kd.int .u32) H L v1_b b) : Ct Tryz.prog 145 ⟨[v0_a, v1_b]⟩ H L (fun v H' L' => L = L' ∧ H.le H' ∧ wide_times.out r H' v) := by
 refine ct_out (O := wide_times.out r) ?_
 have hle : H.le H := .refl _
 have hh := wide_times.ok k
 unfold wide_times.f at he
 refine ct_enter (args := [v0_a, v1_b]) fn_145 rfl nt_145 rfl <| w_seq <| w_region rfl <| w_d rfl (d_assign (v := .slice none 0 0) rfl) <| w_done <| w_seq <| w_region rfl <| w_d rfl (d_move (v := v0_a) rfl) <| w_d rfl (d_len Tryz.underlying22 rfl h0_a) <| w_d rfl (d_move (v := v1_b) rfl) <| w_d rfl (d_len Tryz.underlying22 rfl h1_b) <| w_d rfl (d_add (c := w64 ((a.length : Int) + (b.length : Int))) rfl rfl rfl) ?_
 obtain ⟨c1, he⟩ := rq he
 refine w_a rfl (o_make' (kd := (Kd.int .u32)) (z0 := 0) Tryz.underlying22 ti167 (zp167 _) rfl rfl (by omega) (by omega) (by omega)) ?_
 rintro v2 _ _ ⟨i3, rfl, rfl, h4⟩
 refine w_d rfl (d_assign (v := v2) rfl) <| w_done <| w_seq <| w_seq <| w_region rfl <| w_d rfl (d_move (v := v0_a) rfl) <| w_d rfl (d_len Tryz.underlying22 rfl h0_a.th) <| w_d rfl (d_move (v := .int .i64 0) rfl) <| w_done <| w_block <| w_loop <| w_sl 1 (v1_b) rfl ?_
 refine w_sl 4 (.slice none 0 0) rfl <| w_sl 5 (v2) rfl <| w_sl 18 (v0_a) rfl <| w_sl 19 (.int .i64 (a.length : Int)) rfl <| w_sl 20 (.int .i64 0) rfl <| hh.l0 hle he h1_b h4 h0_a
/-! ### (radome/wide.Int).Mul -/
noncomputable def wide_Int_Mul.C : Code := (Tryz.f128.body).getD .skip
def wide_Int_Mul.out (r : wide_Int × (Option Int)) (H : Hp) (v : Value) : Prop := ∃ v0, v = .tuple ⟨[.agg ⟨[.bool r.1.f_neg, v0]⟩, errV 104 r.2]⟩ ∧ Ro (Kd.int .u32) H v0 r.1.f_w
theorem wide_Int_Mul.out_mono (r : wide_Int × (Option Int)) {H H' : Hp} {v : Value} (hle : H.le H') (h : wide_Int_Mul.out r H v) : wide_Int_Mul.out r H' v := by
 obtain ⟨v0, rfl, h0⟩ := h; exact ⟨v0, rfl, h0.mono hle⟩
abbrev wide_Int_Mul.R (H0 : Hp) (L : Items) (r : wide_Int × (Option Int)) : Value → Hp → Items → Prop := fun v H' L' => (∃ p, L' = p ++ L) ∧ H0.le H' ∧ wide_Int_Mul.out r H' v
noncomputable def wide_Int_Mul.f (k : Nat) (a : wide_Int) (b : wide_Int) : Option (wide_Int × (Option Int)) := (wide_times.f k a.f_w b.f_w).bind fun y4 => (wide_made.f k (!(a.f_neg == b.f_neg)) y4).bind fun y10 => some (y10.1, y10.2)
theorem wide_Int_Mul.mono : ∀ k y0 y1, LeO (wide_Int_Mul.f k y0 y1) (wide_Int_Mul.f (k + 1) y0 y1) := fun k _ _ => by unfold wide_Int_Mul.f; exact (LeO.bind (wide_times.mono k _ _) fun _ => LeO.bind (wide_made.mono k _ _) fun _ => LeO.refl _)
theorem wide_Int_Mul.calls (k : Nat) {H : Hp} {L : Items} {a : wide_Int} {b : wide_Int} {v0_a : Value} {v1_b : Value} {r : wide_Int × (Option Int)} (he : wide_Int_Mul.f k a b = some r) (h0_a : Ro (Kd.int .u32) H v0_a a.f_w) (h1_b : Ro (Kd.int .u32) H v1_b b.f_w) : Ct Tryz.prog 128 ⟨[.agg ⟨[.bool a.f_neg, v0_a]⟩, .agg ⟨[.bool b.f_neg, v1_b]⟩]⟩ H L (fun v H' L' => L = L' ∧ H.le H' ∧ wide_Int_Mul.out r H' v) := by
 refine ct_out (O := wide_Int_Mul.out r) ?_
 have hle : H.le H := .refl _
 unfold wide_Int_Mul.f at he
 refine ct_enter (args := [.agg ⟨[.bool a.f_neg, v0_a]⟩, .agg ⟨[.bool b.f_neg, v1_b]⟩]) fn_128 rfl nt_128 rfl <| w_seq <| w_region rfl <| w_a rfl (o_box (v := .agg ⟨[.bool a.f_neg, v0_a]⟩) rfl rfl) ?_
 rintro _ _ _ ⟨b1, rfl, rfl, rfl⟩
 refine w_a rfl (o_box (v := .agg ⟨[.bool b.f_neg, v1_b]⟩) rfl rfl) ?_
 rintro _ _ _ ⟨b2, rfl, rfl, rfl⟩
 refine w_a rfl (o_alloc zr24 rfl) ?_
 rintro _ _ _ ⟨b3, rfl, rfl, rfl⟩
 refine w_d rfl (d_assign (v := errV 104 none) rfl) <| w_done <| w_seq ?_
 obtain ⟨y4, hy5, he⟩ := Option.bind_eq_some_iff.1 he
 obtain ⟨y10, hy11, he⟩ := Option.bind_eq_some_iff.1 he
 refine w_drawn (p := 13) (tl := [13, 14]) [[], [(0, some 6)], [], [(2, some 8)], [(1, some 7), (3, some 9)], [], [(5, some 11)], [], [(7, some 13)], [(6, some 12), (8, some 14)], [(4, some 10), (9, some 15)], [(10, some 16)], [(10, some 16)]] [some 6, some 7, some 8, some 9, some 10, some 11, some 12, some 13, some 14, some 15, some 16, some 17, some 18] (fctF (.is (.pointer (some ⟨b1, 0, none⟩)) :: .is (.bool a.f_neg) :: .is (.pointer (some ⟨b2, 0, none⟩)) :: .is (.bool b.f_neg) :: .is (.bool (!(a.f_neg == b.f_neg))) :: .is (.pointer (some ⟨b1, 1, none⟩)) :: .is (v0_a) :: .is (.pointer (some ⟨b2, 1, none⟩)) :: .is (v1_b) :: .ro (Kd.int .u32) (y4) :: .of (wide_made.out y10) (wide_made.out_mono _) :: .of (fun H v => ∃ v16, v = .agg ⟨[.bool y10.1.f_neg, v16]⟩ ∧ Ro (Kd.int .u32) H v16 y10.1.f_w) (by rintro _ _ _ hle ⟨v16, rfl, h17⟩; exact ⟨v16, rfl, h17.mono hle⟩) :: .is (errV 104 y10.2) :: [])) (fun m_ => some (b3, .cells ⟨[.bool false, .slice none 0 0]⟩ 24 (0, 0)) :: some (b2, .cells ⟨[.bool b.f_neg, v1_b]⟩ 24 (0, 0)) :: some (b1, .cells ⟨[.bool a.f_neg, v0_a]⟩ 24 (0, 0)) :: L) (fun _ => none) mixed (by kernel_rfl) (by kernel_rfl) rfl (fct_mono (by kernel_rfl)) ⟨(fun H' m_ hH hm_ hu_ => depK_nil <| s_d (m_ 0) rfl (d_fld (o' := 0) Tryz.underlying24 rfl sz4 rfl rfl rfl) (by exact rfl) rfl), (by rintro H' m_ hH hm_ hu_ _ rfl; exact depK_nil <| s_d (m_ 1) rfl (d_loado (v := .bool a.f_neg) ty4 rfl (.there (.there .here)) rfl rfl rfl rfl) (by exact rfl) rfl), (fun H' m_ hH hm_ hu_ => depK_nil <| s_d (m_ 2) rfl (d_fld (o' := 0) Tryz.underlying24 rfl sz4 rfl rfl rfl) (by exact rfl) rfl), (by rintro H' m_ hH hm_ hu_ _ rfl; exact depK_nil <| s_d (m_ 3) rfl (d_loado (v := .bool b.f_neg) ty4 rfl (.there .here) rfl rfl rfl rfl) (by exact rfl) rfl), (by rintro H' m_ hH hm_ hu_ _ rfl _ rfl; exact depK_nil <| s_d (m_ 4) rfl (d_neb (a := a.f_neg) (b := b.f_neg) Tryz.underlying4 rfl rfl) (by exact rfl) rfl), (fun H' m_ hH hm_ hu_ => depK_nil <| s_d (m_ 5) rfl (d_fld (o' := 1) Tryz.underlying24 rfl sz22 rfl rfl rfl) (by exact rfl) rfl), (by rintro H' m_ hH hm_ hu_ _ rfl; exact depK_nil <| s_d (m_ 6) rfl (d_loado (v := v0_a) ty22 rfl (.there (.there .here)) rfl rfl rfl rfl) (by exact rfl) rfl), (fun H' m_ hH hm_ hu_ => depK_nil <| s_d (m_ 7) rfl (d_fld (o' := 1) Tryz.underlying24 rfl sz22 rfl rfl rfl) (by exact rfl) rfl), (by rintro H' m_ hH hm_ hu_ _ rfl; exact depK_nil <| s_d (m_ 8) rfl (d_loado (v := v1_b) ty22 rfl (.there .here) rfl rfl rfl rfl) (by exact rfl) rfl), (by rintro H' m_ hH hm_ hu_ _ rfl _ rfl; exact depK_nil <| s_k (m_ 9) rfl (o_call co145 (vs := [v0_a, v1_b]) rfl (wide_times.calls k hy5 ((h0_a.mono hH).src) ((h1_b.mono hH).src))) rfl (by rintro v_ H_ _ ⟨rfl, e_, h_⟩; exact ⟨rfl, e_, h_⟩)), (by rintro H' m_ hH hm_ hu_ _ rfl v8 (h9 : Ro (Kd.int .u32) H' v8 y4); exact depK_nil <| s_k (m_ 10) rfl (o_call co115 (vs := [.bool (!(a.f_neg == b.f_neg)), v8]) rfl (wide_made.calls k hy11 h9)) rfl (by rintro v_ H_ _ ⟨rfl, e_, h_⟩; exact ⟨rfl, e_, h_⟩)), (by rintro H' m_ hH hm_ hu_ _ ⟨v14, rfl, h15⟩; exact depK_nil <| s_d (m_ 11) rfl (d_ext (vs := [.agg ⟨[.bool y10.1.f_neg, v14]⟩, errV 104 y10.2]) rfl rfl) (by exact ⟨v14, rfl, h15⟩) rfl), (by rintro H' m_ hH hm_ hu_ _ ⟨v14, rfl, h15⟩; exact depK_nil <| s_d (m_ 12) rfl (d_ext (vs := [.agg ⟨[.bool y10.1.f_neg, v14]⟩, errV 104 y10.2]) rfl rfl) (by exact rfl) rfl), trivial⟩ ?_
 intro H18 e19
 rintro _ _ rfl _ _ rfl _ _ rfl _ _ rfl _ _ rfl _ _ rfl _ _ rfl _ _ rfl _ _ rfl v8 _ (h9 : Ro (Kd.int .u32) H18 v8 y4) _ _ ⟨v14, rfl, h15⟩ _ _ ⟨v16, rfl, h17⟩ _ _ rfl
 refine w_a0 rfl (o_store (v := .agg ⟨[.bool y10.1.f_neg, v16]⟩) sz24 rfl rfl rfl rfl (one_cons rfl (one_cons (h17.one) one_nil)) .here (.here (.here .done))) ?_
 rintro _ _ _ ⟨rfl, rfl, rfl⟩
 refine w_d rfl (d_assign (v := errV 104 y10.2) rfl) <| w_done ?_
 obtain rfl := Option.some.inj he
 refine w_return fn_128 rs_128 (.box (v := .agg ⟨[.bool y10.1.f_neg, v16]⟩) rfl ty24 rfl rfl .here rfl (.tmp (v := errV 104 y10.2) rfl .nil)) <| ⟨⟨[_, _, _], rfl⟩, hle.trans e19, ⟨v16, rfl, h17⟩⟩
/-! ### (radome/ratio.Ratio).cross -/
noncomputable def ratio_Ratio_cross.C : Code := (Tryz.f106.body).getD .skip
def ratio_Ratio_cross.out (r : wide_Int × wide_Int × (Option Int)) (H : Hp) (v : Value) : Prop := ∃ v0, ∃ v1, v = .tuple ⟨[.agg ⟨[.bool r.1.f_neg, v0]⟩, .agg ⟨[.bool r.2.1.f_neg, v1]⟩, errV 104 r.2.2]⟩ ∧ Ro (Kd.int .u32) H v0 r.1.f_w ∧ Ro (Kd.int .u32) H v1 r.2.1.f_w
theorem ratio_Ratio_cross.out_mono (r : wide_Int × wide_Int × (Option Int)) {H H' : Hp} {v : Value} (hle : H.le H') (h : ratio_Ratio_cross.out r H v) : ratio_Ratio_cross.out r H' v := by
 obtain ⟨v0, v1, rfl, h0, h1⟩ := h; exact ⟨v0, v1, rfl, h0.mono hle, h1.mono hle⟩
abbrev ratio_Ratio_cross.R (H0 : Hp) (L : Items) (r : wide_Int × wide_Int × (Option Int)) : Value → Hp → Items → Prop := fun v H' L' => (∃ p, L' = p ++ L) ∧ H0.le H' ∧ ratio_Ratio_cross.out r H' v
noncomputable def ratio_Ratio_cross.f (k : Nat) (a : ratio_Ratio) (b : ratio_Ratio) : Option (wide_Int × wide_Int × (Option Int)) := (ratio_Ratio_under.f k b).bind fun y5 => (wide_Int_Mul.f k a.f_n y5).bind fun y11 => if y11.2.isSome = true then (some (y11.1, y11.1, y11.2)) else ((ratio_Ratio_under.f k a).bind fun y31 => (wide_Int_Mul.f k b.f_n y31).bind fun y37 => some (y11.1, y37.1, y37.2))
theorem ratio_Ratio_cross.mono : ∀ k y0 y1, LeO (ratio_Ratio_cross.f k y0 y1) (ratio_Ratio_cross.f (k + 1) y0 y1) := fun k _ _ => by unfold ratio_Ratio_cross.f; exact (LeO.bind (ratio_Ratio_under.mono k _) fun _ => LeO.bind (wide_Int_Mul.mono k _ _) fun _ => LeO.ite (LeO.refl _) (LeO.bind (ratio_Ratio_under.mono k _) fun _ => LeO.bind (wide_Int_Mul.mono k _ _) fun _ => LeO.refl _))
theorem ratio_Ratio_cross.calls (k : Nat) {H : Hp} {L : Items} {a : ratio_Ratio} {b : ratio_Ratio} {v0_a : Value} {v1_a : Value} {v2_b : Value} {v3_b : Value} {r : wide_Int × wide_Int × (Option Int)} (he : ratio_Ratio_cross.f k a b = some r) (h0_a : Ro (Kd.int .u32) H v0_a a.f_n.f_w) (h1_a : Ro (Kd.int .u32) H v1_a a.f_d.f_w) (h2_b : Ro (Kd.int .u32) H v2_b b.f_n.f_w) (h3_b : Ro (Kd.int .u32) H v3_b b.f_d.f_w) : Ct Tryz.prog 106 ⟨[.agg ⟨[.bool a.f_n.f_neg, v0_a, .bool a.f_d.f_neg, v1_a]⟩, .agg ⟨[.bool b.f_n.f_neg, v2_b, .bool b.f_d.f_neg, v3_b]⟩]⟩ H L (fun v H' L' => L = L' ∧ H.le H' ∧ ratio_Ratio_cross.out r H' v) := by
 refine ct_out (O := ratio_Ratio_cross.out r) ?_
 have hle : H.le H := .refl _
 unfold ratio_Ratio_cross.f at he
 refine ct_enter (args := [.agg ⟨[.bool a.f_n.f_neg, v0_a, .bool a.f_d.f_neg, v1_a]⟩, .agg ⟨[.bool b.f_n.f_neg, v2_b, .bool b.f_d.f_neg, v3_b]⟩]) fn_106 rfl nt_106 rfl <| w_seq <| w_region rfl <| w_a rfl (o_box (v := .agg ⟨[.bool a.f_n.f_neg, v0_a, .bool a.f_d.f_neg, v1_a]⟩) rfl rfl) ?_
 rintro _ _ _ ⟨b1, rfl, rfl, rfl⟩
 refine w_a rfl (o_box (v := .agg ⟨[.bool b.f_n.f_neg, v2_b, .bool b.f_d.f_neg, v3_b]⟩) rfl rfl) ?_
 rintro _ _ _ ⟨b2, rfl, rfl, rfl⟩
 refine w_a rfl (o_alloc zr24 rfl) ?_
 rintro _ _ _ ⟨b3, rfl, rfl, rfl⟩
 refine w_a rfl (o_alloc zr24 rfl) ?_
 rintro _ _ _ ⟨b4, rfl, rfl, rfl⟩
 refine w_d rfl (d_assign (v := errV 104 none) rfl) <| w_done <| w_seq ?_
 obtain ⟨y5, hy6, he⟩ := Option.bind_eq_some_iff.1 he
 obtain ⟨y11, hy12, he⟩ := Option.bind_eq_some_iff.1 he
 refine w_none (?_)
 refine w_drawn (p := 10) (tl := [10]) [[], [(0, some 11)], [], [(2, some 13)], [(1, some 12), (3, some 14)], [(4, some 15)], [(5, some 10)], [(5, some 10)], [], [(6, some 16), (8, some 7)]] [some 11, some 12, some 13, some 14, some 15, some 10, some 16, some 17, some 7, none] (fctF (.is (.pointer (some ⟨b1, 0, none⟩)) :: .is (.agg ⟨[.bool a.f_n.f_neg, v0_a]⟩) :: .is (.agg ⟨[.bool b.f_n.f_neg, v2_b, .bool b.f_d.f_neg, v3_b]⟩) :: .of (ratio_Ratio_under.out y5) (ratio_Ratio_under.out_mono _) :: .of (wide_Int_Mul.out y11) (wide_Int_Mul.out_mono _) :: .of (fun H v => ∃ v17, v = .tuple ⟨[.agg ⟨[.bool y11.1.f_neg, v17]⟩, errV 104 y11.2]⟩ ∧ Ro (Kd.int .u32) H v17 y11.1.f_w) (by rintro _ _ _ hle ⟨v17, rfl, h18⟩; exact ⟨v17, rfl, h18.mono hle⟩) :: .of (fun H v => ∃ v19, v = .agg ⟨[.bool y11.1.f_neg, v19]⟩ ∧ Ro (Kd.int .u32) H v19 y11.1.f_w) (by rintro _ _ _ hle ⟨v19, rfl, h20⟩; exact ⟨v19, rfl, h20.mono hle⟩) :: .is (errV 104 y11.2) :: .box 24 [.bool false, .slice none 0 0] :: .st 8 (fun H bq_ itq_ => ∃ v22, itq_ = some (bq_, .cells ⟨[.bool y11.1.f_neg, v22]⟩ 24 (0, 0)) ∧ Ro (Kd.int .u32) H v22 y11.1.f_w) (by rintro _ _ _ _ hle ⟨v22, rfl, h23⟩; exact ⟨v22, rfl, h23.mono hle⟩) :: [])) (fun m_ => pk (m_ 9) (m_ 8) :: some (b4, .cells ⟨[.bool false, .slice none 0 0]⟩ 24 (0, 0)) :: some (b3, .cells ⟨[.bool false, .slice none 0 0]⟩ 24 (0, 0)) :: some (b2, .cells ⟨[.bool b.f_n.f_neg, v2_b, .bool b.f_d.f_neg, v3_b]⟩ 26 (0, 0)) :: some (b1, .cells ⟨[.bool a.f_n.f_neg, v0_a, .bool a.f_d.f_neg, v1_a]⟩ 26 (0, 0)) :: L) (fun _ => none) mixed (by kernel_rfl) (by kernel_rfl) rfl (fct_mono (by kernel_rfl)) ⟨(fun H' m_ hH hm_ hu_ => depK_nil <| s_d (m_ 0) rfl (d_fld (o' := 0) Tryz.underlying26 rfl sz24 rfl rfl rfl) (by exact rfl) rfl), (by rintro H' m_ hH hm_ hu_ _ rfl; exact depK_nil <| s_d (m_ 1) rfl (d_loado (v := .agg ⟨[.bool a.f_n.f_neg, v0_a]⟩) ty24 rfl (.there (.there (.there (.there .here)))) rfl rfl rfl rfl) (by exact rfl) rfl), (fun H' m_ hH hm_ hu_ => depK_nil <| s_d (m_ 2) rfl (d_loado (v := .agg ⟨[.bool b.f_n.f_neg, v2_b, .bool b.f_d.f_neg, v3_b]⟩) ty26 rfl (.there (.there (.there .here))) rfl rfl rfl rfl) (by exact rfl) rfl), (by rintro H' m_ hH hm_ hu_ _ rfl; exact depK_nil <| s_k (m_ 3) rfl (o_call co78 (vs := [.agg ⟨[.bool b.f_n.f_neg, v2_b, .bool b.f_d.f_neg, v3_b]⟩]) rfl (ratio_Ratio_under.calls k (a := b) hy6 (h2_b.mono hH) (h3_b.mono hH))) rfl (by rintro v_ H_ _ ⟨rfl, e_, h_⟩; exact ⟨rfl, e_, h_⟩)), (by rintro H' m_ hH hm_ hu_ _ rfl _ ⟨v9, rfl, h10⟩; exact depK_nil <| s_k (m_ 4) rfl (o_call co128 (vs := [.agg ⟨[.bool a.f_n.f_neg, v0_a]⟩, .agg ⟨[.bool y5.f_neg, v9]⟩]) rfl (wide_Int_Mul.calls k (a := a.f_n) (b := y5) hy12 (h0_a.mono hH) h10)) rfl (by rintro v_ H_ _ ⟨rfl, e_, h_⟩; exact ⟨rfl, e_, h_⟩)), (by rintro H' m_ hH hm_ hu_ _ ⟨v15, rfl, h16⟩; exact depK_nil <| s_d (m_ 5) rfl (d_move (v := .tuple ⟨[.agg ⟨[.bool y11.1.f_neg, v15]⟩, errV 104 y11.2]⟩) rfl) (by exact ⟨v15, rfl, h16⟩) rfl), (by rintro H' m_ hH hm_ hu_ _ ⟨v17, rfl, h18⟩; exact depK_nil <| s_d (m_ 6) rfl (d_ext (vs := [.agg ⟨[.bool y11.1.f_neg, v17]⟩, errV 104 y11.2]) rfl rfl) (by exact ⟨v17, rfl, h18⟩) rfl), (by rintro H' m_ hH hm_ hu_ _ ⟨v17, rfl, h18⟩; exact depK_nil <| s_d (m_ 7) rfl (d_ext (vs := [.agg ⟨[.bool y11.1.f_neg, v17]⟩, errV 104 y11.2]) rfl rfl) (by exact rfl) rfl), (fun H' m_ hH hm_ hu_ => depK_nil <| s_box hm_ rfl rfl (o_alloc zr24 rfl) rfl (fun _ => (pk_upd (hu_ 9 (by kernel_rfl)))) (by exact fun b_ => ⟨b_, rfl, rfl⟩)), (by rintro H' m_ hH hm_ hu_ _ ⟨v19, rfl, h20⟩ _ ⟨b21, rfl, hb21_⟩; exact depK_nil <| s_store2 (Λ' := fun z_ => z_ :: some (b4, .cells ⟨[.bool false, .slice none 0 0]⟩ 24 (0, 0)) :: some (b3, .cells ⟨[.bool false, .slice none 0 0]⟩ 24 (0, 0)) :: some (b2, .cells ⟨[.bool b.f_n.f_neg, v2_b, .bool b.f_d.f_neg, v3_b]⟩ 26 (0, 0)) :: some (b1, .cells ⟨[.bool a.f_n.f_neg, v0_a, .bool a.f_d.f_neg, v1_a]⟩ 26 (0, 0)) :: L) (some (b21, .cells ⟨[.bool y11.1.f_neg, v19]⟩ 24 (0, 0))) hm_ rfl hb21_ rfl (o_store (v := .agg ⟨[.bool y11.1.f_neg, v19]⟩) sz24 rfl rfl rfl rfl (one_cons rfl (one_cons (h20.one) one_nil)) .here (.here (.here .done))) rfl rfl (by exact ⟨rfl, v19, congrArg (fun b_ => (some (b_, Obj.cells ⟨[.bool y11.1.f_neg, v19]⟩ 24 (0, 0)) : Item')) (bof_eq hb21_).symm, h20⟩)), trivial⟩ ?_
 intro H26 e27
 rintro _ _ rfl _ _ rfl _ _ rfl _ _ ⟨v9, rfl, h10⟩ _ _ ⟨v15, rfl, h16⟩ _ _ ⟨v17, rfl, h18⟩ _ _ ⟨v19, rfl, h20⟩ _ _ rfl _ _ ⟨b21, rfl, rfl⟩ _ i24 ⟨rfl, v22, h25, h23⟩
 replace h25 : i24 = some (b21, .cells ⟨[.bool y11.1.f_neg, v22]⟩ 24 (0, 0)) := h25
 subst h25
 refine w_it (L' := some (b21, .cells ⟨[.bool y11.1.f_neg, v22]⟩ 24 (0, 0)) :: some (b4, .cells ⟨[.bool false, .slice none 0 0]⟩ 24 (0, 0)) :: some (b3, .cells ⟨[.bool false, .slice none 0 0]⟩ 24 (0, 0)) :: some (b2, .cells ⟨[.bool b.f_n.f_neg, v2_b, .bool b.f_d.f_neg, v3_b]⟩ 26 (0, 0)) :: some (b1, .cells ⟨[.bool a.f_n.f_neg, v0_a, .bool a.f_d.f_neg, v1_a]⟩ 26 (0, 0)) :: L) rfl <| w_d rfl (d_assign (v := errV 104 y11.2) rfl) <| w_done <| w_seq <| w_seq <| w_region rfl <| w_d rfl (d_move (v := errV 104 y11.2) rfl) <| w_d rfl (d_nenil (e := y11.2) Tryz.underlying30 rfl) <| w_done ?_
 rcases its he with ⟨c28, he⟩ | ⟨c28, he⟩
 ·
  refine w_then rfl c28 <| w_seq <| w_drawn (p := 5) (tl := [5]) [[], [], [], [(0, some 20)], [(1, some 21)]] [some 20, some 21, some 22, none, none] (fctF (.is (.agg ⟨[.bool y11.1.f_neg, v22]⟩) :: .is (.agg ⟨[.bool y11.1.f_neg, v22]⟩) :: .is (errV 104 y11.2) :: .itm (fun H itq_ => itq_ = some (b3, .cells ⟨[.bool y11.1.f_neg, v22]⟩ 24 (0, 0))) (by rintro _ _ _ hle rfl; exact rfl) :: .itm (fun H itq_ => itq_ = some (b4, .cells ⟨[.bool y11.1.f_neg, v22]⟩ 24 (0, 0))) (by rintro _ _ _ hle rfl; exact rfl) :: [])) (fun m_ => some (b21, .cells ⟨[.bool y11.1.f_neg, v22]⟩ 24 (0, 0)) :: m_ 4 :: m_ 3 :: some (b2, .cells ⟨[.bool b.f_n.f_neg, v2_b, .bool b.f_d.f_neg, v3_b]⟩ 26 (0, 0)) :: some (b1, .cells ⟨[.bool a.f_n.f_neg, v0_a, .bool a.f_d.f_neg, v1_a]⟩ 26 (0, 0)) :: L) (fun i_ => if i_ = 3 then some (b3, .cells ⟨[.bool false, .slice none 0 0]⟩ 24 (0, 0)) else if i_ = 4 then some (b4, .cells ⟨[.bool false, .slice none 0 0]⟩ 24 (0, 0)) else none) mixed (by kernel_rfl) (by kernel_rfl) rfl (fct_mono (by kernel_rfl)) ⟨(fun H' m_ hH hm_ hu_ => depK_nil <| s_d (m_ 0) rfl (d_loado (v := .agg ⟨[.bool y11.1.f_neg, v22]⟩) ty24 rfl .here rfl rfl rfl rfl) (by exact rfl) rfl), (fun H' m_ hH hm_ hu_ => depK_nil <| s_d (m_ 1) rfl (d_loado (v := .agg ⟨[.bool y11.1.f_neg, v22]⟩) ty24 rfl .here rfl rfl rfl rfl) (by exact rfl) rfl), (fun H' m_ hH hm_ hu_ => depK_nil <| s_d (m_ 2) rfl (d_move (v := errV 104 y11.2) rfl) (by exact rfl) rfl), (by rintro H' m_ hH hm_ hu_ _ rfl; exact depK_nil <| s_store (some (b3, .cells ⟨[.bool y11.1.f_neg, v22]⟩ 24 (0, 0))) hm_ rfl (o_store (v := .agg ⟨[.bool y11.1.f_neg, v22]⟩) sz24 rfl rfl rfl rfl (one_cons rfl (one_cons (h23.one) one_nil)) (.there (.there .here)) (.here (.here .done))) rfl (by exact ⟨rfl, rfl⟩)), (by rintro H' m_ hH hm_ hu_ _ rfl; exact depK_nil <| s_store (some (b4, .cells ⟨[.bool y11.1.f_neg, v22]⟩ 24 (0, 0))) hm_ rfl (o_store (v := .agg ⟨[.bool y11.1.f_neg, v22]⟩) sz24 rfl rfl rfl rfl (one_cons rfl (one_cons (h23.one) one_nil)) (.there .here) (.here (.here .done))) rfl (by exact ⟨rfl, rfl⟩)), trivial⟩ ?_
  intro H29 e30
  rintro _ _ rfl _ _ rfl _ _ rfl _ _ ⟨rfl, rfl⟩ _ _ ⟨rfl, rfl⟩
  refine w_it (L' := some (b21, .cells ⟨[.bool y11.1.f_neg, v22]⟩ 24 (0, 0)) :: some (b4, .cells ⟨[.bool y11.1.f_neg, v22]⟩ 24 (0, 0)) :: some (b3, .cells ⟨[.bool y11.1.f_neg, v22]⟩ 24 (0, 0)) :: some (b2, .cells ⟨[.bool b.f_n.f_neg, v2_b, .bool b.f_d.f_neg, v3_b]⟩ 26 (0, 0)) :: some (b1, .cells ⟨[.bool a.f_n.f_neg, v0_a, .bool a.f_d.f_neg, v1_a]⟩ 26 (0, 0)) :: L) rfl <| w_d rfl (d_assign (v := errV 104 y11.2) rfl) <| w_done ?_
  obtain rfl := Option.some.inj he
  refine w_return fn_106 rs_106 (.box (v := .agg ⟨[.bool y11.1.f_neg, v22]⟩) rfl ty24 rfl rfl (.there (.there .here)) rfl (.box (v := .agg ⟨[.bool y11.1.f_neg, v22]⟩) rfl ty24 rfl rfl (.there .here) rfl (.tmp (v := errV 104 y11.2) rfl .nil))) <| ⟨⟨[_, _, _, _, _], rfl⟩, hle.trans (e27.trans e30), ⟨v22, v22, rfl, (h23.mono e30), (h23.mono e30)⟩⟩
 ·
  refine w_else rfl (Bool.eq_false_iff.2 c28) <| w_skip <| w_seq ?_
  obtain ⟨y31, hy32, he⟩ := Option.bind_eq_some_iff.1 he
  obtain ⟨y37, hy38, he⟩ := Option.bind_eq_some_iff.1 he
  refine w_none (?_)
  refine w_drawn (p := 10) (tl := [10]) [[], [(0, some 24)], [], [(2, some 26)], [(1, some 25), (3, some 27)], [(4, some 28)], [(5, some 23)], [(5, some 23)], [], [(6, some 29), (8, some 9)]] [some 24, some 25, some 26, some 27, some 28, some 23, some 29, some 30, some 9, none] (fctF (.is (.pointer (some ⟨b2, 0, none⟩)) :: .is (.agg ⟨[.bool b.f_n.f_neg, v2_b]⟩) :: .is (.agg ⟨[.bool a.f_n.f_neg, v0_a, .bool a.f_d.f_neg, v1_a]⟩) :: .of (ratio_Ratio_under.out y31) (ratio_Ratio_under.out_mono _) :: .of (wide_Int_Mul.out y37) (wide_Int_Mul.out_mono _) :: .of (fun H v => ∃ v43, v = .tuple ⟨[.agg ⟨[.bool y37.1.f_neg, v43]⟩, errV 104 y37.2]⟩ ∧ Ro (Kd.int .u32) H v43 y37.1.f_w) (by rintro _ _ _ hle ⟨v43, rfl, h44⟩; exact ⟨v43, rfl, h44.mono hle⟩) :: .of (fun H v => ∃ v45, v = .agg ⟨[.bool y37.1.f_neg, v45]⟩ ∧ Ro (Kd.int .u32) H v45 y37.1.f_w) (by rintro _ _ _ hle ⟨v45, rfl, h46⟩; exact ⟨v45, rfl, h46.mono hle⟩) :: .is (errV 104 y37.2) :: .box 24 [.bool false, .slice none 0 0] :: .st 8 (fun H bq_ itq_ => ∃ v48, itq_ = some (bq_, .cells ⟨[.bool y37.1.f_neg, v48]⟩ 24 (0, 0)) ∧ Ro (Kd.int .u32) H v48 y37.1.f_w) (by rintro _ _ _ _ hle ⟨v48, rfl, h49⟩; exact ⟨v48, rfl, h49.mono hle⟩) :: [])) (fun m_ => pk (m_ 9) (m_ 8) :: some (b21, .cells ⟨[.bool y11.1.f_neg, v22]⟩ 24 (0, 0)) :: some (b4, .cells ⟨[.bool false, .slice none 0 0]⟩ 24 (0, 0)) :: some (b3, .cells ⟨[.bool false, .slice none 0 0]⟩ 24 (0, 0)) :: some (b2, .cells ⟨[.bool b.f_n.f_neg, v2_b, .bool b.f_d.f_neg, v3_b]⟩ 26 (0, 0)) :: some (b1, .cells ⟨[.bool a.f_n.f_neg, v0_a, .bool a.f_d.f_neg, v1_a]⟩ 26 (0, 0)) :: L) (fun _ => none) mixed (by kernel_rfl) (by kernel_rfl) rfl (fct_mono (by kernel_rfl)) ⟨(fun H' m_ hH hm_ hu_ => depK_nil <| s_d (m_ 0) rfl (d_fld (o' := 0) Tryz.underlying26 rfl sz24 rfl rfl rfl) (by exact rfl) rfl), (by rintro H' m_ hH hm_ hu_ _ rfl; exact depK_nil <| s_d (m_ 1) rfl (d_loado (v := .agg ⟨[.bool b.f_n.f_neg, v2_b]⟩) ty24 rfl (.there (.there (.there (.there .here)))) rfl rfl rfl rfl) (by exact rfl) rfl), (fun H' m_ hH hm_ hu_ => depK_nil <| s_d (m_ 2) rfl (d_loado (v := .agg ⟨[.bool a.f_n.f_neg, v0_a, .bool a.f_d.f_neg, v1_a]⟩) ty26 rfl (.there (.there (.there (.there (.there .here))))) rfl rfl rfl rfl) (by exact rfl) rfl), (by rintro H' m_ hH hm_ hu_ _ rfl; exact depK_nil <| s_k (m_ 3) rfl (o_call co78 (vs := [.agg ⟨[.bool a.f_n.f_neg, v0_a, .bool a.f_d.f_neg, v1_a]⟩]) rfl (ratio_Ratio_under.calls k (a := a) hy32 (h0_a.mono (e27.trans hH)) (h1_a.mono (e27.trans hH)))) rfl (by rintro v_ H_ _ ⟨rfl, e_, h_⟩; exact ⟨rfl, e_, h_⟩)), (by rintro H' m_ hH hm_ hu_ _ rfl _ ⟨v35, rfl, h36⟩; exact depK_nil <| s_k (m_ 4) rfl (o_call co128 (vs := [.agg ⟨[.bool b.f_n.f_neg, v2_b]⟩, .agg ⟨[.bool y31.f_neg, v35]⟩]) rfl (wide_Int_Mul.calls k (a := b.f_n) (b := y31) hy38 (h2_b.mono (e27.trans hH)) h36)) rfl (by rintro v_ H_ _ ⟨rfl, e_, h_⟩; exact ⟨rfl, e_, h_⟩)), (by rintro H' m_ hH hm_ hu_ _ ⟨v41, rfl, h42⟩; exact depK_nil <| s_d (m_ 5) rfl (d_move (v := .tuple ⟨[.agg ⟨[.bool y37.1.f_neg, v41]⟩, errV 104 y37.2]⟩) rfl) (by exact ⟨v41, rfl, h42⟩) rfl), (by rintro H' m_ hH hm_ hu_ _ ⟨v43, rfl, h44⟩; exact depK_nil <| s_d (m_ 6) rfl (d_ext (vs := [.agg ⟨[.bool y37.1.f_neg, v43]⟩, errV 104 y37.2]) rfl rfl) (by exact ⟨v43, rfl, h44⟩) rfl), (by rintro H' m_ hH hm_ hu_ _ ⟨v43, rfl, h44⟩; exact depK_nil <| s_d (m_ 7) rfl (d_ext (vs := [.agg ⟨[.bool y37.1.f_neg, v43]⟩, errV 104 y37.2]) rfl rfl) (by exact rfl) rfl), (fun H' m_ hH hm_ hu_ => depK_nil <| s_box hm_ rfl rfl (o_alloc zr24 rfl) rfl (fun _ => (pk_upd (hu_ 9 (by kernel_rfl)))) (by exact fun b_ => ⟨b_, rfl, rfl⟩)), (by rintro H' m_ hH hm_ hu_ _ ⟨v45, rfl, h46⟩ _ ⟨b47, rfl, hb47_⟩; exact depK_nil <| s_store2 (Λ' := fun z_ => z_ :: some (b21, .cells ⟨[.bool y11.1.f_neg, v22]⟩ 24 (0, 0)) :: some (b4, .cells ⟨[.bool false, .slice none 0 0]⟩ 24 (0, 0)) :: some (b3, .cells ⟨[.bool false, .slice none 0 0]⟩ 24 (0, 0)) :: some (b2, .cells ⟨[.bool b.f_n.f_neg, v2_b, .bool b.f_d.f_neg, v3_b]⟩ 26 (0, 0)) :: some (b1, .cells ⟨[.bool a.f_n.f_neg, v0_a, .bool a.f_d.f_neg, v1_a]⟩ 26 (0, 0)) :: L) (some (b47, .cells ⟨[.bool y37.1.f_neg, v45]⟩ 24 (0, 0))) hm_ rfl hb47_ rfl (o_store (v := .agg ⟨[.bool y37.1.f_neg, v45]⟩) sz24 rfl rfl rfl rfl (one_cons rfl (one_cons (h46.one) one_nil)) .here (.here (.here .done))) rfl rfl (by exact ⟨rfl, v45, congrArg (fun b_ => (some (b_, Obj.cells ⟨[.bool y37.1.f_neg, v45]⟩ 24 (0, 0)) : Item')) (bof_eq hb47_).symm, h46⟩)), trivial⟩ ?_
  intro H52 e53
  rintro _ _ rfl _ _ rfl _ _ rfl _ _ ⟨v35, rfl, h36⟩ _ _ ⟨v41, rfl, h42⟩ _ _ ⟨v43, rfl, h44⟩ _ _ ⟨v45, rfl, h46⟩ _ _ rfl _ _ ⟨b47, rfl, rfl⟩ _ i50 ⟨rfl, v48, h51, h49⟩
  replace h51 : i50 = some (b47, .cells ⟨[.bool y37.1.f_neg, v48]⟩ 24 (0, 0)) := h51
  subst h51
  refine w_it (L' := some (b47, .cells ⟨[.bool y37.1.f_neg, v48]⟩ 24 (0, 0)) :: some (b21, .cells ⟨[.bool y11.1.f_neg, v22]⟩ 24 (0, 0)) :: some (b4, .cells ⟨[.bool false, .slice none 0 0]⟩ 24 (0, 0)) :: some (b3, .cells ⟨[.bool false, .slice none 0 0]⟩ 24 (0, 0)) :: some (b2, .cells ⟨[.bool b.f_n.f_neg, v2_b, .bool b.f_d.f_neg, v3_b]⟩ 26 (0, 0)) :: some (b1, .cells ⟨[.bool a.f_n.f_neg, v0_a, .bool a.f_d.f_neg, v1_a]⟩ 26 (0, 0)) :: L) rfl <| w_d rfl (d_assign (v := errV 104 y37.2) rfl) <| w_done <| w_seq <| w_drawn (p := 5) (tl := [5]) [[], [], [], [(0, some 31)], [(1, some 32)]] [some 31, some 32, some 33, none, none] (fctF (.is (.agg ⟨[.bool y11.1.f_neg, v22]⟩) :: .is (.agg ⟨[.bool y37.1.f_neg, v48]⟩) :: .is (errV 104 y37.2) :: .itm (fun H itq_ => itq_ = some (b3, .cells ⟨[.bool y11.1.f_neg, v22]⟩ 24 (0, 0))) (by rintro _ _ _ hle rfl; exact rfl) :: .itm (fun H itq_ => itq_ = some (b4, .cells ⟨[.bool y37.1.f_neg, v48]⟩ 24 (0, 0))) (by rintro _ _ _ hle rfl; exact rfl) :: [])) (fun m_ => some (b47, .cells ⟨[.bool y37.1.f_neg, v48]⟩ 24 (0, 0)) :: some (b21, .cells ⟨[.bool y11.1.f_neg, v22]⟩ 24 (0, 0)) :: m_ 4 :: m_ 3 :: some (b2, .cells ⟨[.bool b.f_n.f_neg, v2_b, .bool b.f_d.f_neg, v3_b]⟩ 26 (0, 0)) :: some (b1, .cells ⟨[.bool a.f_n.f_neg, v0_a, .bool a.f_d.f_neg, v1_a]⟩ 26 (0, 0)) :: L) (fun i_ => if i_ = 3 then some (b3, .cells ⟨[.bool false, .slice none 0 0]⟩ 24 (0, 0)) else if i_ = 4 then some (b4, .cells ⟨[.bool false, .slice none 0 0]⟩ 24 (0, 0)) else none) mixed (by kernel_rfl) (by kernel_rfl) rfl (fct_mono (by kernel_rfl)) ⟨(fun H' m_ hH hm_ hu_ => depK_nil <| s_d (m_ 0) rfl (d_loado (v := .agg ⟨[.bool y11.1.f_neg, v22]⟩) ty24 rfl (.there .here) rfl rfl rfl rfl) (by exact rfl) rfl), (fun H' m_ hH hm_ hu_ => depK_nil <| s_d (m_ 1) rfl (d_loado (v := .agg ⟨[.bool y37.1.f_neg, v48]⟩) ty24 rfl .here rfl rfl rfl rfl) (by exact rfl) rfl), (fun H' m_ hH hm_ hu_ => depK_nil <| s_d (m_ 2) rfl (d_move (v := errV 104 y37.2) rfl) (by exact rfl) rfl), (by rintro H' m_ hH hm_ hu_ _ rfl; exact depK_nil <| s_store (some (b3, .cells ⟨[.bool y11.1.f_neg, v22]⟩ 24 (0, 0))) hm_ rfl (o_store (v := .agg ⟨[.bool y11.1.f_neg, v22]⟩) sz24 rfl rfl rfl rfl (one_cons rfl (one_cons (h23.one) one_nil)) (.there (.there (.there .here))) (.here (.here .done))) rfl (by exact ⟨rfl, rfl⟩)), (by rintro H' m_ hH hm_ hu_ _ rfl; exact depK_nil <| s_store (some (b4, .cells ⟨[.bool y37.1.f_neg, v48]⟩ 24 (0, 0))) hm_ rfl (o_store (v := .agg ⟨[.bool y37.1.f_neg, v48]⟩) sz24 rfl rfl rfl rfl (one_cons rfl (one_cons (h49.one) one_nil)) (.there (.there .here)) (.here (.here .done))) rfl (by exact ⟨rfl, rfl⟩)), trivial⟩ ?_
  intro H54 e55
  rintro _ _ rfl _ _ rfl _ _ rfl _ _ ⟨rfl, rfl⟩ _ _ ⟨rfl, rfl⟩
  refine w_it (L' := some (b47, .cells ⟨[.bool y37.1.f_neg, v48]⟩ 24 (0, 0)) :: some (b21, .cells ⟨[.bool y11.1.f_neg, v22]⟩ 24 (0, 0)) :: some (b4, .cells ⟨[.bool y37.1.f_neg, v48]⟩ 24 (0, 0)) :: some (b3, .cells ⟨[.bool y11.1.f_neg, v22]⟩ 24 (0, 0)) :: some (b2, .cells ⟨[.bool b.f_n.f_neg, v2_b, .bool b.f_d.f_neg, v3_b]⟩ 26 (0, 0)) :: some (b1, .cells ⟨[.bool a.f_n.f_neg, v0_a, .bool a.f_d.f_neg, v1_a]⟩ 26 (0, 0)) :: L) rfl <| w_d rfl (d_assign (v := errV 104 y37.2) rfl) <| w_done ?_
  obtain rfl := Option.some.inj he
  refine w_return fn_106 rs_106 (.box (v := .agg ⟨[.bool y11.1.f_neg, v22]⟩) rfl ty24 rfl rfl (.there (.there (.there .here))) rfl (.box (v := .agg ⟨[.bool y37.1.f_neg, v48]⟩) rfl ty24 rfl rfl (.there (.there .here)) rfl (.tmp (v := errV 104 y37.2) rfl .nil))) <| ⟨⟨[_, _, _, _, _, _], rfl⟩, hle.trans ((e27.trans e53).trans e55), ⟨v22, v48, rfl, (h23.mono (e53.trans e55)), (h49.mono e55)⟩⟩
/-! ### (radome/ratio.Ratio).joined -/
noncomputable def ratio_Ratio_joined.C : Code := (Tryz.f76.body).getD .skip
def ratio_Ratio_joined.out (r : ratio_Ratio × (Option Int)) (H : Hp) (v : Value) : Prop := ∃ v0, ∃ v1, v = .tuple ⟨[.agg ⟨[.bool r.1.f_n.f_neg, v0, .bool r.1.f_d.f_neg, v1]⟩, errV 104 r.2]⟩ ∧ Ro (Kd.int .u32) H v0 r.1.f_n.f_w ∧ Ro (Kd.int .u32) H v1 r.1.f_d.f_w
theorem ratio_Ratio_joined.out_mono (r : ratio_Ratio × (Option Int)) {H H' : Hp} {v : Value} (hle : H.le H') (h : ratio_Ratio_joined.out r H v) : ratio_Ratio_joined.out r H' v := by
 obtain ⟨v0, v1, rfl, h0, h1⟩ := h; exact ⟨v0, v1, rfl, h0.mono hle, h1.mono hle⟩
abbrev ratio_Ratio_joined.R (H0 : Hp) (L : Items) (r : ratio_Ratio × (Option Int)) : Value → Hp → Items → Prop := fun v H' L' => (∃ p, L' = p ++ L) ∧ H0.le H' ∧ ratio_Ratio_joined.out r H' v
noncomputable def ratio_Ratio_joined.j1 (k : Nat)  (a_0 : Bool) (a_1 : List Int) (a_2 : Bool) (a_3 : List Int) (b_0 : Bool) (b_1 : List Int) (b_2 : Bool) (b_3 : List Int) (x_0 : Bool) (x_1 : List Int) (y_0 : Bool) (y_1 : List Int) : Option (ratio_Ratio × (Option Int)) := (wide_Int_Add.f k (⟨x_0, x_1⟩ : wide_Int) (⟨y_0, y_1⟩ : wide_Int)).bind fun y22 => if y22.2.isSome = true then (some ((⟨(⟨false, []⟩ : wide_Int), (⟨false, []⟩ : wide_Int)⟩ : ratio_Ratio), y22.2)) else ((ratio_Ratio_under.f k (⟨(⟨a_0, a_1⟩ : wide_Int), (⟨a_2, a_3⟩ : wide_Int)⟩ : ratio_Ratio)).bind fun y30 => (ratio_Ratio_under.f k (⟨(⟨b_0, b_1⟩ : wide_Int), (⟨b_2, b_3⟩ : wide_Int)⟩ : ratio_Ratio)).bind fun y36 => (wide_Int_Mul.f k y30 y36).bind fun y42 => if y42.2.isSome = true then (some ((⟨(⟨false, []⟩ : wide_Int), (⟨false, []⟩ : wide_Int)⟩ : ratio_Ratio), y42.2)) else ((ratio_Of.f k y22.1 y42.1).bind fun y60 => some (y60.1, y60.2)))
noncomputable def ratio_Ratio_joined.f (k : Nat) (a : ratio_Ratio) (b : ratio_Ratio) (less : Bool) : Option (ratio_Ratio × (Option Int)) := (ratio_Ratio_cross.f k a b).bind fun y4 => if y4.2.2.isSome = true then (some ((⟨(⟨false, []⟩ : wide_Int), (⟨false, []⟩ : wide_Int)⟩ : ratio_Ratio), y4.2.2)) else (if less = true then ((wide_Int_Neg.f k y4.2.1).bind fun y16 => ratio_Ratio_joined.j1 k a.f_n.f_neg a.f_n.f_w a.f_d.f_neg a.f_d.f_w b.f_n.f_neg b.f_n.f_w b.f_d.f_neg b.f_d.f_w y4.1.f_neg y4.1.f_w y16.f_neg y16.f_w) else (ratio_Ratio_joined.j1 k a.f_n.f_neg a.f_n.f_w a.f_d.f_neg a.f_d.f_w b.f_n.f_neg b.f_n.f_w b.f_d.f_neg b.f_d.f_w y4.1.f_neg y4.1.f_w y4.2.1.f_neg y4.2.1.f_w))
theorem ratio_Ratio_joined.j1_mono {k : Nat} : ∀ y0 y1 y2 y3 y4 y5 y6 y7 y8 y9 y10 y11, LeO (ratio_Ratio_joined.j1 k y0 y1 y2 y3 y4 y5 y6 y7 y8 y9 y10 y11) (ratio_Ratio_joined.j1 (k + 1) y0 y1 y2 y3 y4 y5 y6 y7 y8 y9 y10 y11) := fun _ _ _ _ _ _ _ _ _ _ _ _ => (LeO.bind (wide_Int_Add.mono k _ _) fun _ => LeO.ite (LeO.refl _) (LeO.bind (ratio_Ratio_under.mono k _) fun _ => LeO.bind (ratio_Ratio_under.mono k _) fun _ => LeO.bind (wide_Int_Mul.mono k _ _) fun _ => LeO.ite (LeO.refl _) (LeO.bind (ratio_Of.mono k _ _) fun _ => LeO.refl _)))
theorem ratio_Ratio_joined.mono : ∀ k y0 y1 y2, LeO (ratio_Ratio_joined.f k y0 y1 y2) (ratio_Ratio_joined.f (k + 1) y0 y1 y2) := fun k _ _ _ => by unfold ratio_Ratio_joined.f; exact (LeO.bind (ratio_Ratio_cross.mono k _ _) fun _ => LeO.ite (LeO.refl _) (LeO.ite (LeO.bind (wide_Int_Neg.mono k _) fun _ => ratio_Ratio_joined.j1_mono (k := k)  _ _ _ _ _ _ _ _ _ _ _ _) (ratio_Ratio_joined.j1_mono (k := k)  _ _ _ _ _ _ _ _ _ _ _ _)))
noncomputable def ratio_Ratio_joined.Kj1 : List Item := .code (seqR (seqR (seqR (seqR ratio_Ratio_joined.C)))) :: []
theorem ratio_Ratio_joined.j1_ok {k : Nat} {H0 H : Hp} {L : Items} {r : ratio_Ratio × (Option Int)} {jk_ : Nat → Value} {a_0 : Bool} {a_1 : List Int} {a_2 : Bool} {a_3 : List Int} {b_0 : Bool} {b_1 : List Int} {b_2 : Bool} {b_3 : List Int} {x_0 : Bool} {x_1 : List Int} {y_0 : Bool} {y_1 : List Int} {v_a_1 : Value} {v_a_3 : Value} {v_b_1 : Value} {v_b_3 : Value} {v_x_1 : Value} {v_y_1 : Value} {b_a : Nat} {b_b : Nat} {b_t6 : Nat} {b_x : Nat} {b_y : Nat} (hle : H0.le H) (he : ratio_Ratio_joined.j1 k a_0 a_1 a_2 a_3 b_0 b_1 b_2 b_3 x_0 x_1 y_0 y_1 = some r) (h_a_1 : Ro (Kd.int .u32) H v_a_1 a_1) (h_a_3 : Ro (Kd.int .u32) H v_a_3 a_3) (h_b_1 : Ro (Kd.int .u32) H v_b_1 b_1) (h_b_3 : Ro (Kd.int .u32) H v_b_3 b_3) (h_x_1 : Ro (Kd.int .u32) H v_x_1 x_1) (h_y_1 : Ro (Kd.int .u32) H v_y_1 y_1) : Wp Tryz.prog 76 54 ratio_Ratio_joined.Kj1 (upd (upd (upd (upd (upd (upd jk_ 3 (.pointer (some ⟨b_a, 0, none⟩))) 4 (.pointer (some ⟨b_b, 0, none⟩))) 6 (.pointer (some ⟨b_t6, 0, none⟩))) 7 (errV 104 none)) 8 (.pointer (some ⟨b_x, 0, none⟩))) 9 (.pointer (some ⟨b_y, 0, none⟩))) H (some (b_y, .cells ⟨[.bool y_0, v_y_1]⟩ 24 (0, 0)) :: some (b_x, .cells ⟨[.bool x_0, v_x_1]⟩ 24 (0, 0)) :: some (b_t6, .cells ⟨[.bool false, .slice none 0 0, .bool false, .slice none 0 0]⟩ 26 (0, 0)) :: some (b_b, .cells ⟨[.bool b_0, v_b_1, .bool b_2, v_b_3]⟩ 26 (0, 0)) :: some (b_a, .cells ⟨[.bool a_0, v_a_1, .bool a_2, v_a_3]⟩ 26 (0, 0)) :: L) (ratio_Ratio_joined.R H0 L r) := by
 unfold ratio_Ratio_joined.j1 at he
 unfold ratio_Ratio_joined.Kj1
 refine w_seq <| w_region rfl <| w_d rfl (d_loado (v := .agg ⟨[.bool x_0, v_x_1]⟩) ty24 rfl (.there .here) rfl rfl rfl rfl) <| w_d rfl (d_loado (v := .agg ⟨[.bool y_0, v_y_1]⟩) ty24 rfl .here rfl rfl rfl rfl) ?_
 obtain ⟨y22, hy23, he⟩ := Option.bind_eq_some_iff.1 he
 refine w_a rfl (o_call co127 (vs := [.agg ⟨[.bool x_0, v_x_1]⟩, .agg ⟨[.bool y_0, v_y_1]⟩]) rfl (wide_Int_Add.calls k (a := ⟨x_0, x_1⟩) (b := ⟨y_0, y_1⟩) hy23 h_x_1 h_y_1)) ?_
 rintro _ H24 _ ⟨rfl, e25, ⟨v26, rfl, h27⟩⟩
 refine w_d rfl (d_move (v := .tuple ⟨[.agg ⟨[.bool y22.1.f_neg, v26]⟩, errV 104 y22.2]⟩) rfl) <| w_d rfl (d_ext (vs := [.agg ⟨[.bool y22.1.f_neg, v26]⟩, errV 104 y22.2]) rfl rfl) <| w_d rfl (d_ext (vs := [.agg ⟨[.bool y22.1.f_neg, v26]⟩, errV 104 y22.2]) rfl rfl) <| w_a rfl (o_alloc zr24 rfl) ?_
 rintro _ _ _ ⟨b28, rfl, rfl, rfl⟩
 refine w_a0 rfl (o_store (v := .agg ⟨[.bool y22.1.f_neg, v26]⟩) sz24 rfl rfl rfl rfl (one_cons rfl (one_cons (h27.one) one_nil)) .here (.here (.here .done))) ?_
 rintro _ _ _ ⟨rfl, rfl, rfl⟩
 refine w_d rfl (d_assign (v := errV 104 y22.2) rfl) <| w_done <| w_seq <| w_seq <| w_region rfl <| w_d rfl (d_move (v := errV 104 y22.2) rfl) <| w_d rfl (d_nenil (e := y22.2) Tryz.underlying30 rfl) <| w_done ?_
 rcases its he with ⟨c29, he⟩ | ⟨c29, he⟩
 ·
  refine w_then rfl c29 <| w_seq <| w_region rfl <| w_d rfl (d_build (cs' := [.bool false, .slice none 0 0, .bool false, .slice none 0 0]) Tryz.underlying26 zr26 rfl (by kernel_rfl) (parts := []) rfl .nil) <| w_d rfl (d_move (v := errV 104 y22.2) rfl) <| w_a0 rfl (o_store (v := .agg ⟨[.bool false, .slice none 0 0, .bool false, .slice none 0 0]⟩) sz26 rfl rfl rfl rfl (one_cons rfl (one_cons rfl (one_cons rfl (one_cons rfl one_nil)))) (.there (.there (.there .here))) (.here (.here (.here (.here .done))))) ?_
  rintro _ _ _ ⟨rfl, rfl, rfl⟩
  refine w_d rfl (d_assign (v := errV 104 y22.2) rfl) <| w_done ?_
  obtain rfl := Option.some.inj he
  refine w_return fn_76 rs_76 (.box (v := .agg ⟨[.bool false, .slice none 0 0, .bool false, .slice none 0 0]⟩) rfl ty26 rfl rfl (.there (.there (.there .here))) rfl (.tmp (v := errV 104 y22.2) rfl .nil)) <| ⟨⟨[_, _, _, _, _, _], rfl⟩, hle.trans e25, ⟨.slice none 0 0, .slice none 0 0, rfl, (ro_nil _ _), (ro_nil _ _)⟩⟩
 ·
  refine w_else rfl (Bool.eq_false_iff.2 c29) <| w_skip <| w_seq ?_
  obtain ⟨y30, hy31, he⟩ := Option.bind_eq_some_iff.1 he
  obtain ⟨y36, hy37, he⟩ := Option.bind_eq_some_iff.1 he
  obtain ⟨y42, hy43, he⟩ := Option.bind_eq_some_iff.1 he
  refine w_none (?_)
  refine w_drawn (p := 10) (tl := [10]) [[], [(0, some 38)], [], [(2, some 40)], [(1, some 39), (3, some 41)], [(4, some 42)], [(5, some 37)], [(5, some 37)], [], [(6, some 43), (8, some 12)]] [some 38, some 39, some 40, some 41, some 42, some 37, some 43, some 44, some 12, none] (fctF (.is (.agg ⟨[.bool a_0, v_a_1, .bool a_2, v_a_3]⟩) :: .of (ratio_Ratio_under.out y30) (ratio_Ratio_under.out_mono _) :: .is (.agg ⟨[.bool b_0, v_b_1, .bool b_2, v_b_3]⟩) :: .of (ratio_Ratio_under.out y36) (ratio_Ratio_under.out_mono _) :: .of (wide_Int_Mul.out y42) (wide_Int_Mul.out_mono _) :: .of (fun H v => ∃ v48, v = .tuple ⟨[.agg ⟨[.bool y42.1.f_neg, v48]⟩, errV 104 y42.2]⟩ ∧ Ro (Kd.int .u32) H v48 y42.1.f_w) (by rintro _ _ _ hle ⟨v48, rfl, h49⟩; exact ⟨v48, rfl, h49.mono hle⟩) :: .of (fun H v => ∃ v50, v = .agg ⟨[.bool y42.1.f_neg, v50]⟩ ∧ Ro (Kd.int .u32) H v50 y42.1.f_w) (by rintro _ _ _ hle ⟨v50, rfl, h51⟩; exact ⟨v50, rfl, h51.mono hle⟩) :: .is (errV 104 y42.2) :: .box 24 [.bool false, .slice none 0 0] :: .st 8 (fun H bq_ itq_ => ∃ v53, itq_ = some (bq_, .cells ⟨[.bool y42.1.f_neg, v53]⟩ 24 (0, 0)) ∧ Ro (Kd.int .u32) H v53 y42.1.f_w) (by rintro _ _ _ _ hle ⟨v53, rfl, h54⟩; exact ⟨v53, rfl, h54.mono hle⟩) :: [])) (fun m_ => pk (m_ 9) (m_ 8) :: some (b28, .cells ⟨[.bool y22.1.f_neg, v26]⟩ 24 (0, 0)) :: some (b_y, .cells ⟨[.bool y_0, v_y_1]⟩ 24 (0, 0)) :: some (b_x, .cells ⟨[.bool x_0, v_x_1]⟩ 24 (0, 0)) :: some (b_t6, .cells ⟨[.bool false, .slice none 0 0, .bool false, .slice none 0 0]⟩ 26 (0, 0)) :: some (b_b, .cells ⟨[.bool b_0, v_b_1, .bool b_2, v_b_3]⟩ 26 (0, 0)) :: some (b_a, .cells ⟨[.bool a_0, v_a_1, .bool a_2, v_a_3]⟩ 26 (0, 0)) :: L) (fun _ => none) mixed (by kernel_rfl) (by kernel_rfl) rfl (fct_mono (by kernel_rfl)) ⟨(fun H' m_ hH hm_ hu_ => depK_nil <| s_d (m_ 0) rfl (d_loado (v := .agg ⟨[.bool a_0, v_a_1, .bool a_2, v_a_3]⟩) ty26 rfl (.there (.there (.there (.there (.there (.there .here)))))) rfl rfl rfl rfl) (by exact rfl) rfl), (by rintro H' m_ hH hm_ hu_ _ rfl; exact depK_nil <| s_k (m_ 1) rfl (o_call co78 (vs := [.agg ⟨[.bool a_0, v_a_1, .bool a_2, v_a_3]⟩]) rfl (ratio_Ratio_under.calls k (a := ⟨⟨a_0, a_1⟩, ⟨a_2, a_3⟩⟩) hy31 (h_a_1.mono (e25.trans hH)) (h_a_3.mono (e25.trans hH)))) rfl (by rintro v_ H_ _ ⟨rfl, e_, h_⟩; exact ⟨rfl, e_, h_⟩)), (fun H' m_ hH hm_ hu_ => depK_nil <| s_d (m_ 2) rfl (d_loado (v := .agg ⟨[.bool b_0, v_b_1, .bool b_2, v_b_3]⟩) ty26 rfl (.there (.there (.there (.there (.there .here))))) rfl rfl rfl rfl) (by exact rfl) rfl), (by rintro H' m_ hH hm_ hu_ _ rfl; exact depK_nil <| s_k (m_ 3) rfl (o_call co78 (vs := [.agg ⟨[.bool b_0, v_b_1, .bool b_2, v_b_3]⟩]) rfl (ratio_Ratio_under.calls k (a := ⟨⟨b_0, b_1⟩, ⟨b_2, b_3⟩⟩) hy37 (h_b_1.mono (e25.trans hH)) (h_b_3.mono (e25.trans hH)))) rfl (by rintro v_ H_ _ ⟨rfl, e_, h_⟩; exact ⟨rfl, e_, h_⟩)), (by rintro H' m_ hH hm_ hu_ _ ⟨v34, rfl, h35⟩ _ ⟨v40, rfl, h41⟩; exact depK_nil <| s_k (m_ 4) rfl (o_call co128 (vs := [.agg ⟨[.bool y30.f_neg, v34]⟩, .agg ⟨[.bool y36.f_neg, v40]⟩]) rfl (wide_Int_Mul.calls k (a := y30) (b := y36) hy43 h35 h41)) rfl (by rintro v_ H_ _ ⟨rfl, e_, h_⟩; exact ⟨rfl, e_, h_⟩)), (by rintro H' m_ hH hm_ hu_ _ ⟨v46, rfl, h47⟩; exact depK_nil <| s_d (m_ 5) rfl (d_move (v := .tuple ⟨[.agg ⟨[.bool y42.1.f_neg, v46]⟩, errV 104 y42.2]⟩) rfl) (by exact ⟨v46, rfl, h47⟩) rfl), (by rintro H' m_ hH hm_ hu_ _ ⟨v48, rfl, h49⟩; exact depK_nil <| s_d (m_ 6) rfl (d_ext (vs := [.agg ⟨[.bool y42.1.f_neg, v48]⟩, errV 104 y42.2]) rfl rfl) (by exact ⟨v48, rfl, h49⟩) rfl), (by rintro H' m_ hH hm_ hu_ _ ⟨v48, rfl, h49⟩; exact depK_nil <| s_d (m_ 7) rfl (d_ext (vs := [.agg ⟨[.bool y42.1.f_neg, v48]⟩, errV 104 y42.2]) rfl rfl) (by exact rfl) rfl), (fun H' m_ hH hm_ hu_ => depK_nil <| s_box hm_ rfl rfl (o_alloc zr24 rfl) rfl (fun _ => (pk_upd (hu_ 9 (by kernel_rfl)))) (by exact fun b_ => ⟨b_, rfl, rfl⟩)), (by rintro H' m_ hH hm_ hu_ _ ⟨v50, rfl, h51⟩ _ ⟨b52, rfl, hb52_⟩; exact depK_nil <| s_store2 (Λ' := fun z_ => z_ :: some (b28, .cells ⟨[.bool y22.1.f_neg, v26]⟩ 24 (0, 0)) :: some (b_y, .cells ⟨[.bool y_0, v_y_1]⟩ 24 (0, 0)) :: some (b_x, .cells ⟨[.bool x_0, v_x_1]⟩ 24 (0, 0)) :: some (b_t6, .cells ⟨[.bool false, .slice none 0 0, .bool false, .slice none 0 0]⟩ 26 (0, 0)) :: some (b_b, .cells ⟨[.bool b_0, v_b_1, .bool b_2, v_b_3]⟩ 26 (0, 0)) :: some (b_a, .cells ⟨[.bool a_0, v_a_1, .bool a_2, v_a_3]⟩ 26 (0, 0)) :: L) (some (b52, .cells ⟨[.bool y42.1.f_neg, v50]⟩ 24 (0, 0))) hm_ rfl hb52_ rfl (o_store (v := .agg ⟨[.bool y42.1.f_neg, v50]⟩) sz24 rfl rfl rfl rfl (one_cons rfl (one_cons (h51.one) one_nil)) .here (.here (.here .done))) rfl rfl (by exact ⟨rfl, v50, congrArg (fun b_ => (some (b_, Obj.cells ⟨[.bool y42.1.f_neg, v50]⟩ 24 (0, 0)) : Item')) (bof_eq hb52_).symm, h51⟩)), trivial⟩ ?_
  intro H57 e58
  rintro _ _ rfl _ _ ⟨v34, rfl, h35⟩ _ _ rfl _ _ ⟨v40, rfl, h41⟩ _ _ ⟨v46, rfl, h47⟩ _ _ ⟨v48, rfl, h49⟩ _ _ ⟨v50, rfl, h51⟩ _ _ rfl _ _ ⟨b52, rfl, rfl⟩ _ i55 ⟨rfl, v53, h56, h54⟩
  replace h56 : i55 = some (b52, .cells ⟨[.bool y42.1.f_neg, v53]⟩ 24 (0, 0)) := h56
  subst h56
  refine w_it (L' := some (b52, .cells ⟨[.bool y42.1.f_neg, v53]⟩ 24 (0, 0)) :: some (b28, .cells ⟨[.bool y22.1.f_neg, v26]⟩ 24 (0, 0)) :: some (b_y, .cells ⟨[.bool y_0, v_y_1]⟩ 24 (0, 0)) :: some (b_x, .cells ⟨[.bool x_0, v_x_1]⟩ 24 (0, 0)) :: some (b_t6, .cells ⟨[.bool false, .slice none 0 0, .bool false, .slice none 0 0]⟩ 26 (0, 0)) :: some (b_b, .cells ⟨[.bool b_0, v_b_1, .bool b_2, v_b_3]⟩ 26 (0, 0)) :: some (b_a, .cells ⟨[.bool a_0, v_a_1, .bool a_2, v_a_3]⟩ 26 (0, 0)) :: L) rfl <| w_d rfl (d_assign (v := errV 104 y42.2) rfl) <| w_done <| w_seq <| w_seq <| w_region rfl <| w_d rfl (d_move (v := errV 104 y42.2) rfl) <| w_d rfl (d_nenil (e := y42.2) Tryz.underlying30 rfl) <| w_done ?_
  rcases its he with ⟨c59, he⟩ | ⟨c59, he⟩
  ·
   refine w_then rfl c59 <| w_seq <| w_region rfl <| w_d rfl (d_build (cs' := [.bool false, .slice none 0 0, .bool false, .slice none 0 0]) Tryz.underlying26 zr26 rfl (by kernel_rfl) (parts := []) rfl .nil) <| w_d rfl (d_move (v := errV 104 y42.2) rfl) <| w_a0 rfl (o_store (v := .agg ⟨[.bool false, .slice none 0 0, .bool false, .slice none 0 0]⟩) sz26 rfl rfl rfl rfl (one_cons rfl (one_cons rfl (one_cons rfl (one_cons rfl one_nil)))) (.there (.there (.there (.there .here)))) (.here (.here (.here (.here .done))))) ?_
   rintro _ _ _ ⟨rfl, rfl, rfl⟩
   refine w_d rfl (d_assign (v := errV 104 y42.2) rfl) <| w_done ?_
   obtain rfl := Option.some.inj he
   refine w_return fn_76 rs_76 (.box (v := .agg ⟨[.bool false, .slice none 0 0, .bool false, .slice none 0 0]⟩) rfl ty26 rfl rfl (.there (.there (.there (.there .here)))) rfl (.tmp (v := errV 104 y42.2) rfl .nil)) <| ⟨⟨[_, _, _, _, _, _, _], rfl⟩, hle.trans (e25.trans e58), ⟨.slice none 0 0, .slice none 0 0, rfl, (ro_nil _ _), (ro_nil _ _)⟩⟩
  ·
   refine w_else rfl (Bool.eq_false_iff.2 c59) <| w_skip <| w_seq <| w_region rfl <| w_d rfl (d_loado (v := .agg ⟨[.bool y22.1.f_neg, v26]⟩) ty24 rfl (.there .here) rfl rfl rfl rfl) <| w_d rfl (d_loado (v := .agg ⟨[.bool y42.1.f_neg, v53]⟩) ty24 rfl .here rfl rfl rfl rfl) ?_
   obtain ⟨y60, hy61, he⟩ := Option.bind_eq_some_iff.1 he
   refine w_a rfl (o_call co73 (vs := [.agg ⟨[.bool y22.1.f_neg, v26]⟩, .agg ⟨[.bool y42.1.f_neg, v53]⟩]) rfl (ratio_Of.calls k (n := y22.1) (d := y42.1) hy61 (h27.mono e58) h54)) ?_
   rintro _ H62 _ ⟨rfl, e63, ⟨v64, v66, rfl, h65, h67⟩⟩
   refine w_d rfl (d_ext (vs := [.agg ⟨[.bool y60.1.f_n.f_neg, v64, .bool y60.1.f_d.f_neg, v66]⟩, errV 104 y60.2]) rfl rfl) <| w_d rfl (d_ext (vs := [.agg ⟨[.bool y60.1.f_n.f_neg, v64, .bool y60.1.f_d.f_neg, v66]⟩, errV 104 y60.2]) rfl rfl) <| w_a0 rfl (o_store (v := .agg ⟨[.bool y60.1.f_n.f_neg, v64, .bool y60.1.f_d.f_neg, v66]⟩) sz26 rfl rfl rfl rfl (one_cons rfl (one_cons (h65.one) (one_cons rfl (one_cons (h67.one) one_nil)))) (.there (.there (.there (.there .here)))) (.here (.here (.here (.here .done))))) ?_
   rintro _ _ _ ⟨rfl, rfl, rfl⟩
   refine w_d rfl (d_assign (v := errV 104 y60.2) rfl) <| w_done ?_
   obtain rfl := Option.some.inj he
   refine w_return fn_76 rs_76 (.box (v := .agg ⟨[.bool y60.1.f_n.f_neg, v64, .bool y60.1.f_d.f_neg, v66]⟩) rfl ty26 rfl rfl (.there (.there (.there (.there .here)))) rfl (.tmp (v := errV 104 y60.2) rfl .nil)) <| ⟨⟨[_, _, _, _, _, _, _], rfl⟩, hle.trans ((e25.trans e58).trans e63), ⟨v64, v66, rfl, h65, h67⟩⟩
theorem ratio_Ratio_joined.calls (k : Nat) {H : Hp} {L : Items} {a : ratio_Ratio} {b : ratio_Ratio} {less : Bool} {v0_a : Value} {v1_a : Value} {v2_b : Value} {v3_b : Value} {r : ratio_Ratio × (Option Int)} (he : ratio_Ratio_joined.f k a b less = some r) (h0_a : Ro (Kd.int .u32) H v0_a a.f_n.f_w) (h1_a : Ro (Kd.int .u32) H v1_a a.f_d.f_w) (h2_b : Ro (Kd.int .u32) H v2_b b.f_n.f_w) (h3_b : Ro (Kd.int .u32) H v3_b b.f_d.f_w) : Ct Tryz.prog 76 ⟨[.agg ⟨[.bool a.f_n.f_neg, v0_a, .bool a.f_d.f_neg, v1_a]⟩, .agg ⟨[.bool b.f_n.f_neg, v2_b, .bool b.f_d.f_neg, v3_b]⟩, .bool less]⟩ H L (fun v H' L' => L = L' ∧ H.le H' ∧ ratio_Ratio_joined.out r H' v) := by
 refine ct_out (O := ratio_Ratio_joined.out r) ?_
 have hle : H.le H := .refl _
 unfold ratio_Ratio_joined.f at he
 refine ct_enter (args := [.agg ⟨[.bool a.f_n.f_neg, v0_a, .bool a.f_d.f_neg, v1_a]⟩, .agg ⟨[.bool b.f_n.f_neg, v2_b, .bool b.f_d.f_neg, v3_b]⟩, .bool less]) fn_76 rfl nt_76 rfl <| w_seq <| w_region rfl <| w_a rfl (o_box (v := .agg ⟨[.bool a.f_n.f_neg, v0_a, .bool a.f_d.f_neg, v1_a]⟩) rfl rfl) ?_
 rintro _ _ _ ⟨b1, rfl, rfl, rfl⟩
 refine w_a rfl (o_box (v := .agg ⟨[.bool b.f_n.f_neg, v2_b, .bool b.f_d.f_neg, v3_b]⟩) rfl rfl) ?_
 rintro _ _ _ ⟨b2, rfl, rfl, rfl⟩
 refine w_a rfl (o_alloc zr26 rfl) ?_
 rintro _ _ _ ⟨b3, rfl, rfl, rfl⟩
 refine w_d rfl (d_assign (v := errV 104 none) rfl) <| w_done <| w_seq <| w_region rfl <| w_d rfl (d_loado (v := .agg ⟨[.bool a.f_n.f_neg, v0_a, .bool a.f_d.f_neg, v1_a]⟩) ty26 rfl (.there (.there .here)) rfl rfl rfl rfl) <| w_d rfl (d_loado (v := .agg ⟨[.bool b.f_n.f_neg, v2_b, .bool b.f_d.f_neg, v3_b]⟩) ty26 rfl (.there .here) rfl rfl rfl rfl) ?_
 obtain ⟨y4, hy5, he⟩ := Option.bind_eq_some_iff.1 he
 refine w_a rfl (o_call co106 (vs := [.agg ⟨[.bool a.f_n.f_neg, v0_a, .bool a.f_d.f_neg, v1_a]⟩, .agg ⟨[.bool b.f_n.f_neg, v2_b, .bool b.f_d.f_neg, v3_b]⟩]) rfl (ratio_Ratio_cross.calls k (a := a) (b := b) hy5 h0_a h1_a h2_b h3_b)) ?_
 rintro _ H6 _ ⟨rfl, e7, ⟨v8, v10, rfl, h9, h11⟩⟩
 refine w_d rfl (d_move (v := .tuple ⟨[.agg ⟨[.bool y4.1.f_neg, v8]⟩, .agg ⟨[.bool y4.2.1.f_neg, v10]⟩, errV 104 y4.2.2]⟩) rfl) <| w_d rfl (d_ext (vs := [.agg ⟨[.bool y4.1.f_neg, v8]⟩, .agg ⟨[.bool y4.2.1.f_neg, v10]⟩, errV 104 y4.2.2]) rfl rfl) <| w_d rfl (d_ext (vs := [.agg ⟨[.bool y4.1.f_neg, v8]⟩, .agg ⟨[.bool y4.2.1.f_neg, v10]⟩, errV 104 y4.2.2]) rfl rfl) <| w_d rfl (d_ext (vs := [.agg ⟨[.bool y4.1.f_neg, v8]⟩, .agg ⟨[.bool y4.2.1.f_neg, v10]⟩, errV 104 y4.2.2]) rfl rfl) <| w_a rfl (o_alloc zr24 rfl) ?_
 rintro _ _ _ ⟨b12, rfl, rfl, rfl⟩
 refine w_a rfl (o_alloc zr24 rfl) ?_
 rintro _ _ _ ⟨b13, rfl, rfl, rfl⟩
 refine w_a0 rfl (o_store (v := .agg ⟨[.bool y4.1.f_neg, v8]⟩) sz24 rfl rfl rfl rfl (one_cons rfl (one_cons (h9.one) one_nil)) (.there .here) (.here (.here .done))) ?_
 rintro _ _ _ ⟨rfl, rfl, rfl⟩
 refine w_a0 rfl (o_store (v := .agg ⟨[.bool y4.2.1.f_neg, v10]⟩) sz24 rfl rfl rfl rfl (one_cons rfl (one_cons (h11.one) one_nil)) .here (.here (.here .done))) ?_
 rintro _ _ _ ⟨rfl, rfl, rfl⟩
 refine w_d rfl (d_assign (v := errV 104 y4.2.2) rfl) <| w_done <| w_seq <| w_seq <| w_region rfl <| w_d rfl (d_move (v := errV 104 y4.2.2) rfl) <| w_d rfl (d_nenil (e := y4.2.2) Tryz.underlying30 rfl) <| w_done ?_
 rcases its he with ⟨c14, he⟩ | ⟨c14, he⟩
 ·
  refine w_then rfl c14 <| w_seq <| w_region rfl <| w_d rfl (d_build (cs' := [.bool false, .slice none 0 0, .bool false, .slice none 0 0]) Tryz.underlying26 zr26 rfl (by kernel_rfl) (parts := []) rfl .nil) <| w_d rfl (d_move (v := errV 104 y4.2.2) rfl) <| w_a0 rfl (o_store (v := .agg ⟨[.bool false, .slice none 0 0, .bool false, .slice none 0 0]⟩) sz26 rfl rfl rfl rfl (one_cons rfl (one_cons rfl (one_cons rfl (one_cons rfl one_nil)))) (.there (.there .here)) (.here (.here (.here (.here .done))))) ?_
  rintro _ _ _ ⟨rfl, rfl, rfl⟩
  refine w_d rfl (d_assign (v := errV 104 y4.2.2) rfl) <| w_done ?_
  obtain rfl := Option.some.inj he
  refine w_return fn_76 rs_76 (.box (v := .agg ⟨[.bool false, .slice none 0 0, .bool false, .slice none 0 0]⟩) rfl ty26 rfl rfl (.there (.there .here)) rfl (.tmp (v := errV 104 y4.2.2) rfl .nil)) <| ⟨⟨[_, _, _, _, _], rfl⟩, hle.trans e7, ⟨.slice none 0 0, .slice none 0 0, rfl, (ro_nil _ _), (ro_nil _ _)⟩⟩
 ·
  refine w_else rfl (Bool.eq_false_iff.2 c14) <| w_skip <| w_seq <| w_seq <| w_region rfl <| w_d rfl (d_move (v := .bool less) rfl) <| w_done ?_
  rcases its he with ⟨c15, he⟩ | ⟨c15, he⟩
  ·
   refine w_then rfl c15 <| w_region rfl <| w_d rfl (d_loado (v := .agg ⟨[.bool y4.2.1.f_neg, v10]⟩) ty24 rfl .here rfl rfl rfl rfl) ?_
   obtain ⟨y16, hy17, he⟩ := Option.bind_eq_some_iff.1 he
   refine w_a rfl (o_call co121 (vs := [.agg ⟨[.bool y4.2.1.f_neg, v10]⟩]) rfl (wide_Int_Neg.calls k (a := y4.2.1) hy17 h11)) ?_
   rintro _ H18 _ ⟨rfl, e19, ⟨v20, rfl, h21⟩⟩
   refine w_a0 rfl (o_store (v := .agg ⟨[.bool y16.f_neg, v20]⟩) sz24 rfl rfl rfl rfl (one_cons rfl (one_cons (h21.one) one_nil)) .here (.here (.here .done))) ?_
   rintro _ _ _ ⟨rfl, rfl, rfl⟩
   refine w_done <| w_sl 3 (.pointer (some ⟨b1, 0, none⟩)) rfl <| w_sl 4 (.pointer (some ⟨b2, 0, none⟩)) rfl <| w_sl 6 (.pointer (some ⟨b3, 0, none⟩)) rfl <| w_sl 7 (errV 104 none) rfl <| w_sl 8 (.pointer (some ⟨b12, 0, none⟩)) rfl <| w_sl 9 (.pointer (some ⟨b13, 0, none⟩)) rfl <| ratio_Ratio_joined.j1_ok (k := k) (hle.trans (e7.trans e19)) he (h0_a.mono (e7.trans e19)) (h1_a.mono (e7.trans e19)) (h2_b.mono (e7.trans e19)) (h3_b.mono (e7.trans e19)) (h9.mono e19) h21
  ·
   refine w_else rfl (Bool.eq_false_iff.2 c15) <| w_skip <| w_sl 3 (.pointer (some ⟨b1, 0, none⟩)) rfl <| w_sl 4 (.pointer (some ⟨b2, 0, none⟩)) rfl <| w_sl 6 (.pointer (some ⟨b3, 0, none⟩)) rfl <| w_sl 7 (errV 104 none) rfl <| w_sl 8 (.pointer (some ⟨b12, 0, none⟩)) rfl <| w_sl 9 (.pointer (some ⟨b13, 0, none⟩)) rfl <| ratio_Ratio_joined.j1_ok (k := k) (hle.trans e7) he (h0_a.mono e7) (h1_a.mono e7) (h2_b.mono e7) (h3_b.mono e7) h9 h11
/-! ### (radome/ratio.Ratio).Sub -/
noncomputable def ratio_Ratio_Sub.C : Code := (Tryz.f60.body).getD .skip
def ratio_Ratio_Sub.out (r : ratio_Ratio × (Option Int)) (H : Hp) (v : Value) : Prop := ∃ v0, ∃ v1, v = .tuple ⟨[.agg ⟨[.bool r.1.f_n.f_neg, v0, .bool r.1.f_d.f_neg, v1]⟩, errV 104 r.2]⟩ ∧ Ro (Kd.int .u32) H v0 r.1.f_n.f_w ∧ Ro (Kd.int .u32) H v1 r.1.f_d.f_w
theorem ratio_Ratio_Sub.out_mono (r : ratio_Ratio × (Option Int)) {H H' : Hp} {v : Value} (hle : H.le H') (h : ratio_Ratio_Sub.out r H v) : ratio_Ratio_Sub.out r H' v := by
 obtain ⟨v0, v1, rfl, h0, h1⟩ := h; exact ⟨v0, v1, rfl, h0.mono hle, h1.mono hle⟩
abbrev ratio_Ratio_Sub.R (H0 : Hp) (L : Items) (r : ratio_Ratio × (Option Int)) : Value → Hp → Items → Prop := fun v H' L' => (∃ p, L' = p ++ L) ∧ H0.le H' ∧ ratio_Ratio_Sub.out r H' v
noncomputable def ratio_Ratio_Sub.f (k : Nat) (a : ratio_Ratio) (b : ratio_Ratio) : Option (ratio_Ratio × (Option Int)) := (ratio_Ratio_joined.f k a b true).bind fun y4 => some (y4.1, y4.2)
theorem ratio_Ratio_Sub.mono : ∀ k y0 y1, LeO (ratio_Ratio_Sub.f k y0 y1) (ratio_Ratio_Sub.f (k + 1) y0 y1) := fun k _ _ => by unfold ratio_Ratio_Sub.f; exact (LeO.bind (ratio_Ratio_joined.mono k _ _ _) fun _ => LeO.refl _)
theorem ratio_Ratio_Sub.calls (k : Nat) {H : Hp} {L : Items} {a : ratio_Ratio} {b : ratio_Ratio} {v0_a : Value} {v1_a : Value} {v2_b : Value} {v3_b : Value} {r : ratio_Ratio × (Option Int)} (he : ratio_Ratio_Sub.f k a b = some r) (h0_a : Ro (Kd.int .u32) H v0_a a.f_n.f_w) (h1_a : Ro (Kd.int .u32) H v1_a a.f_d.f_w) (h2_b : Ro (Kd.int .u32) H v2_b b.f_n.f_w) (h3_b : Ro (Kd.int .u32) H v3_b b.f_d.f_w) : Ct Tryz.prog 60 ⟨[.agg ⟨[.bool a.f_n.f_neg, v0_a, .bool a.f_d.f_neg, v1_a]⟩, .agg ⟨[.bool b.f_n.f_neg, v2_b, .bool b.f_d.f_neg, v3_b]⟩]⟩ H L (fun v H' L' => L = L' ∧ H.le H' ∧ ratio_Ratio_Sub.out r H' v) := by
 refine ct_out (O := ratio_Ratio_Sub.out r) ?_
 have hle : H.le H := .refl _
 unfold ratio_Ratio_Sub.f at he
 refine ct_enter (args := [.agg ⟨[.bool a.f_n.f_neg, v0_a, .bool a.f_d.f_neg, v1_a]⟩, .agg ⟨[.bool b.f_n.f_neg, v2_b, .bool b.f_d.f_neg, v3_b]⟩]) fn_60 rfl nt_60 rfl <| w_seq <| w_region rfl <| w_a rfl (o_box (v := .agg ⟨[.bool a.f_n.f_neg, v0_a, .bool a.f_d.f_neg, v1_a]⟩) rfl rfl) ?_
 rintro _ _ _ ⟨b1, rfl, rfl, rfl⟩
 refine w_a rfl (o_box (v := .agg ⟨[.bool b.f_n.f_neg, v2_b, .bool b.f_d.f_neg, v3_b]⟩) rfl rfl) ?_
 rintro _ _ _ ⟨b2, rfl, rfl, rfl⟩
 refine w_a rfl (o_alloc zr26 rfl) ?_
 rintro _ _ _ ⟨b3, rfl, rfl, rfl⟩
 refine w_d rfl (d_assign (v := errV 104 none) rfl) <| w_done <| w_seq <| w_region rfl <| w_d rfl (d_loado (v := .agg ⟨[.bool a.f_n.f_neg, v0_a, .bool a.f_d.f_neg, v1_a]⟩) ty26 rfl (.there (.there .here)) rfl rfl rfl rfl) <| w_d rfl (d_loado (v := .agg ⟨[.bool b.f_n.f_neg, v2_b, .bool b.f_d.f_neg, v3_b]⟩) ty26 rfl (.there .here) rfl rfl rfl rfl) ?_
 obtain ⟨y4, hy5, he⟩ := Option.bind_eq_some_iff.1 he
 refine w_a rfl (o_call co76 (vs := [.agg ⟨[.bool a.f_n.f_neg, v0_a, .bool a.f_d.f_neg, v1_a]⟩, .agg ⟨[.bool b.f_n.f_neg, v2_b, .bool b.f_d.f_neg, v3_b]⟩, .bool true]) rfl (ratio_Ratio_joined.calls k (a := a) (b := b) hy5 h0_a h1_a h2_b h3_b)) ?_
 rintro _ H6 _ ⟨rfl, e7, ⟨v8, v10, rfl, h9, h11⟩⟩
 refine w_d rfl (d_ext (vs := [.agg ⟨[.bool y4.1.f_n.f_neg, v8, .bool y4.1.f_d.f_neg, v10]⟩, errV 104 y4.2]) rfl rfl) <| w_d rfl (d_ext (vs := [.agg ⟨[.bool y4.1.f_n.f_neg, v8, .bool y4.1.f_d.f_neg, v10]⟩, errV 104 y4.2]) rfl rfl) <| w_a0 rfl (o_store (v := .agg ⟨[.bool y4.1.f_n.f_neg, v8, .bool y4.1.f_d.f_neg, v10]⟩) sz26 rfl rfl rfl rfl (one_cons rfl (one_cons (h9.one) (one_cons rfl (one_cons (h11.one) one_nil)))) .here (.here (.here (.here (.here .done))))) ?_
 rintro _ _ _ ⟨rfl, rfl, rfl⟩
 refine w_d rfl (d_assign (v := errV 104 y4.2) rfl) <| w_done ?_
 obtain rfl := Option.some.inj he
 refine w_return fn_60 rs_60 (.box (v := .agg ⟨[.bool y4.1.f_n.f_neg, v8, .bool y4.1.f_d.f_neg, v10]⟩) rfl ty26 rfl rfl .here rfl (.tmp (v := errV 104 y4.2) rfl .nil)) <| ⟨⟨[_, _, _], rfl⟩, hle.trans e7, ⟨v8, v10, rfl, h9, h11⟩⟩
end Go.Proofs.YtkccpkccdbfomaaGreatDoor.GSL

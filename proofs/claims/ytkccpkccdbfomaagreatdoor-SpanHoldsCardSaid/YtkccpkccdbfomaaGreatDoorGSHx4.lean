/- printed by gen.py -/
import Derived.Test.YtkccpkccdbfomaaGreatDoorGSHx3
namespace Go.Proofs.YtkccpkccdbfomaaGreatDoor.GSH
open Go Go.RowKit Go.Proofs.YtkccpkccdbfomaaGreatDoorK Go.Proofs.YtkccpkccdbfomaaGreatDoor
set_option maxRecDepth 100000
set_option maxHeartbeats 2000000
set_option linter.unusedVariables false
set_option linter.unusedSimpArgs false
noncomputable def wide_Int_Div.C : Code := (Tryz.f124.body).getD .skip
def wide_Int_Div.out (r : wide_Int × wide_Int × (Option Int)) (H : Hp) (v : Value) : Prop := ∃ v0, ∃ v1, v = .tuple ⟨[.agg ⟨[.bool r.1.f_neg, v0]⟩, .agg ⟨[.bool r.2.1.f_neg, v1]⟩, errV 104 r.2.2]⟩ ∧ Ro kU32 H v0 r.1.f_w ∧ Ro kU32 H v1 r.2.1.f_w
theorem wide_Int_Div.out_mono (r : wide_Int × wide_Int × (Option Int)) {H H' : Hp} {v : Value} (hle : H.le H') (h : wide_Int_Div.out r H v) : wide_Int_Div.out r H' v := by
 obtain ⟨v0, v1, rfl, h0, h1⟩ := h; exact ⟨v0, v1, rfl, h0.mono hle, h1.mono hle⟩
abbrev wide_Int_Div.R (H0 : Hp) (L : Items) (r : wide_Int × wide_Int × (Option Int)) := fR H0 L (wide_Int_Div.out r)
noncomputable def wide_Int_Div.j1 (k : Nat)  (b_0 : Bool) (b_1 : List Int) (r_ : List Int) (x_0 : Bool) (x_1 : List Int) (one_0 : Bool) (one_1 : List Int) : Option (wide_Int × wide_Int × (Option Int)) := (wide_Int_Add.f k (⟨x_0, x_1⟩ : wide_Int) (⟨one_0, one_1⟩ : wide_Int)).bind fun y50 => if y50.2.isSome = true then (some ((⟨false, []⟩ : wide_Int), (⟨false, []⟩ : wide_Int), y50.2)) else ((wide_minus.f k b_1 r_).bind fun y57 => some (y50.1, (⟨false, y57⟩ : wide_Int), none))
noncomputable def wide_Int_Div.f (k : Nat) (a : wide_Int) (b : wide_Int) : Option (wide_Int × wide_Int × (Option Int)) := if (b.f_w.length : Int) = 0 then (some ((⟨false, []⟩ : wide_Int), (⟨false, []⟩ : wide_Int), some 11)) else ((wide_long.f k a.f_w b.f_w).bind fun y6 => (wide_made.f k (!(a.f_neg == b.f_neg)) y6.1).bind fun y14 => if y14.2.isSome = true then (some ((⟨false, []⟩ : wide_Int), (⟨false, []⟩ : wide_Int), y14.2)) else (if ((!a.f_neg) || (decide ((y6.2.length : Int) = 0))) = true then ((slices_Clone_uint32_uint32.f k y6.2).bind fun y26 => some (y14.1, (⟨false, y26⟩ : wide_Int), none)) else ((wide_Of.f k 1).bind fun y36 => if (!b.f_neg) = true then ((wide_Int_Neg.f k y36).bind fun y44 => wide_Int_Div.j1 k b.f_neg b.f_w y6.2 y14.1.f_neg y14.1.f_w y44.f_neg y44.f_w) else (wide_Int_Div.j1 k b.f_neg b.f_w y6.2 y14.1.f_neg y14.1.f_w y36.f_neg y36.f_w))))
theorem wide_Int_Div.j1_mono {k : Nat} : ∀ y0 y1 y2 y3 y4 y5 y6, LeO (wide_Int_Div.j1 k y0 y1 y2 y3 y4 y5 y6) (wide_Int_Div.j1 (k + 1) y0 y1 y2 y3 y4 y5 y6) := fun _ _ _ _ _ _ _ => (LeO.bind (wide_Int_Add.mono k _ _) fun _ => LeO.ite (LeO.refl _) (LeO.bind (wide_minus.mono k _ _) fun _ => LeO.refl _))
theorem wide_Int_Div.mono : ∀ k y0 y1, LeO (wide_Int_Div.f k y0 y1) (wide_Int_Div.f (k + 1) y0 y1) := fun k _ _ => by unfold wide_Int_Div.f; exact (LeO.ite (LeO.refl _) (LeO.bind (wide_long.mono k _ _) fun _ => LeO.bind (wide_made.mono k _ _) fun _ => LeO.ite (LeO.refl _) (LeO.ite (LeO.bind (slices_Clone_uint32_uint32.mono k _) fun _ => LeO.refl _) (LeO.bind (wide_Of.mono k _) fun _ => LeO.ite (LeO.bind (wide_Int_Neg.mono k _) fun _ => wide_Int_Div.j1_mono (k := k)  _ _ _ _ _ _ _) (wide_Int_Div.j1_mono (k := k)  _ _ _ _ _ _ _)))))
noncomputable def wide_Int_Div.Kj1 : List Item := .code (seqR (seqR (seqR (seqR (seqR (seqR (seqR (seqR wide_Int_Div.C)))))))) :: []
theorem wide_Int_Div.j1_ok {k : Nat} {H0 H : Hp} {L : Items} {r : wide_Int × wide_Int × (Option Int)} {jk_ : Nat → Value} {b_0 : Bool} {b_1 : List Int} {r_ : List Int} {x_0 : Bool} {x_1 : List Int} {one_0 : Bool} {one_1 : List Int} {v_b_1 : Value} {v_r_ : Value} {v_x_1 : Value} {v_one_1 : Value} {b_b : Nat} {b_t4 : Nat} {b_t5 : Nat} {b_x : Nat} {b_one_ : Nat} (hle : H0.le H) (he : wide_Int_Div.j1 k b_0 b_1 r_ x_0 x_1 one_0 one_1 = some r) (h_b_1 : Ro kU32 H v_b_1 b_1) (h_r_ : Ro kU32 H v_r_ r_) (h_x_1 : Ro kU32 H v_x_1 x_1) (h_one_1 : Ro kU32 H v_one_1 one_1) : Wp Tryz.prog 124 77 wide_Int_Div.Kj1 (upd (upd (upd (upd (upd (upd (upd jk_ 3 (.pointer (some ⟨b_b, 0, none⟩))) 4 (.pointer (some ⟨b_t4, 0, none⟩))) 5 (.pointer (some ⟨b_t5, 0, none⟩))) 6 (errV 104 none)) 8 (v_r_)) 9 (.pointer (some ⟨b_x, 0, none⟩))) 11 (.pointer (some ⟨b_one_, 0, none⟩))) H (some (b_one_, .cells ⟨[.bool one_0, v_one_1]⟩ 24 (0, 0)) :: some (b_x, .cells ⟨[.bool x_0, v_x_1]⟩ 24 (0, 0)) :: some (b_t5, .cells ⟨[.bool false, .slice none 0 0]⟩ 24 (0, 0)) :: some (b_t4, .cells ⟨[.bool false, .slice none 0 0]⟩ 24 (0, 0)) :: some (b_b, .cells ⟨[.bool b_0, v_b_1]⟩ 24 (0, 0)) :: L) (wide_Int_Div.R H0 L r) := by
 unfold wide_Int_Div.j1 at he
 unfold wide_Int_Div.Kj1
 refine wR rfl <| wL (.agg ⟨[.bool x_0, v_x_1]⟩) ty24 rfl rfl (.there .here) rfl rfl <| wL (.agg ⟨[.bool one_0, v_one_1]⟩) ty24 rfl rfl .here rfl rfl ?_
 obtain ⟨y50, hy51, he⟩ := bs he
 refine w_a rfl (o_call co127 (vs := [.agg ⟨[.bool x_0, v_x_1]⟩, .agg ⟨[.bool one_0, v_one_1]⟩]) rfl (wide_Int_Add.calls k (a := ⟨x_0, x_1⟩) (b := ⟨one_0, one_1⟩) hy51 h_x_1 h_one_1)) ?_
 rintro _ H52 _ ⟨rfl, e53, ⟨v54, rfl, h55⟩⟩
 refine wM (.tuple ⟨[.agg ⟨[.bool y50.1.f_neg, v54]⟩, errV 104 y50.2]⟩) rfl rfl <| w_d rfl (d_ext (vs := [.agg ⟨[.bool y50.1.f_neg, v54]⟩, errV 104 y50.2]) rfl rfl) <| w_d rfl (d_ext (vs := [.agg ⟨[.bool y50.1.f_neg, v54]⟩, errV 104 y50.2]) rfl rfl) <| w_a0 rfl (o_store (v := .agg ⟨[.bool y50.1.f_neg, v54]⟩) sz24 rfl rfl rfl rfl (oc rfl (oc (h55.one) oz)) (.there .here) u2) ?_
 rintro _ _ _ ⟨rfl, rfl, rfl⟩
 refine wA (errV 104 y50.2) rfl rfl <| wE <| wR rfl <| wM (errV 104 y50.2) rfl rfl <| w_d rfl (d_nenil (e := y50.2) Tryz.underlying30 rfl) <| w_done ?_
 rcases its he with ⟨c56, he⟩ | ⟨c56, he⟩
 ·
  refine w_then rfl c56 <| wR rfl <| w_d rfl (d_build (cs' := [.bool false, .slice none 0 0]) Tryz.underlying24 zr24 rfl (by kernel_rfl) (parts := []) rfl .nil) <| w_d rfl (d_build (cs' := [.bool false, .slice none 0 0]) Tryz.underlying24 zr24 rfl (by kernel_rfl) (parts := []) rfl .nil) <| wM (errV 104 y50.2) rfl rfl <| w_a0 rfl (o_store (v := .agg ⟨[.bool false, .slice none 0 0]⟩) sz24 rfl rfl rfl rfl (oc rfl (oc rfl oz)) (.there (.there (.there .here))) u2) ?_
  rintro _ _ _ ⟨rfl, rfl, rfl⟩
  refine w_a0 rfl (o_store (v := .agg ⟨[.bool false, .slice none 0 0]⟩) sz24 rfl rfl rfl rfl (oc rfl (oc rfl oz)) (.there (.there .here)) u2) ?_
  rintro _ _ _ ⟨rfl, rfl, rfl⟩
  refine wA (errV 104 y50.2) rfl rfl <| w_done ?_
  obtain rfl := sj he
  refine w_return fn_124 rs_124 (.box (v := .agg ⟨[.bool false, .slice none 0 0]⟩) rfl ty24 rfl rfl (.there (.there (.there .here))) rfl (.box (v := .agg ⟨[.bool false, .slice none 0 0]⟩) rfl ty24 rfl rfl (.there (.there .here)) rfl (.tmp (v := errV 104 y50.2) rfl .nil))) <| ⟨⟨[_, _, _, _, _], rfl⟩, hle.trans e53, ⟨.slice none 0 0, .slice none 0 0, rfl, (ro_nil _ _), (ro_nil _ _)⟩⟩
 ·
  refine w_else rfl (Bool.eq_false_iff.2 c56) <| w_skip <| w_seq ?_
  obtain ⟨y57, hy58, he⟩ := bs he
  refine w_drawn (p := 7) (tl := [7, 8]) [[], [], [(1, some 72)], [], [(2, some 73), (3, some 74)], [(4, some 75)], [(0, some 71)]] [some 71, some 72, some 73, some 74, some 75, some 76, none] (fctF (.is (.agg ⟨[.bool y50.1.f_neg, v54]⟩) :: .is (.pointer (some ⟨b_b, 1, none⟩)) :: .is (v_b_1) :: .is (v_r_) :: .ro kU32 (y57) :: .of (fun H v => ∃ v63, v = .agg ⟨[.bool false, v63]⟩ ∧ Ro kU32 H v63 y57) (by rintro _ _ _ hle ⟨v63, rfl, h64⟩; exact ⟨v63, rfl, h64.mono hle⟩) :: .itm (fun H itq_ => itq_ = some (b_t4, .cells ⟨[.bool y50.1.f_neg, v54]⟩ 24 (0, 0))) (by rintro _ _ _ hle rfl; exact rfl) :: [])) (fun m_ => some (b_one_, .cells ⟨[.bool one_0, v_one_1]⟩ 24 (0, 0)) :: some (b_x, .cells ⟨[.bool y50.1.f_neg, v54]⟩ 24 (0, 0)) :: some (b_t5, .cells ⟨[.bool false, .slice none 0 0]⟩ 24 (0, 0)) :: m_ 6 :: some (b_b, .cells ⟨[.bool b_0, v_b_1]⟩ 24 (0, 0)) :: L) (fun i_ => if i_ = 6 then some (b_t4, .cells ⟨[.bool false, .slice none 0 0]⟩ 24 (0, 0)) else none) mixed (by kernel_rfl) (by kernel_rfl) rfl (fct_mono (by kernel_rfl)) ⟨(fun H' m_ hH hm_ hu_ => dn <| s_d (m_ 0) rfl (d_loado (v := .agg ⟨[.bool y50.1.f_neg, v54]⟩) ty24 rfl (.there .here) rfl rfl rfl rfl) (by exact rfl) rfl), (fun H' m_ hH hm_ hu_ => dn <| s_d (m_ 1) rfl (d_fld (o' := 1) Tryz.underlying24 rfl sz22 rfl rfl rfl) (by exact rfl) rfl), (by rintro H' m_ hH hm_ hu_ _ rfl; exact dn <| s_d (m_ 2) rfl (d_loado (v := v_b_1) ty22 rfl (.there (.there (.there (.there .here)))) rfl rfl rfl rfl) (by exact rfl) rfl), (fun H' m_ hH hm_ hu_ => dn <| s_d (m_ 3) rfl (d_move (v := v_r_) rfl) (by exact rfl) rfl), (by rintro H' m_ hH hm_ hu_ _ rfl _ rfl; exact dn <| s_k (m_ 4) rfl (o_call co143 (vs := [v_b_1, v_r_]) rfl (wide_minus.calls k hy58 ((h_b_1.mono (e53.trans hH)).src) ((h_r_.mono (e53.trans hH)).src))) rfl (by rintro v_ H_ _ ⟨rfl, e_, h_⟩; exact ⟨rfl, e_, h_⟩)), (by rintro H' m_ hH hm_ hu_ v61 (h62 : Ro kU32 H' v61 y57); exact dn <| s_d (m_ 5) rfl (d_build (cs' := [.bool false, v61]) Tryz.underlying24 zr24 rfl (by kernel_rfl) (parts := [(0, .bool false), (1, v61)]) rfl (.cons (place_of rfl sz4 rfl) rfl rfl u1 (.cons (place_of rfl sz22 rfl) h62.cells rfl (.there u1) .nil))) (by exact ⟨v61, rfl, h62⟩) rfl), (by rintro H' m_ hH hm_ hu_ _ rfl; exact dn <| s_store (some (b_t4, .cells ⟨[.bool y50.1.f_neg, v54]⟩ 24 (0, 0))) hm_ rfl (o_store (v := .agg ⟨[.bool y50.1.f_neg, v54]⟩) sz24 rfl rfl rfl rfl (oc rfl (oc (h55.one) oz)) (.there (.there (.there .here))) u2) rfl (by exact ⟨rfl, rfl⟩)), trivial⟩ ?_
  intro H65 e66
  rintro _ _ rfl _ _ rfl _ _ rfl _ _ rfl v61 _ (h62 : Ro kU32 H65 v61 y57) _ _ ⟨v63, rfl, h64⟩ _ _ ⟨rfl, rfl⟩
  refine w_it (L' := some (b_one_, .cells ⟨[.bool one_0, v_one_1]⟩ 24 (0, 0)) :: some (b_x, .cells ⟨[.bool y50.1.f_neg, v54]⟩ 24 (0, 0)) :: some (b_t5, .cells ⟨[.bool false, .slice none 0 0]⟩ 24 (0, 0)) :: some (b_t4, .cells ⟨[.bool y50.1.f_neg, v54]⟩ 24 (0, 0)) :: some (b_b, .cells ⟨[.bool b_0, v_b_1]⟩ 24 (0, 0)) :: L) rfl <| w_a0 rfl (o_store (v := .agg ⟨[.bool false, v63]⟩) sz24 rfl rfl rfl rfl (oc rfl (oc (h64.one) oz)) (.there (.there .here)) u2) ?_
  rintro _ _ _ ⟨rfl, rfl, rfl⟩
  refine wA (errV 104 none) rfl rfl <| w_done ?_
  obtain rfl := sj he
  refine w_return fn_124 rs_124 (.box (v := .agg ⟨[.bool y50.1.f_neg, v54]⟩) rfl ty24 rfl rfl (.there (.there (.there .here))) rfl (.box (v := .agg ⟨[.bool false, v63]⟩) rfl ty24 rfl rfl (.there (.there .here)) rfl (.tmp (v := errV 104 none) rfl .nil))) <| ⟨⟨[_, _, _, _, _], rfl⟩, hle.trans (e53.trans e66), ⟨v54, v63, rfl, (h55.mono e66), h64⟩⟩
theorem wide_Int_Div.calls (k : Nat) {H : Hp} {L : Items} {a : wide_Int} {b : wide_Int} {v0_a : Value} {v1_b : Value} {r : wide_Int × wide_Int × (Option Int)} (he : wide_Int_Div.f k a b = some r) (h0_a : Ro kU32 H v0_a a.f_w) (h1_b : Ro kU32 H v1_b b.f_w) : Ct Tryz.prog 124 ⟨[.agg ⟨[.bool a.f_neg, v0_a]⟩, .agg ⟨[.bool b.f_neg, v1_b]⟩]⟩ H L (cR H L (wide_Int_Div.out r)) := by
 refine ct_out (O := wide_Int_Div.out r) ?_
 have hle : H.le H := .refl _
 unfold wide_Int_Div.f at he
 refine ct_enter (args := [.agg ⟨[.bool a.f_neg, v0_a]⟩, .agg ⟨[.bool b.f_neg, v1_b]⟩]) fn_124 rfl nt_124 rfl <| wR rfl <| w_a rfl (o_box (v := .agg ⟨[.bool a.f_neg, v0_a]⟩) rfl rfl) ?_
 rintro _ _ _ ⟨b1, rfl, rfl, rfl⟩
 refine w_a rfl (o_box (v := .agg ⟨[.bool b.f_neg, v1_b]⟩) rfl rfl) ?_
 rintro _ _ _ ⟨b2, rfl, rfl, rfl⟩
 refine w_a rfl (o_alloc zr24 rfl) ?_
 rintro _ _ _ ⟨b3, rfl, rfl, rfl⟩
 refine w_a rfl (o_alloc zr24 rfl) ?_
 rintro _ _ _ ⟨b4, rfl, rfl, rfl⟩
 refine wA (errV 104 none) rfl rfl <| wE <| wR rfl <| w_d rfl (d_fld (o' := 1) Tryz.underlying24 rfl sz22 rfl rfl rfl) <| wL v1_b ty22 rfl rfl (.there (.there .here)) rfl rfl <| w_d rfl (d_len Tryz.underlying22 rfl h1_b.src) <| w_d rfl (d_eql rfl rfl) <| w_done ?_
 rcases its he with ⟨c5, he⟩ | ⟨c5, he⟩
 ·
  refine w_then rfl (dt c5) <| wR rfl <| w_d rfl (d_build (cs' := [.bool false, .slice none 0 0]) Tryz.underlying24 zr24 rfl (by kernel_rfl) (parts := []) rfl .nil) <| w_d rfl (d_build (cs' := [.bool false, .slice none 0 0]) Tryz.underlying24 zr24 rfl (by kernel_rfl) (parts := []) rfl .nil) <| w_d rfl (d_iface (v := .int .i64 11) Tryz.underlying104 rfl rfl) <| w_a0 rfl (o_store (v := .agg ⟨[.bool false, .slice none 0 0]⟩) sz24 rfl rfl rfl rfl (oc rfl (oc rfl oz)) (.there .here) u2) ?_
  rintro _ _ _ ⟨rfl, rfl, rfl⟩
  refine w_a0 rfl (o_store (v := .agg ⟨[.bool false, .slice none 0 0]⟩) sz24 rfl rfl rfl rfl (oc rfl (oc rfl oz)) .here u2) ?_
  rintro _ _ _ ⟨rfl, rfl, rfl⟩
  refine wA (errV 104 (some 11)) rfl rfl <| w_done ?_
  obtain rfl := sj he
  refine w_return fn_124 rs_124 (.box (v := .agg ⟨[.bool false, .slice none 0 0]⟩) rfl ty24 rfl rfl (.there .here) rfl (.box (v := .agg ⟨[.bool false, .slice none 0 0]⟩) rfl ty24 rfl rfl .here rfl (.tmp (v := errV 104 (some 11)) rfl .nil))) <| ⟨⟨[_, _, _, _], rfl⟩, hle, ⟨.slice none 0 0, .slice none 0 0, rfl, (ro_nil _ _), (ro_nil _ _)⟩⟩
 ·
  refine w_else rfl (df c5) <| w_skip <| wR rfl <| w_d rfl (d_fld (o' := 1) Tryz.underlying24 rfl sz22 rfl rfl rfl) <| wL v0_a ty22 rfl rfl (.there (.there (.there .here))) rfl rfl <| w_d rfl (d_fld (o' := 1) Tryz.underlying24 rfl sz22 rfl rfl rfl) <| wL v1_b ty22 rfl rfl (.there (.there .here)) rfl rfl ?_
  obtain ⟨y6, hy7, he⟩ := bs he
  refine w_a rfl (o_call co142 (vs := [v0_a, v1_b]) rfl (wide_long.calls k hy7 h0_a h1_b.src)) ?_
  rintro _ H8 _ ⟨rfl, e9, ⟨v10, v12, rfl, h11, h13⟩⟩
  refine wM (.tuple ⟨[v10, v12]⟩) rfl rfl <| w_d rfl (d_ext (vs := [v10, v12]) rfl rfl) <| w_d rfl (d_ext (vs := [v10, v12]) rfl rfl) <| wA v10 rfl rfl <| wA v12 rfl rfl <| wQ rfl <| w_d rfl (d_fld (o' := 0) Tryz.underlying24 rfl sz4 rfl rfl rfl) <| wL (.bool a.f_neg) ty4 rfl rfl (.there (.there (.there .here))) rfl rfl <| w_d rfl (d_fld (o' := 0) Tryz.underlying24 rfl sz4 rfl rfl rfl) <| wL (.bool b.f_neg) ty4 rfl rfl (.there (.there .here)) rfl rfl ?_
  refine w_d rfl (d_neb (a := a.f_neg) (b := b.f_neg) Tryz.underlying4 rfl rfl) <| wM v10 rfl rfl ?_
  obtain ⟨y14, hy15, he⟩ := bs he
  refine w_a rfl (o_call co115 (vs := [.bool (!(a.f_neg == b.f_neg)), v10]) rfl (wide_made.calls k hy15 h11)) ?_
  rintro _ H16 _ ⟨rfl, e17, ⟨v18, rfl, h19⟩⟩
  refine wM (.tuple ⟨[.agg ⟨[.bool y14.1.f_neg, v18]⟩, errV 104 y14.2]⟩) rfl rfl <| w_d rfl (d_ext (vs := [.agg ⟨[.bool y14.1.f_neg, v18]⟩, errV 104 y14.2]) rfl rfl) <| w_d rfl (d_ext (vs := [.agg ⟨[.bool y14.1.f_neg, v18]⟩, errV 104 y14.2]) rfl rfl) <| w_a rfl (o_alloc zr24 rfl) ?_
  rintro _ _ _ ⟨b20, rfl, rfl, rfl⟩
  refine w_a0 rfl (o_store (v := .agg ⟨[.bool y14.1.f_neg, v18]⟩) sz24 rfl rfl rfl rfl (oc rfl (oc (h19.one) oz)) .here u2) ?_
  rintro _ _ _ ⟨rfl, rfl, rfl⟩
  refine wA (errV 104 y14.2) rfl rfl <| wE <| wR rfl <| wM (errV 104 y14.2) rfl rfl <| w_d rfl (d_nenil (e := y14.2) Tryz.underlying30 rfl) <| w_done ?_
  rcases its he with ⟨c21, he⟩ | ⟨c21, he⟩
  ·
   refine w_then rfl c21 <| wR rfl <| w_d rfl (d_build (cs' := [.bool false, .slice none 0 0]) Tryz.underlying24 zr24 rfl (by kernel_rfl) (parts := []) rfl .nil) <| w_d rfl (d_build (cs' := [.bool false, .slice none 0 0]) Tryz.underlying24 zr24 rfl (by kernel_rfl) (parts := []) rfl .nil) <| wM (errV 104 y14.2) rfl rfl <| w_a0 rfl (o_store (v := .agg ⟨[.bool false, .slice none 0 0]⟩) sz24 rfl rfl rfl rfl (oc rfl (oc rfl oz)) (.there (.there .here)) u2) ?_
   rintro _ _ _ ⟨rfl, rfl, rfl⟩
   refine w_a0 rfl (o_store (v := .agg ⟨[.bool false, .slice none 0 0]⟩) sz24 rfl rfl rfl rfl (oc rfl (oc rfl oz)) (.there .here) u2) ?_
   rintro _ _ _ ⟨rfl, rfl, rfl⟩
   refine wA (errV 104 y14.2) rfl rfl <| w_done ?_
   obtain rfl := sj he
   refine w_return fn_124 rs_124 (.box (v := .agg ⟨[.bool false, .slice none 0 0]⟩) rfl ty24 rfl rfl (.there (.there .here)) rfl (.box (v := .agg ⟨[.bool false, .slice none 0 0]⟩) rfl ty24 rfl rfl (.there .here) rfl (.tmp (v := errV 104 y14.2) rfl .nil))) <| ⟨⟨[_, _, _, _, _], rfl⟩, hle.trans (e9.trans e17), ⟨.slice none 0 0, .slice none 0 0, rfl, (ro_nil _ _), (ro_nil _ _)⟩⟩
  ·
   refine w_else rfl (Bool.eq_false_iff.2 c21) <| w_skip <| w_seq <| wR rfl <| w_d rfl (d_fld (o' := 0) Tryz.underlying24 rfl sz4 rfl rfl rfl) <| wL (.bool a.f_neg) ty4 rfl rfl (.there (.there (.there (.there .here)))) rfl rfl <| w_d rfl (d_not (b := a.f_neg) rfl) <| wM (.bool (!a.f_neg)) rfl rfl <| w_g (g := !(!a.f_neg)) rfl rfl rfl wn_f (fun g22 => d_move (v := v12) rfl) <| w_g (g := !(!a.f_neg)) rfl rfl rfl wn_f (fun g23 => d_len Tryz.underlying22 (cvt g23) (h13.mono e17).src) <| w_g (g := !(!a.f_neg)) rfl rfl rfl wn_f (fun g24 => d_eql (cvt g24) rfl) ?_
   refine w_d rfl (d_or' (b := (!a.f_neg)) (p := (decide ((y6.2.length : Int) = 0))) rfl rfl rfl) <| w_done ?_
   rcases its he with ⟨c25, he⟩ | ⟨c25, he⟩
   ·
    refine w_then rfl c25 <| w_seq ?_
    obtain ⟨y26, hy27, he⟩ := bs he
    refine w_drawn (p := 5) (tl := [5, 6]) [[], [], [(1, some 51)], [(2, some 52)], [(0, some 50)]] [some 50, some 51, some 52, some 53, none] (fctF (.is (.agg ⟨[.bool y14.1.f_neg, v18]⟩) :: .is (v12) :: .ro kU32 (y26) :: .of (fun H v => ∃ v32, v = .agg ⟨[.bool false, v32]⟩ ∧ Ro kU32 H v32 y26) (by rintro _ _ _ hle ⟨v32, rfl, h33⟩; exact ⟨v32, rfl, h33.mono hle⟩) :: .itm (fun H itq_ => itq_ = some (b3, .cells ⟨[.bool y14.1.f_neg, v18]⟩ 24 (0, 0))) (by rintro _ _ _ hle rfl; exact rfl) :: [])) (fun m_ => some (b20, .cells ⟨[.bool y14.1.f_neg, v18]⟩ 24 (0, 0)) :: some (b4, .cells ⟨[.bool false, .slice none 0 0]⟩ 24 (0, 0)) :: m_ 4 :: some (b2, .cells ⟨[.bool b.f_neg, v1_b]⟩ 24 (0, 0)) :: some (b1, .cells ⟨[.bool a.f_neg, v0_a]⟩ 24 (0, 0)) :: L) (fun i_ => if i_ = 4 then some (b3, .cells ⟨[.bool false, .slice none 0 0]⟩ 24 (0, 0)) else none) mixed (by kernel_rfl) (by kernel_rfl) rfl (fct_mono (by kernel_rfl)) ⟨(fun H' m_ hH hm_ hu_ => dn <| s_d (m_ 0) rfl (d_loado (v := .agg ⟨[.bool y14.1.f_neg, v18]⟩) ty24 rfl .here rfl rfl rfl rfl) (by exact rfl) rfl), (fun H' m_ hH hm_ hu_ => dn <| s_d (m_ 1) rfl (d_move (v := v12) rfl) (by exact rfl) rfl), (by rintro H' m_ hH hm_ hu_ _ rfl; exact dn <| s_k (m_ 2) rfl (o_call co119 (vs := [v12]) rfl (slices_Clone_uint32_uint32.callsR k hy27 (h13.mono (e17.trans hH)))) rfl (by rintro v_ H_ _ ⟨rfl, e_, h_⟩; exact ⟨rfl, e_, h_⟩)), (by rintro H' m_ hH hm_ hu_ v30 (h31 : Ro kU32 H' v30 y26); exact dn <| s_d (m_ 3) rfl (d_build (cs' := [.bool false, v30]) Tryz.underlying24 zr24 rfl (by kernel_rfl) (parts := [(0, .bool false), (1, v30)]) rfl (.cons (place_of rfl sz4 rfl) rfl rfl u1 (.cons (place_of rfl sz22 rfl) h31.cells rfl (.there u1) .nil))) (by exact ⟨v30, rfl, h31⟩) rfl), (by rintro H' m_ hH hm_ hu_ _ rfl; exact dn <| s_store (some (b3, .cells ⟨[.bool y14.1.f_neg, v18]⟩ 24 (0, 0))) hm_ rfl (o_store (v := .agg ⟨[.bool y14.1.f_neg, v18]⟩) sz24 rfl rfl rfl rfl (oc rfl (oc (h19.one) oz)) (.there (.there .here)) u2) rfl (by exact ⟨rfl, rfl⟩)), trivial⟩ ?_
    intro H34 e35
    rintro _ _ rfl _ _ rfl v30 _ (h31 : Ro kU32 H34 v30 y26) _ _ ⟨v32, rfl, h33⟩ _ _ ⟨rfl, rfl⟩
    refine w_it (L' := some (b20, .cells ⟨[.bool y14.1.f_neg, v18]⟩ 24 (0, 0)) :: some (b4, .cells ⟨[.bool false, .slice none 0 0]⟩ 24 (0, 0)) :: some (b3, .cells ⟨[.bool y14.1.f_neg, v18]⟩ 24 (0, 0)) :: some (b2, .cells ⟨[.bool b.f_neg, v1_b]⟩ 24 (0, 0)) :: some (b1, .cells ⟨[.bool a.f_neg, v0_a]⟩ 24 (0, 0)) :: L) rfl <| w_a0 rfl (o_store (v := .agg ⟨[.bool false, v32]⟩) sz24 rfl rfl rfl rfl (oc rfl (oc (h33.one) oz)) (.there .here) u2) ?_
    rintro _ _ _ ⟨rfl, rfl, rfl⟩
    refine wA (errV 104 none) rfl rfl <| w_done ?_
    obtain rfl := sj he
    refine w_return fn_124 rs_124 (.box (v := .agg ⟨[.bool y14.1.f_neg, v18]⟩) rfl ty24 rfl rfl (.there (.there .here)) rfl (.box (v := .agg ⟨[.bool false, v32]⟩) rfl ty24 rfl rfl (.there .here) rfl (.tmp (v := errV 104 none) rfl .nil))) <| ⟨⟨[_, _, _, _, _], rfl⟩, hle.trans ((e9.trans e17).trans e35), ⟨v18, v32, rfl, (h19.mono e35), h33⟩⟩
   ·
    refine w_else rfl (Bool.eq_false_iff.2 c25) <| w_skip <| wR rfl ?_
    obtain ⟨y36, hy37, he⟩ := bs he
    refine w_a rfl (o_call co71 (vs := [.int .i64 1]) rfl (wide_Of.calls k hy37)) ?_
    rintro _ H38 _ ⟨rfl, e39, ⟨v40, rfl, h41⟩⟩
    refine w_a rfl (o_alloc zr24 rfl) ?_
    rintro _ _ _ ⟨b42, rfl, rfl, rfl⟩
    refine w_a0 rfl (o_store (v := .agg ⟨[.bool y36.f_neg, v40]⟩) sz24 rfl rfl rfl rfl (oc rfl (oc (h41.one) oz)) .here u2) ?_
    rintro _ _ _ ⟨rfl, rfl, rfl⟩
    refine wE <| wR rfl <| w_d rfl (d_fld (o' := 0) Tryz.underlying24 rfl sz4 rfl rfl rfl) <| wL (.bool b.f_neg) ty4 rfl rfl (.there (.there (.there (.there .here)))) rfl rfl <| w_d rfl (d_not (b := b.f_neg) rfl) <| w_done ?_
    rcases its he with ⟨c43, he⟩ | ⟨c43, he⟩
    ·
     refine w_then rfl c43 <| w_region rfl <| wL (.agg ⟨[.bool y36.f_neg, v40]⟩) ty24 rfl rfl .here rfl rfl ?_
     obtain ⟨y44, hy45, he⟩ := bs he
     refine w_a rfl (o_call co121 (vs := [.agg ⟨[.bool y36.f_neg, v40]⟩]) rfl (wide_Int_Neg.calls k (a := y36) hy45 h41)) ?_
     rintro _ H46 _ ⟨rfl, e47, ⟨v48, rfl, h49⟩⟩
     refine w_a0 rfl (o_store (v := .agg ⟨[.bool y44.f_neg, v48]⟩) sz24 rfl rfl rfl rfl (oc rfl (oc (h49.one) oz)) .here u2) ?_
     rintro _ _ _ ⟨rfl, rfl, rfl⟩
     refine w_done <| w_del (.there (.there (.there (.there (.there .here))))) <| w_sl 3 (.pointer (some ⟨b2, 0, none⟩)) rfl <| w_sl 4 (.pointer (some ⟨b3, 0, none⟩)) rfl <| w_sl 5 (.pointer (some ⟨b4, 0, none⟩)) rfl <| w_sl 6 (errV 104 none) rfl <| w_sl 8 (v12) rfl <| w_sl 9 (.pointer (some ⟨b20, 0, none⟩)) rfl <| w_sl 11 (.pointer (some ⟨b42, 0, none⟩)) rfl <| wide_Int_Div.j1_ok (k := k) (hle.trans (((e9.trans e17).trans e39).trans e47)) he (h1_b.mono (((e9.trans e17).trans e39).trans e47)) (h13.mono ((e17.trans e39).trans e47)) (h19.mono (e39.trans e47)) h49
    ·
     refine w_else rfl (Bool.eq_false_iff.2 c43) <| w_skip <| w_del (.there (.there (.there (.there (.there .here))))) <| w_sl 3 (.pointer (some ⟨b2, 0, none⟩)) rfl <| w_sl 4 (.pointer (some ⟨b3, 0, none⟩)) rfl <| w_sl 5 (.pointer (some ⟨b4, 0, none⟩)) rfl <| w_sl 6 (errV 104 none) rfl <| w_sl 8 (v12) rfl <| w_sl 9 (.pointer (some ⟨b20, 0, none⟩)) rfl <| w_sl 11 (.pointer (some ⟨b42, 0, none⟩)) rfl <| wide_Int_Div.j1_ok (k := k) (hle.trans ((e9.trans e17).trans e39)) he (h1_b.mono ((e9.trans e17).trans e39)) (h13.mono (e17.trans e39)) (h19.mono e39) h41
noncomputable def ratio_common.C : Code := (Tryz.f122.body).getD .skip
def ratio_common.out (r : wide_Int × (Option Int)) (H : Hp) (v : Value) : Prop := ∃ v0, v = .tuple ⟨[.agg ⟨[.bool r.1.f_neg, v0]⟩, errV 104 r.2]⟩ ∧ Ro kU32 H v0 r.1.f_w
theorem ratio_common.out_mono (r : wide_Int × (Option Int)) {H H' : Hp} {v : Value} (hle : H.le H') (h : ratio_common.out r H v) : ratio_common.out r H' v := by
 obtain ⟨v0, rfl, h0⟩ := h; exact ⟨v0, rfl, h0.mono hle⟩
abbrev ratio_common.R (H0 : Hp) (L : Items) (r : wide_Int × (Option Int)) := fR H0 L (ratio_common.out r)
structure ratio_common.Hs where
 l0 : Bool → (List Int) → Bool → (List Int) → Bool → (List Int) → (Option Int) → Option (wide_Int × (Option Int))
noncomputable def ratio_common.b0 (k : Nat) (h : ratio_common.Hs)  (a_0 : Bool) (a_1 : List Int) (b_0 : Bool) (b_1 : List Int) (t4_0 : Bool) (t4_1 : List Int) (t5 : Option Int) : Option (wide_Int × (Option Int)) := (wide_Int_Sign.f k (⟨b_0, b_1⟩ : wide_Int)).bind fun y4 => if y4 = 0 then (some ((⟨a_0, a_1⟩ : wide_Int), none)) else ((wide_Int_Div.f k (⟨a_0, a_1⟩ : wide_Int) (⟨b_0, b_1⟩ : wide_Int)).bind fun y9 => if y9.2.2.isSome = true then (some ((⟨false, []⟩ : wide_Int), y9.2.2)) else (h.l0 b_0 b_1 y9.2.1.f_neg y9.2.1.f_w t4_0 t4_1 t5))
noncomputable def ratio_common.hs : Nat → ratio_common.Hs
 | 0 => ⟨fun _ _ _ _ _ _ _ => none⟩
 | k + 1 => ⟨fun x0 x1 x2 x3 x4 x5 x6 => ratio_common.b0 k (ratio_common.hs k) x0 x1 x2 x3 x4 x5 x6⟩
noncomputable def ratio_common.f (k : Nat) (a : wide_Int) (b : wide_Int) : Option (wide_Int × (Option Int)) := (fun h : ratio_common.Hs => h.l0 a.f_neg a.f_w b.f_neg b.f_w false [] none) (ratio_common.hs k)
structure ratio_common.LE (h h' : ratio_common.Hs) : Prop where
 l0 : ∀ y0 y1 y2 y3 y4 y5 y6, LeO (h.l0 y0 y1 y2 y3 y4 y5 y6) (h'.l0 y0 y1 y2 y3 y4 y5 y6)
theorem ratio_common.b0_mono {k : Nat} {h h' : ratio_common.Hs} (hl : ratio_common.LE h h') : ∀ y0 y1 y2 y3 y4 y5 y6, LeO (ratio_common.b0 k h y0 y1 y2 y3 y4 y5 y6) (ratio_common.b0 (k + 1) h' y0 y1 y2 y3 y4 y5 y6) := fun _ _ _ _ _ _ _ => (LeO.bind (wide_Int_Sign.mono k _) fun _ => LeO.ite (LeO.refl _) (LeO.bind (wide_Int_Div.mono k _ _) fun _ => LeO.ite (LeO.refl _) (hl.l0 _ _ _ _ _ _ _)))
theorem ratio_common.hs_mono : ∀ k, ratio_common.LE (ratio_common.hs k) (ratio_common.hs (k + 1))
 | 0 => ⟨fun _ _ _ _ _ _ _ => LeO.none _⟩
 | k + 1 => ⟨ratio_common.b0_mono (k := k) (ratio_common.hs_mono k)⟩
theorem ratio_common.mono : ∀ k y0 y1, LeO (ratio_common.f k y0 y1) (ratio_common.f (k + 1) y0 y1) := fun k _ _ => have hl := ratio_common.hs_mono k; by unfold ratio_common.f; exact (hl.l0 _ _ _ _ _ _ _)
noncomputable def ratio_common.Kl0 : List Item := .code (lopB (blkB (seqL (seqR ratio_common.C)))) :: .inLoop (lopB (blkB (seqL (seqR ratio_common.C)))) :: .inBlock 0 :: .code (seqR (seqR ratio_common.C)) :: []
structure ratio_common.OK (h : ratio_common.Hs) : Prop where
 l0 : ∀ {H0 H : Hp} {L : Items} {r : wide_Int × (Option Int)} {jk_ : Nat → Value} {a_0 : Bool} {a_1 : List Int} {b_0 : Bool} {b_1 : List Int} {t4_0 : Bool} {t4_1 : List Int} {t5 : Option Int} {v_a_1 : Value} {v_b_1 : Value} {v_t4_1 : Value} {b_a : Nat} {b_b : Nat} {b_t4 : Nat} (_ : H0.le H) (_he : h.l0 a_0 a_1 b_0 b_1 t4_0 t4_1 t5 = some r) (_h_a_1 : Ro kU32 H v_a_1 a_1) (_h_b_1 : Ro kU32 H v_b_1 b_1) (_h_t4_1 : Ro kU32 H v_t4_1 t4_1), Wp Tryz.prog 122 26 ratio_common.Kl0 (upd (upd (upd (upd jk_ 2 (.pointer (some ⟨b_a, 0, none⟩))) 3 (.pointer (some ⟨b_b, 0, none⟩))) 4 (.pointer (some ⟨b_t4, 0, none⟩))) 5 (errV 104 t5)) H (some (b_t4, .cells ⟨[.bool t4_0, v_t4_1]⟩ 24 (0, 0)) :: some (b_b, .cells ⟨[.bool b_0, v_b_1]⟩ 24 (0, 0)) :: some (b_a, .cells ⟨[.bool a_0, v_a_1]⟩ 24 (0, 0)) :: L) (ratio_common.R H0 L r)
theorem ratio_common.b0_ok {k : Nat} {h : ratio_common.Hs} (hh : ratio_common.OK h) {H0 H : Hp} {L : Items} {r : wide_Int × (Option Int)} {jk_ : Nat → Value} {a_0 : Bool} {a_1 : List Int} {b_0 : Bool} {b_1 : List Int} {t4_0 : Bool} {t4_1 : List Int} {t5 : Option Int} {v_a_1 : Value} {v_b_1 : Value} {v_t4_1 : Value} {b_a : Nat} {b_b : Nat} {b_t4 : Nat} (hle : H0.le H) (he : ratio_common.b0 k h a_0 a_1 b_0 b_1 t4_0 t4_1 t5 = some r) (h_a_1 : Ro kU32 H v_a_1 a_1) (h_b_1 : Ro kU32 H v_b_1 b_1) (h_t4_1 : Ro kU32 H v_t4_1 t4_1) : Wp Tryz.prog 122 26 ratio_common.Kl0 (upd (upd (upd (upd jk_ 2 (.pointer (some ⟨b_a, 0, none⟩))) 3 (.pointer (some ⟨b_b, 0, none⟩))) 4 (.pointer (some ⟨b_t4, 0, none⟩))) 5 (errV 104 t5)) H (some (b_t4, .cells ⟨[.bool t4_0, v_t4_1]⟩ 24 (0, 0)) :: some (b_b, .cells ⟨[.bool b_0, v_b_1]⟩ 24 (0, 0)) :: some (b_a, .cells ⟨[.bool a_0, v_a_1]⟩ 24 (0, 0)) :: L) (ratio_common.R H0 L r) := by
 unfold ratio_common.b0 at he
 unfold ratio_common.Kl0
 refine w_seq <| wR rfl <| wL (.agg ⟨[.bool b_0, v_b_1]⟩) ty24 rfl rfl (.there .here) rfl rfl ?_
 obtain ⟨y4, hy5, he⟩ := bs he
 refine w_d rfl (call_d (o_call co84 (vs := [.agg ⟨[.bool b_0, v_b_1]⟩]) rfl (wide_Int_Sign.calls k (a := ⟨b_0, b_1⟩) hy5 h_b_1))) <| w_d rfl (d_neq rfl rfl) <| w_done ?_
 rcases its he with ⟨c8, he⟩ | ⟨c8, he⟩
 ·
  refine w_else rfl (nd_t c8) <| w_exit rfl <| wR rfl <| wL (.agg ⟨[.bool a_0, v_a_1]⟩) ty24 rfl rfl (.there (.there .here)) rfl rfl <| w_a0 rfl (o_store (v := .agg ⟨[.bool a_0, v_a_1]⟩) sz24 rfl rfl rfl rfl (oc rfl (oc (h_a_1.one) oz)) .here u2) ?_
  rintro _ _ _ ⟨rfl, rfl, rfl⟩
  refine wA (errV 104 none) rfl rfl <| w_done ?_
  obtain rfl := sj he
  refine w_return fn_122 rs_122 (.box (v := .agg ⟨[.bool a_0, v_a_1]⟩) rfl ty24 rfl rfl .here rfl (.tmp (v := errV 104 none) rfl .nil)) <| ⟨⟨[_, _, _], rfl⟩, hle, ⟨v_a_1, rfl, h_a_1⟩⟩
 ·
  refine w_then rfl (nd_f c8) <| w_skip <| w_block <| wR rfl <| wL (.agg ⟨[.bool a_0, v_a_1]⟩) ty24 rfl rfl (.there (.there .here)) rfl rfl <| wL (.agg ⟨[.bool b_0, v_b_1]⟩) ty24 rfl rfl (.there .here) rfl rfl ?_
  obtain ⟨y9, hy10, he⟩ := bs he
  refine w_a rfl (o_call co124 (vs := [.agg ⟨[.bool a_0, v_a_1]⟩, .agg ⟨[.bool b_0, v_b_1]⟩]) rfl (wide_Int_Div.calls k (a := ⟨a_0, a_1⟩) (b := ⟨b_0, b_1⟩) hy10 h_a_1 h_b_1)) ?_
  rintro _ H11 _ ⟨rfl, e12, ⟨v13, v15, rfl, h14, h16⟩⟩
  refine wM (.tuple ⟨[.agg ⟨[.bool y9.1.f_neg, v13]⟩, .agg ⟨[.bool y9.2.1.f_neg, v15]⟩, errV 104 y9.2.2]⟩) rfl rfl <| w_d rfl (d_ext (vs := [.agg ⟨[.bool y9.1.f_neg, v13]⟩, .agg ⟨[.bool y9.2.1.f_neg, v15]⟩, errV 104 y9.2.2]) rfl rfl) <| w_d rfl (d_ext (vs := [.agg ⟨[.bool y9.1.f_neg, v13]⟩, .agg ⟨[.bool y9.2.1.f_neg, v15]⟩, errV 104 y9.2.2]) rfl rfl) <| w_d rfl (d_ext (vs := [.agg ⟨[.bool y9.1.f_neg, v13]⟩, .agg ⟨[.bool y9.2.1.f_neg, v15]⟩, errV 104 y9.2.2]) rfl rfl) <| w_a rfl (o_alloc zr24 rfl) ?_
  rintro _ _ _ ⟨b17, rfl, rfl, rfl⟩
  refine w_a rfl (o_alloc zr24 rfl) ?_
  rintro _ _ _ ⟨b18, rfl, rfl, rfl⟩
  refine w_a0 rfl (o_store (v := .agg ⟨[.bool y9.1.f_neg, v13]⟩) sz24 rfl rfl rfl rfl (oc rfl (oc (h14.one) oz)) (.there .here) u2) ?_
  rintro _ _ _ ⟨rfl, rfl, rfl⟩
  refine w_a0 rfl (o_store (v := .agg ⟨[.bool y9.2.1.f_neg, v15]⟩) sz24 rfl rfl rfl rfl (oc rfl (oc (h16.one) oz)) .here u2) ?_
  rintro _ _ _ ⟨rfl, rfl, rfl⟩
  refine wA (errV 104 y9.2.2) rfl rfl <| wE <| wR rfl <| wM (errV 104 y9.2.2) rfl rfl <| w_d rfl (d_nenil (e := y9.2.2) Tryz.underlying30 rfl) <| w_done ?_
  rcases its he with ⟨c19, he⟩ | ⟨c19, he⟩
  ·
   refine w_then rfl c19 <| wR rfl <| w_d rfl (d_build (cs' := [.bool false, .slice none 0 0]) Tryz.underlying24 zr24 rfl (by kernel_rfl) (parts := []) rfl .nil) <| wM (errV 104 y9.2.2) rfl rfl <| w_a0 rfl (o_store (v := .agg ⟨[.bool false, .slice none 0 0]⟩) sz24 rfl rfl rfl rfl (oc rfl (oc rfl oz)) (.there (.there .here)) u2) ?_
   rintro _ _ _ ⟨rfl, rfl, rfl⟩
   refine wA (errV 104 y9.2.2) rfl rfl <| w_done ?_
   obtain rfl := sj he
   refine w_return fn_122 rs_122 (.box (v := .agg ⟨[.bool false, .slice none 0 0]⟩) rfl ty24 rfl rfl (.there (.there .here)) rfl (.tmp (v := errV 104 y9.2.2) rfl .nil)) <| ⟨⟨[_, _, _, _, _], rfl⟩, hle.trans e12, ⟨.slice none 0 0, rfl, (ro_nil _ _)⟩⟩
  ·
   refine w_else rfl (Bool.eq_false_iff.2 c19) <| w_skip <| w_drawn (p := 3) (tl := [3]) [[], [], [(0, some 23)]] [some 23, some 24, none] (fctF (.is (.agg ⟨[.bool b_0, v_b_1]⟩) :: .is (.agg ⟨[.bool y9.2.1.f_neg, v15]⟩) :: .itm (fun H itq_ => itq_ = some (b_a, .cells ⟨[.bool b_0, v_b_1]⟩ 24 (0, 0))) (by rintro _ _ _ hle rfl; exact rfl) :: [])) (fun m_ => some (b18, .cells ⟨[.bool y9.2.1.f_neg, v15]⟩ 24 (0, 0)) :: some (b17, .cells ⟨[.bool y9.1.f_neg, v13]⟩ 24 (0, 0)) :: some (b_t4, .cells ⟨[.bool t4_0, v_t4_1]⟩ 24 (0, 0)) :: some (b_b, .cells ⟨[.bool b_0, v_b_1]⟩ 24 (0, 0)) :: m_ 2 :: L) (fun i_ => if i_ = 2 then some (b_a, .cells ⟨[.bool a_0, v_a_1]⟩ 24 (0, 0)) else none) mixed (by kernel_rfl) (by kernel_rfl) rfl (fct_mono (by kernel_rfl)) ⟨(fun H' m_ hH hm_ hu_ => dn <| s_d (m_ 0) rfl (d_loado (v := .agg ⟨[.bool b_0, v_b_1]⟩) ty24 rfl (.there (.there (.there .here))) rfl rfl rfl rfl) (by exact rfl) rfl), (fun H' m_ hH hm_ hu_ => dn <| s_d (m_ 1) rfl (d_loado (v := .agg ⟨[.bool y9.2.1.f_neg, v15]⟩) ty24 rfl .here rfl rfl rfl rfl) (by exact rfl) rfl), (by rintro H' m_ hH hm_ hu_ _ rfl; exact dn <| s_store (some (b_a, .cells ⟨[.bool b_0, v_b_1]⟩ 24 (0, 0))) hm_ rfl (o_store (v := .agg ⟨[.bool b_0, v_b_1]⟩) sz24 rfl rfl rfl rfl (oc rfl (oc (h_b_1.one) oz)) (.there (.there (.there (.there .here)))) u2) rfl (by exact ⟨rfl, rfl⟩)), trivial⟩ ?_
   intro H20 e21
   rintro _ _ rfl _ _ rfl _ _ ⟨rfl, rfl⟩
   refine w_it (L' := some (b18, .cells ⟨[.bool y9.2.1.f_neg, v15]⟩ 24 (0, 0)) :: some (b17, .cells ⟨[.bool y9.1.f_neg, v13]⟩ 24 (0, 0)) :: some (b_t4, .cells ⟨[.bool t4_0, v_t4_1]⟩ 24 (0, 0)) :: some (b_b, .cells ⟨[.bool b_0, v_b_1]⟩ 24 (0, 0)) :: some (b_a, .cells ⟨[.bool b_0, v_b_1]⟩ 24 (0, 0)) :: L) rfl <| w_a0 rfl (o_store (v := .agg ⟨[.bool y9.2.1.f_neg, v15]⟩) sz24 rfl rfl rfl rfl (oc rfl (oc (h16.one) oz)) (.there (.there (.there .here))) u2) ?_
   rintro _ _ _ ⟨rfl, rfl, rfl⟩
   refine w_done <| w_inBlock <| w_inLoop <| w_del (.there .here) <| w_del .here <| w_sl 2 (.pointer (some ⟨b_a, 0, none⟩)) rfl <| w_sl 3 (.pointer (some ⟨b_b, 0, none⟩)) rfl <| w_sl 4 (.pointer (some ⟨b_t4, 0, none⟩)) rfl <| w_sl 5 (errV 104 t5) rfl <| hh.l0 (hle.trans (e12.trans e21)) he (h_b_1.mono (e12.trans e21)) (h16.mono e21) (h_t4_1.mono (e12.trans e21))
theorem ratio_common.ok : ∀ k, ratio_common.OK (ratio_common.hs k)
 | 0 => ⟨(by intros; exact nomatch (show none = some _ from by assumption))⟩
 | k + 1 => ⟨ratio_common.b0_ok (k := k) (ratio_common.ok k)⟩
theorem ratio_common.calls (k : Nat) {H : Hp} {L : Items} {a : wide_Int} {b : wide_Int} {v0_a : Value} {v1_b : Value} {r : wide_Int × (Option Int)} (he : ratio_common.f k a b = some r) (h0_a : Ro kU32 H v0_a a.f_w) (h1_b : Ro kU32 H v1_b b.f_w) : Ct Tryz.prog 122 ⟨[.agg ⟨[.bool a.f_neg, v0_a]⟩, .agg ⟨[.bool b.f_neg, v1_b]⟩]⟩ H L (cR H L (ratio_common.out r)) := by
 refine ct_out (O := ratio_common.out r) ?_
 have hle : H.le H := .refl _
 have hh := ratio_common.ok k
 unfold ratio_common.f at he
 refine ct_enter (args := [.agg ⟨[.bool a.f_neg, v0_a]⟩, .agg ⟨[.bool b.f_neg, v1_b]⟩]) fn_122 rfl nt_122 rfl <| wR rfl <| w_a rfl (o_box (v := .agg ⟨[.bool a.f_neg, v0_a]⟩) rfl rfl) ?_
 rintro _ _ _ ⟨b1, rfl, rfl, rfl⟩
 refine w_a rfl (o_box (v := .agg ⟨[.bool b.f_neg, v1_b]⟩) rfl rfl) ?_
 rintro _ _ _ ⟨b2, rfl, rfl, rfl⟩
 refine w_a rfl (o_alloc zr24 rfl) ?_
 rintro _ _ _ ⟨b3, rfl, rfl, rfl⟩
 refine wA (errV 104 none) rfl rfl <| wE <| w_block <| w_loop <| w_sl 2 (.pointer (some ⟨b1, 0, none⟩)) rfl <| w_sl 3 (.pointer (some ⟨b2, 0, none⟩)) rfl <| w_sl 4 (.pointer (some ⟨b3, 0, none⟩)) rfl <| w_sl 5 (errV 104 none) rfl <| hh.l0 hle he h0_a h1_b (ro_nil _ _)
noncomputable def ratio_Of.C : Code := (Tryz.f73.body).getD .skip
def ratio_Of.out (r : ratio_Ratio × (Option Int)) (H : Hp) (v : Value) : Prop := ∃ v0, ∃ v1, v = .tuple ⟨[.agg ⟨[.bool r.1.f_n.f_neg, v0, .bool r.1.f_d.f_neg, v1]⟩, errV 104 r.2]⟩ ∧ Ro kU32 H v0 r.1.f_n.f_w ∧ Ro kU32 H v1 r.1.f_d.f_w
theorem ratio_Of.out_mono (r : ratio_Ratio × (Option Int)) {H H' : Hp} {v : Value} (hle : H.le H') (h : ratio_Of.out r H v) : ratio_Of.out r H' v := by
 obtain ⟨v0, v1, rfl, h0, h1⟩ := h; exact ⟨v0, v1, rfl, h0.mono hle, h1.mono hle⟩
abbrev ratio_Of.R (H0 : Hp) (L : Items) (r : ratio_Ratio × (Option Int)) := fR H0 L (ratio_Of.out r)
noncomputable def ratio_Of.j1 (k : Nat)  (n_0 : Bool) (n_1 : List Int) (d_0 : Bool) (d_1 : List Int) : Option (ratio_Ratio × (Option Int)) := (ratio_abs.f k (⟨n_0, n_1⟩ : wide_Int)).bind fun y28 => (ratio_common.f k y28 (⟨d_0, d_1⟩ : wide_Int)).bind fun y34 => if y34.2.isSome = true then (some ((⟨(⟨false, []⟩ : wide_Int), (⟨false, []⟩ : wide_Int)⟩ : ratio_Ratio), y34.2)) else ((wide_Int_Div.f k (⟨n_0, n_1⟩ : wide_Int) y34.1).bind fun y52 => if y52.2.2.isSome = true then (some ((⟨(⟨false, []⟩ : wide_Int), (⟨false, []⟩ : wide_Int)⟩ : ratio_Ratio), y52.2.2)) else ((wide_Int_Div.f k (⟨d_0, d_1⟩ : wide_Int) y34.1).bind fun y63 => if y63.2.2.isSome = true then (some ((⟨(⟨false, []⟩ : wide_Int), (⟨false, []⟩ : wide_Int)⟩ : ratio_Ratio), y63.2.2)) else (some ((⟨y52.1, y63.1⟩ : ratio_Ratio), none))))
noncomputable def ratio_Of.f (k : Nat) (n : wide_Int) (d : wide_Int) : Option (ratio_Ratio × (Option Int)) := (wide_Int_Sign.f k d).bind fun y4 => if y4 = 0 then (some ((⟨(⟨false, []⟩ : wide_Int), (⟨false, []⟩ : wide_Int)⟩ : ratio_Ratio), some 11)) else ((wide_Int_Sign.f k d).bind fun y9 => if y9 < 0 then ((wide_Int_Neg.f k n).bind fun y14 => (wide_Int_Neg.f k d).bind fun y22 => ratio_Of.j1 k y14.f_neg y14.f_w y22.f_neg y22.f_w) else (ratio_Of.j1 k n.f_neg n.f_w d.f_neg d.f_w))
theorem ratio_Of.j1_mono {k : Nat} : ∀ y0 y1 y2 y3, LeO (ratio_Of.j1 k y0 y1 y2 y3) (ratio_Of.j1 (k + 1) y0 y1 y2 y3) := fun _ _ _ _ => (LeO.bind (ratio_abs.mono k _) fun _ => LeO.bind (ratio_common.mono k _ _) fun _ => LeO.ite (LeO.refl _) (LeO.bind (wide_Int_Div.mono k _ _) fun _ => LeO.ite (LeO.refl _) (LeO.bind (wide_Int_Div.mono k _ _) fun _ => LeO.ite (LeO.refl _) (LeO.refl _))))
theorem ratio_Of.mono : ∀ k y0 y1, LeO (ratio_Of.f k y0 y1) (ratio_Of.f (k + 1) y0 y1) := fun k _ _ => by unfold ratio_Of.f; exact (LeO.bind (wide_Int_Sign.mono k _) fun _ => LeO.ite (LeO.refl _) (LeO.bind (wide_Int_Sign.mono k _) fun _ => LeO.ite (LeO.bind (wide_Int_Neg.mono k _) fun _ => LeO.bind (wide_Int_Neg.mono k _) fun _ => ratio_Of.j1_mono (k := k)  _ _ _ _) (ratio_Of.j1_mono (k := k)  _ _ _ _)))
noncomputable def ratio_Of.Kj1 : List Item := .code (seqR (seqR (seqR ratio_Of.C))) :: []
theorem ratio_Of.j1_ok {k : Nat} {H0 H : Hp} {L : Items} {r : ratio_Ratio × (Option Int)} {jk_ : Nat → Value} {n_0 : Bool} {n_1 : List Int} {d_0 : Bool} {d_1 : List Int} {v_n_1 : Value} {v_d_1 : Value} {b_n : Nat} {b_d : Nat} {b_t4 : Nat} (hle : H0.le H) (he : ratio_Of.j1 k n_0 n_1 d_0 d_1 = some r) (h_n_1 : Ro kU32 H v_n_1 n_1) (h_d_1 : Ro kU32 H v_d_1 d_1) : Wp Tryz.prog 73 60 ratio_Of.Kj1 (upd (upd (upd (upd jk_ 2 (.pointer (some ⟨b_n, 0, none⟩))) 3 (.pointer (some ⟨b_d, 0, none⟩))) 4 (.pointer (some ⟨b_t4, 0, none⟩))) 5 (errV 104 none)) H (some (b_t4, .cells ⟨[.bool false, .slice none 0 0, .bool false, .slice none 0 0]⟩ 26 (0, 0)) :: some (b_d, .cells ⟨[.bool d_0, v_d_1]⟩ 24 (0, 0)) :: some (b_n, .cells ⟨[.bool n_0, v_n_1]⟩ 24 (0, 0)) :: L) (ratio_Of.R H0 L r) := by
 unfold ratio_Of.j1 at he
 unfold ratio_Of.Kj1
 refine w_seq ?_
 obtain ⟨y28, hy29, he⟩ := bs he
 obtain ⟨y34, hy35, he⟩ := bs he
 refine w_none (?_)
 refine w_drawn (p := 9) (tl := [9]) [[], [(0, some 25)], [], [(1, some 26), (2, some 27)], [(3, some 28)], [(4, some 24)], [(4, some 24)], [], [(5, some 29), (7, some 6)]] [some 25, some 26, some 27, some 28, some 24, some 29, some 30, some 6, none] (fctF (.is (.agg ⟨[.bool n_0, v_n_1]⟩) :: .of (ratio_abs.out y28) (ratio_abs.out_mono _) :: .is (.agg ⟨[.bool d_0, v_d_1]⟩) :: .of (ratio_common.out y34) (ratio_common.out_mono _) :: .of (fun H v => ∃ v40, v = .tuple ⟨[.agg ⟨[.bool y34.1.f_neg, v40]⟩, errV 104 y34.2]⟩ ∧ Ro kU32 H v40 y34.1.f_w) (by rintro _ _ _ hle ⟨v40, rfl, h41⟩; exact ⟨v40, rfl, h41.mono hle⟩) :: .of (fun H v => ∃ v42, v = .agg ⟨[.bool y34.1.f_neg, v42]⟩ ∧ Ro kU32 H v42 y34.1.f_w) (by rintro _ _ _ hle ⟨v42, rfl, h43⟩; exact ⟨v42, rfl, h43.mono hle⟩) :: .is (errV 104 y34.2) :: .box 24 [.bool false, .slice none 0 0] :: .st 7 (fun H bq_ itq_ => ∃ v45, itq_ = some (bq_, .cells ⟨[.bool y34.1.f_neg, v45]⟩ 24 (0, 0)) ∧ Ro kU32 H v45 y34.1.f_w) (by rintro _ _ _ _ hle ⟨v45, rfl, h46⟩; exact ⟨v45, rfl, h46.mono hle⟩) :: [])) (fun m_ => pk (m_ 8) (m_ 7) :: some (b_t4, .cells ⟨[.bool false, .slice none 0 0, .bool false, .slice none 0 0]⟩ 26 (0, 0)) :: some (b_d, .cells ⟨[.bool d_0, v_d_1]⟩ 24 (0, 0)) :: some (b_n, .cells ⟨[.bool n_0, v_n_1]⟩ 24 (0, 0)) :: L) (fun _ => none) mixed (by kernel_rfl) (by kernel_rfl) rfl (fct_mono (by kernel_rfl)) ⟨(fun H' m_ hH hm_ hu_ => dn <| s_d (m_ 0) rfl (d_loado (v := .agg ⟨[.bool n_0, v_n_1]⟩) ty24 rfl (.there (.there (.there .here))) rfl rfl rfl rfl) (by exact rfl) rfl), (by rintro H' m_ hH hm_ hu_ _ rfl; exact dn <| s_k (m_ 1) rfl (o_call co123 (vs := [.agg ⟨[.bool n_0, v_n_1]⟩]) rfl (ratio_abs.calls k (a := ⟨n_0, n_1⟩) hy29 (h_n_1.mono hH))) rfl (by rintro v_ H_ _ ⟨rfl, e_, h_⟩; exact ⟨rfl, e_, h_⟩)), (fun H' m_ hH hm_ hu_ => dn <| s_d (m_ 2) rfl (d_loado (v := .agg ⟨[.bool d_0, v_d_1]⟩) ty24 rfl (.there (.there .here)) rfl rfl rfl rfl) (by exact rfl) rfl), (by rintro H' m_ hH hm_ hu_ _ ⟨v32, rfl, h33⟩ _ rfl; exact dn <| s_k (m_ 3) rfl (o_call co122 (vs := [.agg ⟨[.bool y28.f_neg, v32]⟩, .agg ⟨[.bool d_0, v_d_1]⟩]) rfl (ratio_common.calls k (a := y28) (b := ⟨d_0, d_1⟩) hy35 h33 (h_d_1.mono hH))) rfl (by rintro v_ H_ _ ⟨rfl, e_, h_⟩; exact ⟨rfl, e_, h_⟩)), (by rintro H' m_ hH hm_ hu_ _ ⟨v38, rfl, h39⟩; exact dn <| s_d (m_ 4) rfl (d_move (v := .tuple ⟨[.agg ⟨[.bool y34.1.f_neg, v38]⟩, errV 104 y34.2]⟩) rfl) (by exact ⟨v38, rfl, h39⟩) rfl), (by rintro H' m_ hH hm_ hu_ _ ⟨v40, rfl, h41⟩; exact dn <| s_d (m_ 5) rfl (d_ext (vs := [.agg ⟨[.bool y34.1.f_neg, v40]⟩, errV 104 y34.2]) rfl rfl) (by exact ⟨v40, rfl, h41⟩) rfl), (by rintro H' m_ hH hm_ hu_ _ ⟨v40, rfl, h41⟩; exact dn <| s_d (m_ 6) rfl (d_ext (vs := [.agg ⟨[.bool y34.1.f_neg, v40]⟩, errV 104 y34.2]) rfl rfl) (by exact rfl) rfl), (fun H' m_ hH hm_ hu_ => dn <| s_box hm_ rfl rfl (o_alloc zr24 rfl) rfl (fun _ => (pk_upd (hu_ 8 (by kernel_rfl)))) (by exact fun b_ => ⟨b_, rfl, rfl⟩)), (by rintro H' m_ hH hm_ hu_ _ ⟨v42, rfl, h43⟩ _ ⟨b44, rfl, hb44_⟩; exact dn <| s_store2 (Λ' := fun z_ => z_ :: some (b_t4, .cells ⟨[.bool false, .slice none 0 0, .bool false, .slice none 0 0]⟩ 26 (0, 0)) :: some (b_d, .cells ⟨[.bool d_0, v_d_1]⟩ 24 (0, 0)) :: some (b_n, .cells ⟨[.bool n_0, v_n_1]⟩ 24 (0, 0)) :: L) (some (b44, .cells ⟨[.bool y34.1.f_neg, v42]⟩ 24 (0, 0))) hm_ rfl hb44_ rfl (o_store (v := .agg ⟨[.bool y34.1.f_neg, v42]⟩) sz24 rfl rfl rfl rfl (oc rfl (oc (h43.one) oz)) .here u2) rfl rfl (by exact ⟨rfl, v42, congrArg (fun b_ => (some (b_, Obj.cells ⟨[.bool y34.1.f_neg, v42]⟩ 24 (0, 0)) : Item')) (bof_eq hb44_).symm, h43⟩)), trivial⟩ ?_
 intro H49 e50
 rintro _ _ rfl _ _ ⟨v32, rfl, h33⟩ _ _ rfl _ _ ⟨v38, rfl, h39⟩ _ _ ⟨v40, rfl, h41⟩ _ _ ⟨v42, rfl, h43⟩ _ _ rfl _ _ ⟨b44, rfl, rfl⟩ _ i47 ⟨rfl, v45, h48, h46⟩
 replace h48 : i47 = some (b44, .cells ⟨[.bool y34.1.f_neg, v45]⟩ 24 (0, 0)) := h48
 subst h48
 refine w_it (L' := some (b44, .cells ⟨[.bool y34.1.f_neg, v45]⟩ 24 (0, 0)) :: some (b_t4, .cells ⟨[.bool false, .slice none 0 0, .bool false, .slice none 0 0]⟩ 26 (0, 0)) :: some (b_d, .cells ⟨[.bool d_0, v_d_1]⟩ 24 (0, 0)) :: some (b_n, .cells ⟨[.bool n_0, v_n_1]⟩ 24 (0, 0)) :: L) rfl <| wA (errV 104 y34.2) rfl rfl <| wE <| wR rfl <| wM (errV 104 y34.2) rfl rfl <| w_d rfl (d_nenil (e := y34.2) Tryz.underlying30 rfl) <| w_done ?_
 rcases its he with ⟨c51, he⟩ | ⟨c51, he⟩
 ·
  refine w_then rfl c51 <| wR rfl <| w_d rfl (d_build (cs' := [.bool false, .slice none 0 0, .bool false, .slice none 0 0]) Tryz.underlying26 zr26 rfl (by kernel_rfl) (parts := []) rfl .nil) <| wM (errV 104 y34.2) rfl rfl <| w_a0 rfl (o_store (v := .agg ⟨[.bool false, .slice none 0 0, .bool false, .slice none 0 0]⟩) sz26 rfl rfl rfl rfl (oc rfl (oc rfl (oc rfl (oc rfl oz)))) (.there .here) u4) ?_
  rintro _ _ _ ⟨rfl, rfl, rfl⟩
  refine wA (errV 104 y34.2) rfl rfl <| w_done ?_
  obtain rfl := sj he
  refine w_return fn_73 rs_73 (.box (v := .agg ⟨[.bool false, .slice none 0 0, .bool false, .slice none 0 0]⟩) rfl ty26 rfl rfl (.there .here) rfl (.tmp (v := errV 104 y34.2) rfl .nil)) <| ⟨⟨[_, _, _, _], rfl⟩, hle.trans e50, ⟨.slice none 0 0, .slice none 0 0, rfl, (ro_nil _ _), (ro_nil _ _)⟩⟩
 ·
  refine w_else rfl (Bool.eq_false_iff.2 c51) <| w_skip <| wR rfl <| wL (.agg ⟨[.bool n_0, v_n_1]⟩) ty24 rfl rfl (.there (.there (.there .here))) rfl rfl <| wL (.agg ⟨[.bool y34.1.f_neg, v45]⟩) ty24 rfl rfl .here rfl rfl ?_
  obtain ⟨y52, hy53, he⟩ := bs he
  refine w_a rfl (o_call co124 (vs := [.agg ⟨[.bool n_0, v_n_1]⟩, .agg ⟨[.bool y34.1.f_neg, v45]⟩]) rfl (wide_Int_Div.calls k (a := ⟨n_0, n_1⟩) (b := y34.1) hy53 (h_n_1.mono e50) h46)) ?_
  rintro _ H54 _ ⟨rfl, e55, ⟨v56, v58, rfl, h57, h59⟩⟩
  refine wM (.tuple ⟨[.agg ⟨[.bool y52.1.f_neg, v56]⟩, .agg ⟨[.bool y52.2.1.f_neg, v58]⟩, errV 104 y52.2.2]⟩) rfl rfl <| w_d rfl (d_ext (vs := [.agg ⟨[.bool y52.1.f_neg, v56]⟩, .agg ⟨[.bool y52.2.1.f_neg, v58]⟩, errV 104 y52.2.2]) rfl rfl) <| w_d rfl (d_ext (vs := [.agg ⟨[.bool y52.1.f_neg, v56]⟩, .agg ⟨[.bool y52.2.1.f_neg, v58]⟩, errV 104 y52.2.2]) rfl rfl) <| w_d rfl (d_ext (vs := [.agg ⟨[.bool y52.1.f_neg, v56]⟩, .agg ⟨[.bool y52.2.1.f_neg, v58]⟩, errV 104 y52.2.2]) rfl rfl) <| w_a rfl (o_alloc zr24 rfl) ?_
  rintro _ _ _ ⟨b60, rfl, rfl, rfl⟩
  refine w_a rfl (o_alloc zr24 rfl) ?_
  rintro _ _ _ ⟨b61, rfl, rfl, rfl⟩
  refine w_a0 rfl (o_store (v := .agg ⟨[.bool y52.1.f_neg, v56]⟩) sz24 rfl rfl rfl rfl (oc rfl (oc (h57.one) oz)) (.there .here) u2) ?_
  rintro _ _ _ ⟨rfl, rfl, rfl⟩
  refine w_a0 rfl (o_store (v := .agg ⟨[.bool y52.2.1.f_neg, v58]⟩) sz24 rfl rfl rfl rfl (oc rfl (oc (h59.one) oz)) .here u2) ?_
  rintro _ _ _ ⟨rfl, rfl, rfl⟩
  refine wA (errV 104 y52.2.2) rfl rfl <| wE <| wR rfl <| wM (errV 104 y52.2.2) rfl rfl <| w_d rfl (d_nenil (e := y52.2.2) Tryz.underlying30 rfl) <| w_done ?_
  rcases its he with ⟨c62, he⟩ | ⟨c62, he⟩
  ·
   refine w_then rfl c62 <| wR rfl <| w_d rfl (d_build (cs' := [.bool false, .slice none 0 0, .bool false, .slice none 0 0]) Tryz.underlying26 zr26 rfl (by kernel_rfl) (parts := []) rfl .nil) <| wM (errV 104 y52.2.2) rfl rfl <| w_a0 rfl (o_store (v := .agg ⟨[.bool false, .slice none 0 0, .bool false, .slice none 0 0]⟩) sz26 rfl rfl rfl rfl (oc rfl (oc rfl (oc rfl (oc rfl oz)))) (.there (.there (.there .here))) u4) ?_
   rintro _ _ _ ⟨rfl, rfl, rfl⟩
   refine wA (errV 104 y52.2.2) rfl rfl <| w_done ?_
   obtain rfl := sj he
   refine w_return fn_73 rs_73 (.box (v := .agg ⟨[.bool false, .slice none 0 0, .bool false, .slice none 0 0]⟩) rfl ty26 rfl rfl (.there (.there (.there .here))) rfl (.tmp (v := errV 104 y52.2.2) rfl .nil)) <| ⟨⟨[_, _, _, _, _, _], rfl⟩, hle.trans (e50.trans e55), ⟨.slice none 0 0, .slice none 0 0, rfl, (ro_nil _ _), (ro_nil _ _)⟩⟩
  ·
   refine w_else rfl (Bool.eq_false_iff.2 c62) <| w_skip <| wR rfl <| wL (.agg ⟨[.bool d_0, v_d_1]⟩) ty24 rfl rfl (.there (.there (.there (.there .here)))) rfl rfl <| wL (.agg ⟨[.bool y34.1.f_neg, v45]⟩) ty24 rfl rfl (.there (.there .here)) rfl rfl ?_
   obtain ⟨y63, hy64, he⟩ := bs he
   refine w_a rfl (o_call co124 (vs := [.agg ⟨[.bool d_0, v_d_1]⟩, .agg ⟨[.bool y34.1.f_neg, v45]⟩]) rfl (wide_Int_Div.calls k (a := ⟨d_0, d_1⟩) (b := y34.1) hy64 (h_d_1.mono (e50.trans e55)) (h46.mono e55))) ?_
   rintro _ H65 _ ⟨rfl, e66, ⟨v67, v69, rfl, h68, h70⟩⟩
   refine wM (.tuple ⟨[.agg ⟨[.bool y63.1.f_neg, v67]⟩, .agg ⟨[.bool y63.2.1.f_neg, v69]⟩, errV 104 y63.2.2]⟩) rfl rfl <| w_d rfl (d_ext (vs := [.agg ⟨[.bool y63.1.f_neg, v67]⟩, .agg ⟨[.bool y63.2.1.f_neg, v69]⟩, errV 104 y63.2.2]) rfl rfl) <| w_d rfl (d_ext (vs := [.agg ⟨[.bool y63.1.f_neg, v67]⟩, .agg ⟨[.bool y63.2.1.f_neg, v69]⟩, errV 104 y63.2.2]) rfl rfl) <| w_d rfl (d_ext (vs := [.agg ⟨[.bool y63.1.f_neg, v67]⟩, .agg ⟨[.bool y63.2.1.f_neg, v69]⟩, errV 104 y63.2.2]) rfl rfl) <| w_a rfl (o_alloc zr24 rfl) ?_
   rintro _ _ _ ⟨b71, rfl, rfl, rfl⟩
   refine w_a rfl (o_alloc zr24 rfl) ?_
   rintro _ _ _ ⟨b72, rfl, rfl, rfl⟩
   refine w_a0 rfl (o_store (v := .agg ⟨[.bool y63.1.f_neg, v67]⟩) sz24 rfl rfl rfl rfl (oc rfl (oc (h68.one) oz)) (.there .here) u2) ?_
   rintro _ _ _ ⟨rfl, rfl, rfl⟩
   refine w_a0 rfl (o_store (v := .agg ⟨[.bool y63.2.1.f_neg, v69]⟩) sz24 rfl rfl rfl rfl (oc rfl (oc (h70.one) oz)) .here u2) ?_
   rintro _ _ _ ⟨rfl, rfl, rfl⟩
   refine wA (errV 104 y63.2.2) rfl rfl <| wE <| wR rfl <| wM (errV 104 y63.2.2) rfl rfl <| w_d rfl (d_nenil (e := y63.2.2) Tryz.underlying30 rfl) <| w_done ?_
   rcases its he with ⟨c73, he⟩ | ⟨c73, he⟩
   ·
    refine w_then rfl c73 <| wR rfl <| w_d rfl (d_build (cs' := [.bool false, .slice none 0 0, .bool false, .slice none 0 0]) Tryz.underlying26 zr26 rfl (by kernel_rfl) (parts := []) rfl .nil) <| wM (errV 104 y63.2.2) rfl rfl <| w_a0 rfl (o_store (v := .agg ⟨[.bool false, .slice none 0 0, .bool false, .slice none 0 0]⟩) sz26 rfl rfl rfl rfl (oc rfl (oc rfl (oc rfl (oc rfl oz)))) (.there (.there (.there (.there (.there .here))))) u4) ?_
    rintro _ _ _ ⟨rfl, rfl, rfl⟩
    refine wA (errV 104 y63.2.2) rfl rfl <| w_done ?_
    obtain rfl := sj he
    refine w_return fn_73 rs_73 (.box (v := .agg ⟨[.bool false, .slice none 0 0, .bool false, .slice none 0 0]⟩) rfl ty26 rfl rfl (.there (.there (.there (.there (.there .here))))) rfl (.tmp (v := errV 104 y63.2.2) rfl .nil)) <| ⟨⟨[_, _, _, _, _, _, _, _], rfl⟩, hle.trans ((e50.trans e55).trans e66), ⟨.slice none 0 0, .slice none 0 0, rfl, (ro_nil _ _), (ro_nil _ _)⟩⟩
   ·
    refine w_else rfl (Bool.eq_false_iff.2 c73) <| w_skip <| wR rfl <| wL (.agg ⟨[.bool y52.1.f_neg, v56]⟩) ty24 rfl rfl (.there (.there (.there .here))) rfl rfl <| wL (.agg ⟨[.bool y63.1.f_neg, v67]⟩) ty24 rfl rfl (.there .here) rfl rfl <| w_d rfl (d_build (cs' := [.bool y52.1.f_neg, v56, .bool y63.1.f_neg, v67]) Tryz.underlying26 zr26 rfl (by kernel_rfl) (parts := [(0, .agg ⟨[.bool y52.1.f_neg, v56]⟩), (1, .agg ⟨[.bool y63.1.f_neg, v67]⟩)]) rfl (.cons (place_of rfl sz24 rfl) rfl rfl u2 (.cons (place_of rfl sz24 rfl) rfl rfl (.there (.there u2)) .nil))) <| w_a0 rfl (o_store (v := .agg ⟨[.bool y52.1.f_neg, v56, .bool y63.1.f_neg, v67]⟩) sz26 rfl rfl rfl rfl (oc rfl (oc (h57.one) (oc rfl (oc (h68.one) oz)))) (.there (.there (.there (.there (.there .here))))) u4) ?_
    rintro _ _ _ ⟨rfl, rfl, rfl⟩
    refine wA (errV 104 none) rfl rfl <| w_done ?_
    obtain rfl := sj he
    refine w_return fn_73 rs_73 (.box (v := .agg ⟨[.bool y52.1.f_neg, v56, .bool y63.1.f_neg, v67]⟩) rfl ty26 rfl rfl (.there (.there (.there (.there (.there .here))))) rfl (.tmp (v := errV 104 none) rfl .nil)) <| ⟨⟨[_, _, _, _, _, _, _, _], rfl⟩, hle.trans ((e50.trans e55).trans e66), ⟨v56, v67, rfl, (h57.mono e66), h68⟩⟩
theorem ratio_Of.calls (k : Nat) {H : Hp} {L : Items} {n : wide_Int} {d : wide_Int} {v0_n : Value} {v1_d : Value} {r : ratio_Ratio × (Option Int)} (he : ratio_Of.f k n d = some r) (h0_n : Ro kU32 H v0_n n.f_w) (h1_d : Ro kU32 H v1_d d.f_w) : Ct Tryz.prog 73 ⟨[.agg ⟨[.bool n.f_neg, v0_n]⟩, .agg ⟨[.bool d.f_neg, v1_d]⟩]⟩ H L (cR H L (ratio_Of.out r)) := by
 refine ct_out (O := ratio_Of.out r) ?_
 have hle : H.le H := .refl _
 unfold ratio_Of.f at he
 refine ct_enter (args := [.agg ⟨[.bool n.f_neg, v0_n]⟩, .agg ⟨[.bool d.f_neg, v1_d]⟩]) fn_73 rfl nt_73 rfl <| wR rfl <| w_a rfl (o_box (v := .agg ⟨[.bool n.f_neg, v0_n]⟩) rfl rfl) ?_
 rintro _ _ _ ⟨b1, rfl, rfl, rfl⟩
 refine w_a rfl (o_box (v := .agg ⟨[.bool d.f_neg, v1_d]⟩) rfl rfl) ?_
 rintro _ _ _ ⟨b2, rfl, rfl, rfl⟩
 refine w_a rfl (o_alloc zr26 rfl) ?_
 rintro _ _ _ ⟨b3, rfl, rfl, rfl⟩
 refine wA (errV 104 none) rfl rfl <| wE <| wR rfl <| wL (.agg ⟨[.bool d.f_neg, v1_d]⟩) ty24 rfl rfl (.there .here) rfl rfl ?_
 obtain ⟨y4, hy5, he⟩ := bs he
 refine w_d rfl (call_d (o_call co84 (vs := [.agg ⟨[.bool d.f_neg, v1_d]⟩]) rfl (wide_Int_Sign.calls k (a := d) hy5 h1_d))) <| w_d rfl (d_eql rfl rfl) <| w_done ?_
 rcases its he with ⟨c8, he⟩ | ⟨c8, he⟩
 ·
  refine w_then rfl (dt c8) <| wR rfl <| w_d rfl (d_build (cs' := [.bool false, .slice none 0 0, .bool false, .slice none 0 0]) Tryz.underlying26 zr26 rfl (by kernel_rfl) (parts := []) rfl .nil) <| w_d rfl (d_iface (v := .int .i64 11) Tryz.underlying104 rfl rfl) <| w_a0 rfl (o_store (v := .agg ⟨[.bool false, .slice none 0 0, .bool false, .slice none 0 0]⟩) sz26 rfl rfl rfl rfl (oc rfl (oc rfl (oc rfl (oc rfl oz)))) .here u4) ?_
  rintro _ _ _ ⟨rfl, rfl, rfl⟩
  refine wA (errV 104 (some 11)) rfl rfl <| w_done ?_
  obtain rfl := sj he
  refine w_return fn_73 rs_73 (.box (v := .agg ⟨[.bool false, .slice none 0 0, .bool false, .slice none 0 0]⟩) rfl ty26 rfl rfl .here rfl (.tmp (v := errV 104 (some 11)) rfl .nil)) <| ⟨⟨[_, _, _], rfl⟩, hle, ⟨.slice none 0 0, .slice none 0 0, rfl, (ro_nil _ _), (ro_nil _ _)⟩⟩
 ·
  refine w_else rfl (df c8) <| w_skip <| w_seq <| wR rfl <| wL (.agg ⟨[.bool d.f_neg, v1_d]⟩) ty24 rfl rfl (.there .here) rfl rfl ?_
  obtain ⟨y9, hy10, he⟩ := bs he
  refine w_d rfl (call_d (o_call co84 (vs := [.agg ⟨[.bool d.f_neg, v1_d]⟩]) rfl (wide_Int_Sign.calls k (a := d) hy10 h1_d))) <| w_d rfl (d_lss rfl rfl) <| w_done ?_
  rcases its he with ⟨c13, he⟩ | ⟨c13, he⟩
  ·
   refine w_then rfl (dt c13) ?_
   obtain ⟨y14, hy15, he⟩ := bs he
   refine w_drawn (p := 3) (tl := [3, 4, 5]) [[], [(0, some 20)], []] [some 20, some 21, some 22] (fctF (.is (.agg ⟨[.bool n.f_neg, v0_n]⟩) :: .of (wide_Int_Neg.out y14) (wide_Int_Neg.out_mono _) :: .is (.agg ⟨[.bool d.f_neg, v1_d]⟩) :: [])) (fun m_ => some (b3, .cells ⟨[.bool false, .slice none 0 0, .bool false, .slice none 0 0]⟩ 26 (0, 0)) :: some (b2, .cells ⟨[.bool d.f_neg, v1_d]⟩ 24 (0, 0)) :: some (b1, .cells ⟨[.bool n.f_neg, v0_n]⟩ 24 (0, 0)) :: L) (fun _ => none) mixed (by kernel_rfl) (by kernel_rfl) rfl (fct_mono (by kernel_rfl)) ⟨(fun H' m_ hH hm_ hu_ => dn <| s_d (m_ 0) rfl (d_loado (v := .agg ⟨[.bool n.f_neg, v0_n]⟩) ty24 rfl (.there (.there .here)) rfl rfl rfl rfl) (by exact rfl) rfl), (by rintro H' m_ hH hm_ hu_ _ rfl; exact dn <| s_k (m_ 1) rfl (o_call co121 (vs := [.agg ⟨[.bool n.f_neg, v0_n]⟩]) rfl (wide_Int_Neg.calls k (a := n) hy15 (h0_n.mono hH))) rfl (by rintro v_ H_ _ ⟨rfl, e_, h_⟩; exact ⟨rfl, e_, h_⟩)), (fun H' m_ hH hm_ hu_ => dn <| s_d (m_ 2) rfl (d_loado (v := .agg ⟨[.bool d.f_neg, v1_d]⟩) ty24 rfl (.there .here) rfl rfl rfl rfl) (by exact rfl) rfl), trivial⟩ ?_
   intro H20 e21
   rintro _ _ rfl _ _ ⟨v18, rfl, h19⟩ _ _ rfl
   obtain ⟨y22, hy23, he⟩ := bs he
   refine w_a rfl (o_call co121 (vs := [.agg ⟨[.bool d.f_neg, v1_d]⟩]) rfl (wide_Int_Neg.calls k (a := d) hy23 (h1_d.mono e21))) ?_
   rintro _ H24 _ ⟨rfl, e25, ⟨v26, rfl, h27⟩⟩
   refine w_a0 rfl (o_store (v := .agg ⟨[.bool y14.f_neg, v18]⟩) sz24 rfl rfl rfl rfl (oc rfl (oc (h19.one) oz)) (.there (.there .here)) u2) ?_
   rintro _ _ _ ⟨rfl, rfl, rfl⟩
   refine w_a0 rfl (o_store (v := .agg ⟨[.bool y22.f_neg, v26]⟩) sz24 rfl rfl rfl rfl (oc rfl (oc (h27.one) oz)) (.there .here) u2) ?_
   rintro _ _ _ ⟨rfl, rfl, rfl⟩
   refine w_done <| w_sl 2 (.pointer (some ⟨b1, 0, none⟩)) rfl <| w_sl 3 (.pointer (some ⟨b2, 0, none⟩)) rfl <| w_sl 4 (.pointer (some ⟨b3, 0, none⟩)) rfl <| w_sl 5 (errV 104 none) rfl <| ratio_Of.j1_ok (k := k) (hle.trans (e21.trans e25)) he (h19.mono e25) h27
  ·
   refine w_else rfl (df c13) <| w_skip <| w_sl 2 (.pointer (some ⟨b1, 0, none⟩)) rfl <| w_sl 3 (.pointer (some ⟨b2, 0, none⟩)) rfl <| w_sl 4 (.pointer (some ⟨b3, 0, none⟩)) rfl <| w_sl 5 (errV 104 none) rfl <| ratio_Of.j1_ok (k := k) hle he h0_n h1_d
noncomputable def radomelaw34_giveRatio.C : Code := (Tryz.f74.body).getD .skip
def radomelaw34_giveRatio.out (r : ratio_Ratio) (H : Hp) (v : Value) : Prop := ∃ v0, ∃ v1, v = .agg ⟨[.bool r.f_n.f_neg, v0, .bool r.f_d.f_neg, v1]⟩ ∧ Ro kU32 H v0 r.f_n.f_w ∧ Ro kU32 H v1 r.f_d.f_w
theorem radomelaw34_giveRatio.out_mono (r : ratio_Ratio) {H H' : Hp} {v : Value} (hle : H.le H') (h : radomelaw34_giveRatio.out r H v) : radomelaw34_giveRatio.out r H' v := by
 obtain ⟨v0, v1, rfl, h0, h1⟩ := h; exact ⟨v0, v1, rfl, h0.mono hle, h1.mono hle⟩
noncomputable def radomelaw34_giveRatio.f (k : Nat) (a : radomeref02_Ratio) : Option ratio_Ratio := (radomelaw34_giveInt.f k a.f_N).bind fun y3 => (radomelaw34_giveInt.f k a.f_D).bind fun y9 => (ratio_Of.f k y3 y9).bind fun y15 => some (y15.1)
theorem radomelaw34_giveRatio.calls (k : Nat) {H : Hp} {L : Items} {a : radomeref02_Ratio} {v0_a : Value} {v1_a : Value} {r : ratio_Ratio} (he : radomelaw34_giveRatio.f k a = some r) (h0_a : Ro kI64 H v0_a a.f_N.f_D) (h1_a : Ro kI64 H v1_a a.f_D.f_D) : Ct Tryz.prog 74 ⟨[.agg ⟨[.bool a.f_N.f_Neg, v0_a, .bool a.f_D.f_Neg, v1_a]⟩]⟩ H L (cR H L (radomelaw34_giveRatio.out r)) := by
 refine ct_out (O := radomelaw34_giveRatio.out r) ?_
 have hle : H.le H := .refl _
 unfold radomelaw34_giveRatio.f at he
 refine ct_enter (args := [.agg ⟨[.bool a.f_N.f_Neg, v0_a, .bool a.f_D.f_Neg, v1_a]⟩]) fn_74 rfl nt_74 rfl <| wR rfl <| w_a rfl (o_box (v := .agg ⟨[.bool a.f_N.f_Neg, v0_a, .bool a.f_D.f_Neg, v1_a]⟩) rfl rfl) ?_
 rintro _ _ _ ⟨b1, rfl, rfl, rfl⟩
 refine w_a rfl (o_alloc zr26 rfl) ?_
 rintro _ _ _ ⟨b2, rfl, rfl, rfl⟩
 refine wE ?_
 obtain ⟨y3, hy4, he⟩ := bs he
 obtain ⟨y9, hy10, he⟩ := bs he
 obtain ⟨y15, hy16, he⟩ := bs he
 refine w_none (?_)
 refine w_drawn (p := 12) (tl := [12]) [[], [(0, some 6)], [(1, some 7)], [], [(3, some 9)], [(4, some 10)], [(2, some 8), (5, some 11)], [(6, some 12)], [(7, some 5)], [(7, some 5)], [], [(8, some 13), (10, some 3)]] [some 6, some 7, some 8, some 9, some 10, some 11, some 12, some 5, some 13, some 14, some 3, none] (fctF (.is (.pointer (some ⟨b1, 0, none⟩)) :: .is (.agg ⟨[.bool a.f_N.f_Neg, v0_a]⟩) :: .of (radomelaw34_giveInt.out y3) (radomelaw34_giveInt.out_mono _) :: .is (.pointer (some ⟨b1, 2, none⟩)) :: .is (.agg ⟨[.bool a.f_D.f_Neg, v1_a]⟩) :: .of (radomelaw34_giveInt.out y9) (radomelaw34_giveInt.out_mono _) :: .of (ratio_Of.out y15) (ratio_Of.out_mono _) :: .of (fun H v => ∃ v23, ∃ v25, v = .tuple ⟨[.agg ⟨[.bool y15.1.f_n.f_neg, v23, .bool y15.1.f_d.f_neg, v25]⟩, errV 104 y15.2]⟩ ∧ Ro kU32 H v23 y15.1.f_n.f_w ∧ Ro kU32 H v25 y15.1.f_d.f_w) (by rintro _ _ _ hle ⟨v23, v25, rfl, h24, h26⟩; exact ⟨v23, v25, rfl, h24.mono hle, h26.mono hle⟩) :: .of (fun H v => ∃ v27, ∃ v29, v = .agg ⟨[.bool y15.1.f_n.f_neg, v27, .bool y15.1.f_d.f_neg, v29]⟩ ∧ Ro kU32 H v27 y15.1.f_n.f_w ∧ Ro kU32 H v29 y15.1.f_d.f_w) (by rintro _ _ _ hle ⟨v27, v29, rfl, h28, h30⟩; exact ⟨v27, v29, rfl, h28.mono hle, h30.mono hle⟩) :: .is (errV 104 y15.2) :: .box 26 [.bool false, .slice none 0 0, .bool false, .slice none 0 0] :: .st 10 (fun H bq_ itq_ => ∃ v32, ∃ v34, itq_ = some (bq_, .cells ⟨[.bool y15.1.f_n.f_neg, v32, .bool y15.1.f_d.f_neg, v34]⟩ 26 (0, 0)) ∧ Ro kU32 H v32 y15.1.f_n.f_w ∧ Ro kU32 H v34 y15.1.f_d.f_w) (by rintro _ _ _ _ hle ⟨v32, v34, rfl, h33, h35⟩; exact ⟨v32, v34, rfl, h33.mono hle, h35.mono hle⟩) :: [])) (fun m_ => pk (m_ 11) (m_ 10) :: some (b2, .cells ⟨[.bool false, .slice none 0 0, .bool false, .slice none 0 0]⟩ 26 (0, 0)) :: some (b1, .cells ⟨[.bool a.f_N.f_Neg, v0_a, .bool a.f_D.f_Neg, v1_a]⟩ 40 (0, 0)) :: L) (fun _ => none) mixed (by kernel_rfl) (by kernel_rfl) rfl (fct_mono (by kernel_rfl)) ⟨(fun H' m_ hH hm_ hu_ => dn <| s_d (m_ 0) rfl (d_fld (o' := 0) Tryz.underlying40 rfl sz37 rfl rfl rfl) (by exact rfl) rfl), (by rintro H' m_ hH hm_ hu_ _ rfl; exact dn <| s_d (m_ 1) rfl (d_loado (v := .agg ⟨[.bool a.f_N.f_Neg, v0_a]⟩) ty37 rfl (.there (.there .here)) rfl rfl rfl rfl) (by exact rfl) rfl), (by rintro H' m_ hH hm_ hu_ _ rfl; exact dn <| s_k (m_ 2) rfl (o_call co125 (vs := [.agg ⟨[.bool a.f_N.f_Neg, v0_a]⟩]) rfl (radomelaw34_giveInt.calls k (a := a.f_N) hy4 (h0_a.mono hH))) rfl (by rintro v_ H_ _ ⟨rfl, e_, h_⟩; exact ⟨rfl, e_, h_⟩)), (fun H' m_ hH hm_ hu_ => dn <| s_d (m_ 3) rfl (d_fld (o' := 2) Tryz.underlying40 rfl sz37 rfl rfl rfl) (by exact rfl) rfl), (by rintro H' m_ hH hm_ hu_ _ rfl; exact dn <| s_d (m_ 4) rfl (d_loado (v := .agg ⟨[.bool a.f_D.f_Neg, v1_a]⟩) ty37 rfl (.there (.there .here)) rfl rfl rfl rfl) (by exact rfl) rfl), (by rintro H' m_ hH hm_ hu_ _ rfl; exact dn <| s_k (m_ 5) rfl (o_call co125 (vs := [.agg ⟨[.bool a.f_D.f_Neg, v1_a]⟩]) rfl (radomelaw34_giveInt.calls k (a := a.f_D) hy10 (h1_a.mono hH))) rfl (by rintro v_ H_ _ ⟨rfl, e_, h_⟩; exact ⟨rfl, e_, h_⟩)), (by rintro H' m_ hH hm_ hu_ _ ⟨v7, rfl, h8⟩ _ ⟨v13, rfl, h14⟩; exact dn <| s_k (m_ 6) rfl (o_call co73 (vs := [.agg ⟨[.bool y3.f_neg, v7]⟩, .agg ⟨[.bool y9.f_neg, v13]⟩]) rfl (ratio_Of.calls k (n := y3) (d := y9) hy16 h8 h14)) rfl (by rintro v_ H_ _ ⟨rfl, e_, h_⟩; exact ⟨rfl, e_, h_⟩)), (by rintro H' m_ hH hm_ hu_ _ ⟨v19, v21, rfl, h20, h22⟩; exact dn <| s_d (m_ 7) rfl (d_move (v := .tuple ⟨[.agg ⟨[.bool y15.1.f_n.f_neg, v19, .bool y15.1.f_d.f_neg, v21]⟩, errV 104 y15.2]⟩) rfl) (by exact ⟨v19, v21, rfl, h20, h22⟩) rfl), (by rintro H' m_ hH hm_ hu_ _ ⟨v23, v25, rfl, h24, h26⟩; exact dn <| s_d (m_ 8) rfl (d_ext (vs := [.agg ⟨[.bool y15.1.f_n.f_neg, v23, .bool y15.1.f_d.f_neg, v25]⟩, errV 104 y15.2]) rfl rfl) (by exact ⟨v23, v25, rfl, h24, h26⟩) rfl), (by rintro H' m_ hH hm_ hu_ _ ⟨v23, v25, rfl, h24, h26⟩; exact dn <| s_d (m_ 9) rfl (d_ext (vs := [.agg ⟨[.bool y15.1.f_n.f_neg, v23, .bool y15.1.f_d.f_neg, v25]⟩, errV 104 y15.2]) rfl rfl) (by exact rfl) rfl), (fun H' m_ hH hm_ hu_ => dn <| s_box hm_ rfl rfl (o_alloc zr26 rfl) rfl (fun _ => (pk_upd (hu_ 11 (by kernel_rfl)))) (by exact fun b_ => ⟨b_, rfl, rfl⟩)), (by rintro H' m_ hH hm_ hu_ _ ⟨v27, v29, rfl, h28, h30⟩ _ ⟨b31, rfl, hb31_⟩; exact dn <| s_store2 (Λ' := fun z_ => z_ :: some (b2, .cells ⟨[.bool false, .slice none 0 0, .bool false, .slice none 0 0]⟩ 26 (0, 0)) :: some (b1, .cells ⟨[.bool a.f_N.f_Neg, v0_a, .bool a.f_D.f_Neg, v1_a]⟩ 40 (0, 0)) :: L) (some (b31, .cells ⟨[.bool y15.1.f_n.f_neg, v27, .bool y15.1.f_d.f_neg, v29]⟩ 26 (0, 0))) hm_ rfl hb31_ rfl (o_store (v := .agg ⟨[.bool y15.1.f_n.f_neg, v27, .bool y15.1.f_d.f_neg, v29]⟩) sz26 rfl rfl rfl rfl (oc rfl (oc (h28.one) (oc rfl (oc (h30.one) oz)))) .here u4) rfl rfl (by exact ⟨rfl, v27, v29, congrArg (fun b_ => (some (b_, Obj.cells ⟨[.bool y15.1.f_n.f_neg, v27, .bool y15.1.f_d.f_neg, v29]⟩ 26 (0, 0)) : Item')) (bof_eq hb31_).symm, h28, h30⟩)), trivial⟩ ?_
 intro H38 e39
 rintro _ _ rfl _ _ rfl _ _ ⟨v7, rfl, h8⟩ _ _ rfl _ _ rfl _ _ ⟨v13, rfl, h14⟩ _ _ ⟨v19, v21, rfl, h20, h22⟩ _ _ ⟨v23, v25, rfl, h24, h26⟩ _ _ ⟨v27, v29, rfl, h28, h30⟩ _ _ rfl _ _ ⟨b31, rfl, rfl⟩ _ i36 ⟨rfl, v32, v34, h37, h33, h35⟩
 replace h37 : i36 = some (b31, .cells ⟨[.bool y15.1.f_n.f_neg, v32, .bool y15.1.f_d.f_neg, v34]⟩ 26 (0, 0)) := h37
 subst h37
 refine w_it (L' := some (b31, .cells ⟨[.bool y15.1.f_n.f_neg, v32, .bool y15.1.f_d.f_neg, v34]⟩ 26 (0, 0)) :: some (b2, .cells ⟨[.bool false, .slice none 0 0, .bool false, .slice none 0 0]⟩ 26 (0, 0)) :: some (b1, .cells ⟨[.bool a.f_N.f_Neg, v0_a, .bool a.f_D.f_Neg, v1_a]⟩ 40 (0, 0)) :: L) rfl <| wA (errV 104 y15.2) rfl rfl <| wQ rfl <| wL (.agg ⟨[.bool y15.1.f_n.f_neg, v32, .bool y15.1.f_d.f_neg, v34]⟩) ty26 rfl rfl .here rfl rfl <| w_a0 rfl (o_store (v := .agg ⟨[.bool y15.1.f_n.f_neg, v32, .bool y15.1.f_d.f_neg, v34]⟩) sz26 rfl rfl rfl rfl (oc rfl (oc (h33.one) (oc rfl (oc (h35.one) oz)))) (.there .here) u4) ?_
 rintro _ _ _ ⟨rfl, rfl, rfl⟩
 refine w_done ?_
 obtain rfl := sj he
 refine w_return fn_74 rs_74 (.box (v := .agg ⟨[.bool y15.1.f_n.f_neg, v32, .bool y15.1.f_d.f_neg, v34]⟩) rfl ty26 rfl rfl (.there .here) rfl .nil) <| ⟨⟨[_, _, _], rfl⟩, hle.trans e39, ⟨v32, v34, rfl, h33, h35⟩⟩
noncomputable def radomelaw34_giveSpan.C : Code := (Tryz.f21.body).getD .skip
def radomelaw34_giveSpan.out (r : interval_Span) (H : Hp) (v : Value) : Prop := ∃ v0, ∃ v1, ∃ v2, ∃ v3, v = .agg ⟨[.bool r.f_Low.f_n.f_neg, v0, .bool r.f_Low.f_d.f_neg, v1, .bool r.f_High.f_n.f_neg, v2, .bool r.f_High.f_d.f_neg, v3]⟩ ∧ Ro kU32 H v0 r.f_Low.f_n.f_w ∧ Ro kU32 H v1 r.f_Low.f_d.f_w ∧ Ro kU32 H v2 r.f_High.f_n.f_w ∧ Ro kU32 H v3 r.f_High.f_d.f_w
theorem radomelaw34_giveSpan.out_mono (r : interval_Span) {H H' : Hp} {v : Value} (hle : H.le H') (h : radomelaw34_giveSpan.out r H v) : radomelaw34_giveSpan.out r H' v := by
 obtain ⟨v0, v1, v2, v3, rfl, h0, h1, h2, h3⟩ := h; exact ⟨v0, v1, v2, v3, rfl, h0.mono hle, h1.mono hle, h2.mono hle, h3.mono hle⟩
noncomputable def radomelaw34_giveSpan.f (k : Nat) (a : radomeref34_Span) : Option interval_Span := (radomelaw34_giveRatio.f k a.f_Low).bind fun y3 => (radomelaw34_giveRatio.f k a.f_High).bind fun y13 => some ((⟨y3, y13⟩ : interval_Span))
theorem radomelaw34_giveSpan.calls (k : Nat) {H : Hp} {L : Items} {a : radomeref34_Span} {v0_a : Value} {v1_a : Value} {v2_a : Value} {v3_a : Value} {r : interval_Span} (he : radomelaw34_giveSpan.f k a = some r) (h0_a : Ro kI64 H v0_a a.f_Low.f_N.f_D) (h1_a : Ro kI64 H v1_a a.f_Low.f_D.f_D) (h2_a : Ro kI64 H v2_a a.f_High.f_N.f_D) (h3_a : Ro kI64 H v3_a a.f_High.f_D.f_D) : Ct Tryz.prog 21 ⟨[.agg ⟨[.bool a.f_Low.f_N.f_Neg, v0_a, .bool a.f_Low.f_D.f_Neg, v1_a, .bool a.f_High.f_N.f_Neg, v2_a, .bool a.f_High.f_D.f_Neg, v3_a]⟩]⟩ H L (cR H L (radomelaw34_giveSpan.out r)) := by
 refine ct_out (O := radomelaw34_giveSpan.out r) ?_
 have hle : H.le H := .refl _
 unfold radomelaw34_giveSpan.f at he
 refine ct_enter (args := [.agg ⟨[.bool a.f_Low.f_N.f_Neg, v0_a, .bool a.f_Low.f_D.f_Neg, v1_a, .bool a.f_High.f_N.f_Neg, v2_a, .bool a.f_High.f_D.f_Neg, v3_a]⟩]) fn_21 rfl nt_21 rfl <| wR rfl <| w_a rfl (o_box (v := .agg ⟨[.bool a.f_Low.f_N.f_Neg, v0_a, .bool a.f_Low.f_D.f_Neg, v1_a, .bool a.f_High.f_N.f_Neg, v2_a, .bool a.f_High.f_D.f_Neg, v3_a]⟩) rfl rfl) ?_
 rintro _ _ _ ⟨b1, rfl, rfl, rfl⟩
 refine w_a rfl (o_alloc zr28 rfl) ?_
 rintro _ _ _ ⟨b2, rfl, rfl, rfl⟩
 refine wE ?_
 obtain ⟨y3, hy4, he⟩ := bs he
 refine w_drawn (p := 5) (tl := [5, 6, 7]) [[], [(0, some 3)], [(1, some 4)], [], [(3, some 6)]] [some 3, some 4, some 5, some 6, some 7] (fctF (.is (.pointer (some ⟨b1, 0, none⟩)) :: .is (.agg ⟨[.bool a.f_Low.f_N.f_Neg, v0_a, .bool a.f_Low.f_D.f_Neg, v1_a]⟩) :: .of (radomelaw34_giveRatio.out y3) (radomelaw34_giveRatio.out_mono _) :: .is (.pointer (some ⟨b1, 4, none⟩)) :: .is (.agg ⟨[.bool a.f_High.f_N.f_Neg, v2_a, .bool a.f_High.f_D.f_Neg, v3_a]⟩) :: [])) (fun m_ => some (b2, .cells ⟨[.bool false, .slice none 0 0, .bool false, .slice none 0 0, .bool false, .slice none 0 0, .bool false, .slice none 0 0]⟩ 28 (0, 0)) :: some (b1, .cells ⟨[.bool a.f_Low.f_N.f_Neg, v0_a, .bool a.f_Low.f_D.f_Neg, v1_a, .bool a.f_High.f_N.f_Neg, v2_a, .bool a.f_High.f_D.f_Neg, v3_a]⟩ 45 (0, 0)) :: L) (fun _ => none) mixed (by kernel_rfl) (by kernel_rfl) rfl (fct_mono (by kernel_rfl)) ⟨(fun H' m_ hH hm_ hu_ => dn <| s_d (m_ 0) rfl (d_fld (o' := 0) Tryz.underlying45 rfl sz40 rfl rfl rfl) (by exact rfl) rfl), (by rintro H' m_ hH hm_ hu_ _ rfl; exact dn <| s_d (m_ 1) rfl (d_loado (v := .agg ⟨[.bool a.f_Low.f_N.f_Neg, v0_a, .bool a.f_Low.f_D.f_Neg, v1_a]⟩) ty40 rfl (.there .here) rfl rfl rfl rfl) (by exact rfl) rfl), (by rintro H' m_ hH hm_ hu_ _ rfl; exact dn <| s_k (m_ 2) rfl (o_call co74 (vs := [.agg ⟨[.bool a.f_Low.f_N.f_Neg, v0_a, .bool a.f_Low.f_D.f_Neg, v1_a]⟩]) rfl (radomelaw34_giveRatio.calls k (a := a.f_Low) hy4 (h0_a.mono hH) (h1_a.mono hH))) rfl (by rintro v_ H_ _ ⟨rfl, e_, h_⟩; exact ⟨rfl, e_, h_⟩)), (fun H' m_ hH hm_ hu_ => dn <| s_d (m_ 3) rfl (d_fld (o' := 4) Tryz.underlying45 rfl sz40 rfl rfl rfl) (by exact rfl) rfl), (by rintro H' m_ hH hm_ hu_ _ rfl; exact dn <| s_d (m_ 4) rfl (d_loado (v := .agg ⟨[.bool a.f_High.f_N.f_Neg, v2_a, .bool a.f_High.f_D.f_Neg, v3_a]⟩) ty40 rfl (.there .here) rfl rfl rfl rfl) (by exact rfl) rfl), trivial⟩ ?_
 intro H11 e12
 rintro _ _ rfl _ _ rfl _ _ ⟨v7, v9, rfl, h8, h10⟩ _ _ rfl _ _ rfl
 obtain ⟨y13, hy14, he⟩ := bs he
 refine w_a rfl (o_call co74 (vs := [.agg ⟨[.bool a.f_High.f_N.f_Neg, v2_a, .bool a.f_High.f_D.f_Neg, v3_a]⟩]) rfl (radomelaw34_giveRatio.calls k (a := a.f_High) hy14 (h2_a.mono e12) (h3_a.mono e12))) ?_
 rintro _ H15 _ ⟨rfl, e16, ⟨v17, v19, rfl, h18, h20⟩⟩
 refine w_d rfl (d_build (cs' := [.bool y3.f_n.f_neg, v7, .bool y3.f_d.f_neg, v9, .bool y13.f_n.f_neg, v17, .bool y13.f_d.f_neg, v19]) Tryz.underlying28 zr28 rfl (by kernel_rfl) (parts := [(0, .agg ⟨[.bool y3.f_n.f_neg, v7, .bool y3.f_d.f_neg, v9]⟩), (1, .agg ⟨[.bool y13.f_n.f_neg, v17, .bool y13.f_d.f_neg, v19]⟩)]) rfl (.cons (place_of rfl sz26 rfl) rfl rfl u4 (.cons (place_of rfl sz26 rfl) rfl rfl (.there (.there (.there (.there u4)))) .nil))) <| w_a0 rfl (o_store (v := .agg ⟨[.bool y3.f_n.f_neg, v7, .bool y3.f_d.f_neg, v9, .bool y13.f_n.f_neg, v17, .bool y13.f_d.f_neg, v19]⟩) sz28 rfl rfl rfl rfl (oc rfl (oc (h8.one) (oc rfl (oc (h10.one) (oc rfl (oc (h18.one) (oc rfl (oc (h20.one) oz)))))))) .here (.here (.here (.here (.here u4))))) ?_
 rintro _ _ _ ⟨rfl, rfl, rfl⟩
 refine w_done ?_
 obtain rfl := sj he
 refine w_return fn_21 rs_21 (.box (v := .agg ⟨[.bool y3.f_n.f_neg, v7, .bool y3.f_d.f_neg, v9, .bool y13.f_n.f_neg, v17, .bool y13.f_d.f_neg, v19]⟩) rfl ty28 rfl rfl .here rfl .nil) <| ⟨⟨[_, _], rfl⟩, hle.trans (e12.trans e16), ⟨v7, v9, v17, v19, rfl, (h8.mono e16), (h10.mono e16), h18, h20⟩⟩
noncomputable def wide_Int_Move_1.C : Code := (Tryz.f117.body).getD .skip
def wide_Int_Move_1.out (r : Bool) (H : Hp) (v : Value) : Prop := v = .bool r
noncomputable def wide_Int_Move_1.f (k : Nat) (x : Int) : Option Bool := some (!decide (x = 0))
theorem wide_Int_Move_1.mono : ∀ k y0, LeO (wide_Int_Move_1.f k y0) (wide_Int_Move_1.f (k + 1) y0) := fun k _ => by unfold wide_Int_Move_1.f; exact (LeO.refl _)
theorem wide_Int_Move_1.calls (k : Nat) {H : Hp} {L : Items} {x : Int} {r : Bool} (he : wide_Int_Move_1.f k x = some r) : Ct Tryz.prog 117 ⟨[.int .u32 x]⟩ H L (fun v H' L' => L = L' ∧ H = H' ∧ v = .bool r) := by
 refine ct_outs (O := wide_Int_Move_1.out r) (fun _ _ h => h) ?_
 have hle : H.le H := .refl _
 unfold wide_Int_Move_1.f at he
 refine ct_enter (args := [.int .u32 x]) fn_117 rfl nt_117 rfl <| wR rfl <| wA (.bool false) rfl rfl <| wQ rfl <| wM (.int .u32 x) rfl rfl <| w_d rfl (d_neq rfl rfl) <| wA (.bool (!decide (x = 0))) rfl rfl <| w_done ?_
 obtain rfl := sj he
 refine w_return fn_117 rs_117 (.tmp (v := .bool (!decide (x = 0))) rfl .nil) <| ⟨⟨[], rfl⟩, hle, rfl⟩
noncomputable def slices_IndexFunc_uint32_uint32_wide_Int_Move_1.C : Code := (Tryz.f141.body).getD .skip
def slices_IndexFunc_uint32_uint32_wide_Int_Move_1.out (r : Int) (H : Hp) (v : Value) : Prop := v = .int .i64 r
abbrev slices_IndexFunc_uint32_uint32_wide_Int_Move_1.R (H0 : Hp) (L : Items) (r : Int) := fR H0 L (slices_IndexFunc_uint32_uint32_wide_Int_Move_1.out r)
structure slices_IndexFunc_uint32_uint32_wide_Int_Move_1.Hs where
 l0 : (List Int) → Int → Int → Int → Option Int
noncomputable def slices_IndexFunc_uint32_uint32_wide_Int_Move_1.b0 (k : Nat) (h : slices_IndexFunc_uint32_uint32_wide_Int_Move_1.Hs)  (s : List Int) (t4 : Int) (t7 : Int) (t8 : Int) : Option Int := if t8 < t7 then (if (0 : Int) ≤ t8 ∧ t8 < (s.length : Int) then ((wide_Int_Move_1.f k (rd s t8)).bind fun y3 => if y3 = true then (some (t8)) else (h.l0 s t4 t7 (w64 (t8 + 1)))) else none) else (some ((-1)))
noncomputable def slices_IndexFunc_uint32_uint32_wide_Int_Move_1.hs : Nat → slices_IndexFunc_uint32_uint32_wide_Int_Move_1.Hs
 | 0 => ⟨fun _ _ _ _ => none⟩
 | k + 1 => ⟨fun x0 x1 x2 x3 => slices_IndexFunc_uint32_uint32_wide_Int_Move_1.b0 k (slices_IndexFunc_uint32_uint32_wide_Int_Move_1.hs k) x0 x1 x2 x3⟩
noncomputable def slices_IndexFunc_uint32_uint32_wide_Int_Move_1.f (k : Nat) (s : List Int) : Option Int := (fun h : slices_IndexFunc_uint32_uint32_wide_Int_Move_1.Hs => h.l0 s 0 (s.length : Int) 0) (slices_IndexFunc_uint32_uint32_wide_Int_Move_1.hs k)
structure slices_IndexFunc_uint32_uint32_wide_Int_Move_1.LE (h h' : slices_IndexFunc_uint32_uint32_wide_Int_Move_1.Hs) : Prop where
 l0 : ∀ y0 y1 y2 y3, LeO (h.l0 y0 y1 y2 y3) (h'.l0 y0 y1 y2 y3)
theorem slices_IndexFunc_uint32_uint32_wide_Int_Move_1.b0_mono {k : Nat} {h h' : slices_IndexFunc_uint32_uint32_wide_Int_Move_1.Hs} (hl : slices_IndexFunc_uint32_uint32_wide_Int_Move_1.LE h h') : ∀ y0 y1 y2 y3, LeO (slices_IndexFunc_uint32_uint32_wide_Int_Move_1.b0 k h y0 y1 y2 y3) (slices_IndexFunc_uint32_uint32_wide_Int_Move_1.b0 (k + 1) h' y0 y1 y2 y3) := fun _ _ _ _ => (LeO.ite (LeO.ite (LeO.bind (wide_Int_Move_1.mono k _) fun _ => LeO.ite (LeO.refl _) (hl.l0 _ _ _ _)) (LeO.refl _)) (LeO.refl _))
theorem slices_IndexFunc_uint32_uint32_wide_Int_Move_1.hs_mono : ∀ k, slices_IndexFunc_uint32_uint32_wide_Int_Move_1.LE (slices_IndexFunc_uint32_uint32_wide_Int_Move_1.hs k) (slices_IndexFunc_uint32_uint32_wide_Int_Move_1.hs (k + 1))
 | 0 => ⟨fun _ _ _ _ => LeO.none _⟩
 | k + 1 => ⟨slices_IndexFunc_uint32_uint32_wide_Int_Move_1.b0_mono (k := k) (slices_IndexFunc_uint32_uint32_wide_Int_Move_1.hs_mono k)⟩
theorem slices_IndexFunc_uint32_uint32_wide_Int_Move_1.mono : ∀ k y0, LeO (slices_IndexFunc_uint32_uint32_wide_Int_Move_1.f k y0) (slices_IndexFunc_uint32_uint32_wide_Int_Move_1.f (k + 1) y0) := fun k _ => have hl := slices_IndexFunc_uint32_uint32_wide_Int_Move_1.hs_mono k; by unfold slices_IndexFunc_uint32_uint32_wide_Int_Move_1.f; exact (hl.l0 _ _ _ _)
noncomputable def slices_IndexFunc_uint32_uint32_wide_Int_Move_1.Kl0 : List Item := .code (lopB (blkB (seqR (seqL (seqR slices_IndexFunc_uint32_uint32_wide_Int_Move_1.C))))) :: .inLoop (lopB (blkB (seqR (seqL (seqR slices_IndexFunc_uint32_uint32_wide_Int_Move_1.C))))) :: .inBlock 0 :: .code (seqR (seqR slices_IndexFunc_uint32_uint32_wide_Int_Move_1.C)) :: []
structure slices_IndexFunc_uint32_uint32_wide_Int_Move_1.OK (h : slices_IndexFunc_uint32_uint32_wide_Int_Move_1.Hs) : Prop where
 l0 : ∀ {H0 H : Hp} {L : Items} {r : Int} {jk_ : Nat → Value} {s : List Int} {t4 : Int} {t7 : Int} {t8 : Int} {v_s : Value} (_ : H0.le H) (_he : h.l0 s t4 t7 t8 = some r) (_h_s : Src kU32 H L v_s s), Wp Tryz.prog 141 19 slices_IndexFunc_uint32_uint32_wide_Int_Move_1.Kl0 (upd (upd (upd (upd (upd jk_ 0 (v_s)) 1 (.func (.func 117) #[] #[])) 4 (.int .i64 t4)) 7 (.int .i64 t7)) 8 (.int .i64 t8)) H (L) (slices_IndexFunc_uint32_uint32_wide_Int_Move_1.R H0 L r)
theorem slices_IndexFunc_uint32_uint32_wide_Int_Move_1.b0_ok {k : Nat} {h : slices_IndexFunc_uint32_uint32_wide_Int_Move_1.Hs} (hh : slices_IndexFunc_uint32_uint32_wide_Int_Move_1.OK h) {H0 H : Hp} {L : Items} {r : Int} {jk_ : Nat → Value} {s : List Int} {t4 : Int} {t7 : Int} {t8 : Int} {v_s : Value} (hle : H0.le H) (he : slices_IndexFunc_uint32_uint32_wide_Int_Move_1.b0 k h s t4 t7 t8 = some r) (h_s : Src kU32 H L v_s s) : Wp Tryz.prog 141 19 slices_IndexFunc_uint32_uint32_wide_Int_Move_1.Kl0 (upd (upd (upd (upd (upd jk_ 0 (v_s)) 1 (.func (.func 117) #[] #[])) 4 (.int .i64 t4)) 7 (.int .i64 t7)) 8 (.int .i64 t8)) H (L) (slices_IndexFunc_uint32_uint32_wide_Int_Move_1.R H0 L r) := by
 unfold slices_IndexFunc_uint32_uint32_wide_Int_Move_1.b0 at he
 unfold slices_IndexFunc_uint32_uint32_wide_Int_Move_1.Kl0
 refine wR rfl <| w_d rfl (d_lss rfl rfl) <| wE ?_
 rcases its he with ⟨c1, he⟩ | ⟨c1, he⟩
 ·
  refine w_then rfl (dt c1) <| w_skip <| w_seq <| w_block <| wR rfl <| wM (.int .i64 t8) rfl rfl <| wA (.int .i64 t8) rfl rfl <| wQ rfl <| wM (.func (.func 117) #[] #[]) rfl rfl ?_
  refine wM v_s rfl rfl <| wM (.int .i64 t8) rfl rfl ?_
  obtain ⟨c2, he⟩ := rq he
  refine w_d rfl (d_index (sz := 1) Tryz.underlying22 sz167 rfl h_s rfl c2) <| w_d rfl (d_ldint ty167 rfl h_s c2) ?_
  obtain ⟨y3, hy4, he⟩ := bs he
  refine w_d rfl (call_d (o_callv rfl co117 (vs := [.int .u32 (rd s t8)]) rfl (wide_Int_Move_1.calls k hy4))) <| w_done ?_
  rcases its he with ⟨c7, he⟩ | ⟨c7, he⟩
  ·
   refine w_then rfl c7 <| wR rfl <| wM (.int .i64 t8) rfl rfl <| wA (.int .i64 t8) rfl rfl <| w_done ?_
   obtain rfl := sj he
   refine w_return fn_141 rs_141 (.tmp (v := .int .i64 t8) rfl .nil) <| ⟨⟨[], rfl⟩, hle, rfl⟩
  ·
   refine w_else rfl (Bool.eq_false_iff.2 c7) <| w_skip <| w_inBlock <| w_region rfl <| w_d rfl (d_add (c := w64 (t8 + 1)) rfl rfl rfl) <| wM (.int .i64 (w64 (t8 + 1))) rfl rfl <| w_done <| w_inLoop <| w_sl 0 (v_s) rfl <| w_sl 1 (.func (.func 117) #[] #[]) rfl <| w_sl 4 (.int .i64 t4) rfl <| w_sl 7 (.int .i64 t7) rfl ?_
   refine w_sl 8 (.int .i64 (w64 (t8 + 1))) rfl <| hh.l0 hle he h_s
 ·
  refine w_else rfl (df c1) <| w_exit rfl <| wR rfl <| wA (.int .i64 (-1)) rfl rfl <| w_done ?_
  obtain rfl := sj he
  refine w_return fn_141 rs_141 (.tmp (v := .int .i64 (-1)) rfl .nil) <| ⟨⟨[], rfl⟩, hle, rfl⟩
theorem slices_IndexFunc_uint32_uint32_wide_Int_Move_1.ok : ∀ k, slices_IndexFunc_uint32_uint32_wide_Int_Move_1.OK (slices_IndexFunc_uint32_uint32_wide_Int_Move_1.hs k)
 | 0 => ⟨(by intros; exact nomatch (show none = some _ from by assumption))⟩
 | k + 1 => ⟨slices_IndexFunc_uint32_uint32_wide_Int_Move_1.b0_ok (k := k) (slices_IndexFunc_uint32_uint32_wide_Int_Move_1.ok k)⟩
theorem slices_IndexFunc_uint32_uint32_wide_Int_Move_1.calls (k : Nat) {H : Hp} {L : Items} {s : List Int} {v0_s : Value} {r : Int} (he : slices_IndexFunc_uint32_uint32_wide_Int_Move_1.f k s = some r) (h0_s : Src kU32 H L v0_s s) : Ct Tryz.prog 141 ⟨[v0_s, .func (.func 117) #[] #[]]⟩ H L (fun v H' L' => L = L' ∧ H = H' ∧ v = .int .i64 r) := by
 refine ct_outs (O := slices_IndexFunc_uint32_uint32_wide_Int_Move_1.out r) (fun _ _ h => h) ?_
 have hle : H.le H := .refl _
 have hh := slices_IndexFunc_uint32_uint32_wide_Int_Move_1.ok k
 unfold slices_IndexFunc_uint32_uint32_wide_Int_Move_1.f at he
 refine ct_enter (args := [v0_s, .func (.func 117) #[] #[]]) fn_141 rfl nt_141 rfl <| wR rfl <| wA (.int .i64 0) rfl rfl <| wE <| wR rfl <| wM v0_s rfl rfl <| w_d rfl (d_len Tryz.underlying22 rfl h0_s) <| wM (.int .i64 0) rfl rfl <| w_done ?_
 refine w_block <| w_loop <| w_sl 0 (v0_s) rfl <| w_sl 1 (.func (.func 117) #[] #[]) rfl <| w_sl 4 (.int .i64 0) rfl <| w_sl 7 (.int .i64 (s.length : Int)) rfl <| w_sl 8 (.int .i64 0) rfl <| hh.l0 hle he h0_s
noncomputable def slices_ContainsFunc_uint32_uint32_wide_Int_Move_1.C : Code := (Tryz.f116.body).getD .skip
def slices_ContainsFunc_uint32_uint32_wide_Int_Move_1.out (r : Bool) (H : Hp) (v : Value) : Prop := v = .bool r
noncomputable def slices_ContainsFunc_uint32_uint32_wide_Int_Move_1.f (k : Nat) (s : List Int) : Option Bool := (slices_IndexFunc_uint32_uint32_wide_Int_Move_1.f k s).bind fun y1 => some (decide (0 ≤ y1))
theorem slices_ContainsFunc_uint32_uint32_wide_Int_Move_1.mono : ∀ k y0, LeO (slices_ContainsFunc_uint32_uint32_wide_Int_Move_1.f k y0) (slices_ContainsFunc_uint32_uint32_wide_Int_Move_1.f (k + 1) y0) := fun k _ => by unfold slices_ContainsFunc_uint32_uint32_wide_Int_Move_1.f; exact (LeO.bind (slices_IndexFunc_uint32_uint32_wide_Int_Move_1.mono k _) fun _ => LeO.refl _)
theorem slices_ContainsFunc_uint32_uint32_wide_Int_Move_1.calls (k : Nat) {H : Hp} {L : Items} {s : List Int} {v0_s : Value} {r : Bool} (he : slices_ContainsFunc_uint32_uint32_wide_Int_Move_1.f k s = some r) (h0_s : Src kU32 H L v0_s s) : Ct Tryz.prog 116 ⟨[v0_s, .func (.func 117) #[] #[]]⟩ H L (fun v H' L' => L = L' ∧ H = H' ∧ v = .bool r) := by
 refine ct_outs (O := slices_ContainsFunc_uint32_uint32_wide_Int_Move_1.out r) (fun _ _ h => h) ?_
 have hle : H.le H := .refl _
 unfold slices_ContainsFunc_uint32_uint32_wide_Int_Move_1.f at he
 refine ct_enter (args := [v0_s, .func (.func 117) #[] #[]]) fn_116 rfl nt_116 rfl <| wR rfl <| wA (.bool false) rfl rfl <| wQ rfl <| wM v0_s rfl rfl <| wM (.func (.func 117) #[] #[]) rfl rfl ?_
 obtain ⟨y1, hy2, he⟩ := bs he
 refine w_d rfl (call_d (o_call co141 (vs := [v0_s, .func (.func 117) #[] #[]]) rfl (slices_IndexFunc_uint32_uint32_wide_Int_Move_1.calls k hy2 h0_s))) <| w_d rfl (d_geq rfl rfl) <| wA (.bool (decide (0 ≤ y1))) rfl rfl <| w_done ?_
 obtain rfl := sj he
 refine w_return fn_116 rs_116 (.tmp (v := .bool (decide (0 ≤ y1))) rfl .nil) <| ⟨⟨[], rfl⟩, hle, rfl⟩
noncomputable def wide_Int_Sub.C : Code := (Tryz.f120.body).getD .skip
def wide_Int_Sub.out (r : wide_Int × (Option Int)) (H : Hp) (v : Value) : Prop := ∃ v0, v = .tuple ⟨[.agg ⟨[.bool r.1.f_neg, v0]⟩, errV 104 r.2]⟩ ∧ Ro kU32 H v0 r.1.f_w
theorem wide_Int_Sub.out_mono (r : wide_Int × (Option Int)) {H H' : Hp} {v : Value} (hle : H.le H') (h : wide_Int_Sub.out r H v) : wide_Int_Sub.out r H' v := by
 obtain ⟨v0, rfl, h0⟩ := h; exact ⟨v0, rfl, h0.mono hle⟩
noncomputable def wide_Int_Sub.f (k : Nat) (a : wide_Int) (b : wide_Int) : Option (wide_Int × (Option Int)) := (wide_Int_Neg.f k b).bind fun y4 => (wide_Int_Add.f k a y4).bind fun y10 => some (y10.1, y10.2)
theorem wide_Int_Sub.mono : ∀ k y0 y1, LeO (wide_Int_Sub.f k y0 y1) (wide_Int_Sub.f (k + 1) y0 y1) := fun k _ _ => by unfold wide_Int_Sub.f; exact (LeO.bind (wide_Int_Neg.mono k _) fun _ => LeO.bind (wide_Int_Add.mono k _ _) fun _ => LeO.refl _)
theorem wide_Int_Sub.calls (k : Nat) {H : Hp} {L : Items} {a : wide_Int} {b : wide_Int} {v0_a : Value} {v1_b : Value} {r : wide_Int × (Option Int)} (he : wide_Int_Sub.f k a b = some r) (h0_a : Ro kU32 H v0_a a.f_w) (h1_b : Ro kU32 H v1_b b.f_w) : Ct Tryz.prog 120 ⟨[.agg ⟨[.bool a.f_neg, v0_a]⟩, .agg ⟨[.bool b.f_neg, v1_b]⟩]⟩ H L (cR H L (wide_Int_Sub.out r)) := by
 refine ct_out (O := wide_Int_Sub.out r) ?_
 have hle : H.le H := .refl _
 unfold wide_Int_Sub.f at he
 refine ct_enter (args := [.agg ⟨[.bool a.f_neg, v0_a]⟩, .agg ⟨[.bool b.f_neg, v1_b]⟩]) fn_120 rfl nt_120 rfl <| wR rfl <| w_a rfl (o_box (v := .agg ⟨[.bool a.f_neg, v0_a]⟩) rfl rfl) ?_
 rintro _ _ _ ⟨b1, rfl, rfl, rfl⟩
 refine w_a rfl (o_box (v := .agg ⟨[.bool b.f_neg, v1_b]⟩) rfl rfl) ?_
 rintro _ _ _ ⟨b2, rfl, rfl, rfl⟩
 refine w_a rfl (o_alloc zr24 rfl) ?_
 rintro _ _ _ ⟨b3, rfl, rfl, rfl⟩
 refine wA (errV 104 none) rfl rfl <| wE ?_
 obtain ⟨y4, hy5, he⟩ := bs he
 obtain ⟨y10, hy11, he⟩ := bs he
 refine w_drawn (p := 6) (tl := [6, 7]) [[], [], [(1, some 7)], [(0, some 6), (2, some 8)], [(3, some 9)], [(3, some 9)]] [some 6, some 7, some 8, some 9, some 10, some 11] (fctF (.is (.agg ⟨[.bool a.f_neg, v0_a]⟩) :: .is (.agg ⟨[.bool b.f_neg, v1_b]⟩) :: .of (wide_Int_Neg.out y4) (wide_Int_Neg.out_mono _) :: .of (wide_Int_Add.out y10) (wide_Int_Add.out_mono _) :: .of (fun H v => ∃ v16, v = .agg ⟨[.bool y10.1.f_neg, v16]⟩ ∧ Ro kU32 H v16 y10.1.f_w) (by rintro _ _ _ hle ⟨v16, rfl, h17⟩; exact ⟨v16, rfl, h17.mono hle⟩) :: .is (errV 104 y10.2) :: [])) (fun m_ => some (b3, .cells ⟨[.bool false, .slice none 0 0]⟩ 24 (0, 0)) :: some (b2, .cells ⟨[.bool b.f_neg, v1_b]⟩ 24 (0, 0)) :: some (b1, .cells ⟨[.bool a.f_neg, v0_a]⟩ 24 (0, 0)) :: L) (fun _ => none) mixed (by kernel_rfl) (by kernel_rfl) rfl (fct_mono (by kernel_rfl)) ⟨(fun H' m_ hH hm_ hu_ => dn <| s_d (m_ 0) rfl (d_loado (v := .agg ⟨[.bool a.f_neg, v0_a]⟩) ty24 rfl (.there (.there .here)) rfl rfl rfl rfl) (by exact rfl) rfl), (fun H' m_ hH hm_ hu_ => dn <| s_d (m_ 1) rfl (d_loado (v := .agg ⟨[.bool b.f_neg, v1_b]⟩) ty24 rfl (.there .here) rfl rfl rfl rfl) (by exact rfl) rfl), (by rintro H' m_ hH hm_ hu_ _ rfl; exact dn <| s_k (m_ 2) rfl (o_call co121 (vs := [.agg ⟨[.bool b.f_neg, v1_b]⟩]) rfl (wide_Int_Neg.calls k (a := b) hy5 (h1_b.mono hH))) rfl (by rintro v_ H_ _ ⟨rfl, e_, h_⟩; exact ⟨rfl, e_, h_⟩)), (by rintro H' m_ hH hm_ hu_ _ rfl _ ⟨v8, rfl, h9⟩; exact dn <| s_k (m_ 3) rfl (o_call co127 (vs := [.agg ⟨[.bool a.f_neg, v0_a]⟩, .agg ⟨[.bool y4.f_neg, v8]⟩]) rfl (wide_Int_Add.calls k (a := a) (b := y4) hy11 (h0_a.mono hH) h9)) rfl (by rintro v_ H_ _ ⟨rfl, e_, h_⟩; exact ⟨rfl, e_, h_⟩)), (by rintro H' m_ hH hm_ hu_ _ ⟨v14, rfl, h15⟩; exact dn <| s_d (m_ 4) rfl (d_ext (vs := [.agg ⟨[.bool y10.1.f_neg, v14]⟩, errV 104 y10.2]) rfl rfl) (by exact ⟨v14, rfl, h15⟩) rfl), (by rintro H' m_ hH hm_ hu_ _ ⟨v14, rfl, h15⟩; exact dn <| s_d (m_ 5) rfl (d_ext (vs := [.agg ⟨[.bool y10.1.f_neg, v14]⟩, errV 104 y10.2]) rfl rfl) (by exact rfl) rfl), trivial⟩ ?_
 intro H18 e19
 rintro _ _ rfl _ _ rfl _ _ ⟨v8, rfl, h9⟩ _ _ ⟨v14, rfl, h15⟩ _ _ ⟨v16, rfl, h17⟩ _ _ rfl
 refine w_a0 rfl (o_store (v := .agg ⟨[.bool y10.1.f_neg, v16]⟩) sz24 rfl rfl rfl rfl (oc rfl (oc (h17.one) oz)) .here u2) ?_
 rintro _ _ _ ⟨rfl, rfl, rfl⟩
 refine wA (errV 104 y10.2) rfl rfl <| w_done ?_
 obtain rfl := sj he
 refine w_return fn_120 rs_120 (.box (v := .agg ⟨[.bool y10.1.f_neg, v16]⟩) rfl ty24 rfl rfl .here rfl (.tmp (v := errV 104 y10.2) rfl .nil)) <| ⟨⟨[_, _, _], rfl⟩, hle.trans e19, ⟨v16, rfl, h17⟩⟩
noncomputable def wide_Int_Move.C : Code := (Tryz.f72.body).getD .skip
def wide_Int_Move.out (r : wide_Int × (Option Int)) (H : Hp) (v : Value) : Prop := ∃ v0, v = .tuple ⟨[.agg ⟨[.bool r.1.f_neg, v0]⟩, errV 104 r.2]⟩ ∧ Ro kU32 H v0 r.1.f_w
theorem wide_Int_Move.out_mono (r : wide_Int × (Option Int)) {H H' : Hp} {v : Value} (hle : H.le H') (h : wide_Int_Move.out r H v) : wide_Int_Move.out r H' v := by
 obtain ⟨v0, rfl, h0⟩ := h; exact ⟨v0, rfl, h0.mono hle⟩
abbrev wide_Int_Move.R (H0 : Hp) (L : Items) (r : wide_Int × (Option Int)) := fR H0 L (wide_Int_Move.out r)
noncomputable def wide_Int_Move.j1 (k : Nat)  (a_0 : Bool) (a_1 : List Int) (lost : Bool) (rest : List Int) : Option (wide_Int × (Option Int)) := (slices_Clone_uint32_uint32.f k rest).bind fun y68 => (wide_made.f k a_0 y68).bind fun y74 => if ((y74.2.isSome || (!a_0)) || (!lost)) = true then (some (y74.1, y74.2)) else ((wide_Of.f k 1).bind fun y97 => (wide_Int_Sub.f k y74.1 y97).bind fun y103 => some (y103.1, y103.2))
noncomputable def wide_Int_Move.f (k : Nat) (a : wide_Int) (n : Int) : Option (wide_Int × (Option Int)) := if ((decide (n < (-4096))) || (decide (4096 < n))) = true then (some ((⟨false, []⟩ : wide_Int), some 1)) else (if 0 ≤ n then (if 0 ≤ w64 (Int.tdiv n 32) ∧ w64 (Int.tdiv n 32) ≤ 70368744177664 then ((wide_up.f k a.f_w (Int.tmod n 32)).bind fun y11 => if (List.replicate (w64 (Int.tdiv n 32) : Int).toNat (0 : Int)).length + y11.length ≤ 35184372088704 then ((wide_made.f k a.f_neg ((List.replicate (w64 (Int.tdiv n 32) : Int).toNat (0 : Int)) ++ y11)).bind fun y26 => some (y26.1, y26.2)) else none) else none) else (if (0 : Int) ≤ 0 ∧ (0 : Int) ≤ min (w64 (Int.tdiv (w64 (0 - n)) 32)) (a.f_w.length : Int) ∧ min (w64 (Int.tdiv (w64 (0 - n)) 32)) (a.f_w.length : Int) ≤ (a.f_w.length : Int) then ((slices_ContainsFunc_uint32_uint32_wide_Int_Move_1.f k (cut a.f_w 0 (min (w64 (Int.tdiv (w64 (0 - n)) 32)) (a.f_w.length : Int)))).bind fun y35 => if (0 : Int) ≤ min (w64 (Int.tdiv (w64 (0 - n)) 32)) (a.f_w.length : Int) ∧ (min (w64 (Int.tdiv (w64 (0 - n)) 32)) (a.f_w.length : Int) : Int) ≤ (a.f_w.length : Int) ∧ (a.f_w.length : Int) ≤ (a.f_w.length : Int) then (if ((decide ((min (w64 (Int.tdiv (w64 (0 - n)) 32)) (a.f_w.length : Int)) < (a.f_w.length : Int))) && (decide ((min (w64 (Int.tdiv (w64 (0 - n)) 32)) (a.f_w.length : Int)) = (w64 (Int.tdiv (w64 (0 - n)) 32))))) = true then (if (!y35) = true → (0 : Int) ≤ 0 ∧ 0 < ((cut a.f_w (min (w64 (Int.tdiv (w64 (0 - n)) 32)) (a.f_w.length : Int)) (a.f_w.length : Int)).length : Int) then (if (!y35) = true → 0 ≤ (Int.tmod (w64 (0 - n)) 32) then ((wide_down.f k (cut a.f_w (min (w64 (Int.tdiv (w64 (0 - n)) 32)) (a.f_w.length : Int)) (a.f_w.length : Int)) (Int.tmod (w64 (0 - n)) 32)).bind fun y62 => wide_Int_Move.j1 k a.f_neg a.f_w (y35 || (!decide ((iand .u32 (rd (cut a.f_w (min (w64 (Int.tdiv (w64 (0 - n)) 32)) (a.f_w.length : Int)) (a.f_w.length : Int)) 0) ((((1 * 2 ^ shn .u32 (Int.tmod (w64 (0 - n)) 32)) % 4294967296) - 1) % 4294967296)) = 0))) y62) else none) else none) else (wide_Int_Move.j1 k a.f_neg a.f_w y35 [])) else none) else none))
theorem wide_Int_Move.j1_mono {k : Nat} : ∀ y0 y1 y2 y3, LeO (wide_Int_Move.j1 k y0 y1 y2 y3) (wide_Int_Move.j1 (k + 1) y0 y1 y2 y3) := fun _ _ _ _ => (LeO.bind (slices_Clone_uint32_uint32.mono k _) fun _ => LeO.bind (wide_made.mono k _ _) fun _ => LeO.ite (LeO.refl _) (LeO.bind (wide_Of.mono k _) fun _ => LeO.bind (wide_Int_Sub.mono k _ _) fun _ => LeO.refl _))
theorem wide_Int_Move.mono : ∀ k y0 y1, LeO (wide_Int_Move.f k y0 y1) (wide_Int_Move.f (k + 1) y0 y1) := fun k _ _ => by unfold wide_Int_Move.f; exact (LeO.ite (LeO.refl _) (LeO.ite (LeO.ite (LeO.bind (wide_up.mono k _ _) fun _ => LeO.ite (LeO.bind (wide_made.mono k _ _) fun _ => LeO.refl _) (LeO.refl _)) (LeO.refl _)) (LeO.ite (LeO.bind (slices_ContainsFunc_uint32_uint32_wide_Int_Move_1.mono k _) fun _ => LeO.ite (LeO.ite (LeO.ite (LeO.ite (LeO.bind (wide_down.mono k _ _) fun _ => wide_Int_Move.j1_mono (k := k)  _ _ _ _) (LeO.refl _)) (LeO.refl _)) (wide_Int_Move.j1_mono (k := k)  _ _ _ _)) (LeO.refl _)) (LeO.refl _))))
noncomputable def wide_Int_Move.Kj1 : List Item := .code (seqR (seqR (seqR (seqR (seqR (seqR (seqR wide_Int_Move.C))))))) :: []
theorem wide_Int_Move.j1_ok {k : Nat} {H0 H : Hp} {L : Items} {r : wide_Int × (Option Int)} {jk_ : Nat → Value} {a_0 : Bool} {a_1 : List Int} {lost : Bool} {rest : List Int} {v_a_1 : Value} {v_rest : Value} {b_a : Nat} {b_t4 : Nat} (hle : H0.le H) (he : wide_Int_Move.j1 k a_0 a_1 lost rest = some r) (h_a_1 : Ro kU32 H v_a_1 a_1) (h_rest : Ro kU32 H v_rest rest) : Wp Tryz.prog 72 109 wide_Int_Move.Kj1 (upd (upd (upd (upd (upd jk_ 2 (.pointer (some ⟨b_a, 0, none⟩))) 4 (.pointer (some ⟨b_t4, 0, none⟩))) 5 (errV 104 none)) 8 (.bool lost)) 9 (v_rest)) H (some (b_t4, .cells ⟨[.bool false, .slice none 0 0]⟩ 24 (0, 0)) :: some (b_a, .cells ⟨[.bool a_0, v_a_1]⟩ 24 (0, 0)) :: L) (wide_Int_Move.R H0 L r) := by
 unfold wide_Int_Move.j1 at he
 unfold wide_Int_Move.Kj1
 refine w_seq ?_
 obtain ⟨y68, hy69, he⟩ := bs he
 obtain ⟨y74, hy75, he⟩ := bs he
 refine w_none (?_)
 refine w_drawn (p := 10) (tl := [10]) [[], [(0, some 84)], [], [(2, some 86)], [(1, some 85), (3, some 87)], [(4, some 88)], [(5, some 83)], [(5, some 83)], [], [(6, some 89), (8, some 10)]] [some 84, some 85, some 86, some 87, some 88, some 83, some 89, some 90, some 10, none] (fctF (.is (.pointer (some ⟨b_a, 0, none⟩)) :: .is (.bool a_0) :: .is (v_rest) :: .ro kU32 (y68) :: .of (wide_made.out y74) (wide_made.out_mono _) :: .of (fun H v => ∃ v80, v = .tuple ⟨[.agg ⟨[.bool y74.1.f_neg, v80]⟩, errV 104 y74.2]⟩ ∧ Ro kU32 H v80 y74.1.f_w) (by rintro _ _ _ hle ⟨v80, rfl, h81⟩; exact ⟨v80, rfl, h81.mono hle⟩) :: .of (fun H v => ∃ v82, v = .agg ⟨[.bool y74.1.f_neg, v82]⟩ ∧ Ro kU32 H v82 y74.1.f_w) (by rintro _ _ _ hle ⟨v82, rfl, h83⟩; exact ⟨v82, rfl, h83.mono hle⟩) :: .is (errV 104 y74.2) :: .box 24 [.bool false, .slice none 0 0] :: .st 8 (fun H bq_ itq_ => ∃ v85, itq_ = some (bq_, .cells ⟨[.bool y74.1.f_neg, v85]⟩ 24 (0, 0)) ∧ Ro kU32 H v85 y74.1.f_w) (by rintro _ _ _ _ hle ⟨v85, rfl, h86⟩; exact ⟨v85, rfl, h86.mono hle⟩) :: [])) (fun m_ => pk (m_ 9) (m_ 8) :: some (b_t4, .cells ⟨[.bool false, .slice none 0 0]⟩ 24 (0, 0)) :: some (b_a, .cells ⟨[.bool a_0, v_a_1]⟩ 24 (0, 0)) :: L) (fun _ => none) mixed (by kernel_rfl) (by kernel_rfl) rfl (fct_mono (by kernel_rfl)) ⟨(fun H' m_ hH hm_ hu_ => dn <| s_d (m_ 0) rfl (d_fld (o' := 0) Tryz.underlying24 rfl sz4 rfl rfl rfl) (by exact rfl) rfl), (by rintro H' m_ hH hm_ hu_ _ rfl; exact dn <| s_d (m_ 1) rfl (d_loado (v := .bool a_0) ty4 rfl (.there (.there .here)) rfl rfl rfl rfl) (by exact rfl) rfl), (fun H' m_ hH hm_ hu_ => dn <| s_d (m_ 2) rfl (d_move (v := v_rest) rfl) (by exact rfl) rfl), (by rintro H' m_ hH hm_ hu_ _ rfl; exact dn <| s_k (m_ 3) rfl (o_call co119 (vs := [v_rest]) rfl (slices_Clone_uint32_uint32.callsR k hy69 (h_rest.mono hH))) rfl (by rintro v_ H_ _ ⟨rfl, e_, h_⟩; exact ⟨rfl, e_, h_⟩)), (by rintro H' m_ hH hm_ hu_ _ rfl v72 (h73 : Ro kU32 H' v72 y68); exact dn <| s_k (m_ 4) rfl (o_call co115 (vs := [.bool a_0, v72]) rfl (wide_made.calls k hy75 h73)) rfl (by rintro v_ H_ _ ⟨rfl, e_, h_⟩; exact ⟨rfl, e_, h_⟩)), (by rintro H' m_ hH hm_ hu_ _ ⟨v78, rfl, h79⟩; exact dn <| s_d (m_ 5) rfl (d_move (v := .tuple ⟨[.agg ⟨[.bool y74.1.f_neg, v78]⟩, errV 104 y74.2]⟩) rfl) (by exact ⟨v78, rfl, h79⟩) rfl), (by rintro H' m_ hH hm_ hu_ _ ⟨v80, rfl, h81⟩; exact dn <| s_d (m_ 6) rfl (d_ext (vs := [.agg ⟨[.bool y74.1.f_neg, v80]⟩, errV 104 y74.2]) rfl rfl) (by exact ⟨v80, rfl, h81⟩) rfl), (by rintro H' m_ hH hm_ hu_ _ ⟨v80, rfl, h81⟩; exact dn <| s_d (m_ 7) rfl (d_ext (vs := [.agg ⟨[.bool y74.1.f_neg, v80]⟩, errV 104 y74.2]) rfl rfl) (by exact rfl) rfl), (fun H' m_ hH hm_ hu_ => dn <| s_box hm_ rfl rfl (o_alloc zr24 rfl) rfl (fun _ => (pk_upd (hu_ 9 (by kernel_rfl)))) (by exact fun b_ => ⟨b_, rfl, rfl⟩)), (by rintro H' m_ hH hm_ hu_ _ ⟨v82, rfl, h83⟩ _ ⟨b84, rfl, hb84_⟩; exact dn <| s_store2 (Λ' := fun z_ => z_ :: some (b_t4, .cells ⟨[.bool false, .slice none 0 0]⟩ 24 (0, 0)) :: some (b_a, .cells ⟨[.bool a_0, v_a_1]⟩ 24 (0, 0)) :: L) (some (b84, .cells ⟨[.bool y74.1.f_neg, v82]⟩ 24 (0, 0))) hm_ rfl hb84_ rfl (o_store (v := .agg ⟨[.bool y74.1.f_neg, v82]⟩) sz24 rfl rfl rfl rfl (oc rfl (oc (h83.one) oz)) .here u2) rfl rfl (by exact ⟨rfl, v82, congrArg (fun b_ => (some (b_, Obj.cells ⟨[.bool y74.1.f_neg, v82]⟩ 24 (0, 0)) : Item')) (bof_eq hb84_).symm, h83⟩)), trivial⟩ ?_
 intro H89 e90
 rintro _ _ rfl _ _ rfl _ _ rfl v72 _ (h73 : Ro kU32 H89 v72 y68) _ _ ⟨v78, rfl, h79⟩ _ _ ⟨v80, rfl, h81⟩ _ _ ⟨v82, rfl, h83⟩ _ _ rfl _ _ ⟨b84, rfl, rfl⟩ _ i87 ⟨rfl, v85, h88, h86⟩
 replace h88 : i87 = some (b84, .cells ⟨[.bool y74.1.f_neg, v85]⟩ 24 (0, 0)) := h88
 subst h88
 refine w_it (L' := some (b84, .cells ⟨[.bool y74.1.f_neg, v85]⟩ 24 (0, 0)) :: some (b_t4, .cells ⟨[.bool false, .slice none 0 0]⟩ 24 (0, 0)) :: some (b_a, .cells ⟨[.bool a_0, v_a_1]⟩ 24 (0, 0)) :: L) rfl <| wA (errV 104 y74.2) rfl rfl <| wE <| wR rfl <| wM (errV 104 y74.2) rfl rfl <| w_d rfl (d_nenil (e := y74.2) Tryz.underlying30 rfl) <| wM (.bool y74.2.isSome) rfl rfl <| w_g (g := !y74.2.isSome) rfl rfl rfl wn_f (fun g91 => d_fld (o' := 0) Tryz.underlying24 rfl sz4 rfl rfl rfl) <| w_g (g := !y74.2.isSome) rfl rfl rfl wn_f (fun g92 => d_loado (v := .bool a_0) ty4 (cvt g92) (.there (.there .here)) rfl rfl rfl rfl) <| w_g (g := !y74.2.isSome) rfl rfl rfl wn_f (fun g93 => d_not (b := a_0) (cvt g93)) ?_
 refine w_d rfl (d_or' (b := y74.2.isSome) (p := (!a_0)) rfl rfl rfl) <| wM (.bool (y74.2.isSome || (!a_0))) rfl rfl <| w_g (g := !(y74.2.isSome || (!a_0))) rfl rfl rfl wn_f (fun g94 => d_move (v := .bool lost) rfl) <| w_g (g := !(y74.2.isSome || (!a_0))) rfl rfl rfl wn_f (fun g95 => d_not (b := lost) (cvt g95)) <| w_d rfl (d_or' (b := (y74.2.isSome || (!a_0))) (p := (!lost)) rfl rfl rfl) <| w_done ?_
 rcases its he with ⟨c96, he⟩ | ⟨c96, he⟩
 ·
  refine w_then rfl c96 <| wR rfl <| wL (.agg ⟨[.bool y74.1.f_neg, v85]⟩) ty24 rfl rfl .here rfl rfl <| wM (errV 104 y74.2) rfl rfl <| w_a0 rfl (o_store (v := .agg ⟨[.bool y74.1.f_neg, v85]⟩) sz24 rfl rfl rfl rfl (oc rfl (oc (h86.one) oz)) (.there .here) u2) ?_
  rintro _ _ _ ⟨rfl, rfl, rfl⟩
  refine wA (errV 104 y74.2) rfl rfl <| w_done ?_
  obtain rfl := sj he
  refine w_return fn_72 rs_72 (.box (v := .agg ⟨[.bool y74.1.f_neg, v85]⟩) rfl ty24 rfl rfl (.there .here) rfl (.tmp (v := errV 104 y74.2) rfl .nil)) <| ⟨⟨[_, _, _], rfl⟩, hle.trans e90, ⟨v85, rfl, h86⟩⟩
 ·
  refine w_else rfl (Bool.eq_false_iff.2 c96) <| w_skip <| w_seq ?_
  obtain ⟨y97, hy98, he⟩ := bs he
  obtain ⟨y103, hy104, he⟩ := bs he
  refine w_drawn (p := 5) (tl := [5, 6]) [[], [], [(0, some 104), (1, some 105)], [(2, some 106)], [(2, some 106)]] [some 104, some 105, some 106, some 107, some 108] (fctF (.is (.agg ⟨[.bool y74.1.f_neg, v85]⟩) :: .of (wide_Of.out y97) (wide_Of.out_mono _) :: .of (wide_Int_Sub.out y103) (wide_Int_Sub.out_mono _) :: .of (fun H v => ∃ v109, v = .agg ⟨[.bool y103.1.f_neg, v109]⟩ ∧ Ro kU32 H v109 y103.1.f_w) (by rintro _ _ _ hle ⟨v109, rfl, h110⟩; exact ⟨v109, rfl, h110.mono hle⟩) :: .is (errV 104 y103.2) :: [])) (fun m_ => some (b84, .cells ⟨[.bool y74.1.f_neg, v85]⟩ 24 (0, 0)) :: some (b_t4, .cells ⟨[.bool false, .slice none 0 0]⟩ 24 (0, 0)) :: some (b_a, .cells ⟨[.bool a_0, v_a_1]⟩ 24 (0, 0)) :: L) (fun _ => none) mixed (by kernel_rfl) (by kernel_rfl) rfl (fct_mono (by kernel_rfl)) ⟨(fun H' m_ hH hm_ hu_ => dn <| s_d (m_ 0) rfl (d_loado (v := .agg ⟨[.bool y74.1.f_neg, v85]⟩) ty24 rfl .here rfl rfl rfl rfl) (by exact rfl) rfl), (fun H' m_ hH hm_ hu_ => dn <| s_k (m_ 1) rfl (o_call co71 (vs := [.int .i64 1]) rfl (wide_Of.calls k hy98)) rfl (by rintro v_ H_ _ ⟨rfl, e_, h_⟩; exact ⟨rfl, e_, h_⟩)), (by rintro H' m_ hH hm_ hu_ _ rfl _ ⟨v101, rfl, h102⟩; exact dn <| s_k (m_ 2) rfl (o_call co120 (vs := [.agg ⟨[.bool y74.1.f_neg, v85]⟩, .agg ⟨[.bool y97.f_neg, v101]⟩]) rfl (wide_Int_Sub.calls k (a := y74.1) (b := y97) hy104 (h86.mono hH) h102)) rfl (by rintro v_ H_ _ ⟨rfl, e_, h_⟩; exact ⟨rfl, e_, h_⟩)), (by rintro H' m_ hH hm_ hu_ _ ⟨v107, rfl, h108⟩; exact dn <| s_d (m_ 3) rfl (d_ext (vs := [.agg ⟨[.bool y103.1.f_neg, v107]⟩, errV 104 y103.2]) rfl rfl) (by exact ⟨v107, rfl, h108⟩) rfl), (by rintro H' m_ hH hm_ hu_ _ ⟨v107, rfl, h108⟩; exact dn <| s_d (m_ 4) rfl (d_ext (vs := [.agg ⟨[.bool y103.1.f_neg, v107]⟩, errV 104 y103.2]) rfl rfl) (by exact rfl) rfl), trivial⟩ ?_
  intro H111 e112
  rintro _ _ rfl _ _ ⟨v101, rfl, h102⟩ _ _ ⟨v107, rfl, h108⟩ _ _ ⟨v109, rfl, h110⟩ _ _ rfl
  refine w_a0 rfl (o_store (v := .agg ⟨[.bool y103.1.f_neg, v109]⟩) sz24 rfl rfl rfl rfl (oc rfl (oc (h110.one) oz)) (.there .here) u2) ?_
  rintro _ _ _ ⟨rfl, rfl, rfl⟩
  refine wA (errV 104 y103.2) rfl rfl <| w_done ?_
  obtain rfl := sj he
  refine w_return fn_72 rs_72 (.box (v := .agg ⟨[.bool y103.1.f_neg, v109]⟩) rfl ty24 rfl rfl (.there .here) rfl (.tmp (v := errV 104 y103.2) rfl .nil)) <| ⟨⟨[_, _, _], rfl⟩, hle.trans (e90.trans e112), ⟨v109, rfl, h110⟩⟩
theorem wide_Int_Move.calls (k : Nat) {H : Hp} {L : Items} {a : wide_Int} {n : Int} {v0_a : Value} {r : wide_Int × (Option Int)} (he : wide_Int_Move.f k a n = some r) (h0_a : Ro kU32 H v0_a a.f_w) : Ct Tryz.prog 72 ⟨[.agg ⟨[.bool a.f_neg, v0_a]⟩, .int .i64 n]⟩ H L (cR H L (wide_Int_Move.out r)) := by
 refine ct_out (O := wide_Int_Move.out r) ?_
 have hle : H.le H := .refl _
 unfold wide_Int_Move.f at he
 refine ct_enter (args := [.agg ⟨[.bool a.f_neg, v0_a]⟩, .int .i64 n]) fn_72 rfl nt_72 rfl <| wR rfl <| w_a rfl (o_box (v := .agg ⟨[.bool a.f_neg, v0_a]⟩) rfl rfl) ?_
 rintro _ _ _ ⟨b1, rfl, rfl, rfl⟩
 refine w_a rfl (o_alloc zr24 rfl) ?_
 rintro _ _ _ ⟨b2, rfl, rfl, rfl⟩
 refine wA (errV 104 none) rfl rfl <| wE <| wR rfl <| wM (.int .i64 n) rfl rfl <| w_d rfl (d_lss rfl rfl) <| wM (.bool (decide (n < (-4096)))) rfl rfl <| w_g (g := !(decide (n < (-4096)))) rfl rfl rfl wn_f (fun g3 => d_move (v := .int .i64 n) rfl) <| w_g (g := !(decide (n < (-4096)))) rfl rfl rfl wn_f (fun g4 => d_gtr (cvt g4) rfl) <| w_d rfl (d_or' (b := (decide (n < (-4096)))) (p := (decide (4096 < n))) rfl rfl rfl) <| w_done ?_
 rcases its he with ⟨c5, he⟩ | ⟨c5, he⟩
 ·
  refine w_then rfl c5 <| wR rfl <| w_d rfl (d_build (cs' := [.bool false, .slice none 0 0]) Tryz.underlying24 zr24 rfl (by kernel_rfl) (parts := []) rfl .nil) <| w_d rfl (d_iface (v := .int .i64 1) Tryz.underlying104 rfl rfl) <| w_a0 rfl (o_store (v := .agg ⟨[.bool false, .slice none 0 0]⟩) sz24 rfl rfl rfl rfl (oc rfl (oc rfl oz)) .here u2) ?_
  rintro _ _ _ ⟨rfl, rfl, rfl⟩
  refine wA (errV 104 (some 1)) rfl rfl <| w_done ?_
  obtain rfl := sj he
  refine w_return fn_72 rs_72 (.box (v := .agg ⟨[.bool false, .slice none 0 0]⟩) rfl ty24 rfl rfl .here rfl (.tmp (v := errV 104 (some 1)) rfl .nil)) <| ⟨⟨[_, _], rfl⟩, hle, ⟨.slice none 0 0, rfl, (ro_nil _ _)⟩⟩
 ·
  refine w_else rfl (Bool.eq_false_iff.2 c5) <| w_skip <| w_seq <| wR rfl <| wM (.int .i64 n) rfl rfl <| w_d rfl (d_geq rfl rfl) <| w_done ?_
  rcases its he with ⟨c6, he⟩ | ⟨c6, he⟩
  ·
   refine w_then rfl (dt c6) <| w_seq ?_
   obtain ⟨c7, he⟩ := rq he
   obtain ⟨y11, hy12, he⟩ := bs he
   refine w_none (?_)
   refine w_drawn (p := 8) (tl := [8, 9]) [[], [(0, some 22)], [(1, some 23)], [], [(3, some 25)], [], [(5, some 27)], [(4, some 26), (6, some 28)]] [some 22, some 23, some 24, some 25, some 26, some 27, some 28, some 29] (fctF (.is (.int .i64 n) :: .is (.int .i64 (w64 (Int.tdiv n 32))) :: .sl kU32 167 (List.replicate (w64 (Int.tdiv n 32) : Int).toNat (0 : Int)) :: .is (.pointer (some ⟨b1, 1, none⟩)) :: .is (v0_a) :: .is (.int .i64 n) :: .is (.int .i64 (Int.tmod n 32)) :: .ro kU32 (y11) :: [])) (fun m_ => m_ 2 :: some (b2, .cells ⟨[.bool false, .slice none 0 0]⟩ 24 (0, 0)) :: some (b1, .cells ⟨[.bool a.f_neg, v0_a]⟩ 24 (0, 0)) :: L) (fun _ => none) mixed (by kernel_rfl) (by kernel_rfl) rfl (fct_mono (by kernel_rfl)) ⟨(fun H' m_ hH hm_ hu_ => dn <| s_d (m_ 0) rfl (d_move (v := .int .i64 n) rfl) (by exact rfl) rfl), (by rintro H' m_ hH hm_ hu_ _ rfl; exact dn <| s_d (m_ 1) rfl (d_quo (c := w64 (Int.tdiv n 32)) rfl rfl (by decide) rfl) (by exact rfl) rfl), (by rintro H' m_ hH hm_ hu_ _ rfl; exact dn <| s_sl hm_ rfl rfl (o_make' (kd := kU32) (z0 := 0) Tryz.underlying22 ti167 (zp167 _) rfl rfl (by omega) (by omega) (by omega)) rfl (fun _ => .here) (by exact fun _ _ h_ => h_)), (fun H' m_ hH hm_ hu_ => dn <| s_d (m_ 3) rfl (d_fld (o' := 1) Tryz.underlying24 rfl sz22 rfl rfl rfl) (by exact rfl) rfl), (by rintro H' m_ hH hm_ hu_ _ rfl; exact dn <| s_d (m_ 4) rfl (d_loado (v := v0_a) ty22 rfl (.there (.there .here)) rfl rfl rfl rfl) (by exact rfl) rfl), (fun H' m_ hH hm_ hu_ => dn <| s_d (m_ 5) rfl (d_move (v := .int .i64 n) rfl) (by exact rfl) rfl), (by rintro H' m_ hH hm_ hu_ _ rfl; exact dn <| s_d (m_ 6) rfl (d_rem rfl rfl (by decide)) (by exact rfl) rfl), (by rintro H' m_ hH hm_ hu_ _ rfl _ rfl; exact dn <| s_k (m_ 7) rfl (o_call co114 (vs := [v0_a, .int .i64 (Int.tmod n 32)]) rfl (wide_up.callsR k hy12 ((h0_a.mono hH).src))) rfl (by rintro v_ H_ _ ⟨rfl, e_, h_⟩; exact ⟨rfl, e_, h_⟩)), trivial⟩ ?_
   intro H17 e18
   rintro _ _ rfl _ _ rfl v8 i9 (h10 : Sl kU32 H17 167 i9 v8 (List.replicate (w64 (Int.tdiv n 32) : Int).toNat (0 : Int))) _ _ rfl _ _ rfl _ _ rfl _ _ rfl v15 _ (h16 : Ro kU32 H17 v15 y11)
   obtain ⟨c19, he⟩ := rq he
   refine w_a rfl (o_append' (kd := kU32) (F := fun z_ => z_ :: some (b2, .cells ⟨[.bool false, .slice none 0 0]⟩ 24 (0, 0)) :: some (b1, .cells ⟨[.bool a.f_neg, v0_a]⟩ 24 (0, 0)) :: L) Tryz.underlying22 Tryz.underlying22 ti167 rfl (by first | omega | (simp only [List.nil_append, List.length_cons, List.length_nil]; omega)) rfl rfl h10 h16.src (fun _ => .here)) ?_
   rintro v20 _ _ ⟨i21, rfl, rfl, h22⟩
   refine wA v20 rfl rfl <| wQ rfl <| w_d rfl (d_fld (o' := 0) Tryz.underlying24 rfl sz4 rfl rfl rfl) <| wL (.bool a.f_neg) ty4 rfl rfl (.there (.there .here)) rfl rfl <| wM v20 rfl rfl <| w_freeze h22 .here ?_
   intro H23 e24 h25
   obtain ⟨y26, hy27, he⟩ := bs he
   refine w_a rfl (o_call co115 (vs := [.bool a.f_neg, v20]) rfl (wide_made.calls k hy27 h25)) ?_
   rintro _ H28 _ ⟨rfl, e29, ⟨v30, rfl, h31⟩⟩
   refine w_d rfl (d_ext (vs := [.agg ⟨[.bool y26.1.f_neg, v30]⟩, errV 104 y26.2]) rfl rfl) <| w_d rfl (d_ext (vs := [.agg ⟨[.bool y26.1.f_neg, v30]⟩, errV 104 y26.2]) rfl rfl) <| w_a0 rfl (o_store (v := .agg ⟨[.bool y26.1.f_neg, v30]⟩) sz24 rfl rfl rfl rfl (oc rfl (oc (h31.one) oz)) (.there .here) u2) ?_
   rintro _ _ _ ⟨rfl, rfl, rfl⟩
   refine wA (errV 104 y26.2) rfl rfl <| w_done ?_
   obtain rfl := sj he
   refine w_return fn_72 rs_72 (.box (v := .agg ⟨[.bool y26.1.f_neg, v30]⟩) rfl ty24 rfl rfl (.there .here) rfl (.tmp (v := errV 104 y26.2) rfl .nil)) <| ⟨⟨[_, _, _], rfl⟩, hle.trans ((e18.trans e24).trans e29), ⟨v30, rfl, h31⟩⟩
  ·
   refine w_else rfl (df c6) <| w_skip <| wR rfl <| wM (.int .i64 n) rfl rfl <| w_d rfl (d_neg (c := w64 (0 - n)) rfl rfl) <| w_d rfl (d_quo (c := w64 (Int.tdiv (w64 (0 - n)) 32)) rfl rfl (by decide) rfl) <| w_d rfl (d_fld (o' := 1) Tryz.underlying24 rfl sz22 rfl rfl rfl) <| wL v0_a ty22 rfl rfl (.there .here) rfl rfl <| w_d rfl (d_len Tryz.underlying22 rfl h0_a.src) <| w_d rfl (d_min rfl rfl) <| wA (.int .i64 (min (w64 (Int.tdiv (w64 (0 - n)) 32)) (a.f_w.length : Int))) rfl rfl ?_
   refine wQ rfl <| w_d rfl (d_fld (o' := 1) Tryz.underlying24 rfl sz22 rfl rfl rfl) <| wL v0_a ty22 rfl rfl (.there .here) rfl rfl <| wM (.int .i64 (min (w64 (Int.tdiv (w64 (0 - n)) 32)) (a.f_w.length : Int))) rfl rfl ?_
   obtain ⟨c32, he⟩ := rq he
   refine w_a rfl (o_cut (kd := kU32) Tryz.underlying22 sz167 rfl h0_a (.inl ⟨rfl, rfl⟩) (.inr ⟨_, _, rfl, rfl⟩) c32) ?_
   rintro v33 _ _ ⟨h34, rfl, rfl⟩
   obtain ⟨y35, hy36, he⟩ := bs he
   refine w_d rfl (call_d (o_call co116 (vs := [v33, .func (.func 117) #[] #[]]) rfl (slices_ContainsFunc_uint32_uint32_wide_Int_Move_1.calls k hy36 h34.src))) <| wA (.bool y35) rfl rfl <| wQ rfl <| w_d rfl (d_fld (o' := 1) Tryz.underlying24 rfl sz22 rfl rfl rfl) <| wL v0_a ty22 rfl rfl (.there .here) rfl rfl <| wM (.int .i64 (min (w64 (Int.tdiv (w64 (0 - n)) 32)) (a.f_w.length : Int))) rfl rfl ?_
   obtain ⟨c39, he⟩ := rq he
   refine w_a rfl (o_cut (kd := kU32) Tryz.underlying22 sz167 rfl h0_a (.inr ⟨_, _, rfl, rfl⟩) (.inl ⟨rfl, rfl⟩) c39) ?_
   rintro v40 _ _ ⟨h41, rfl, rfl⟩
   refine wA v40 rfl rfl <| wE <| wR rfl <| wM (.int .i64 (min (w64 (Int.tdiv (w64 (0 - n)) 32)) (a.f_w.length : Int))) rfl rfl <| w_d rfl (d_fld (o' := 1) Tryz.underlying24 rfl sz22 rfl rfl rfl) <| wL v0_a ty22 rfl rfl (.there .here) rfl rfl <| w_d rfl (d_len Tryz.underlying22 rfl h0_a.src) <| w_d rfl (d_lss rfl rfl) <| wM (.bool (decide ((min (w64 (Int.tdiv (w64 (0 - n)) 32)) (a.f_w.length : Int)) < (a.f_w.length : Int)))) rfl rfl <| w_g (g := decide ((min (w64 (Int.tdiv (w64 (0 - n)) 32)) (a.f_w.length : Int)) < (a.f_w.length : Int))) rfl rfl rfl wn_t (fun g42 => d_move (v := .int .i64 (min (w64 (Int.tdiv (w64 (0 - n)) 32)) (a.f_w.length : Int))) rfl) ?_
   refine w_g (g := decide ((min (w64 (Int.tdiv (w64 (0 - n)) 32)) (a.f_w.length : Int)) < (a.f_w.length : Int))) rfl rfl rfl wn_t (fun g43 => d_move (v := .int .i64 n) rfl) <| w_g (g := decide ((min (w64 (Int.tdiv (w64 (0 - n)) 32)) (a.f_w.length : Int)) < (a.f_w.length : Int))) rfl rfl rfl wn_t (fun g44 => d_neg (c := w64 (0 - n)) (cvt g44) rfl) <| w_g (g := decide ((min (w64 (Int.tdiv (w64 (0 - n)) 32)) (a.f_w.length : Int)) < (a.f_w.length : Int))) rfl rfl rfl wn_t (fun g45 => d_quo (c := w64 (Int.tdiv (w64 (0 - n)) 32)) (cvt g45) rfl (by decide) rfl) <| w_g (g := decide ((min (w64 (Int.tdiv (w64 (0 - n)) 32)) (a.f_w.length : Int)) < (a.f_w.length : Int))) rfl rfl rfl wn_t (fun g46 => d_eql (cvt g46) (cvt g46)) <| w_d rfl (d_and' (b := (decide ((min (w64 (Int.tdiv (w64 (0 - n)) 32)) (a.f_w.length : Int)) < (a.f_w.length : Int)))) (p := (decide ((min (w64 (Int.tdiv (w64 (0 - n)) 32)) (a.f_w.length : Int)) = (w64 (Int.tdiv (w64 (0 - n)) 32))))) rfl rfl rfl) <| w_done ?_
   rcases its he with ⟨c47, he⟩ | ⟨c47, he⟩
   ·
    refine w_then rfl c47 <| w_seq ?_
    obtain ⟨c50, he⟩ := rq he
    obtain ⟨c56, he⟩ := rq he
    refine w_drawn (p := 10) (tl := [10, 11, 12, 13]) [[], [(0, some 65)], [(1, some 66)], [(1, some 66), (2, some 67)], [(1, some 66), (3, some 68)], [(1, some 66)], [(1, some 66), (5, some 70)], [(1, some 66), (6, some 71)], [(1, some 66), (7, some 72)], [(1, some 66), (8, some 73)]] [some 65, some 66, some 67, some 68, some 69, some 70, some 71, some 72, some 73, some 74] (fctF (.is (.bool y35) :: .is (.bool y35) :: .is (cond (!y35) v40 undef) :: .is (cond (!y35) (.pointer (some (pel v40 0 1))) undef) :: .is (cond (!y35) (.int .u32 (rd (cut a.f_w (min (w64 (Int.tdiv (w64 (0 - n)) 32)) (a.f_w.length : Int)) (a.f_w.length : Int)) 0)) undef) :: .is (cond (!y35) (.int .i64 n) undef) :: .is (cond (!y35) (.int .i64 (w64 (0 - n))) undef) :: .is (cond (!y35) (.int .i64 (Int.tmod (w64 (0 - n)) 32)) undef) :: .is (cond (!y35) (.int .u32 ((1 * 2 ^ shn .u32 (Int.tmod (w64 (0 - n)) 32)) % 4294967296)) undef) :: .is (cond (!y35) (.int .u32 ((((1 * 2 ^ shn .u32 (Int.tmod (w64 (0 - n)) 32)) % 4294967296) - 1) % 4294967296)) undef) :: [])) (fun m_ => some (b2, .cells ⟨[.bool false, .slice none 0 0]⟩ 24 (0, 0)) :: some (b1, .cells ⟨[.bool a.f_neg, v0_a]⟩ 24 (0, 0)) :: L) (fun _ => none) mixed (by kernel_rfl) (by kernel_rfl) rfl (fct_mono (by kernel_rfl)) ⟨(fun H' m_ hH hm_ hu_ => dn <| s_d (m_ 0) rfl (d_move (v := .bool y35) rfl) (by exact rfl) rfl), (by rintro H' m_ hH hm_ hu_ _ rfl; exact dn <| s_d (m_ 1) rfl (d_move (v := .bool y35) rfl) (by exact rfl) rfl), (by rintro H' m_ hH hm_ hu_ _ rfl; exact dn <| s_g (g := !y35) (m_ 2) rfl rfl rfl wn_f (fun g48 => d_move (v := v40) rfl) rfl (by exact fun g_ => cvt g_) (by exact fun g_ => cnt g_)), (by rintro H' m_ hH hm_ hu_ _ rfl _ rfl; exact dn <| s_g (g := !y35) (m_ 3) rfl rfl rfl wn_f (fun g49 => d_index (sz := 1) Tryz.underlying22 sz167 (cvt g49) (h41.mono hH).src rfl (c50 g49)) rfl (by exact fun g_ => cvt g_) (by exact fun g_ => cnt g_)), (by rintro H' m_ hH hm_ hu_ _ rfl _ rfl; exact dn <| s_g (g := !y35) (m_ 4) rfl rfl rfl wn_f (fun g51 => d_ldint ty167 (cvt g51) (h41.mono hH).src (c50 g51)) rfl (by exact fun g_ => cvt g_) (by exact fun g_ => cnt g_)), (by rintro H' m_ hH hm_ hu_ _ rfl; exact dn <| s_g (g := !y35) (m_ 5) rfl rfl rfl wn_f (fun g52 => d_move (v := .int .i64 n) rfl) rfl (by exact fun g_ => cvt g_) (by exact fun g_ => cnt g_)), (by rintro H' m_ hH hm_ hu_ _ rfl _ rfl; exact dn <| s_g (g := !y35) (m_ 6) rfl rfl rfl wn_f (fun g53 => d_neg (c := w64 (0 - n)) (cvt g53) rfl) rfl (by exact fun g_ => cvt g_) (by exact fun g_ => cnt g_)), (by rintro H' m_ hH hm_ hu_ _ rfl _ rfl; exact dn <| s_g (g := !y35) (m_ 7) rfl rfl rfl wn_f (fun g54 => d_rem (cvt g54) rfl (by decide)) rfl (by exact fun g_ => cvt g_) (by exact fun g_ => cnt g_)), (by rintro H' m_ hH hm_ hu_ _ rfl _ rfl; exact dn <| s_g (g := !y35) (m_ 8) rfl rfl rfl wn_f (fun g55 => d_shl (c := (1 * 2 ^ shn .u32 (Int.tmod (w64 (0 - n)) 32)) % 4294967296) rfl (cvt g55) (c56 g55) rfl) rfl (by exact fun g_ => cvt g_) (by exact fun g_ => cnt g_)), (by rintro H' m_ hH hm_ hu_ _ rfl _ rfl; exact dn <| s_g (g := !y35) (m_ 9) rfl rfl rfl wn_f (fun g57 => d_sub (c := (((1 * 2 ^ shn .u32 (Int.tmod (w64 (0 - n)) 32)) % 4294967296) - 1) % 4294967296) (cvt g57) rfl rfl) rfl (by exact fun g_ => cvt g_) (by exact fun g_ => cnt g_)), trivial⟩ ?_
    intro H58 e59
    rintro _ _ rfl _ _ rfl _ _ rfl _ _ rfl _ _ rfl _ _ rfl _ _ rfl _ _ rfl _ _ rfl _ _ rfl
    refine w_g (g := !y35) rfl rfl rfl wn_f (fun g60 => d_band (cvt g60) (cvt g60)) <| w_g (g := !y35) rfl rfl rfl wn_f (fun g61 => d_neq (cvt g61) rfl) <| w_d rfl (d_or' (b := y35) (p := (!decide ((iand .u32 (rd (cut a.f_w (min (w64 (Int.tdiv (w64 (0 - n)) 32)) (a.f_w.length : Int)) (a.f_w.length : Int)) 0) ((((1 * 2 ^ shn .u32 (Int.tmod (w64 (0 - n)) 32)) % 4294967296) - 1) % 4294967296)) = 0))) rfl rfl rfl) <| wA (.bool (y35 || (!decide ((iand .u32 (rd (cut a.f_w (min (w64 (Int.tdiv (w64 (0 - n)) 32)) (a.f_w.length : Int)) (a.f_w.length : Int)) 0) ((((1 * 2 ^ shn .u32 (Int.tmod (w64 (0 - n)) 32)) % 4294967296) - 1) % 4294967296)) = 0)))) rfl rfl <| w_done <| w_region rfl <| wM v40 rfl rfl <| wM (.int .i64 n) rfl rfl <| w_d rfl (d_neg (c := w64 (0 - n)) rfl rfl) <| w_d rfl (d_rem rfl rfl (by decide)) ?_
    obtain ⟨y62, hy63, he⟩ := bs he
    refine w_a rfl (o_call co118 (vs := [v40, .int .i64 (Int.tmod (w64 (0 - n)) 32)]) rfl (wide_down.calls k hy63 (h41.mono e59))) ?_
    rintro v66 H64 _ ⟨rfl, e65, h67⟩
    refine wA v66 rfl rfl <| w_done <| w_sl 2 (.pointer (some ⟨b1, 0, none⟩)) rfl <| w_sl 4 (.pointer (some ⟨b2, 0, none⟩)) rfl <| w_sl 5 (errV 104 none) rfl <| w_sl 8 (.bool (y35 || (!decide ((iand .u32 (rd (cut a.f_w (min (w64 (Int.tdiv (w64 (0 - n)) 32)) (a.f_w.length : Int)) (a.f_w.length : Int)) 0) ((((1 * 2 ^ shn .u32 (Int.tmod (w64 (0 - n)) 32)) % 4294967296) - 1) % 4294967296)) = 0)))) rfl <| w_sl 9 (v66) rfl <| wide_Int_Move.j1_ok (k := k) (hle.trans (e59.trans e65)) he (h0_a.mono (e59.trans e65)) h67
   ·
    refine w_else rfl (Bool.eq_false_iff.2 c47) <| w_region rfl <| wA (.slice none 0 0) rfl rfl <| w_done <| w_sl 2 (.pointer (some ⟨b1, 0, none⟩)) rfl <| w_sl 4 (.pointer (some ⟨b2, 0, none⟩)) rfl <| w_sl 5 (errV 104 none) rfl <| w_sl 8 (.bool y35) rfl <| w_sl 9 (.slice none 0 0) rfl <| wide_Int_Move.j1_ok (k := k) hle he h0_a (ro_nil _ _)
noncomputable def ratio_Bits.C : Code := (Tryz.f18.body).getD .skip
def ratio_Bits.out (r : ratio_Ratio × (Option Int)) (H : Hp) (v : Value) : Prop := ∃ v0, ∃ v1, v = .tuple ⟨[.agg ⟨[.bool r.1.f_n.f_neg, v0, .bool r.1.f_d.f_neg, v1]⟩, errV 104 r.2]⟩ ∧ Ro kU32 H v0 r.1.f_n.f_w ∧ Ro kU32 H v1 r.1.f_d.f_w
theorem ratio_Bits.out_mono (r : ratio_Ratio × (Option Int)) {H H' : Hp} {v : Value} (hle : H.le H') (h : ratio_Bits.out r H v) : ratio_Bits.out r H' v := by
 obtain ⟨v0, v1, rfl, h0, h1⟩ := h; exact ⟨v0, v1, rfl, h0.mono hle, h1.mono hle⟩
noncomputable def ratio_Bits.f (k : Nat) (n : Int) (bits : Int) : Option (ratio_Ratio × (Option Int)) := if ((decide (bits < 0)) || (decide (1024 < bits))) = true then (some ((⟨(⟨false, []⟩ : wide_Int), (⟨false, []⟩ : wide_Int)⟩ : ratio_Ratio), some 1)) else ((wide_Of.f k 1).bind fun y5 => (wide_Int_Move.f k y5 bits).bind fun y11 => if y11.2.isSome = true then (some ((⟨(⟨false, []⟩ : wide_Int), (⟨false, []⟩ : wide_Int)⟩ : ratio_Ratio), y11.2)) else ((wide_Of.f k n).bind fun y19 => (ratio_Of.f k y19 y11.1).bind fun y25 => some (y25.1, y25.2)))
theorem ratio_Bits.mono : ∀ k y0 y1, LeO (ratio_Bits.f k y0 y1) (ratio_Bits.f (k + 1) y0 y1) := fun k _ _ => by unfold ratio_Bits.f; exact (LeO.ite (LeO.refl _) (LeO.bind (wide_Of.mono k _) fun _ => LeO.bind (wide_Int_Move.mono k _ _) fun _ => LeO.ite (LeO.refl _) (LeO.bind (wide_Of.mono k _) fun _ => LeO.bind (ratio_Of.mono k _ _) fun _ => LeO.refl _)))
theorem ratio_Bits.calls (k : Nat) {H : Hp} {L : Items} {n : Int} {bits : Int} {r : ratio_Ratio × (Option Int)} (he : ratio_Bits.f k n bits = some r) : Ct Tryz.prog 18 ⟨[.int .i64 n, .int .i64 bits]⟩ H L (cR H L (ratio_Bits.out r)) := by
 refine ct_out (O := ratio_Bits.out r) ?_
 have hle : H.le H := .refl _
 unfold ratio_Bits.f at he
 refine ct_enter (args := [.int .i64 n, .int .i64 bits]) fn_18 rfl nt_18 rfl <| wR rfl <| w_a rfl (o_alloc zr26 rfl) ?_
 rintro _ _ _ ⟨b1, rfl, rfl, rfl⟩
 refine wA (errV 104 none) rfl rfl <| wE <| wR rfl <| wM (.int .i64 bits) rfl rfl <| w_d rfl (d_lss rfl rfl) <| wM (.bool (decide (bits < 0))) rfl rfl <| w_g (g := !(decide (bits < 0))) rfl rfl rfl wn_f (fun g2 => d_move (v := .int .i64 bits) rfl) <| w_g (g := !(decide (bits < 0))) rfl rfl rfl wn_f (fun g3 => d_gtr (cvt g3) rfl) <| w_d rfl (d_or' (b := (decide (bits < 0))) (p := (decide (1024 < bits))) rfl rfl rfl) <| w_done ?_
 rcases its he with ⟨c4, he⟩ | ⟨c4, he⟩
 ·
  refine w_then rfl c4 <| wR rfl <| w_d rfl (d_build (cs' := [.bool false, .slice none 0 0, .bool false, .slice none 0 0]) Tryz.underlying26 zr26 rfl (by kernel_rfl) (parts := []) rfl .nil) <| w_d rfl (d_iface (v := .int .i64 1) Tryz.underlying104 rfl rfl) <| w_a0 rfl (o_store (v := .agg ⟨[.bool false, .slice none 0 0, .bool false, .slice none 0 0]⟩) sz26 rfl rfl rfl rfl (oc rfl (oc rfl (oc rfl (oc rfl oz)))) .here u4) ?_
  rintro _ _ _ ⟨rfl, rfl, rfl⟩
  refine wA (errV 104 (some 1)) rfl rfl <| w_done ?_
  obtain rfl := sj he
  refine w_return fn_18 rs_18 (.box (v := .agg ⟨[.bool false, .slice none 0 0, .bool false, .slice none 0 0]⟩) rfl ty26 rfl rfl .here rfl (.tmp (v := errV 104 (some 1)) rfl .nil)) <| ⟨⟨[_], rfl⟩, hle, ⟨.slice none 0 0, .slice none 0 0, rfl, (ro_nil _ _), (ro_nil _ _)⟩⟩
 ·
  refine w_else rfl (Bool.eq_false_iff.2 c4) <| w_skip <| wR rfl ?_
  obtain ⟨y5, hy6, he⟩ := bs he
  refine w_a rfl (o_call co71 (vs := [.int .i64 1]) rfl (wide_Of.calls k hy6)) ?_
  rintro _ H7 _ ⟨rfl, e8, ⟨v9, rfl, h10⟩⟩
  refine wM (.int .i64 bits) rfl rfl ?_
  obtain ⟨y11, hy12, he⟩ := bs he
  refine w_a rfl (o_call co72 (vs := [.agg ⟨[.bool y5.f_neg, v9]⟩, .int .i64 bits]) rfl (wide_Int_Move.calls k (a := y5) hy12 h10)) ?_
  rintro _ H13 _ ⟨rfl, e14, ⟨v15, rfl, h16⟩⟩
  refine wM (.tuple ⟨[.agg ⟨[.bool y11.1.f_neg, v15]⟩, errV 104 y11.2]⟩) rfl rfl <| w_d rfl (d_ext (vs := [.agg ⟨[.bool y11.1.f_neg, v15]⟩, errV 104 y11.2]) rfl rfl) <| w_d rfl (d_ext (vs := [.agg ⟨[.bool y11.1.f_neg, v15]⟩, errV 104 y11.2]) rfl rfl) <| w_a rfl (o_alloc zr24 rfl) ?_
  rintro _ _ _ ⟨b17, rfl, rfl, rfl⟩
  refine w_a0 rfl (o_store (v := .agg ⟨[.bool y11.1.f_neg, v15]⟩) sz24 rfl rfl rfl rfl (oc rfl (oc (h16.one) oz)) .here u2) ?_
  rintro _ _ _ ⟨rfl, rfl, rfl⟩
  refine wA (errV 104 y11.2) rfl rfl <| wE <| wR rfl <| wM (errV 104 y11.2) rfl rfl <| w_d rfl (d_nenil (e := y11.2) Tryz.underlying30 rfl) <| w_done ?_
  rcases its he with ⟨c18, he⟩ | ⟨c18, he⟩
  ·
   refine w_then rfl c18 <| wR rfl <| w_d rfl (d_build (cs' := [.bool false, .slice none 0 0, .bool false, .slice none 0 0]) Tryz.underlying26 zr26 rfl (by kernel_rfl) (parts := []) rfl .nil) <| wM (errV 104 y11.2) rfl rfl <| w_a0 rfl (o_store (v := .agg ⟨[.bool false, .slice none 0 0, .bool false, .slice none 0 0]⟩) sz26 rfl rfl rfl rfl (oc rfl (oc rfl (oc rfl (oc rfl oz)))) (.there .here) u4) ?_
   rintro _ _ _ ⟨rfl, rfl, rfl⟩
   refine wA (errV 104 y11.2) rfl rfl <| w_done ?_
   obtain rfl := sj he
   refine w_return fn_18 rs_18 (.box (v := .agg ⟨[.bool false, .slice none 0 0, .bool false, .slice none 0 0]⟩) rfl ty26 rfl rfl (.there .here) rfl (.tmp (v := errV 104 y11.2) rfl .nil)) <| ⟨⟨[_, _], rfl⟩, hle.trans (e8.trans e14), ⟨.slice none 0 0, .slice none 0 0, rfl, (ro_nil _ _), (ro_nil _ _)⟩⟩
  ·
   refine w_else rfl (Bool.eq_false_iff.2 c18) <| w_skip <| w_seq ?_
   obtain ⟨y19, hy20, he⟩ := bs he
   obtain ⟨y25, hy26, he⟩ := bs he
   refine w_drawn (p := 6) (tl := [6, 7]) [[], [(0, some 26)], [], [(1, some 27), (2, some 28)], [(3, some 29)], [(3, some 29)]] [some 26, some 27, some 28, some 29, some 30, some 31] (fctF (.is (.int .i64 n) :: .of (wide_Of.out y19) (wide_Of.out_mono _) :: .is (.agg ⟨[.bool y11.1.f_neg, v15]⟩) :: .of (ratio_Of.out y25) (ratio_Of.out_mono _) :: .of (fun H v => ∃ v33, ∃ v35, v = .agg ⟨[.bool y25.1.f_n.f_neg, v33, .bool y25.1.f_d.f_neg, v35]⟩ ∧ Ro kU32 H v33 y25.1.f_n.f_w ∧ Ro kU32 H v35 y25.1.f_d.f_w) (by rintro _ _ _ hle ⟨v33, v35, rfl, h34, h36⟩; exact ⟨v33, v35, rfl, h34.mono hle, h36.mono hle⟩) :: .is (errV 104 y25.2) :: [])) (fun m_ => some (b17, .cells ⟨[.bool y11.1.f_neg, v15]⟩ 24 (0, 0)) :: some (b1, .cells ⟨[.bool false, .slice none 0 0, .bool false, .slice none 0 0]⟩ 26 (0, 0)) :: L) (fun _ => none) mixed (by kernel_rfl) (by kernel_rfl) rfl (fct_mono (by kernel_rfl)) ⟨(fun H' m_ hH hm_ hu_ => dn <| s_d (m_ 0) rfl (d_move (v := .int .i64 n) rfl) (by exact rfl) rfl), (by rintro H' m_ hH hm_ hu_ _ rfl; exact dn <| s_k (m_ 1) rfl (o_call co71 (vs := [.int .i64 n]) rfl (wide_Of.calls k hy20)) rfl (by rintro v_ H_ _ ⟨rfl, e_, h_⟩; exact ⟨rfl, e_, h_⟩)), (fun H' m_ hH hm_ hu_ => dn <| s_d (m_ 2) rfl (d_loado (v := .agg ⟨[.bool y11.1.f_neg, v15]⟩) ty24 rfl .here rfl rfl rfl rfl) (by exact rfl) rfl), (by rintro H' m_ hH hm_ hu_ _ ⟨v23, rfl, h24⟩ _ rfl; exact dn <| s_k (m_ 3) rfl (o_call co73 (vs := [.agg ⟨[.bool y19.f_neg, v23]⟩, .agg ⟨[.bool y11.1.f_neg, v15]⟩]) rfl (ratio_Of.calls k (n := y19) (d := y11.1) hy26 h24 (h16.mono hH))) rfl (by rintro v_ H_ _ ⟨rfl, e_, h_⟩; exact ⟨rfl, e_, h_⟩)), (by rintro H' m_ hH hm_ hu_ _ ⟨v29, v31, rfl, h30, h32⟩; exact dn <| s_d (m_ 4) rfl (d_ext (vs := [.agg ⟨[.bool y25.1.f_n.f_neg, v29, .bool y25.1.f_d.f_neg, v31]⟩, errV 104 y25.2]) rfl rfl) (by exact ⟨v29, v31, rfl, h30, h32⟩) rfl), (by rintro H' m_ hH hm_ hu_ _ ⟨v29, v31, rfl, h30, h32⟩; exact dn <| s_d (m_ 5) rfl (d_ext (vs := [.agg ⟨[.bool y25.1.f_n.f_neg, v29, .bool y25.1.f_d.f_neg, v31]⟩, errV 104 y25.2]) rfl rfl) (by exact rfl) rfl), trivial⟩ ?_
   intro H37 e38
   rintro _ _ rfl _ _ ⟨v23, rfl, h24⟩ _ _ rfl _ _ ⟨v29, v31, rfl, h30, h32⟩ _ _ ⟨v33, v35, rfl, h34, h36⟩ _ _ rfl
   refine w_a0 rfl (o_store (v := .agg ⟨[.bool y25.1.f_n.f_neg, v33, .bool y25.1.f_d.f_neg, v35]⟩) sz26 rfl rfl rfl rfl (oc rfl (oc (h34.one) (oc rfl (oc (h36.one) oz)))) (.there .here) u4) ?_
   rintro _ _ _ ⟨rfl, rfl, rfl⟩
   refine wA (errV 104 y25.2) rfl rfl <| w_done ?_
   obtain rfl := sj he
   refine w_return fn_18 rs_18 (.box (v := .agg ⟨[.bool y25.1.f_n.f_neg, v33, .bool y25.1.f_d.f_neg, v35]⟩) rfl ty26 rfl rfl (.there .here) rfl (.tmp (v := errV 104 y25.2) rfl .nil)) <| ⟨⟨[_, _], rfl⟩, hle.trans ((e8.trans e14).trans e38), ⟨v33, v35, rfl, h34, h36⟩⟩
noncomputable def ratio_Ratio_under.C : Code := (Tryz.f78.body).getD .skip
def ratio_Ratio_under.out (r : wide_Int) (H : Hp) (v : Value) : Prop := ∃ v0, v = .agg ⟨[.bool r.f_neg, v0]⟩ ∧ Ro kU32 H v0 r.f_w
theorem ratio_Ratio_under.out_mono (r : wide_Int) {H H' : Hp} {v : Value} (hle : H.le H') (h : ratio_Ratio_under.out r H v) : ratio_Ratio_under.out r H' v := by
 obtain ⟨v0, rfl, h0⟩ := h; exact ⟨v0, rfl, h0.mono hle⟩
noncomputable def ratio_Ratio_under.f (k : Nat) (a : ratio_Ratio) : Option wide_Int := (wide_Int_Sign.f k a.f_d).bind fun y3 => if y3 = 0 then ((wide_Of.f k 1).bind fun y8 => some (y8)) else (some (a.f_d))
theorem ratio_Ratio_under.mono : ∀ k y0, LeO (ratio_Ratio_under.f k y0) (ratio_Ratio_under.f (k + 1) y0) := fun k _ => by unfold ratio_Ratio_under.f; exact (LeO.bind (wide_Int_Sign.mono k _) fun _ => LeO.ite (LeO.bind (wide_Of.mono k _) fun _ => LeO.refl _) (LeO.refl _))
theorem ratio_Ratio_under.calls (k : Nat) {H : Hp} {L : Items} {a : ratio_Ratio} {v0_a : Value} {v1_a : Value} {r : wide_Int} (he : ratio_Ratio_under.f k a = some r) (h0_a : Ro kU32 H v0_a a.f_n.f_w) (h1_a : Ro kU32 H v1_a a.f_d.f_w) : Ct Tryz.prog 78 ⟨[.agg ⟨[.bool a.f_n.f_neg, v0_a, .bool a.f_d.f_neg, v1_a]⟩]⟩ H L (cR H L (ratio_Ratio_under.out r)) := by
 refine ct_out (O := ratio_Ratio_under.out r) ?_
 have hle : H.le H := .refl _
 unfold ratio_Ratio_under.f at he
 refine ct_enter (args := [.agg ⟨[.bool a.f_n.f_neg, v0_a, .bool a.f_d.f_neg, v1_a]⟩]) fn_78 rfl nt_78 rfl <| wR rfl <| w_a rfl (o_box (v := .agg ⟨[.bool a.f_n.f_neg, v0_a, .bool a.f_d.f_neg, v1_a]⟩) rfl rfl) ?_
 rintro _ _ _ ⟨b1, rfl, rfl, rfl⟩
 refine w_a rfl (o_alloc zr24 rfl) ?_
 rintro _ _ _ ⟨b2, rfl, rfl, rfl⟩
 refine wE <| wR rfl <| w_d rfl (d_fld (o' := 2) Tryz.underlying26 rfl sz24 rfl rfl rfl) <| wL (.agg ⟨[.bool a.f_d.f_neg, v1_a]⟩) ty24 rfl rfl (.there .here) rfl rfl ?_
 obtain ⟨y3, hy4, he⟩ := bs he
 refine w_d rfl (call_d (o_call co84 (vs := [.agg ⟨[.bool a.f_d.f_neg, v1_a]⟩]) rfl (wide_Int_Sign.calls k (a := a.f_d) hy4 h1_a))) <| w_d rfl (d_eql rfl rfl) <| w_done ?_
 rcases its he with ⟨c7, he⟩ | ⟨c7, he⟩
 ·
  refine w_then rfl (dt c7) <| wR rfl ?_
  obtain ⟨y8, hy9, he⟩ := bs he
  refine w_a rfl (o_call co71 (vs := [.int .i64 1]) rfl (wide_Of.calls k hy9)) ?_
  rintro _ H10 _ ⟨rfl, e11, ⟨v12, rfl, h13⟩⟩
  refine w_a0 rfl (o_store (v := .agg ⟨[.bool y8.f_neg, v12]⟩) sz24 rfl rfl rfl rfl (oc rfl (oc (h13.one) oz)) .here u2) ?_
  rintro _ _ _ ⟨rfl, rfl, rfl⟩
  refine w_done ?_
  obtain rfl := sj he
  refine w_return fn_78 rs_78 (.box (v := .agg ⟨[.bool y8.f_neg, v12]⟩) rfl ty24 rfl rfl .here rfl .nil) <| ⟨⟨[_, _], rfl⟩, hle.trans e11, ⟨v12, rfl, h13⟩⟩
 ·
  refine w_else rfl (df c7) <| w_skip <| wR rfl <| w_d rfl (d_fld (o' := 2) Tryz.underlying26 rfl sz24 rfl rfl rfl) <| wL (.agg ⟨[.bool a.f_d.f_neg, v1_a]⟩) ty24 rfl rfl (.there .here) rfl rfl <| w_a0 rfl (o_store (v := .agg ⟨[.bool a.f_d.f_neg, v1_a]⟩) sz24 rfl rfl rfl rfl (oc rfl (oc (h1_a.one) oz)) .here u2) ?_
  rintro _ _ _ ⟨rfl, rfl, rfl⟩
  refine w_done ?_
  obtain rfl := sj he
  refine w_return fn_78 rs_78 (.box (v := .agg ⟨[.bool a.f_d.f_neg, v1_a]⟩) rfl ty24 rfl rfl .here rfl .nil) <| ⟨⟨[_, _], rfl⟩, hle, ⟨v1_a, rfl, h1_a⟩⟩
noncomputable def wide_Int_Mul.C : Code := (Tryz.f128.body).getD .skip
def wide_Int_Mul.out (r : wide_Int × (Option Int)) (H : Hp) (v : Value) : Prop := ∃ v0, v = .tuple ⟨[.agg ⟨[.bool r.1.f_neg, v0]⟩, errV 104 r.2]⟩ ∧ Ro kU32 H v0 r.1.f_w
theorem wide_Int_Mul.out_mono (r : wide_Int × (Option Int)) {H H' : Hp} {v : Value} (hle : H.le H') (h : wide_Int_Mul.out r H v) : wide_Int_Mul.out r H' v := by
 obtain ⟨v0, rfl, h0⟩ := h; exact ⟨v0, rfl, h0.mono hle⟩
noncomputable def wide_Int_Mul.f (k : Nat) (a : wide_Int) (b : wide_Int) : Option (wide_Int × (Option Int)) := (wide_times.f k a.f_w b.f_w).bind fun y4 => (wide_made.f k (!(a.f_neg == b.f_neg)) y4).bind fun y10 => some (y10.1, y10.2)
theorem wide_Int_Mul.mono : ∀ k y0 y1, LeO (wide_Int_Mul.f k y0 y1) (wide_Int_Mul.f (k + 1) y0 y1) := fun k _ _ => by unfold wide_Int_Mul.f; exact (LeO.bind (wide_times.mono k _ _) fun _ => LeO.bind (wide_made.mono k _ _) fun _ => LeO.refl _)
theorem wide_Int_Mul.calls (k : Nat) {H : Hp} {L : Items} {a : wide_Int} {b : wide_Int} {v0_a : Value} {v1_b : Value} {r : wide_Int × (Option Int)} (he : wide_Int_Mul.f k a b = some r) (h0_a : Ro kU32 H v0_a a.f_w) (h1_b : Ro kU32 H v1_b b.f_w) : Ct Tryz.prog 128 ⟨[.agg ⟨[.bool a.f_neg, v0_a]⟩, .agg ⟨[.bool b.f_neg, v1_b]⟩]⟩ H L (cR H L (wide_Int_Mul.out r)) := by
 refine ct_out (O := wide_Int_Mul.out r) ?_
 have hle : H.le H := .refl _
 unfold wide_Int_Mul.f at he
 refine ct_enter (args := [.agg ⟨[.bool a.f_neg, v0_a]⟩, .agg ⟨[.bool b.f_neg, v1_b]⟩]) fn_128 rfl nt_128 rfl <| wR rfl <| w_a rfl (o_box (v := .agg ⟨[.bool a.f_neg, v0_a]⟩) rfl rfl) ?_
 rintro _ _ _ ⟨b1, rfl, rfl, rfl⟩
 refine w_a rfl (o_box (v := .agg ⟨[.bool b.f_neg, v1_b]⟩) rfl rfl) ?_
 rintro _ _ _ ⟨b2, rfl, rfl, rfl⟩
 refine w_a rfl (o_alloc zr24 rfl) ?_
 rintro _ _ _ ⟨b3, rfl, rfl, rfl⟩
 refine wA (errV 104 none) rfl rfl <| wE ?_
 obtain ⟨y4, hy5, he⟩ := bs he
 obtain ⟨y10, hy11, he⟩ := bs he
 refine w_drawn (p := 13) (tl := [13, 14]) [[], [(0, some 6)], [], [(2, some 8)], [(1, some 7), (3, some 9)], [], [(5, some 11)], [], [(7, some 13)], [(6, some 12), (8, some 14)], [(4, some 10), (9, some 15)], [(10, some 16)], [(10, some 16)]] [some 6, some 7, some 8, some 9, some 10, some 11, some 12, some 13, some 14, some 15, some 16, some 17, some 18] (fctF (.is (.pointer (some ⟨b1, 0, none⟩)) :: .is (.bool a.f_neg) :: .is (.pointer (some ⟨b2, 0, none⟩)) :: .is (.bool b.f_neg) :: .is (.bool (!(a.f_neg == b.f_neg))) :: .is (.pointer (some ⟨b1, 1, none⟩)) :: .is (v0_a) :: .is (.pointer (some ⟨b2, 1, none⟩)) :: .is (v1_b) :: .ro kU32 (y4) :: .of (wide_made.out y10) (wide_made.out_mono _) :: .of (fun H v => ∃ v16, v = .agg ⟨[.bool y10.1.f_neg, v16]⟩ ∧ Ro kU32 H v16 y10.1.f_w) (by rintro _ _ _ hle ⟨v16, rfl, h17⟩; exact ⟨v16, rfl, h17.mono hle⟩) :: .is (errV 104 y10.2) :: [])) (fun m_ => some (b3, .cells ⟨[.bool false, .slice none 0 0]⟩ 24 (0, 0)) :: some (b2, .cells ⟨[.bool b.f_neg, v1_b]⟩ 24 (0, 0)) :: some (b1, .cells ⟨[.bool a.f_neg, v0_a]⟩ 24 (0, 0)) :: L) (fun _ => none) mixed (by kernel_rfl) (by kernel_rfl) rfl (fct_mono (by kernel_rfl)) ⟨(fun H' m_ hH hm_ hu_ => dn <| s_d (m_ 0) rfl (d_fld (o' := 0) Tryz.underlying24 rfl sz4 rfl rfl rfl) (by exact rfl) rfl), (by rintro H' m_ hH hm_ hu_ _ rfl; exact dn <| s_d (m_ 1) rfl (d_loado (v := .bool a.f_neg) ty4 rfl (.there (.there .here)) rfl rfl rfl rfl) (by exact rfl) rfl), (fun H' m_ hH hm_ hu_ => dn <| s_d (m_ 2) rfl (d_fld (o' := 0) Tryz.underlying24 rfl sz4 rfl rfl rfl) (by exact rfl) rfl), (by rintro H' m_ hH hm_ hu_ _ rfl; exact dn <| s_d (m_ 3) rfl (d_loado (v := .bool b.f_neg) ty4 rfl (.there .here) rfl rfl rfl rfl) (by exact rfl) rfl), (by rintro H' m_ hH hm_ hu_ _ rfl _ rfl; exact dn <| s_d (m_ 4) rfl (d_neb (a := a.f_neg) (b := b.f_neg) Tryz.underlying4 rfl rfl) (by exact rfl) rfl), (fun H' m_ hH hm_ hu_ => dn <| s_d (m_ 5) rfl (d_fld (o' := 1) Tryz.underlying24 rfl sz22 rfl rfl rfl) (by exact rfl) rfl), (by rintro H' m_ hH hm_ hu_ _ rfl; exact dn <| s_d (m_ 6) rfl (d_loado (v := v0_a) ty22 rfl (.there (.there .here)) rfl rfl rfl rfl) (by exact rfl) rfl), (fun H' m_ hH hm_ hu_ => dn <| s_d (m_ 7) rfl (d_fld (o' := 1) Tryz.underlying24 rfl sz22 rfl rfl rfl) (by exact rfl) rfl), (by rintro H' m_ hH hm_ hu_ _ rfl; exact dn <| s_d (m_ 8) rfl (d_loado (v := v1_b) ty22 rfl (.there .here) rfl rfl rfl rfl) (by exact rfl) rfl), (by rintro H' m_ hH hm_ hu_ _ rfl _ rfl; exact dn <| s_k (m_ 9) rfl (o_call co145 (vs := [v0_a, v1_b]) rfl (wide_times.calls k hy5 ((h0_a.mono hH).src) ((h1_b.mono hH).src))) rfl (by rintro v_ H_ _ ⟨rfl, e_, h_⟩; exact ⟨rfl, e_, h_⟩)), (by rintro H' m_ hH hm_ hu_ _ rfl v8 (h9 : Ro kU32 H' v8 y4); exact dn <| s_k (m_ 10) rfl (o_call co115 (vs := [.bool (!(a.f_neg == b.f_neg)), v8]) rfl (wide_made.calls k hy11 h9)) rfl (by rintro v_ H_ _ ⟨rfl, e_, h_⟩; exact ⟨rfl, e_, h_⟩)), (by rintro H' m_ hH hm_ hu_ _ ⟨v14, rfl, h15⟩; exact dn <| s_d (m_ 11) rfl (d_ext (vs := [.agg ⟨[.bool y10.1.f_neg, v14]⟩, errV 104 y10.2]) rfl rfl) (by exact ⟨v14, rfl, h15⟩) rfl), (by rintro H' m_ hH hm_ hu_ _ ⟨v14, rfl, h15⟩; exact dn <| s_d (m_ 12) rfl (d_ext (vs := [.agg ⟨[.bool y10.1.f_neg, v14]⟩, errV 104 y10.2]) rfl rfl) (by exact rfl) rfl), trivial⟩ ?_
 intro H18 e19
 rintro _ _ rfl _ _ rfl _ _ rfl _ _ rfl _ _ rfl _ _ rfl _ _ rfl _ _ rfl _ _ rfl v8 _ (h9 : Ro kU32 H18 v8 y4) _ _ ⟨v14, rfl, h15⟩ _ _ ⟨v16, rfl, h17⟩ _ _ rfl
 refine w_a0 rfl (o_store (v := .agg ⟨[.bool y10.1.f_neg, v16]⟩) sz24 rfl rfl rfl rfl (oc rfl (oc (h17.one) oz)) .here u2) ?_
 rintro _ _ _ ⟨rfl, rfl, rfl⟩
 refine wA (errV 104 y10.2) rfl rfl <| w_done ?_
 obtain rfl := sj he
 refine w_return fn_128 rs_128 (.box (v := .agg ⟨[.bool y10.1.f_neg, v16]⟩) rfl ty24 rfl rfl .here rfl (.tmp (v := errV 104 y10.2) rfl .nil)) <| ⟨⟨[_, _, _], rfl⟩, hle.trans e19, ⟨v16, rfl, h17⟩⟩
end Go.Proofs.YtkccpkccdbfomaaGreatDoor.GSH

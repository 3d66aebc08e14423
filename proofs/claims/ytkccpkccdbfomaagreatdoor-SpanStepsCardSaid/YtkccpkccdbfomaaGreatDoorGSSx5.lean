/- printed by gen.py -/
import Derived.Test.YtkccpkccdbfomaaGreatDoorGSSx4
namespace Go.Proofs.YtkccpkccdbfomaaGreatDoor.GSS
open Go Go.RowKit Go.Proofs.YtkccpkccdbfomaaGreatDoorK Go.Proofs.YtkccpkccdbfomaaGreatDoor
set_option maxRecDepth 100000
set_option maxHeartbeats 2000000
set_option linter.unusedVariables false
set_option linter.unusedSimpArgs false
noncomputable def Q6.C : Code := (Tryz.f76.body).getD .skip
def Q6.out (r : QG × (Option Int)) (H : Hp) (v : Value) : Prop := ∃ v0 v1, v = .tuple ⟨[(Qa r.1 v0 v1), errV 104 r.2]⟩ ∧ Ro kU32 H v0 r.1.f_n.f_w ∧ Ro kU32 H v1 r.1.f_d.f_w
abbrev Q6.R (H0 : Hp) (L : Items) (r : QG × (Option Int)) := fR H0 L (Q6.out r)
noncomputable def Q6.j1 (k : Nat) (a_0 : Bool) (a_1 : List Int) (a_2 : Bool) (a_3 : List Int) (b_0 : Bool) (b_1 : List Int) (b_2 : Bool) (b_3 : List Int) (x_0 : Bool) (x_1 : List Int) (y_0 : Bool) (y_1 : List Int) : Option (QG × (Option Int)) := (Xl.f k ⟨x_0, x_1⟩ ⟨y_0, y_1⟩).bind fun y22 => if y22.2.isSome = true then (some (⟨⟨false, []⟩, ⟨false, []⟩⟩, y22.2)) else ((QD.f k ⟨⟨a_0, a_1⟩, ⟨a_2, a_3⟩⟩).bind fun y30 => (QD.f k ⟨⟨b_0, b_1⟩, ⟨b_2, b_3⟩⟩).bind fun y36 => (XD.f k y30 y36).bind fun y42 => if y42.2.isSome = true then (some (⟨⟨false, []⟩, ⟨false, []⟩⟩, y42.2)) else ((XH.f k y22.1 y42.1).bind fun y60 => some (y60.1, y60.2)))
noncomputable def Q6.f (k : Nat) (a b : QG) (less : Bool) : Option (QG × (Option Int)) := (X0.f k a b).bind fun y4 => if y4.2.2.isSome = true then (some (⟨⟨false, []⟩, ⟨false, []⟩⟩, y4.2.2)) else (if less = true then ((XC.f k y4.2.1).bind fun y16 => Q6.j1 k a.f_n.f_neg a.f_n.f_w a.f_d.f_neg a.f_d.f_w b.f_n.f_neg b.f_n.f_w b.f_d.f_neg b.f_d.f_w y4.1.f_neg y4.1.f_w y16.f_neg y16.f_w) else (Q6.j1 k a.f_n.f_neg a.f_n.f_w a.f_d.f_neg a.f_d.f_w b.f_n.f_neg b.f_n.f_w b.f_d.f_neg b.f_d.f_w y4.1.f_neg y4.1.f_w y4.2.1.f_neg y4.2.1.f_w))
theorem Q6.j1_mono {k : Nat} : ∀ y0 y1 y2 y3 y4 y5 y6 y7 y8 y9 y10 y11, LeO (Q6.j1 k y0 y1 y2 y3 y4 y5 y6 y7 y8 y9 y10 y11) (Q6.j1 (k + 1) y0 y1 y2 y3 y4 y5 y6 y7 y8 y9 y10 y11) := fun _ _ _ _ _ _ _ _ _ _ _ _ => (LeO.bind (Xl.mono k _ _) fun _ => LeO.ite (LeO.refl _) (LeO.bind (QD.mono k _) fun _ => LeO.bind (QD.mono k _) fun _ => LeO.bind (XD.mono k _ _) fun _ => LeO.ite (LeO.refl _) (LeO.bind (XH.mono k _ _) fun _ => LeO.refl _)))
theorem Q6.mono : ∀ k y0 y1 y2, LeO (Q6.f k y0 y1 y2) (Q6.f (k + 1) y0 y1 y2) := fun k _ _ _ => by unfold Q6.f; exact (LeO.bind (X0.mono k _ _) fun _ => LeO.ite (LeO.refl _) (LeO.ite (LeO.bind (XC.mono k _) fun _ => Q6.j1_mono (k := k)  _ _ _ _ _ _ _ _ _ _ _ _) (Q6.j1_mono (k := k)  _ _ _ _ _ _ _ _ _ _ _ _)))
noncomputable def Q6.Kj1 : List Item := .code (seqR (seqR (seqR (seqR Q6.C)))) :: []
theorem Q6.j1_ok {k : Nat} {H0 H : Hp} {L : Items} {r : QG × (Option Int)} {jk_ : Nat → Value} {a_0 : Bool} {a_1 : List Int} {a_2 : Bool} {a_3 : List Int} {b_0 : Bool} {b_1 : List Int} {b_2 : Bool} {b_3 : List Int} {x_0 : Bool} {x_1 : List Int} {y_0 : Bool} {y_1 : List Int} {v_a_1 v_a_3 v_b_1 v_b_3 v_x_1 v_y_1 : Value} {b_a b_b b_t6 b_x b_y : Nat} (hle : H0.le H) (he : Q6.j1 k a_0 a_1 a_2 a_3 b_0 b_1 b_2 b_3 x_0 x_1 y_0 y_1 = some r) (h_a_1 : Ro kU32 H v_a_1 a_1) (h_a_3 : Ro kU32 H v_a_3 a_3) (h_b_1 : Ro kU32 H v_b_1 b_1) (h_b_3 : Ro kU32 H v_b_3 b_3) (h_x_1 : Ro kU32 H v_x_1 x_1) (h_y_1 : Ro kU32 H v_y_1 y_1) : Wp Tryz.prog 76 54 Q6.Kj1 (upd (upd (upd (upd (upd (upd jk_ 3 (pt b_a)) 4 (pt b_b)) 6 (pt b_t6)) 7 (errV 104 none)) 8 (pt b_x)) 9 (pt b_y)) H (bx b_y [.bool y_0, v_y_1] 24 :: bx b_x [.bool x_0, v_x_1] 24 :: bx b_t6 z0c 26 :: bx b_b [.bool b_0, v_b_1, .bool b_2, v_b_3] 26 :: bx b_a [.bool a_0, v_a_1, .bool a_2, v_a_3] 26 :: L) (Q6.R H0 L r) := by
 unfold Q6.j1 at he
 unfold Q6.Kj1
 refine wR rfl <| wL (.agg ⟨[.bool x_0, v_x_1]⟩) ty24 rfl rfl .h1 rfl rfl <| wL (.agg ⟨[.bool y_0, v_y_1]⟩) ty24 rfl rfl .here rfl rfl <| bK he fun y22 hy23 he => w_a rfl (Qj co127 (vs := [.agg ⟨[.bool x_0, v_x_1]⟩, .agg ⟨[.bool y_0, v_y_1]⟩]) rfl (Xl.calls k (a := ⟨x_0, x_1⟩) (b := ⟨y_0, y_1⟩) hy23 h_x_1 h_y_1)) ?_
 rintro _ H24 _ ⟨rfl, e25, v26, rfl, h27⟩
 refine wM (.tuple ⟨[(Qd y22.1 v26), errV 104 y22.2]⟩) rfl rfl <| w_d rfl (QS rfl rfl) <| w_d rfl (QS rfl rfl) <| wN zr24 rfl rfl fun b28 => wS (Qd y22.1 v26) sz24 rfl rfl rfl rfl rfl (XF h27) .here u2 <| wA (errV 104 y22.2) rfl rfl <| wE <| wR rfl <| wM (errV 104 y22.2) rfl rfl <| w_d rfl (X1 (e := y22.2) Tryz.underlying30 rfl) ?_
 refine Qc ?_
 rcases its he with ⟨c29, he⟩ | ⟨c29, he⟩
 ·
  refine QB rfl c29 <| wR rfl <| w_d rfl (Xx (cs' := z0c) Tryz.underlying26 zr26 rfl (by kernel_rfl) (parts := []) rfl .nil) <| wM (errV 104 y22.2) rfl rfl <| wS (.agg ⟨z0c⟩) sz26 rfl rfl rfl rfl rfl (oc rfl (oc rfl (oc rfl (oc rfl oz)))) .h3 u4 <| wA (errV 104 y22.2) rfl rfl <| Qc ?_
  obtain rfl := sj he
  refine Qn fn_76 rs_76 (.box (v := .agg ⟨z0c⟩) rfl ty26 rfl rfl .h3 rfl (.tmp (v := errV 104 y22.2) rfl .nil)) <| ⟨⟨[_, _, _, _, _, _], rfl⟩, hle.trans e25, ⟨.slice none 0 0, .slice none 0 0, rfl, (Q2 _ _), (Q2 _ _)⟩⟩
 ·
  refine QI rfl (Bool.eq_false_iff.2 c29) <| QF <| QX <| bK he fun y30 hy31 he => bK he fun y36 hy37 he => bK he fun y42 hy43 he => ?_
  refine YF (?_)
  refine Xv (p := 10) (tl := [10]) [[], [(0, some 38)], [], [(2, some 40)], [(1, some 39), (3, some 41)], [(4, some 42)], [(5, some 37)], [(5, some 37)], [], [(6, some 43), (8, some 12)]] [some 38, some 39, some 40, some 41, some 42, some 37, some 43, some 44, some 12, none] (fctF (.is (.agg ⟨[.bool a_0, v_a_1, .bool a_2, v_a_3]⟩) :: .of (QD.out y30) (QD.out_mono _) :: .is (.agg ⟨[.bool b_0, v_b_1, .bool b_2, v_b_3]⟩) :: .of (QD.out y36) (QD.out_mono _) :: .of (XD.out y42) (XD.out_mono _) :: .of (fun H v => ∃ v48, v = .tuple ⟨[(Qd y42.1 v48), errV 104 y42.2]⟩ ∧ Ro kU32 H v48 y42.1.f_w) (by rintro _ _ _ hle ⟨v48, rfl, h49⟩; exact ⟨v48, rfl, h49.mono hle⟩) :: .of (fun H v => ∃ v50, v = (Qd y42.1 v50) ∧ Ro kU32 H v50 y42.1.f_w) (by rintro _ _ _ hle ⟨v50, rfl, h51⟩; exact ⟨v50, rfl, h51.mono hle⟩) :: .is (errV 104 y42.2) :: .box 24 [.bool false, .slice none 0 0] :: .st 8 (fun H bq_ itq_ => ∃ v53, itq_ = bx bq_ (QW y42.1 v53) 24 ∧ Ro kU32 H v53 y42.1.f_w) (by rintro _ _ _ _ hle ⟨v53, rfl, h54⟩; exact ⟨v53, rfl, h54.mono hle⟩) :: [])) (fun m_ => pk (m_ 9) (m_ 8) :: bx b28 (QW y22.1 v26) 24 :: bx b_y [.bool y_0, v_y_1] 24 :: bx b_x [.bool x_0, v_x_1] 24 :: bx b_t6 z0c 26 :: bx b_b [.bool b_0, v_b_1, .bool b_2, v_b_3] 26 :: bx b_a [.bool a_0, v_a_1, .bool a_2, v_a_3] 26 :: L) (fun _ => none) mixed (by kernel_rfl) (by kernel_rfl) rfl (Xn (by kernel_rfl)) ⟨(fun H' m_ hH hm_ hu_ => dn <| s_d (m_ 0) rfl (Qq (v := .agg ⟨[.bool a_0, v_a_1, .bool a_2, v_a_3]⟩) ty26 rfl .h6 rfl rfl rfl rfl) (by exact rfl) rfl), (by rintro H' m_ hH hm_ hu_ _ rfl; exact dn <| s_k (m_ 1) rfl (Qj co78 (vs := [.agg ⟨[.bool a_0, v_a_1, .bool a_2, v_a_3]⟩]) rfl (QD.calls k (a := ⟨⟨a_0, a_1⟩, ⟨a_2, a_3⟩⟩) hy31 (h_a_1.mono (e25.trans hH)) (h_a_3.mono (e25.trans hH)))) rfl (by rintro v_ H_ _ ⟨rfl, e_, h_⟩; exact ⟨rfl, e_, h_⟩)), (fun H' m_ hH hm_ hu_ => dn <| s_d (m_ 2) rfl (Qq (v := .agg ⟨[.bool b_0, v_b_1, .bool b_2, v_b_3]⟩) ty26 rfl .h5 rfl rfl rfl rfl) (by exact rfl) rfl), (by rintro H' m_ hH hm_ hu_ _ rfl; exact dn <| s_k (m_ 3) rfl (Qj co78 (vs := [.agg ⟨[.bool b_0, v_b_1, .bool b_2, v_b_3]⟩]) rfl (QD.calls k (a := ⟨⟨b_0, b_1⟩, ⟨b_2, b_3⟩⟩) hy37 (h_b_1.mono (e25.trans hH)) (h_b_3.mono (e25.trans hH)))) rfl (by rintro v_ H_ _ ⟨rfl, e_, h_⟩; exact ⟨rfl, e_, h_⟩)), (by rintro H' m_ hH hm_ hu_ _ ⟨v34, rfl, h35⟩ _ ⟨v40, rfl, h41⟩; exact dn <| s_k (m_ 4) rfl (Qj co128 (vs := [(Qd y30 v34), (Qd y36 v40)]) rfl (XD.calls k (a := y30) (b := y36) hy43 h35 h41)) rfl (by rintro v_ H_ _ ⟨rfl, e_, h_⟩; exact ⟨rfl, e_, h_⟩)), (by rintro H' m_ hH hm_ hu_ _ ⟨v46, rfl, h47⟩; exact dn <| s_d (m_ 5) rfl (QR (v := .tuple ⟨[(Qd y42.1 v46), errV 104 y42.2]⟩) rfl) (by exact ⟨v46, rfl, h47⟩) rfl), (by rintro H' m_ hH hm_ hu_ _ ⟨v48, rfl, h49⟩; exact dn <| s_d (m_ 6) rfl (QS rfl rfl) (by exact ⟨v48, rfl, h49⟩) rfl), (by rintro H' m_ hH hm_ hu_ _ ⟨v48, rfl, h49⟩; exact dn <| s_d (m_ 7) rfl (QS rfl rfl) (by exact rfl) rfl), (fun H' m_ hH hm_ hu_ => dn <| Ze hm_ rfl rfl (YJ zr24 rfl) rfl (fun _ => (JH (hu_ 9 (by kernel_rfl)))) (by exact fun b_ => ⟨b_, rfl, rfl⟩)), (by rintro H' m_ hH hm_ hu_ _ ⟨v50, rfl, h51⟩ _ ⟨b52, rfl, hb52_⟩; exact dn <| Z6 (Λ' := fun z_ => z_ :: bx b28 (QW y22.1 v26) 24 :: bx b_y [.bool y_0, v_y_1] 24 :: bx b_x [.bool x_0, v_x_1] 24 :: bx b_t6 z0c 26 :: bx b_b [.bool b_0, v_b_1, .bool b_2, v_b_3] 26 :: bx b_a [.bool a_0, v_a_1, .bool a_2, v_a_3] 26 :: L) (bx b52 (QW y42.1 v50) 24) hm_ rfl hb52_ rfl (YW (v := (Qd y42.1 v50)) sz24 rfl rfl rfl rfl (oc rfl (oc (h51.one) oz)) .here u2) rfl rfl (by exact ⟨rfl, v50, congrArg (fun b_ => (some (b_, Obj.cells ⟨(QW y42.1 v50)⟩ 24 (0, 0)) : Item')) (JF hb52_).symm, h51⟩)), trivial⟩ ?_
  intro H57 e58
  rintro _ _ rfl _ _ ⟨v34, rfl, h35⟩ _ _ rfl _ _ ⟨v40, rfl, h41⟩ _ _ ⟨v46, rfl, h47⟩ _ _ ⟨v48, rfl, h49⟩ _ _ ⟨v50, rfl, h51⟩ _ _ rfl _ _ ⟨b52, rfl, rfl⟩ _ i55 ⟨rfl, v53, h56, h54⟩
  replace h56 : i55 = bx b52 (QW y42.1 v53) 24 := h56
  subst h56
  refine w_it (L' := bx b52 (QW y42.1 v53) 24 :: bx b28 (QW y22.1 v26) 24 :: bx b_y [.bool y_0, v_y_1] 24 :: bx b_x [.bool x_0, v_x_1] 24 :: bx b_t6 z0c 26 :: bx b_b [.bool b_0, v_b_1, .bool b_2, v_b_3] 26 :: bx b_a [.bool a_0, v_a_1, .bool a_2, v_a_3] 26 :: L) rfl <| wA (errV 104 y42.2) rfl rfl <| wE <| wR rfl <| wM (errV 104 y42.2) rfl rfl <| w_d rfl (X1 (e := y42.2) Tryz.underlying30 rfl) <| Qc ?_
  rcases its he with ⟨c59, he⟩ | ⟨c59, he⟩
  ·
   refine QB rfl c59 <| wR rfl <| w_d rfl (Xx (cs' := z0c) Tryz.underlying26 zr26 rfl (by kernel_rfl) (parts := []) rfl .nil) <| wM (errV 104 y42.2) rfl rfl <| wS (.agg ⟨z0c⟩) sz26 rfl rfl rfl rfl rfl (oc rfl (oc rfl (oc rfl (oc rfl oz)))) .h4 u4 <| wA (errV 104 y42.2) rfl rfl <| Qc ?_
   obtain rfl := sj he
   refine Qn fn_76 rs_76 (.box (v := .agg ⟨z0c⟩) rfl ty26 rfl rfl .h4 rfl (.tmp (v := errV 104 y42.2) rfl .nil)) <| ⟨⟨[_, _, _, _, _, _, _], rfl⟩, hle.trans (e25.trans e58), ⟨.slice none 0 0, .slice none 0 0, rfl, (Q2 _ _), (Q2 _ _)⟩⟩
  ·
   refine QI rfl (Bool.eq_false_iff.2 c59) <| QF <| wR rfl <| wL (Qd y22.1 v26) ty24 rfl rfl .h1 rfl rfl <| wL (Qd y42.1 v53) ty24 rfl rfl .here rfl rfl <| bK he fun y60 hy61 he => w_a rfl (Qj co73 (vs := [(Qd y22.1 v26), (Qd y42.1 v53)]) rfl (XH.calls k (n := y22.1) (d := y42.1) hy61 (h27.mono e58) h54)) ?_
   rintro _ H62 _ ⟨rfl, e63, v64, v66, rfl, h65, h67⟩
   refine w_d rfl (QS rfl rfl) <| w_d rfl (QS rfl rfl) <| wS (Qa y60.1 v64 v66) sz26 rfl rfl rfl rfl rfl (Xw h65 h67) .h4 u4 <| wA (errV 104 y60.2) rfl rfl <| Qc ?_
   obtain rfl := sj he
   refine Qn fn_76 rs_76 (.box (v := (Qa y60.1 v64 v66)) rfl ty26 rfl rfl .h4 rfl (.tmp (v := errV 104 y60.2) rfl .nil)) <| ⟨⟨[_, _, _, _, _, _, _], rfl⟩, hle.trans ((e25.trans e58).trans e63), ⟨v64, v66, rfl, h65, h67⟩⟩
theorem Q6.calls (k : Nat) {H : Hp} {L : Items} {a b : QG} {less : Bool} {v0_a v1_a v2_b v3_b : Value} {r : QG × (Option Int)} (he : Q6.f k a b less = some r) (h0_a : Ro kU32 H v0_a a.f_n.f_w) (h1_a : Ro kU32 H v1_a a.f_d.f_w) (h2_b : Ro kU32 H v2_b b.f_n.f_w) (h3_b : Ro kU32 H v3_b b.f_d.f_w) : Ct Tryz.prog 76 ⟨[(Qa a v0_a v1_a), (Qa b v2_b v3_b), .bool less]⟩ H L (cR H L (Q6.out r)) := by
 refine XS (O := Q6.out r) ?_
 have hle : H.le H := .refl _
 unfold Q6.f at he
 refine QZ (args := [(Qa a v0_a v1_a), (Qa b v2_b v3_b), .bool less]) fn_76 rfl nt_76 rfl <| wR rfl <| wB (Qa a v0_a v1_a) rfl rfl rfl <| fun b1 => wB (Qa b v2_b v3_b) rfl rfl rfl <| fun b2 => wN zr26 rfl rfl fun b3 => wA (errV 104 none) rfl rfl <| wQ rfl <| wL (Qa a v0_a v1_a) ty26 rfl rfl .h2 rfl rfl <| wL (Qa b v2_b v3_b) ty26 rfl rfl .h1 rfl rfl ?_
 refine bK he fun y4 hy5 he => w_a rfl (Qj co106 (vs := [(Qa a v0_a v1_a), (Qa b v2_b v3_b)]) rfl (X0.calls k (a := a) (b := b) hy5 h0_a h1_a h2_b h3_b)) ?_
 rintro _ H6 _ ⟨rfl, e7, v8, v10, rfl, h9, h11⟩
 refine wM (.tuple ⟨[(Qd y4.1 v8), (Qd y4.2.1 v10), errV 104 y4.2.2]⟩) rfl rfl <| w_d rfl (QS rfl rfl) <| w_d rfl (QS rfl rfl) <| w_d rfl (QS rfl rfl) <| wN zr24 rfl rfl fun b12 => wN zr24 rfl rfl fun b13 => wS (Qd y4.1 v8) sz24 rfl rfl rfl rfl rfl (XF h9) .h1 u2 <| wS (Qd y4.2.1 v10) sz24 rfl rfl rfl rfl rfl (XF h11) .here u2 <| wA (errV 104 y4.2.2) rfl rfl <| wE <| QX ?_
 refine QH rfl <| wM (errV 104 y4.2.2) rfl rfl <| w_d rfl (X1 (e := y4.2.2) Tryz.underlying30 rfl) <| Qc ?_
 rcases its he with ⟨c14, he⟩ | ⟨c14, he⟩
 ·
  refine QB rfl c14 <| wR rfl <| w_d rfl (Xx (cs' := z0c) Tryz.underlying26 zr26 rfl (by kernel_rfl) (parts := []) rfl .nil) <| wM (errV 104 y4.2.2) rfl rfl <| wS (.agg ⟨z0c⟩) sz26 rfl rfl rfl rfl rfl (oc rfl (oc rfl (oc rfl (oc rfl oz)))) .h2 u4 <| wA (errV 104 y4.2.2) rfl rfl <| Qc ?_
  obtain rfl := sj he
  refine Qn fn_76 rs_76 (.box (v := .agg ⟨z0c⟩) rfl ty26 rfl rfl .h2 rfl (.tmp (v := errV 104 y4.2.2) rfl .nil)) <| ⟨⟨[_, _, _, _, _], rfl⟩, hle.trans e7, ⟨.slice none 0 0, .slice none 0 0, rfl, (Q2 _ _), (Q2 _ _)⟩⟩
 ·
  refine QI rfl (Bool.eq_false_iff.2 c14) <| QF <| QX <| wR rfl <| wM (.bool less) rfl rfl <| Qc ?_
  rcases its he with ⟨c15, he⟩ | ⟨c15, he⟩
  ·
   refine QB rfl c15 <| QH rfl <| wL (Qd y4.2.1 v10) ty24 rfl rfl .here rfl rfl <| bK he fun y16 hy17 he => w_a rfl (Qj co121 (vs := [(Qd y4.2.1 v10)]) rfl (XC.calls k (a := y4.2.1) hy17 h11)) ?_
   rintro _ H18 _ ⟨rfl, e19, v20, rfl, h21⟩
   refine wS (Qd y16 v20) sz24 rfl rfl rfl rfl rfl (XF h21) .here u2 <| Qc <| w_sl 3 (pt b1) rfl <| w_sl 4 (pt b2) rfl <| w_sl 6 (pt b3) rfl <| w_sl 7 (errV 104 none) rfl <| w_sl 8 (pt b12) rfl <| w_sl 9 (pt b13) rfl <| Q6.j1_ok (k := k) (hle.trans (e7.trans e19)) he (h0_a.mono (e7.trans e19)) (h1_a.mono (e7.trans e19)) (h2_b.mono (e7.trans e19)) (h3_b.mono (e7.trans e19)) (h9.mono e19) h21
  ·
   refine QI rfl (Bool.eq_false_iff.2 c15) <| QF <| w_sl 3 (pt b1) rfl <| w_sl 4 (pt b2) rfl <| w_sl 6 (pt b3) rfl <| w_sl 7 (errV 104 none) rfl <| w_sl 8 (pt b12) rfl <| w_sl 9 (pt b13) rfl <| Q6.j1_ok (k := k) (hle.trans e7) he (h0_a.mono e7) (h1_a.mono e7) (h2_b.mono e7) (h3_b.mono e7) h9 h11
noncomputable def XY.C : Code := (Tryz.f23.body).getD .skip
def XY.out (r : QG × (Option Int)) (H : Hp) (v : Value) : Prop := ∃ v0 v1, v = .tuple ⟨[(Qa r.1 v0 v1), errV 104 r.2]⟩ ∧ Ro kU32 H v0 r.1.f_n.f_w ∧ Ro kU32 H v1 r.1.f_d.f_w
noncomputable def XY.f (k : Nat) (a b : QG) : Option (QG × (Option Int)) := (Q6.f k a b false).bind fun y4 => some (y4.1, y4.2)
theorem XY.mono : ∀ k y0 y1, LeO (XY.f k y0 y1) (XY.f (k + 1) y0 y1) := fun k _ _ => by unfold XY.f; exact (LeO.bind (Q6.mono k _ _ _) fun _ => LeO.refl _)
theorem XY.calls (k : Nat) {H : Hp} {L : Items} {a b : QG} {v0_a v1_a v2_b v3_b : Value} {r : QG × (Option Int)} (he : XY.f k a b = some r) (h0_a : Ro kU32 H v0_a a.f_n.f_w) (h1_a : Ro kU32 H v1_a a.f_d.f_w) (h2_b : Ro kU32 H v2_b b.f_n.f_w) (h3_b : Ro kU32 H v3_b b.f_d.f_w) : Ct Tryz.prog 23 ⟨[(Qa a v0_a v1_a), (Qa b v2_b v3_b)]⟩ H L (cR H L (XY.out r)) := by
 refine XS (O := XY.out r) ?_
 have hle : H.le H := .refl _
 unfold XY.f at he
 refine QZ (args := [(Qa a v0_a v1_a), (Qa b v2_b v3_b)]) fn_23 rfl nt_23 rfl <| wR rfl <| wB (Qa a v0_a v1_a) rfl rfl rfl <| fun b1 => wB (Qa b v2_b v3_b) rfl rfl rfl <| fun b2 => wN zr26 rfl rfl fun b3 => wA (errV 104 none) rfl rfl <| wQ rfl <| wL (Qa a v0_a v1_a) ty26 rfl rfl .h2 rfl rfl <| wL (Qa b v2_b v3_b) ty26 rfl rfl .h1 rfl rfl ?_
 refine bK he fun y4 hy5 he => w_a rfl (Qj co76 (vs := [(Qa a v0_a v1_a), (Qa b v2_b v3_b), .bool false]) rfl (Q6.calls k (a := a) (b := b) hy5 h0_a h1_a h2_b h3_b)) ?_
 rintro _ H6 _ ⟨rfl, e7, v8, v10, rfl, h9, h11⟩
 refine w_d rfl (QS rfl rfl) <| w_d rfl (QS rfl rfl) <| wS (Qa y4.1 v8 v10) sz26 rfl rfl rfl rfl rfl (Xw h9 h11) .here u4 <| wA (errV 104 y4.2) rfl rfl <| Qc ?_
 obtain rfl := sj he
 refine Qn fn_23 rs_23 (.box (v := (Qa y4.1 v8 v10)) rfl ty26 rfl rfl .here rfl (.tmp (v := errV 104 y4.2) rfl .nil)) <| ⟨⟨[_, _, _], rfl⟩, hle.trans e7, ⟨v8, v10, rfl, h9, h11⟩⟩
noncomputable def QO.C : Code := (Tryz.f129.body).getD .skip
def QO.out (r : (Option Int)) (H : Hp) (v : Value) : Prop := v = errV 104 r
abbrev QO.R (H0 : Hp) (L : Items) (r : (Option Int)) := fR H0 L (QO.out r)
structure QO.Hs where
 l0 : (List (Option Int)) → Int → (List (Option Int)) → Int → Int → Option (Option Int)
 l1 : (List (Option Int)) → (List (Option Int)) → Int → Int → Option (Option Int)
noncomputable def QO.b0 (k : Nat) (h : QO.Hs) (errs : List (Option Int)) (n : Int) (t9 : List (Option Int)) (t10 t11 : Int) : Option (Option Int) := if t11 < t10 then (if (0 : Int) ≤ t11 ∧ t11 < (t9.length : Int) then (if ((rd t9 t11).isSome) = true then (h.l0 errs (w64 (n + 1)) t9 t10 (w64 (t11 + 1))) else (h.l0 errs n t9 t10 (w64 (t11 + 1)))) else none) else (if n = 0 then (some (none)) else (if 0 ≤ 0 ∧ 0 ≤ n ∧ n ≤ 17592186044416 then (h.l1 (List.replicate (0 : Int).toNat none) errs (errs.length : Int) 0) else none))
noncomputable def QO.b1 (k : Nat) (h : QO.Hs) (e__1 t26 : List (Option Int)) (t27 t28 : Int) : Option (Option Int) := if t28 < t27 then (if (0 : Int) ≤ t28 ∧ t28 < (t26.length : Int) then (if ((rd t26 t28).isSome) = true then (if e__1.length + 1 ≤ 8796093022080 then (h.l1 (e__1 ++ [rd t26 t28]) t26 t27 (w64 (t28 + 1))) else none) else (h.l1 e__1 t26 t27 (w64 (t28 + 1)))) else none) else (none)
noncomputable def QO.hs : Nat → QO.Hs
 | 0 => ⟨fun _ _ _ _ _ => none, fun _ _ _ _ => none⟩
 | k + 1 => ⟨fun x0 x1 x2 x3 x4 => QO.b0 k (QO.hs k) x0 x1 x2 x3 x4, fun x0 x1 x2 x3 => QO.b1 k (QO.hs k) x0 x1 x2 x3⟩
noncomputable def QO.f (k : Nat) (errs : List (Option Int)) : Option (Option Int) := (fun h : QO.Hs => h.l0 errs 0 errs (errs.length : Int) 0) (QO.hs k)
structure QO.LE (h h' : QO.Hs) : Prop where
 l0 : ∀ y0 y1 y2 y3 y4, LeO (h.l0 y0 y1 y2 y3 y4) (h'.l0 y0 y1 y2 y3 y4)
 l1 : ∀ y0 y1 y2 y3, LeO (h.l1 y0 y1 y2 y3) (h'.l1 y0 y1 y2 y3)
theorem QO.b0_mono {k : Nat} {h h' : QO.Hs} (hl : QO.LE h h') : ∀ y0 y1 y2 y3 y4, LeO (QO.b0 k h y0 y1 y2 y3 y4) (QO.b0 (k + 1) h' y0 y1 y2 y3 y4) := fun _ _ _ _ _ => (LeO.ite (LeO.ite (LeO.ite (hl.l0 _ _ _ _ _) (hl.l0 _ _ _ _ _)) (LeO.refl _)) (LeO.ite (LeO.refl _) (LeO.ite (hl.l1 _ _ _ _) (LeO.refl _))))
theorem QO.b1_mono {k : Nat} {h h' : QO.Hs} (hl : QO.LE h h') : ∀ y0 y1 y2 y3, LeO (QO.b1 k h y0 y1 y2 y3) (QO.b1 (k + 1) h' y0 y1 y2 y3) := fun _ _ _ _ => (LeO.ite (LeO.ite (LeO.ite (LeO.ite (hl.l1 _ _ _ _) (LeO.refl _)) (hl.l1 _ _ _ _)) (LeO.refl _)) (LeO.refl _))
theorem QO.hs_mono : ∀ k, QO.LE (QO.hs k) (QO.hs (k + 1))
 | 0 => ⟨fun _ _ _ _ _ => LeO.none _, fun _ _ _ _ => LeO.none _⟩
 | k + 1 => ⟨QO.b0_mono (k := k) (QO.hs_mono k), QO.b1_mono (k := k) (QO.hs_mono k)⟩
theorem QO.mono : ∀ k y0, LeO (QO.f k y0) (QO.f (k + 1) y0) := fun k _ => have hl := QO.hs_mono k; by unfold QO.f; exact (hl.l0 _ _ _ _ _)
noncomputable def QO.Kl0 : List Item := .code (lopB (blkB (seqR (seqL (seqR (seqR QO.C)))))) :: .inLoop (lopB (blkB (seqR (seqL (seqR (seqR QO.C)))))) :: .inBlock 0 :: .code (seqR (seqR (seqR QO.C))) :: []
noncomputable def QO.Kl1 : List Item := .code (lopB (blkB (seqR (seqL (seqR (seqR (seqR (seqR (seqR QO.C))))))))) :: .inLoop (lopB (blkB (seqR (seqL (seqR (seqR (seqR (seqR (seqR QO.C))))))))) :: .inBlock 2 :: .code (seqR (seqR (seqR (seqR (seqR (seqR QO.C)))))) :: []
structure QO.OK (h : QO.Hs) : Prop where
 l0 : ∀ {H0 H : Hp} {L : Items} {r : (Option Int)} {jk_ : Nat → Value} {errs : List (Option Int)} {n : Int} {t9 : List (Option Int)} {t10 : Int} {t11 : Int} {v_errs : Value} {v_t9 : Value} (_ : H0.le H) (_he : h.l0 errs n t9 t10 t11 = some r) (_h_errs : Src (Kd.err 104) H L v_errs errs) (_h_t9 : Src (Kd.err 104) H L v_t9 t9), Wp Tryz.prog 129 47 QO.Kl0 (upd (upd (upd (upd (upd (upd jk_ 0 (v_errs)) 2 (errV 104 none)) 3 (.int .i64 n)) 9 (v_t9)) 10 (.int .i64 t10)) 11 (.int .i64 t11)) H (L) (QO.R H0 L r)
 l1 : ∀ {H0 H : Hp} {L : Items} {r : (Option Int)} {jk_ : Nat → Value} {e__1 : List (Option Int)} {t26 : List (Option Int)} {t27 : Int} {t28 : Int} {v_e__1 : Value} {v_t26 : Value} {i_e__1 : Item'} {b_e_ : Nat} (_ : H0.le H) (_he : h.l1 e__1 t26 t27 t28 = some r) (_h_e__1 : Sl (Kd.err 104) H 30 i_e__1 v_e__1 e__1) (_h_t26 : Src (Kd.err 104) H L v_t26 t26), Wp Tryz.prog 129 47 QO.Kl1 (upd (upd (upd (upd (upd jk_ 2 (errV 104 none)) 6 (pt b_e_)) 26 (v_t26)) 27 (.int .i64 t27)) 28 (.int .i64 t28)) H (bx b_e_ [v_e__1] 212 :: i_e__1 :: L) (QO.R H0 L r)
theorem QO.b0_ok {k : Nat} {h : QO.Hs} (hh : QO.OK h) {H0 H : Hp} {L : Items} {r : (Option Int)} {jk_ : Nat → Value} {errs : List (Option Int)} {n : Int} {t9 : List (Option Int)} {t10 t11 : Int} {v_errs v_t9 : Value} (hle : H0.le H) (he : QO.b0 k h errs n t9 t10 t11 = some r) (h_errs : Src (Kd.err 104) H L v_errs errs) (h_t9 : Src (Kd.err 104) H L v_t9 t9) : Wp Tryz.prog 129 47 QO.Kl0 (upd (upd (upd (upd (upd (upd jk_ 0 (v_errs)) 2 (errV 104 none)) 3 (.int .i64 n)) 9 (v_t9)) 10 (.int .i64 t10)) 11 (.int .i64 t11)) H (L) (QO.R H0 L r) := by
 unfold QO.b0 at he
 unfold QO.Kl0
 refine wR rfl <| w_d rfl (XO rfl rfl) <| wE ?_
 rcases its he with ⟨c1, he⟩ | ⟨c1, he⟩
 ·
  refine QB rfl (dt c1) <| QF <| QX <| Q8 <| wR rfl <| rK he fun c2 he => w_d rfl (XT (sz := 1) Tryz.underlying204 sz30 rfl h_t9 rfl c2) ?_
  obtain ⟨_, l3, r4⟩ := Z5 (kd := (Kd.err 104)) h_t9 c2
  obtain rfl := r4
  refine w_d rfl (ZE (v := errV 104 (rd t9 t11)) (cs := [errV 104 (rd t9 t11)]) ty30 rfl rfl (by decide) l3 rfl) <| wA (errV 104 (rd t9 t11)) rfl rfl <| wQ rfl <| wM (errV 104 (rd t9 t11)) rfl rfl <| w_d rfl (X1 (e := (rd t9 t11)) Tryz.underlying30 rfl) <| Qc ?_
  rcases its he with ⟨c5, he⟩ | ⟨c5, he⟩
  ·
   refine QB rfl c5 <| QH rfl <| wM (.int .i64 n) rfl rfl <| w_d rfl (XG (c := w64 (n + 1)) rfl rfl rfl) <| wA (.int .i64 (w64 (n + 1))) rfl rfl <| Qc <| Xp <| QH rfl <| w_d rfl (XG (c := w64 (t11 + 1)) rfl rfl rfl) <| wM (.int .i64 (w64 (t11 + 1))) rfl rfl <| Qc <| Xy ?_
   refine w_sl 0 (v_errs) rfl <| w_sl 2 (errV 104 none) rfl <| w_sl 3 (.int .i64 (w64 (n + 1))) rfl <| w_sl 9 (v_t9) rfl <| w_sl 10 (.int .i64 t10) rfl <| w_sl 11 (.int .i64 (w64 (t11 + 1))) rfl <| hh.l0 hle he h_errs h_t9
  ·
   refine QI rfl (Bool.eq_false_iff.2 c5) <| QF <| Xp <| QH rfl <| w_d rfl (XG (c := w64 (t11 + 1)) rfl rfl rfl) <| wM (.int .i64 (w64 (t11 + 1))) rfl rfl <| Qc <| Xy <| w_sl 0 (v_errs) rfl <| w_sl 2 (errV 104 none) rfl <| w_sl 3 (.int .i64 n) rfl <| w_sl 9 (v_t9) rfl ?_
   refine w_sl 10 (.int .i64 t10) rfl <| w_sl 11 (.int .i64 (w64 (t11 + 1))) rfl <| hh.l0 hle he h_errs h_t9
 ·
  refine QI rfl (df c1) <| Ya rfl <| QX <| wR rfl <| wM (.int .i64 n) rfl rfl <| w_d rfl (Zb rfl rfl) <| Qc ?_
  rcases its he with ⟨c6, he⟩ | ⟨c6, he⟩
  ·
   refine QB rfl (dt c6) <| wR rfl <| wA (errV 104 none) rfl rfl <| Qc ?_
   obtain rfl := sj he
   refine Qn fn_129 rs_129 (.tmp (v := errV 104 none) rfl .nil) <| ⟨⟨[], rfl⟩, hle, rfl⟩
  ·
   refine QI rfl (df c6) <| QF <| wR rfl <| wM (.int .i64 n) rfl rfl <| rK he fun c7 he => w_a rfl (o_make' (kd := (Kd.err 104)) (z0 := none) Tryz.underlying204 ti30 (zp30 _) rfl rfl (by omega) (by omega) (by omega)) ?_
   rintro v8 _ _ ⟨i9, rfl, rfl, h10⟩
   refine w_d rfl (Xx (cs' := [v8]) Tryz.underlying212 zr212 rfl (by kernel_rfl) (parts := [(0, v8)]) rfl (.cons (X2 rfl sz204 rfl) h10.cells rfl u1 .nil)) <| wB (.agg ⟨[v8]⟩) rfl rfl rfl <| fun b11 => wA (pt b11) rfl rfl <| wE <| wR rfl <| wM v_errs rfl rfl <| w_d rfl (XL Tryz.underlying204 rfl h_errs.th.th) <| wM (.int .i64 0) rfl rfl <| Qc <| Q8 ?_
   refine Ye <| w_sl 2 (errV 104 none) rfl <| w_sl 6 (pt b11) rfl <| w_sl 26 (v_errs) rfl <| w_sl 27 (.int .i64 (errs.length : Int)) rfl <| w_sl 28 (.int .i64 0) rfl <| hh.l1 hle he h10 h_errs
theorem QO.b1_ok {k : Nat} {h : QO.Hs} (hh : QO.OK h) {H0 H : Hp} {L : Items} {r : (Option Int)} {jk_ : Nat → Value} {e__1 t26 : List (Option Int)} {t27 t28 : Int} {v_e__1 v_t26 : Value} {i_e__1 : Item'} {b_e_ : Nat} (hle : H0.le H) (he : QO.b1 k h e__1 t26 t27 t28 = some r) (h_e__1 : Sl (Kd.err 104) H 30 i_e__1 v_e__1 e__1) (h_t26 : Src (Kd.err 104) H L v_t26 t26) : Wp Tryz.prog 129 47 QO.Kl1 (upd (upd (upd (upd (upd jk_ 2 (errV 104 none)) 6 (pt b_e_)) 26 (v_t26)) 27 (.int .i64 t27)) 28 (.int .i64 t28)) H (bx b_e_ [v_e__1] 212 :: i_e__1 :: L) (QO.R H0 L r) := by
 unfold QO.b1 at he
 unfold QO.Kl1
 refine wR rfl <| w_d rfl (XO rfl rfl) <| wE ?_
 rcases its he with ⟨c12, he⟩ | ⟨c12, he⟩
 ·
  refine QB rfl (dt c12) <| QF <| QX <| Q8 <| wR rfl <| rK he fun c13 he => w_d rfl (XT (sz := 1) Tryz.underlying204 sz30 rfl h_t26.th.th rfl c13) ?_
  obtain ⟨_, l14, r15⟩ := Z5 (kd := (Kd.err 104)) h_t26.th.th c13
  obtain rfl := r15
  refine w_d rfl (ZE (v := errV 104 (rd t26 t28)) (cs := [errV 104 (rd t26 t28)]) ty30 rfl rfl (by decide) l14 rfl) <| wA (errV 104 (rd t26 t28)) rfl rfl <| wQ rfl <| wM (errV 104 (rd t26 t28)) rfl rfl <| w_d rfl (X1 (e := (rd t26 t28)) Tryz.underlying30 rfl) <| Qc ?_
  rcases its he with ⟨c16, he⟩ | ⟨c16, he⟩
  ·
   refine QB rfl c16 <| QH rfl <| wM (pt b_e_) rfl rfl <| wM (pt b_e_) rfl rfl <| w_d rfl (MS (p := ⟨b_e_, 0, none⟩) rfl) <| w_d rfl (QM (o' := 0) Tryz.underlying212 rfl sz204 rfl rfl rfl) <| wL v_e__1 ty204 rfl rfl .here rfl rfl <| wM (errV 104 (rd t26 t28)) rfl rfl <| w_a rfl (o_buildSlice' (kd := (Kd.err 104)) (css := [[errV 104 (rd t26 t28)]]) (xs := [rd t26 t28]) (parts := [(0, errV 104 (rd t26 t28))]) Tryz.underlying204 ti30 rfl ⟨_, _, rfl, (Gr _ _), rfl⟩ ⟨rfl, trivial⟩ rfl (by decide)) ?_
   rintro v17 _ _ ⟨i18, rfl, rfl, h19⟩
   refine rK he fun c20 he => w_a rfl (o_append' (kd := (Kd.err 104)) (F := fun z_ => i18 :: bx b_e_ [v_e__1] 212 :: z_ :: L) Tryz.underlying204 Tryz.underlying204 ti30 rfl (by first | omega | (simp only [List.nil_append, List.length_cons, List.length_nil]; omega)) rfl rfl h_e__1 (h19.src .here) (fun _ => .h2)) ?_
   rintro v21 _ _ ⟨i22, rfl, rfl, h23⟩
   refine w_d rfl (MS (p := ⟨b_e_, 0, none⟩) rfl) <| w_d rfl (QM (o' := 0) Tryz.underlying212 rfl sz204 rfl rfl rfl) <| w_a0 rfl (YW (v := v21) sz204 rfl rfl h23.cells rfl (oc (h23.one) oz) .h1 u1) ?_
   rintro _ _ _ ⟨rfl, rfl, rfl⟩
   refine Qc <| Xp <| QH rfl <| w_d rfl (XG (c := w64 (t28 + 1)) rfl rfl rfl) <| wM (.int .i64 (w64 (t28 + 1))) rfl rfl <| Qc <| Xy <| Yw .here <| w_sl 2 (errV 104 none) rfl <| w_sl 6 (pt b_e_) rfl <| w_sl 26 (v_t26) rfl <| w_sl 27 (.int .i64 t27) rfl ?_
   refine w_sl 28 (.int .i64 (w64 (t28 + 1))) rfl <| hh.l1 hle he h23 h_t26
  ·
   refine QI rfl (Bool.eq_false_iff.2 c16) <| QF <| Xp <| QH rfl <| w_d rfl (XG (c := w64 (t28 + 1)) rfl rfl rfl) <| wM (.int .i64 (w64 (t28 + 1))) rfl rfl <| Qc <| Xy <| w_sl 2 (errV 104 none) rfl <| w_sl 6 (pt b_e_) rfl <| w_sl 26 (v_t26) rfl <| w_sl 27 (.int .i64 t27) rfl ?_
   refine w_sl 28 (.int .i64 (w64 (t28 + 1))) rfl <| hh.l1 hle he h_e__1 h_t26
 ·
  refine QI rfl (df c12) <| absurd he (by simp)
theorem QO.ok : ∀ k, QO.OK (QO.hs k)
 | 0 => ⟨(by intros; exact nomatch (show none = some _ from by assumption)), (by intros; exact nomatch (show none = some _ from by assumption))⟩
 | k + 1 => ⟨QO.b0_ok (k := k) (QO.ok k), QO.b1_ok (k := k) (QO.ok k)⟩
theorem QO.calls (k : Nat) {H : Hp} {L : Items} {errs : List (Option Int)} {v0_errs : Value} {r : (Option Int)} (he : QO.f k errs = some r) (h0_errs : Src (Kd.err 104) H L v0_errs errs) : Ct Tryz.prog 129 ⟨[v0_errs]⟩ H L (fun v H' L' => L = L' ∧ H = H' ∧ v = errV 104 r) := by
 refine Yr (O := QO.out r) (fun _ _ h => h) ?_
 have hle : H.le H := .refl _
 have hh := QO.ok k
 unfold QO.f at he
 refine QZ (args := [v0_errs]) fn_129 rfl nt_129 rfl <| wR rfl <| wA (errV 104 none) rfl rfl <| wQ rfl <| wA (.int .i64 0) rfl rfl <| wE <| wR rfl ?_
 refine wM v0_errs rfl rfl <| w_d rfl (XL Tryz.underlying204 rfl h0_errs) <| wM (.int .i64 0) rfl rfl <| Qc <| Q8 <| Ye <| w_sl 0 (v0_errs) rfl <| w_sl 2 (errV 104 none) rfl <| w_sl 3 (.int .i64 0) rfl <| w_sl 9 (v0_errs) rfl <| w_sl 10 (.int .i64 (errs.length : Int)) rfl <| w_sl 11 (.int .i64 0) rfl <| hh.l0 hle he h0_errs h0_errs
noncomputable def Yu.C : Code := (Tryz.f80.body).getD .skip
def Yu.out (r : QL × (Option Int)) (H : Hp) (v : Value) : Prop := ∃ v0 v1 v2 v3, v = .tuple ⟨[(Qg r.1 v0 v1 v2 v3), errV 104 r.2]⟩ ∧ Ro kU32 H v0 r.1.f_Low.f_n.f_w ∧ Ro kU32 H v1 r.1.f_Low.f_d.f_w ∧ Ro kU32 H v2 r.1.f_High.f_n.f_w ∧ Ro kU32 H v3 r.1.f_High.f_d.f_w
noncomputable def Yu.f (k : Nat) (low : QG) (one_ : Option Int) (high : QG) (two_ : Option Int) : Option (QL × (Option Int)) := (QO.f k [one_, two_]).bind fun y7 => if y7.isSome = true then (some (⟨⟨⟨false, []⟩, ⟨false, []⟩⟩, ⟨⟨false, []⟩, ⟨false, []⟩⟩⟩, some 12)) else (some (⟨low, high⟩, none))
theorem Yu.mono : ∀ k y0 y1 y2 y3, LeO (Yu.f k y0 y1 y2 y3) (Yu.f (k + 1) y0 y1 y2 y3) := fun k _ _ _ _ => by unfold Yu.f; exact (LeO.bind (QO.mono k _) fun _ => LeO.ite (LeO.refl _) (LeO.refl _))
theorem Yu.calls (k : Nat) {H : Hp} {L : Items} {low : QG} {one_ : Option Int} {high : QG} {two_ : Option Int} {v0_low v1_low v2_high v3_high : Value} {r : QL × (Option Int)} (he : Yu.f k low one_ high two_ = some r) (h0_low : Ro kU32 H v0_low low.f_n.f_w) (h1_low : Ro kU32 H v1_low low.f_d.f_w) (h2_high : Ro kU32 H v2_high high.f_n.f_w) (h3_high : Ro kU32 H v3_high high.f_d.f_w) : Ct Tryz.prog 80 ⟨[(Qa low v0_low v1_low), errV 104 one_, (Qa high v2_high v3_high), errV 104 two_]⟩ H L (cR H L (Yu.out r)) := by
 refine XS (O := Yu.out r) ?_
 have hle : H.le H := .refl _
 unfold Yu.f at he
 refine QZ (args := [(Qa low v0_low v1_low), errV 104 one_, (Qa high v2_high v3_high), errV 104 two_]) fn_80 rfl nt_80 rfl <| wR rfl <| wB (Qa low v0_low v1_low) rfl rfl rfl <| fun b1 => wB (Qa high v2_high v3_high) rfl rfl rfl <| fun b2 => wN zr28 rfl rfl fun b3 => wA (errV 104 none) rfl rfl <| wE <| wR rfl <| wM (errV 104 one_) rfl rfl ?_
 refine wM (errV 104 two_) rfl rfl <| w_a rfl (o_buildSlice' (kd := (Kd.err 104)) (css := [[errV 104 one_], [errV 104 two_]]) (xs := [one_, two_]) (parts := [(0, errV 104 one_), (1, errV 104 two_)]) Tryz.underlying204 ti30 rfl ⟨_, _, rfl, (Gr _ _), ⟨_, _, rfl, (Gr _ _), rfl⟩⟩ ⟨rfl, ⟨rfl, trivial⟩⟩ rfl (by decide)) ?_
 rintro v4 _ _ ⟨i5, rfl, rfl, h6⟩
 refine bK he fun y7 hy8 he => w_d rfl (Xi (Qj co129 (vs := [v4]) rfl (QO.calls k hy8 (h6.src .here)))) <| wA (errV 104 y7) rfl rfl <| wQ rfl <| wM (errV 104 y7) rfl rfl <| w_d rfl (X1 (e := y7) Tryz.underlying30 rfl) <| Qc ?_
 rcases its he with ⟨c11, he⟩ | ⟨c11, he⟩
 ·
  refine QB rfl c11 <| wR rfl <| w_d rfl (Xx (cs' := z2c) Tryz.underlying28 zr28 rfl (by kernel_rfl) (parts := []) rfl .nil) <| w_d rfl (Zp (v := .int .i64 12) Tryz.underlying104 rfl rfl) <| wS (.agg ⟨z2c⟩) sz28 rfl rfl rfl rfl rfl (oc rfl (oc rfl (oc rfl (oc rfl (oc rfl (oc rfl (oc rfl (oc rfl oz)))))))) .h1 (.here (.here (.here (.here u4)))) <| wA (errV 104 (some 12)) rfl rfl <| Qc ?_
  obtain rfl := sj he
  refine Qn fn_80 rs_80 (.box (v := .agg ⟨z2c⟩) rfl ty28 rfl rfl .h1 rfl (.tmp (v := errV 104 (some 12)) rfl .nil)) <| ⟨⟨[_, _, _, _], rfl⟩, hle, ⟨.slice none 0 0, .slice none 0 0, .slice none 0 0, .slice none 0 0, rfl, (Q2 _ _), (Q2 _ _), (Q2 _ _), (Q2 _ _)⟩⟩
 ·
  refine QI rfl (Bool.eq_false_iff.2 c11) <| QF <| wR rfl <| wL (Qa low v0_low v1_low) ty26 rfl rfl .h3 rfl rfl <| wL (Qa high v2_high v3_high) ty26 rfl rfl .h2 rfl rfl <| w_d rfl (Xx (cs' := [.bool low.f_n.f_neg, v0_low, .bool low.f_d.f_neg, v1_low, .bool high.f_n.f_neg, v2_high, .bool high.f_d.f_neg, v3_high]) Tryz.underlying28 zr28 rfl (by kernel_rfl) (parts := [(0, (Qa low v0_low v1_low)), (1, (Qa high v2_high v3_high))]) rfl (.cons (X2 rfl sz26 rfl) rfl rfl u4 (.cons (X2 rfl sz26 rfl) rfl rfl (.there (.there (.there (.there u4)))) .nil))) <| wS (.agg ⟨[.bool low.f_n.f_neg, v0_low, .bool low.f_d.f_neg, v1_low, .bool high.f_n.f_neg, v2_high, .bool high.f_d.f_neg, v3_high]⟩) sz28 rfl rfl rfl rfl rfl (oc rfl (oc (h0_low.one) (oc rfl (oc (h1_low.one) (oc rfl (oc (h2_high.one) (oc rfl (oc (h3_high.one) oz)))))))) .h1 (.here (.here (.here (.here u4)))) <| wA (errV 104 none) rfl rfl <| Qc ?_
  obtain rfl := sj he
  refine Qn fn_80 rs_80 (.box (v := .agg ⟨[.bool low.f_n.f_neg, v0_low, .bool low.f_d.f_neg, v1_low, .bool high.f_n.f_neg, v2_high, .bool high.f_d.f_neg, v3_high]⟩) rfl ty28 rfl rfl .h1 rfl (.tmp (v := errV 104 none) rfl .nil)) <| ⟨⟨[_, _, _, _], rfl⟩, hle, ⟨v0_low, v1_low, v2_high, v3_high, rfl, h0_low, h1_low, h2_high, h3_high⟩⟩
noncomputable def Yt.C : Code := (Tryz.f25.body).getD .skip
def Yt.out (r : QL × (Option Int)) (H : Hp) (v : Value) : Prop := ∃ v0 v1 v2 v3, v = .tuple ⟨[(Qg r.1 v0 v1 v2 v3), errV 104 r.2]⟩ ∧ Ro kU32 H v0 r.1.f_Low.f_n.f_w ∧ Ro kU32 H v1 r.1.f_Low.f_d.f_w ∧ Ro kU32 H v2 r.1.f_High.f_n.f_w ∧ Ro kU32 H v3 r.1.f_High.f_d.f_w
noncomputable def Yt.f (k : Nat) (a b : QL) : Option (QL × (Option Int)) := (QE.f k [a, b]).bind fun y7 => if y7.isSome = true then (some (⟨⟨⟨false, []⟩, ⟨false, []⟩⟩, ⟨⟨false, []⟩, ⟨false, []⟩⟩⟩, y7)) else ((XY.f k a.f_Low b.f_Low).bind fun y12 => (XY.f k a.f_High b.f_High).bind fun y21 => (Yu.f k y12.1 y12.2 y21.1 y21.2).bind fun y30 => some (y30.1, y30.2))
theorem Yt.mono : ∀ k y0 y1, LeO (Yt.f k y0 y1) (Yt.f (k + 1) y0 y1) := fun k _ _ => by unfold Yt.f; exact (LeO.bind (QE.mono k _) fun _ => LeO.ite (LeO.refl _) (LeO.bind (XY.mono k _ _) fun _ => LeO.bind (XY.mono k _ _) fun _ => LeO.bind (Yu.mono k _ _ _ _) fun _ => LeO.refl _))
theorem Yt.calls (k : Nat) {H : Hp} {L : Items} {a b : QL} {v0_a v1_a v2_a v3_a v4_b v5_b v6_b v7_b : Value} {r : QL × (Option Int)} (he : Yt.f k a b = some r) (h0_a : Ro kU32 H v0_a a.f_Low.f_n.f_w) (h1_a : Ro kU32 H v1_a a.f_Low.f_d.f_w) (h2_a : Ro kU32 H v2_a a.f_High.f_n.f_w) (h3_a : Ro kU32 H v3_a a.f_High.f_d.f_w) (h4_b : Ro kU32 H v4_b b.f_Low.f_n.f_w) (h5_b : Ro kU32 H v5_b b.f_Low.f_d.f_w) (h6_b : Ro kU32 H v6_b b.f_High.f_n.f_w) (h7_b : Ro kU32 H v7_b b.f_High.f_d.f_w) : Ct Tryz.prog 25 ⟨[(Qg a v0_a v1_a v2_a v3_a), (Qg b v4_b v5_b v6_b v7_b)]⟩ H L (cR H L (Yt.out r)) := by
 refine XS (O := Yt.out r) ?_
 have hle : H.le H := .refl _
 unfold Yt.f at he
 refine QZ (args := [(Qg a v0_a v1_a v2_a v3_a), (Qg b v4_b v5_b v6_b v7_b)]) fn_25 rfl nt_25 rfl <| wR rfl <| wB (Qg a v0_a v1_a v2_a v3_a) rfl rfl rfl <| fun b1 => wB (Qg b v4_b v5_b v6_b v7_b) rfl rfl rfl <| fun b2 => wN zr28 rfl rfl fun b3 => wA (errV 104 none) rfl rfl <| wE <| wR rfl <| wL (Qg a v0_a v1_a v2_a v3_a) ty28 rfl rfl .h2 rfl rfl ?_
 refine wL (Qg b v4_b v5_b v6_b v7_b) ty28 rfl rfl .h1 rfl rfl <| w_a rfl (o_buildSlice' (kd := YP) (css := [(Q5 a v0_a v1_a v2_a v3_a), (Q5 b v4_b v5_b v6_b v7_b)]) (xs := [a, b]) (parts := [(0, (Qg a v0_a v1_a v2_a v3_a)), (1, (Qg b v4_b v5_b v6_b v7_b))]) Tryz.underlying178 ti28 rfl ⟨_, _, rfl, rfl, ⟨_, _, rfl, rfl, rfl⟩⟩ ⟨(YB (x := a) h0_a h1_a h2_a h3_a), ⟨(YB (x := b) h4_b h5_b h6_b h7_b), trivial⟩⟩ rfl (by decide)) ?_
 rintro v4 _ _ ⟨i5, rfl, rfl, h6⟩
 refine bK he fun y7 hy8 he => w_d rfl (Xi (Qj co79 (vs := [v4]) rfl (QE.calls k hy8 (h6.src .here)))) <| wA (errV 104 y7) rfl rfl <| wQ rfl <| wM (errV 104 y7) rfl rfl <| w_d rfl (X1 (e := y7) Tryz.underlying30 rfl) <| Qc ?_
 rcases its he with ⟨c11, he⟩ | ⟨c11, he⟩
 ·
  refine QB rfl c11 <| wR rfl <| w_d rfl (Xx (cs' := z2c) Tryz.underlying28 zr28 rfl (by kernel_rfl) (parts := []) rfl .nil) <| wM (errV 104 y7) rfl rfl <| wS (.agg ⟨z2c⟩) sz28 rfl rfl rfl rfl rfl (oc rfl (oc rfl (oc rfl (oc rfl (oc rfl (oc rfl (oc rfl (oc rfl oz)))))))) .h1 (.here (.here (.here (.here u4)))) <| wA (errV 104 y7) rfl rfl <| Qc ?_
  obtain rfl := sj he
  refine Qn fn_25 rs_25 (.box (v := .agg ⟨z2c⟩) rfl ty28 rfl rfl .h1 rfl (.tmp (v := errV 104 y7) rfl .nil)) <| ⟨⟨[_, _, _, _], rfl⟩, hle, ⟨.slice none 0 0, .slice none 0 0, .slice none 0 0, .slice none 0 0, rfl, (Q2 _ _), (Q2 _ _), (Q2 _ _), (Q2 _ _)⟩⟩
 ·
  refine QI rfl (Bool.eq_false_iff.2 c11) <| QF <| wR rfl <| w_d rfl (QM (o' := 0) Tryz.underlying28 rfl sz26 rfl rfl rfl) <| wL (Qa a.f_Low v0_a v1_a) ty26 rfl rfl .h3 rfl rfl <| w_d rfl (QM (o' := 0) Tryz.underlying28 rfl sz26 rfl rfl rfl) <| wL (Qa b.f_Low v4_b v5_b) ty26 rfl rfl .h2 rfl rfl <| bK he fun y12 hy13 he => w_a rfl (Qj co23 (vs := [(Qa a.f_Low v0_a v1_a), (Qa b.f_Low v4_b v5_b)]) rfl (XY.calls k (a := a.f_Low) (b := b.f_Low) hy13 h0_a h1_a h4_b h5_b)) ?_
  rintro _ H14 _ ⟨rfl, e15, v16, v18, rfl, h17, h19⟩
  refine wM (.tuple ⟨[(Qa y12.1 v16 v18), errV 104 y12.2]⟩) rfl rfl <| w_d rfl (QS rfl rfl) <| w_d rfl (QS rfl rfl) <| wN zr26 rfl rfl fun b20 => wS (Qa y12.1 v16 v18) sz26 rfl rfl rfl rfl rfl (Xw h17 h19) .here u4 <| wA (errV 104 y12.2) rfl rfl <| wQ rfl <| w_d rfl (QM (o' := 4) Tryz.underlying28 rfl sz26 rfl rfl rfl) <| wL (Qa a.f_High v2_a v3_a) ty26 rfl rfl .h4 rfl rfl <| w_d rfl (QM (o' := 4) Tryz.underlying28 rfl sz26 rfl rfl rfl) ?_
  refine wL (Qa b.f_High v6_b v7_b) ty26 rfl rfl .h3 rfl rfl <| bK he fun y21 hy22 he => w_a rfl (Qj co23 (vs := [(Qa a.f_High v2_a v3_a), (Qa b.f_High v6_b v7_b)]) rfl (XY.calls k (a := a.f_High) (b := b.f_High) hy22 (h2_a.mono e15) (h3_a.mono e15) (h6_b.mono e15) (h7_b.mono e15))) ?_
  rintro _ H23 _ ⟨rfl, e24, v25, v27, rfl, h26, h28⟩
  refine wM (.tuple ⟨[(Qa y21.1 v25 v27), errV 104 y21.2]⟩) rfl rfl <| w_d rfl (QS rfl rfl) <| w_d rfl (QS rfl rfl) <| wN zr26 rfl rfl fun b29 => wS (Qa y21.1 v25 v27) sz26 rfl rfl rfl rfl rfl (Xw h26 h28) .here u4 <| wA (errV 104 y21.2) rfl rfl <| wQ rfl <| wL (Qa y12.1 v16 v18) ty26 rfl rfl .h1 rfl rfl <| wM (errV 104 y12.2) rfl rfl <| wL (Qa y21.1 v25 v27) ty26 rfl rfl .here rfl rfl ?_
  refine wM (errV 104 y21.2) rfl rfl <| bK he fun y30 hy31 he => w_a rfl (Qj co80 (vs := [(Qa y12.1 v16 v18), errV 104 y12.2, (Qa y21.1 v25 v27), errV 104 y21.2]) rfl (Yu.calls k (low := y12.1) (high := y21.1) hy31 (h17.mono e24) (h19.mono e24) h26 h28)) ?_
  rintro _ H32 _ ⟨rfl, e33, v34, v36, v38, v40, rfl, h35, h37, h39, h41⟩
  refine w_d rfl (QS rfl rfl) <| w_d rfl (QS rfl rfl) <| wS (Qg y30.1 v34 v36 v38 v40) sz28 rfl rfl rfl rfl rfl (X6 h35 h37 h39 h41) .h3 (.here (.here (.here (.here u4)))) <| wA (errV 104 y30.2) rfl rfl <| Qc ?_
  obtain rfl := sj he
  refine Qn fn_25 rs_25 (.box (v := (Qg y30.1 v34 v36 v38 v40)) rfl ty28 rfl rfl .h3 rfl (.tmp (v := errV 104 y30.2) rfl .nil)) <| ⟨⟨[_, _, _, _, _, _], rfl⟩, hle.trans ((e15.trans e24).trans e33), ⟨v34, v36, v38, v40, rfl, h35, h37, h39, h41⟩⟩
noncomputable def X5.C : Code := (Tryz.f60.body).getD .skip
def X5.out (r : QG × (Option Int)) (H : Hp) (v : Value) : Prop := ∃ v0 v1, v = .tuple ⟨[(Qa r.1 v0 v1), errV 104 r.2]⟩ ∧ Ro kU32 H v0 r.1.f_n.f_w ∧ Ro kU32 H v1 r.1.f_d.f_w
noncomputable def X5.f (k : Nat) (a b : QG) : Option (QG × (Option Int)) := (Q6.f k a b true).bind fun y4 => some (y4.1, y4.2)
theorem X5.mono : ∀ k y0 y1, LeO (X5.f k y0 y1) (X5.f (k + 1) y0 y1) := fun k _ _ => by unfold X5.f; exact (LeO.bind (Q6.mono k _ _ _) fun _ => LeO.refl _)
theorem X5.calls (k : Nat) {H : Hp} {L : Items} {a b : QG} {v0_a v1_a v2_b v3_b : Value} {r : QG × (Option Int)} (he : X5.f k a b = some r) (h0_a : Ro kU32 H v0_a a.f_n.f_w) (h1_a : Ro kU32 H v1_a a.f_d.f_w) (h2_b : Ro kU32 H v2_b b.f_n.f_w) (h3_b : Ro kU32 H v3_b b.f_d.f_w) : Ct Tryz.prog 60 ⟨[(Qa a v0_a v1_a), (Qa b v2_b v3_b)]⟩ H L (cR H L (X5.out r)) := by
 refine XS (O := X5.out r) ?_
 have hle : H.le H := .refl _
 unfold X5.f at he
 refine QZ (args := [(Qa a v0_a v1_a), (Qa b v2_b v3_b)]) fn_60 rfl nt_60 rfl <| wR rfl <| wB (Qa a v0_a v1_a) rfl rfl rfl <| fun b1 => wB (Qa b v2_b v3_b) rfl rfl rfl <| fun b2 => wN zr26 rfl rfl fun b3 => wA (errV 104 none) rfl rfl <| wQ rfl <| wL (Qa a v0_a v1_a) ty26 rfl rfl .h2 rfl rfl <| wL (Qa b v2_b v3_b) ty26 rfl rfl .h1 rfl rfl ?_
 refine bK he fun y4 hy5 he => w_a rfl (Qj co76 (vs := [(Qa a v0_a v1_a), (Qa b v2_b v3_b), .bool true]) rfl (Q6.calls k (a := a) (b := b) hy5 h0_a h1_a h2_b h3_b)) ?_
 rintro _ H6 _ ⟨rfl, e7, v8, v10, rfl, h9, h11⟩
 refine w_d rfl (QS rfl rfl) <| w_d rfl (QS rfl rfl) <| wS (Qa y4.1 v8 v10) sz26 rfl rfl rfl rfl rfl (Xw h9 h11) .here u4 <| wA (errV 104 y4.2) rfl rfl <| Qc ?_
 obtain rfl := sj he
 refine Qn fn_60 rs_60 (.box (v := (Qa y4.1 v8 v10)) rfl ty26 rfl rfl .here rfl (.tmp (v := errV 104 y4.2) rfl .nil)) <| ⟨⟨[_, _, _], rfl⟩, hle.trans e7, ⟨v8, v10, rfl, h9, h11⟩⟩
noncomputable def YZ.C : Code := (Tryz.f29.body).getD .skip
def YZ.out (r : QL × (Option Int)) (H : Hp) (v : Value) : Prop := ∃ v0 v1 v2 v3, v = .tuple ⟨[(Qg r.1 v0 v1 v2 v3), errV 104 r.2]⟩ ∧ Ro kU32 H v0 r.1.f_Low.f_n.f_w ∧ Ro kU32 H v1 r.1.f_Low.f_d.f_w ∧ Ro kU32 H v2 r.1.f_High.f_n.f_w ∧ Ro kU32 H v3 r.1.f_High.f_d.f_w
noncomputable def YZ.f (k : Nat) (a b : QL) : Option (QL × (Option Int)) := (QE.f k [a, b]).bind fun y7 => if y7.isSome = true then (some (⟨⟨⟨false, []⟩, ⟨false, []⟩⟩, ⟨⟨false, []⟩, ⟨false, []⟩⟩⟩, y7)) else ((X5.f k a.f_Low b.f_High).bind fun y12 => (X5.f k a.f_High b.f_Low).bind fun y21 => (Yu.f k y12.1 y12.2 y21.1 y21.2).bind fun y30 => some (y30.1, y30.2))
theorem YZ.calls (k : Nat) {H : Hp} {L : Items} {a b : QL} {v0_a v1_a v2_a v3_a v4_b v5_b v6_b v7_b : Value} {r : QL × (Option Int)} (he : YZ.f k a b = some r) (h0_a : Ro kU32 H v0_a a.f_Low.f_n.f_w) (h1_a : Ro kU32 H v1_a a.f_Low.f_d.f_w) (h2_a : Ro kU32 H v2_a a.f_High.f_n.f_w) (h3_a : Ro kU32 H v3_a a.f_High.f_d.f_w) (h4_b : Ro kU32 H v4_b b.f_Low.f_n.f_w) (h5_b : Ro kU32 H v5_b b.f_Low.f_d.f_w) (h6_b : Ro kU32 H v6_b b.f_High.f_n.f_w) (h7_b : Ro kU32 H v7_b b.f_High.f_d.f_w) : Ct Tryz.prog 29 ⟨[(Qg a v0_a v1_a v2_a v3_a), (Qg b v4_b v5_b v6_b v7_b)]⟩ H L (cR H L (YZ.out r)) := by
 refine XS (O := YZ.out r) ?_
 have hle : H.le H := .refl _
 unfold YZ.f at he
 refine QZ (args := [(Qg a v0_a v1_a v2_a v3_a), (Qg b v4_b v5_b v6_b v7_b)]) fn_29 rfl nt_29 rfl <| wR rfl <| wB (Qg a v0_a v1_a v2_a v3_a) rfl rfl rfl <| fun b1 => wB (Qg b v4_b v5_b v6_b v7_b) rfl rfl rfl <| fun b2 => wN zr28 rfl rfl fun b3 => wA (errV 104 none) rfl rfl <| wE <| wR rfl <| wL (Qg a v0_a v1_a v2_a v3_a) ty28 rfl rfl .h2 rfl rfl ?_
 refine wL (Qg b v4_b v5_b v6_b v7_b) ty28 rfl rfl .h1 rfl rfl <| w_a rfl (o_buildSlice' (kd := YP) (css := [(Q5 a v0_a v1_a v2_a v3_a), (Q5 b v4_b v5_b v6_b v7_b)]) (xs := [a, b]) (parts := [(0, (Qg a v0_a v1_a v2_a v3_a)), (1, (Qg b v4_b v5_b v6_b v7_b))]) Tryz.underlying178 ti28 rfl ⟨_, _, rfl, rfl, ⟨_, _, rfl, rfl, rfl⟩⟩ ⟨(YB (x := a) h0_a h1_a h2_a h3_a), ⟨(YB (x := b) h4_b h5_b h6_b h7_b), trivial⟩⟩ rfl (by decide)) ?_
 rintro v4 _ _ ⟨i5, rfl, rfl, h6⟩
 refine bK he fun y7 hy8 he => w_d rfl (Xi (Qj co79 (vs := [v4]) rfl (QE.calls k hy8 (h6.src .here)))) <| wA (errV 104 y7) rfl rfl <| wQ rfl <| wM (errV 104 y7) rfl rfl <| w_d rfl (X1 (e := y7) Tryz.underlying30 rfl) <| Qc ?_
 rcases its he with ⟨c11, he⟩ | ⟨c11, he⟩
 ·
  refine QB rfl c11 <| wR rfl <| w_d rfl (Xx (cs' := z2c) Tryz.underlying28 zr28 rfl (by kernel_rfl) (parts := []) rfl .nil) <| wM (errV 104 y7) rfl rfl <| wS (.agg ⟨z2c⟩) sz28 rfl rfl rfl rfl rfl (oc rfl (oc rfl (oc rfl (oc rfl (oc rfl (oc rfl (oc rfl (oc rfl oz)))))))) .h1 (.here (.here (.here (.here u4)))) <| wA (errV 104 y7) rfl rfl <| Qc ?_
  obtain rfl := sj he
  refine Qn fn_29 rs_29 (.box (v := .agg ⟨z2c⟩) rfl ty28 rfl rfl .h1 rfl (.tmp (v := errV 104 y7) rfl .nil)) <| ⟨⟨[_, _, _, _], rfl⟩, hle, ⟨.slice none 0 0, .slice none 0 0, .slice none 0 0, .slice none 0 0, rfl, (Q2 _ _), (Q2 _ _), (Q2 _ _), (Q2 _ _)⟩⟩
 ·
  refine QI rfl (Bool.eq_false_iff.2 c11) <| QF <| wR rfl <| w_d rfl (QM (o' := 0) Tryz.underlying28 rfl sz26 rfl rfl rfl) <| wL (Qa a.f_Low v0_a v1_a) ty26 rfl rfl .h3 rfl rfl <| w_d rfl (QM (o' := 4) Tryz.underlying28 rfl sz26 rfl rfl rfl) <| wL (Qa b.f_High v6_b v7_b) ty26 rfl rfl .h2 rfl rfl <| bK he fun y12 hy13 he => w_a rfl (Qj co60 (vs := [(Qa a.f_Low v0_a v1_a), (Qa b.f_High v6_b v7_b)]) rfl (X5.calls k (a := a.f_Low) (b := b.f_High) hy13 h0_a h1_a h6_b h7_b)) ?_
  rintro _ H14 _ ⟨rfl, e15, v16, v18, rfl, h17, h19⟩
  refine wM (.tuple ⟨[(Qa y12.1 v16 v18), errV 104 y12.2]⟩) rfl rfl <| w_d rfl (QS rfl rfl) <| w_d rfl (QS rfl rfl) <| wN zr26 rfl rfl fun b20 => wS (Qa y12.1 v16 v18) sz26 rfl rfl rfl rfl rfl (Xw h17 h19) .here u4 <| wA (errV 104 y12.2) rfl rfl <| wQ rfl <| w_d rfl (QM (o' := 4) Tryz.underlying28 rfl sz26 rfl rfl rfl) <| wL (Qa a.f_High v2_a v3_a) ty26 rfl rfl .h4 rfl rfl <| w_d rfl (QM (o' := 0) Tryz.underlying28 rfl sz26 rfl rfl rfl) ?_
  refine wL (Qa b.f_Low v4_b v5_b) ty26 rfl rfl .h3 rfl rfl <| bK he fun y21 hy22 he => w_a rfl (Qj co60 (vs := [(Qa a.f_High v2_a v3_a), (Qa b.f_Low v4_b v5_b)]) rfl (X5.calls k (a := a.f_High) (b := b.f_Low) hy22 (h2_a.mono e15) (h3_a.mono e15) (h4_b.mono e15) (h5_b.mono e15))) ?_
  rintro _ H23 _ ⟨rfl, e24, v25, v27, rfl, h26, h28⟩
  refine wM (.tuple ⟨[(Qa y21.1 v25 v27), errV 104 y21.2]⟩) rfl rfl <| w_d rfl (QS rfl rfl) <| w_d rfl (QS rfl rfl) <| wN zr26 rfl rfl fun b29 => wS (Qa y21.1 v25 v27) sz26 rfl rfl rfl rfl rfl (Xw h26 h28) .here u4 <| wA (errV 104 y21.2) rfl rfl <| wQ rfl <| wL (Qa y12.1 v16 v18) ty26 rfl rfl .h1 rfl rfl <| wM (errV 104 y12.2) rfl rfl <| wL (Qa y21.1 v25 v27) ty26 rfl rfl .here rfl rfl ?_
  refine wM (errV 104 y21.2) rfl rfl <| bK he fun y30 hy31 he => w_a rfl (Qj co80 (vs := [(Qa y12.1 v16 v18), errV 104 y12.2, (Qa y21.1 v25 v27), errV 104 y21.2]) rfl (Yu.calls k (low := y12.1) (high := y21.1) hy31 (h17.mono e24) (h19.mono e24) h26 h28)) ?_
  rintro _ H32 _ ⟨rfl, e33, v34, v36, v38, v40, rfl, h35, h37, h39, h41⟩
  refine w_d rfl (QS rfl rfl) <| w_d rfl (QS rfl rfl) <| wS (Qg y30.1 v34 v36 v38 v40) sz28 rfl rfl rfl rfl rfl (X6 h35 h37 h39 h41) .h3 (.here (.here (.here (.here u4)))) <| wA (errV 104 y30.2) rfl rfl <| Qc ?_
  obtain rfl := sj he
  refine Qn fn_29 rs_29 (.box (v := (Qg y30.1 v34 v36 v38 v40)) rfl ty28 rfl rfl .h3 rfl (.tmp (v := errV 104 y30.2) rfl .nil)) <| ⟨⟨[_, _, _, _, _, _], rfl⟩, hle.trans ((e15.trans e24).trans e33), ⟨v34, v36, v38, v40, rfl, h35, h37, h39, h41⟩⟩
noncomputable def Yj.C : Code := (Tryz.f77.body).getD .skip
def Yj.out (r : QG × (Option Int)) (H : Hp) (v : Value) : Prop := ∃ v0 v1, v = .tuple ⟨[(Qa r.1 v0 v1), errV 104 r.2]⟩ ∧ Ro kU32 H v0 r.1.f_n.f_w ∧ Ro kU32 H v1 r.1.f_d.f_w
theorem Yj.out_mono (r : QG × (Option Int)) {H H' : Hp} {v : Value} (hle : H.le H') (h : Yj.out r H v) : Yj.out r H' v := by
 obtain ⟨v0, v1, rfl, h0, h1⟩ := h; exact ⟨v0, v1, rfl, h0.mono hle, h1.mono hle⟩
noncomputable def Yj.f (k : Nat) (n m d e_ : Qu) : Option (QG × (Option Int)) := (XD.f k n m).bind fun y6 => if y6.2.isSome = true then (some (⟨⟨false, []⟩, ⟨false, []⟩⟩, y6.2)) else ((XD.f k d e_).bind fun y14 => if y14.2.isSome = true then (some (⟨⟨false, []⟩, ⟨false, []⟩⟩, y14.2)) else ((XH.f k y6.1 y14.1).bind fun y22 => some (y22.1, y22.2)))
theorem Yj.calls (k : Nat) {H : Hp} {L : Items} {n m d e_ : Qu} {v0_n v1_m v2_d v3_e_ : Value} {r : QG × (Option Int)} (he : Yj.f k n m d e_ = some r) (h0_n : Ro kU32 H v0_n n.f_w) (h1_m : Ro kU32 H v1_m m.f_w) (h2_d : Ro kU32 H v2_d d.f_w) (h3_e_ : Ro kU32 H v3_e_ e_.f_w) : Ct Tryz.prog 77 ⟨[(Qd n v0_n), (Qd m v1_m), (Qd d v2_d), (Qd e_ v3_e_)]⟩ H L (cR H L (Yj.out r)) := by
 refine XS (O := Yj.out r) ?_
 have hle : H.le H := .refl _
 unfold Yj.f at he
 refine QZ (args := [(Qd n v0_n), (Qd m v1_m), (Qd d v2_d), (Qd e_ v3_e_)]) fn_77 rfl nt_77 rfl <| wR rfl <| wB (Qd n v0_n) rfl rfl rfl <| fun b1 => wB (Qd m v1_m) rfl rfl rfl <| fun b2 => wB (Qd d v2_d) rfl rfl rfl <| fun b3 => wB (Qd e_ v3_e_) rfl rfl rfl <| fun b4 => wN zr26 rfl rfl fun b5 => wA (errV 104 none) rfl rfl <| wQ rfl ?_
 refine wL (Qd n v0_n) ty24 rfl rfl .h4 rfl rfl <| wL (Qd m v1_m) ty24 rfl rfl .h3 rfl rfl <| bK he fun y6 hy7 he => w_a rfl (Qj co128 (vs := [(Qd n v0_n), (Qd m v1_m)]) rfl (XD.calls k (a := n) (b := m) hy7 h0_n h1_m)) ?_
 rintro _ H8 _ ⟨rfl, e9, v10, rfl, h11⟩
 refine wM (.tuple ⟨[(Qd y6.1 v10), errV 104 y6.2]⟩) rfl rfl <| w_d rfl (QS rfl rfl) <| w_d rfl (QS rfl rfl) <| wN zr24 rfl rfl fun b12 => wS (Qd y6.1 v10) sz24 rfl rfl rfl rfl rfl (XF h11) .here u2 <| wA (errV 104 y6.2) rfl rfl <| wE <| wR rfl <| wM (errV 104 y6.2) rfl rfl <| w_d rfl (X1 (e := y6.2) Tryz.underlying30 rfl) ?_
 refine Qc ?_
 rcases its he with ⟨c13, he⟩ | ⟨c13, he⟩
 ·
  refine QB rfl c13 <| wR rfl <| w_d rfl (Xx (cs' := z0c) Tryz.underlying26 zr26 rfl (by kernel_rfl) (parts := []) rfl .nil) <| wM (errV 104 y6.2) rfl rfl <| wS (.agg ⟨z0c⟩) sz26 rfl rfl rfl rfl rfl (oc rfl (oc rfl (oc rfl (oc rfl oz)))) .h1 u4 <| wA (errV 104 y6.2) rfl rfl <| Qc ?_
  obtain rfl := sj he
  refine Qn fn_77 rs_77 (.box (v := .agg ⟨z0c⟩) rfl ty26 rfl rfl .h1 rfl (.tmp (v := errV 104 y6.2) rfl .nil)) <| ⟨⟨[_, _, _, _, _, _], rfl⟩, hle.trans e9, ⟨.slice none 0 0, .slice none 0 0, rfl, (Q2 _ _), (Q2 _ _)⟩⟩
 ·
  refine QI rfl (Bool.eq_false_iff.2 c13) <| QF <| wR rfl <| wL (Qd d v2_d) ty24 rfl rfl .h3 rfl rfl <| wL (Qd e_ v3_e_) ty24 rfl rfl .h2 rfl rfl <| bK he fun y14 hy15 he => w_a rfl (Qj co128 (vs := [(Qd d v2_d), (Qd e_ v3_e_)]) rfl (XD.calls k (a := d) (b := e_) hy15 (h2_d.mono e9) (h3_e_.mono e9))) ?_
  rintro _ H16 _ ⟨rfl, e17, v18, rfl, h19⟩
  refine wM (.tuple ⟨[(Qd y14.1 v18), errV 104 y14.2]⟩) rfl rfl <| w_d rfl (QS rfl rfl) <| w_d rfl (QS rfl rfl) <| wN zr24 rfl rfl fun b20 => wS (Qd y14.1 v18) sz24 rfl rfl rfl rfl rfl (XF h19) .here u2 <| wA (errV 104 y14.2) rfl rfl <| wE <| wR rfl <| wM (errV 104 y14.2) rfl rfl <| w_d rfl (X1 (e := y14.2) Tryz.underlying30 rfl) ?_
  refine Qc ?_
  rcases its he with ⟨c21, he⟩ | ⟨c21, he⟩
  ·
   refine QB rfl c21 <| wR rfl <| w_d rfl (Xx (cs' := z0c) Tryz.underlying26 zr26 rfl (by kernel_rfl) (parts := []) rfl .nil) <| wM (errV 104 y14.2) rfl rfl <| wS (.agg ⟨z0c⟩) sz26 rfl rfl rfl rfl rfl (oc rfl (oc rfl (oc rfl (oc rfl oz)))) .h2 u4 <| wA (errV 104 y14.2) rfl rfl <| Qc ?_
   obtain rfl := sj he
   refine Qn fn_77 rs_77 (.box (v := .agg ⟨z0c⟩) rfl ty26 rfl rfl .h2 rfl (.tmp (v := errV 104 y14.2) rfl .nil)) <| ⟨⟨[_, _, _, _, _, _, _], rfl⟩, hle.trans (e9.trans e17), ⟨.slice none 0 0, .slice none 0 0, rfl, (Q2 _ _), (Q2 _ _)⟩⟩
  ·
   refine QI rfl (Bool.eq_false_iff.2 c21) <| QF <| wR rfl <| wL (Qd y6.1 v10) ty24 rfl rfl .h1 rfl rfl <| wL (Qd y14.1 v18) ty24 rfl rfl .here rfl rfl <| bK he fun y22 hy23 he => w_a rfl (Qj co73 (vs := [(Qd y6.1 v10), (Qd y14.1 v18)]) rfl (XH.calls k (n := y6.1) (d := y14.1) hy23 (h11.mono e17) h19)) ?_
   rintro _ H24 _ ⟨rfl, e25, v26, v28, rfl, h27, h29⟩
   refine w_d rfl (QS rfl rfl) <| w_d rfl (QS rfl rfl) <| wS (Qa y22.1 v26 v28) sz26 rfl rfl rfl rfl rfl (Xw h27 h29) .h2 u4 <| wA (errV 104 y22.2) rfl rfl <| Qc ?_
   obtain rfl := sj he
   refine Qn fn_77 rs_77 (.box (v := (Qa y22.1 v26 v28)) rfl ty26 rfl rfl .h2 rfl (.tmp (v := errV 104 y22.2) rfl .nil)) <| ⟨⟨[_, _, _, _, _, _, _], rfl⟩, hle.trans ((e9.trans e17).trans e25), ⟨v26, v28, rfl, h27, h29⟩⟩
noncomputable def Ym.C : Code := (Tryz.f24.body).getD .skip
def Ym.out (r : QG × (Option Int)) (H : Hp) (v : Value) : Prop := ∃ v0 v1, v = .tuple ⟨[(Qa r.1 v0 v1), errV 104 r.2]⟩ ∧ Ro kU32 H v0 r.1.f_n.f_w ∧ Ro kU32 H v1 r.1.f_d.f_w
noncomputable def Ym.f (k : Nat) (a b : QG) : Option (QG × (Option Int)) := (QD.f k a).bind fun y4 => (QD.f k b).bind fun y10 => (Yj.f k a.f_n b.f_n y4 y10).bind fun y16 => some (y16.1, y16.2)
theorem Ym.calls (k : Nat) {H : Hp} {L : Items} {a b : QG} {v0_a v1_a v2_b v3_b : Value} {r : QG × (Option Int)} (he : Ym.f k a b = some r) (h0_a : Ro kU32 H v0_a a.f_n.f_w) (h1_a : Ro kU32 H v1_a a.f_d.f_w) (h2_b : Ro kU32 H v2_b b.f_n.f_w) (h3_b : Ro kU32 H v3_b b.f_d.f_w) : Ct Tryz.prog 24 ⟨[(Qa a v0_a v1_a), (Qa b v2_b v3_b)]⟩ H L (cR H L (Ym.out r)) := by
 refine XS (O := Ym.out r) ?_
 have hle : H.le H := .refl _
 unfold Ym.f at he
 refine QZ (args := [(Qa a v0_a v1_a), (Qa b v2_b v3_b)]) fn_24 rfl nt_24 rfl <| wR rfl <| wB (Qa a v0_a v1_a) rfl rfl rfl <| fun b1 => wB (Qa b v2_b v3_b) rfl rfl rfl <| fun b2 => wN zr26 rfl rfl fun b3 => wA (errV 104 none) rfl rfl <| wE <| bK he fun y4 hy5 he => bK he fun y10 hy11 he => bK he fun y16 hy17 he => ?_
 refine Xv (p := 11) (tl := [11, 12]) [[], [(0, some 6)], [], [(2, some 8)], [], [(4, some 10)], [], [(6, some 12)], [(1, some 7), (3, some 9), (5, some 11), (7, some 13)], [(8, some 14)], [(8, some 14)]] [some 6, some 7, some 8, some 9, some 10, some 11, some 12, some 13, some 14, some 15, some 16] (fctF (.is (pt b1) :: .is (Qd a.f_n v0_a) :: .is (pt b2) :: .is (Qd b.f_n v2_b) :: .is (Qa a v0_a v1_a) :: .of (QD.out y4) (QD.out_mono _) :: .is (Qa b v2_b v3_b) :: .of (QD.out y10) (QD.out_mono _) :: .of (Yj.out y16) (Yj.out_mono _) :: .of (fun H v => ∃ v24 v26, v = (Qa y16.1 v24 v26) ∧ Ro kU32 H v24 y16.1.f_n.f_w ∧ Ro kU32 H v26 y16.1.f_d.f_w) (by rintro _ _ _ hle ⟨v24, v26, rfl, h25, h27⟩; exact ⟨v24, v26, rfl, h25.mono hle, h27.mono hle⟩) :: .is (errV 104 y16.2) :: [])) (fun m_ => bx b3 z0c 26 :: bx b2 (Qt b v2_b v3_b) 26 :: bx b1 (Qt a v0_a v1_a) 26 :: L) (fun _ => none) mixed (by kernel_rfl) (by kernel_rfl) rfl (Xn (by kernel_rfl)) ⟨(fun H' m_ hH hm_ hu_ => dn <| s_d (m_ 0) rfl (QM (o' := 0) Tryz.underlying26 rfl sz24 rfl rfl rfl) (by exact rfl) rfl), (by rintro H' m_ hH hm_ hu_ _ rfl; exact dn <| s_d (m_ 1) rfl (Qq (v := (Qd a.f_n v0_a)) ty24 rfl .h2 rfl rfl rfl rfl) (by exact rfl) rfl), (fun H' m_ hH hm_ hu_ => dn <| s_d (m_ 2) rfl (QM (o' := 0) Tryz.underlying26 rfl sz24 rfl rfl rfl) (by exact rfl) rfl), (by rintro H' m_ hH hm_ hu_ _ rfl; exact dn <| s_d (m_ 3) rfl (Qq (v := (Qd b.f_n v2_b)) ty24 rfl .h1 rfl rfl rfl rfl) (by exact rfl) rfl), (fun H' m_ hH hm_ hu_ => dn <| s_d (m_ 4) rfl (Qq (v := (Qa a v0_a v1_a)) ty26 rfl .h2 rfl rfl rfl rfl) (by exact rfl) rfl), (by rintro H' m_ hH hm_ hu_ _ rfl; exact dn <| s_k (m_ 5) rfl (Qj co78 (vs := [(Qa a v0_a v1_a)]) rfl (QD.calls k (a := a) hy5 (h0_a.mono hH) (h1_a.mono hH))) rfl (by rintro v_ H_ _ ⟨rfl, e_, h_⟩; exact ⟨rfl, e_, h_⟩)), (fun H' m_ hH hm_ hu_ => dn <| s_d (m_ 6) rfl (Qq (v := (Qa b v2_b v3_b)) ty26 rfl .h1 rfl rfl rfl rfl) (by exact rfl) rfl), (by rintro H' m_ hH hm_ hu_ _ rfl; exact dn <| s_k (m_ 7) rfl (Qj co78 (vs := [(Qa b v2_b v3_b)]) rfl (QD.calls k (a := b) hy11 (h2_b.mono hH) (h3_b.mono hH))) rfl (by rintro v_ H_ _ ⟨rfl, e_, h_⟩; exact ⟨rfl, e_, h_⟩)), (by rintro H' m_ hH hm_ hu_ _ rfl _ rfl _ ⟨v8, rfl, h9⟩ _ ⟨v14, rfl, h15⟩; exact dn <| s_k (m_ 8) rfl (Qj co77 (vs := [(Qd a.f_n v0_a), (Qd b.f_n v2_b), (Qd y4 v8), (Qd y10 v14)]) rfl (Yj.calls k (n := a.f_n) (m := b.f_n) (d := y4) (e_ := y10) hy17 (h0_a.mono hH) (h2_b.mono hH) h9 h15)) rfl (by rintro v_ H_ _ ⟨rfl, e_, h_⟩; exact ⟨rfl, e_, h_⟩)), (by rintro H' m_ hH hm_ hu_ _ ⟨v20, v22, rfl, h21, h23⟩; exact dn <| s_d (m_ 9) rfl (QS rfl rfl) (by exact ⟨v20, v22, rfl, h21, h23⟩) rfl), (by rintro H' m_ hH hm_ hu_ _ ⟨v20, v22, rfl, h21, h23⟩; exact dn <| s_d (m_ 10) rfl (QS rfl rfl) (by exact rfl) rfl), trivial⟩ ?_
 intro H28 e29
 rintro _ _ rfl _ _ rfl _ _ rfl _ _ rfl _ _ rfl _ _ ⟨v8, rfl, h9⟩ _ _ rfl _ _ ⟨v14, rfl, h15⟩ _ _ ⟨v20, v22, rfl, h21, h23⟩ _ _ ⟨v24, v26, rfl, h25, h27⟩ _ _ rfl
 refine wS (Qa y16.1 v24 v26) sz26 rfl rfl rfl rfl rfl (Xw h25 h27) .here u4 <| wA (errV 104 y16.2) rfl rfl <| Qc ?_
 obtain rfl := sj he
 refine Qn fn_24 rs_24 (.box (v := (Qa y16.1 v24 v26)) rfl ty26 rfl rfl .here rfl (.tmp (v := errV 104 y16.2) rfl .nil)) <| ⟨⟨[_, _, _], rfl⟩, hle.trans e29, ⟨v24, v26, rfl, h25, h27⟩⟩
noncomputable def QC.C : Code := (Tryz.f82.body).getD .skip
def QC.out (r : QL × (Option Int)) (H : Hp) (v : Value) : Prop := ∃ v0 v1 v2 v3, v = .tuple ⟨[(Qg r.1 v0 v1 v2 v3), errV 104 r.2]⟩ ∧ Ro kU32 H v0 r.1.f_Low.f_n.f_w ∧ Ro kU32 H v1 r.1.f_Low.f_d.f_w ∧ Ro kU32 H v2 r.1.f_High.f_n.f_w ∧ Ro kU32 H v3 r.1.f_High.f_d.f_w
abbrev QC.R (H0 : Hp) (L : Items) (r : QL × (Option Int)) := fR H0 L (QC.out r)
structure QC.Hs where
 l0 : Bool → (List Int) → Bool → (List Int) → Bool → (List Int) → Bool → (List Int) → (Option Int) → Bool → (List Int) → Bool → (List Int) → Bool → (List Int) → Bool → (List Int) → (List QG) → Int → Int → Option (QL × (Option Int))
noncomputable def QC.j2 (k : Nat) (h : QC.Hs) (t2_0 : Bool) (t2_1 : List Int) (t2_2 : Bool) (t2_3 : List Int) (t2_4 : Bool) (t2_5 : List Int) (t2_6 : Bool) (t2_7 : List Int) (t3 : Option Int) (out_0 : Bool) (out_1 : List Int) (out_2 : Bool) (out_3 : List Int) (out_4 : Bool) (out_5 : List Int) (out_6 : Bool) (out_7 : List Int) (n_0 : Bool) (n_1 : List Int) (n_2 : Bool) (n_3 : List Int) (high : Int) (t19 : List QG) (t20 t21 : Int) : Option (QL × (Option Int)) := if 0 < high then (h.l0 t2_0 t2_1 t2_2 t2_3 t2_4 t2_5 t2_6 t2_7 t3 out_0 out_1 out_2 out_3 n_0 n_1 n_2 n_3 t19 t20 (w64 (t21 + 1))) else (h.l0 t2_0 t2_1 t2_2 t2_3 t2_4 t2_5 t2_6 t2_7 t3 out_0 out_1 out_2 out_3 out_4 out_5 out_6 out_7 t19 t20 (w64 (t21 + 1)))
noncomputable def QC.b0 (k : Nat) (h : QC.Hs) (t2_0 : Bool) (t2_1 : List Int) (t2_2 : Bool) (t2_3 : List Int) (t2_4 : Bool) (t2_5 : List Int) (t2_6 : Bool) (t2_7 : List Int) (t3 : Option Int) (out_0 : Bool) (out_1 : List Int) (out_2 : Bool) (out_3 : List Int) (out_4 : Bool) (out_5 : List Int) (out_6 : Bool) (out_7 : List Int) (t19 : List QG) (t20 t21 : Int) : Option (QL × (Option Int)) := if t21 < t20 then (if (0 : Int) ≤ t21 ∧ t21 < (t19.length : Int) then ((XW.f k (rd t19 t21) ⟨⟨out_0, out_1⟩, ⟨out_2, out_3⟩⟩).bind fun y29 => (XW.f k (rd t19 t21) ⟨⟨out_4, out_5⟩, ⟨out_6, out_7⟩⟩).bind fun y33 => if (y29.2.isSome || y33.2.isSome) = true then (some (⟨⟨⟨false, []⟩, ⟨false, []⟩⟩, ⟨⟨false, []⟩, ⟨false, []⟩⟩⟩, some 12)) else (if y29.1 < 0 then (QC.j2 k h t2_0 t2_1 t2_2 t2_3 t2_4 t2_5 t2_6 t2_7 t3 (((rd t19 t21).f_n).f_neg) (((rd t19 t21).f_n).f_w) (((rd t19 t21).f_d).f_neg) (((rd t19 t21).f_d).f_w) out_4 out_5 out_6 out_7 (((rd t19 t21).f_n).f_neg) (((rd t19 t21).f_n).f_w) (((rd t19 t21).f_d).f_neg) (((rd t19 t21).f_d).f_w) y33.1 t19 t20 t21) else (QC.j2 k h t2_0 t2_1 t2_2 t2_3 t2_4 t2_5 t2_6 t2_7 t3 out_0 out_1 out_2 out_3 out_4 out_5 out_6 out_7 (((rd t19 t21).f_n).f_neg) (((rd t19 t21).f_n).f_w) (((rd t19 t21).f_d).f_neg) (((rd t19 t21).f_d).f_w) y33.1 t19 t20 t21))) else none) else (some (⟨⟨⟨out_0, out_1⟩, ⟨out_2, out_3⟩⟩, ⟨⟨out_4, out_5⟩, ⟨out_6, out_7⟩⟩⟩, none))
noncomputable def QC.hs : Nat → QC.Hs
 | 0 => ⟨fun _ _ _ _ _ _ _ _ _ _ _ _ _ _ _ _ _ _ _ _ => none⟩
 | k + 1 => ⟨fun x0 x1 x2 x3 x4 x5 x6 x7 x8 x9 x10 x11 x12 x13 x14 x15 x16 x17 x18 x19 => QC.b0 k (QC.hs k) x0 x1 x2 x3 x4 x5 x6 x7 x8 x9 x10 x11 x12 x13 x14 x15 x16 x17 x18 x19⟩
noncomputable def QC.f (k : Nat) (l : List QG) : Option (QL × (Option Int)) := (fun h : QC.Hs => if (0 : Int) ≤ 0 ∧ 0 < (l.length : Int) then (if (0 : Int) ≤ 0 ∧ 0 < (l.length : Int) then (if (0 : Int) ≤ 1 ∧ (1 : Int) ≤ (l.length : Int) ∧ (l.length : Int) ≤ (l.length : Int) then (h.l0 false [] false [] false [] false [] none (((rd l 0).f_n).f_neg) (((rd l 0).f_n).f_w) (((rd l 0).f_d).f_neg) (((rd l 0).f_d).f_w) (((rd l 0).f_n).f_neg) (((rd l 0).f_n).f_w) (((rd l 0).f_d).f_neg) (((rd l 0).f_d).f_w) (cut l 1 (l.length : Int)) ((cut l 1 (l.length : Int)).length : Int) 0) else none) else none) else none) (QC.hs k)
noncomputable def QC.Kl0 : List Item := .code (lopB (blkB (seqR (seqL (seqR (seqR QC.C)))))) :: .inLoop (lopB (blkB (seqR (seqL (seqR (seqR QC.C)))))) :: .inBlock 0 :: .code (seqR (seqR (seqR QC.C))) :: []
noncomputable def QC.Kj2 : List Item := .code (seqR (seqR (seqR (seqR (seqR (blkB (seqL (seqR (seqR (lopB (blkB (seqR (seqL (seqR (seqR QC.C))))))))))))))) :: .inBlock 1 :: .code (seqR (seqR (seqR (lopB (blkB (seqR (seqL (seqR (seqR QC.C))))))))) :: .inLoop (lopB (blkB (seqR (seqL (seqR (seqR QC.C)))))) :: .inBlock 0 :: .code (seqR (seqR (seqR QC.C))) :: []
structure QC.OK (h : QC.Hs) : Prop where
 l0 : ∀ {H0 H : Hp} {L : Items} {r : QL × (Option Int)} {jk_ : Nat → Value} {t2_0 : Bool} {t2_1 : List Int} {t2_2 : Bool} {t2_3 : List Int} {t2_4 : Bool} {t2_5 : List Int} {t2_6 : Bool} {t2_7 : List Int} {t3 : Option Int} {out_0 : Bool} {out_1 : List Int} {out_2 : Bool} {out_3 : List Int} {out_4 : Bool} {out_5 : List Int} {out_6 : Bool} {out_7 : List Int} {t19 : List QG} {t20 : Int} {t21 : Int} {v_t2_1 : Value} {v_t2_3 : Value} {v_t2_5 : Value} {v_t2_7 : Value} {v_out_1 : Value} {v_out_3 : Value} {v_out_5 : Value} {v_out_7 : Value} {v_t19 : Value} {b_t2 : Nat} {b_out : Nat} (_ : H0.le H) (_he : h.l0 t2_0 t2_1 t2_2 t2_3 t2_4 t2_5 t2_6 t2_7 t3 out_0 out_1 out_2 out_3 out_4 out_5 out_6 out_7 t19 t20 t21 = some r) (_h_t2_1 : Ro kU32 H v_t2_1 t2_1) (_h_t2_3 : Ro kU32 H v_t2_3 t2_3) (_h_t2_5 : Ro kU32 H v_t2_5 t2_5) (_h_t2_7 : Ro kU32 H v_t2_7 t2_7) (_h_out_1 : Ro kU32 H v_out_1 out_1) (_h_out_3 : Ro kU32 H v_out_3 out_3) (_h_out_5 : Ro kU32 H v_out_5 out_5) (_h_out_7 : Ro kU32 H v_out_7 out_7) (_h_t19 : Src Xz H L v_t19 t19), Wp Tryz.prog 82 57 QC.Kl0 (upd (upd (upd (upd (upd (upd jk_ 2 (pt b_t2)) 3 (errV 104 t3)) 4 (pt b_out)) 19 (v_t19)) 20 (.int .i64 t20)) 21 (.int .i64 t21)) H (bx b_out [.bool out_0, v_out_1, .bool out_2, v_out_3, .bool out_4, v_out_5, .bool out_6, v_out_7] 28 :: bx b_t2 [.bool t2_0, v_t2_1, .bool t2_2, v_t2_3, .bool t2_4, v_t2_5, .bool t2_6, v_t2_7] 28 :: L) (QC.R H0 L r)
theorem QC.j2_ok {k : Nat} {h : QC.Hs} (hh : QC.OK h) {H0 H : Hp} {L : Items} {r : QL × (Option Int)} {jk_ : Nat → Value} {t2_0 : Bool} {t2_1 : List Int} {t2_2 : Bool} {t2_3 : List Int} {t2_4 : Bool} {t2_5 : List Int} {t2_6 : Bool} {t2_7 : List Int} {t3 : Option Int} {out_0 : Bool} {out_1 : List Int} {out_2 : Bool} {out_3 : List Int} {out_4 : Bool} {out_5 : List Int} {out_6 : Bool} {out_7 : List Int} {n_0 : Bool} {n_1 : List Int} {n_2 : Bool} {n_3 : List Int} {high : Int} {t19 : List QG} {t20 t21 : Int} {v_t2_1 v_t2_3 v_t2_5 v_t2_7 v_out_1 v_out_3 v_out_5 v_out_7 v_n_1 v_n_3 v_t19 : Value} {b_t2 b_out b_n : Nat} (hle : H0.le H) (he : QC.j2 k h t2_0 t2_1 t2_2 t2_3 t2_4 t2_5 t2_6 t2_7 t3 out_0 out_1 out_2 out_3 out_4 out_5 out_6 out_7 n_0 n_1 n_2 n_3 high t19 t20 t21 = some r) (h_t2_1 : Ro kU32 H v_t2_1 t2_1) (h_t2_3 : Ro kU32 H v_t2_3 t2_3) (h_t2_5 : Ro kU32 H v_t2_5 t2_5) (h_t2_7 : Ro kU32 H v_t2_7 t2_7) (h_out_1 : Ro kU32 H v_out_1 out_1) (h_out_3 : Ro kU32 H v_out_3 out_3) (h_out_5 : Ro kU32 H v_out_5 out_5) (h_out_7 : Ro kU32 H v_out_7 out_7) (h_n_1 : Ro kU32 H v_n_1 n_1) (h_n_3 : Ro kU32 H v_n_3 n_3) (h_t19 : Src Xz H L v_t19 t19) : Wp Tryz.prog 82 57 QC.Kj2 (upd (upd (upd (upd (upd (upd (upd (upd jk_ 2 (pt b_t2)) 3 (errV 104 t3)) 4 (pt b_out)) 6 (pt b_n)) 9 (.int .i64 high)) 19 (v_t19)) 20 (.int .i64 t20)) 21 (.int .i64 t21)) H (bx b_n [.bool n_0, v_n_1, .bool n_2, v_n_3] 26 :: bx b_out [.bool out_0, v_out_1, .bool out_2, v_out_3, .bool out_4, v_out_5, .bool out_6, v_out_7] 28 :: bx b_t2 [.bool t2_0, v_t2_1, .bool t2_2, v_t2_3, .bool t2_4, v_t2_5, .bool t2_6, v_t2_7] 28 :: L) (QC.R H0 L r) := by
 unfold QC.j2 at he
 unfold QC.Kj2
 refine wR rfl <| wM (.int .i64 high) rfl rfl <| w_d rfl (Zi rfl rfl) <| Qc ?_
 rcases its he with ⟨c41, he⟩ | ⟨c41, he⟩
 ·
  refine QB rfl (dt c41) <| QH rfl <| wL (.agg ⟨[.bool n_0, v_n_1, .bool n_2, v_n_3]⟩) ty26 rfl rfl .here rfl rfl <| w_d rfl (QM (o' := 4) Tryz.underlying28 rfl sz26 rfl rfl rfl) <| wS (.agg ⟨[.bool n_0, v_n_1, .bool n_2, v_n_3]⟩) sz26 rfl rfl rfl rfl rfl (oc rfl (oc (h_n_1.one) (oc rfl (oc (h_n_3.one) oz)))) .h1 (.there (.there (.there (.there u4)))) <| Qc <| Xp <| QH rfl <| w_d rfl (XG (c := w64 (t21 + 1)) rfl rfl rfl) <| wM (.int .i64 (w64 (t21 + 1))) rfl rfl <| Qc <| Xy ?_
  refine Yw .here <| w_sl 2 (pt b_t2) rfl <| w_sl 3 (errV 104 t3) rfl <| w_sl 4 (pt b_out) rfl <| w_sl 19 (v_t19) rfl <| w_sl 20 (.int .i64 t20) rfl <| w_sl 21 (.int .i64 (w64 (t21 + 1))) rfl <| hh.l0 hle he h_t2_1 h_t2_3 h_t2_5 h_t2_7 h_out_1 h_out_3 h_n_1 h_n_3 h_t19
 ·
  refine QI rfl (df c41) <| QF <| Xp <| QH rfl <| w_d rfl (XG (c := w64 (t21 + 1)) rfl rfl rfl) <| wM (.int .i64 (w64 (t21 + 1))) rfl rfl <| Qc <| Xy <| Yw .here <| w_sl 2 (pt b_t2) rfl <| w_sl 3 (errV 104 t3) rfl <| w_sl 4 (pt b_out) rfl ?_
  refine w_sl 19 (v_t19) rfl <| w_sl 20 (.int .i64 t20) rfl <| w_sl 21 (.int .i64 (w64 (t21 + 1))) rfl <| hh.l0 hle he h_t2_1 h_t2_3 h_t2_5 h_t2_7 h_out_1 h_out_3 h_out_5 h_out_7 h_t19
theorem QC.b0_ok {k : Nat} {h : QC.Hs} (hh : QC.OK h) {H0 H : Hp} {L : Items} {r : QL × (Option Int)} {jk_ : Nat → Value} {t2_0 : Bool} {t2_1 : List Int} {t2_2 : Bool} {t2_3 : List Int} {t2_4 : Bool} {t2_5 : List Int} {t2_6 : Bool} {t2_7 : List Int} {t3 : Option Int} {out_0 : Bool} {out_1 : List Int} {out_2 : Bool} {out_3 : List Int} {out_4 : Bool} {out_5 : List Int} {out_6 : Bool} {out_7 : List Int} {t19 : List QG} {t20 t21 : Int} {v_t2_1 v_t2_3 v_t2_5 v_t2_7 v_out_1 v_out_3 v_out_5 v_out_7 v_t19 : Value} {b_t2 b_out : Nat} (hle : H0.le H) (he : QC.b0 k h t2_0 t2_1 t2_2 t2_3 t2_4 t2_5 t2_6 t2_7 t3 out_0 out_1 out_2 out_3 out_4 out_5 out_6 out_7 t19 t20 t21 = some r) (h_t2_1 : Ro kU32 H v_t2_1 t2_1) (h_t2_3 : Ro kU32 H v_t2_3 t2_3) (h_t2_5 : Ro kU32 H v_t2_5 t2_5) (h_t2_7 : Ro kU32 H v_t2_7 t2_7) (h_out_1 : Ro kU32 H v_out_1 out_1) (h_out_3 : Ro kU32 H v_out_3 out_3) (h_out_5 : Ro kU32 H v_out_5 out_5) (h_out_7 : Ro kU32 H v_out_7 out_7) (h_t19 : Src Xz H L v_t19 t19) : Wp Tryz.prog 82 57 QC.Kl0 (upd (upd (upd (upd (upd (upd jk_ 2 (pt b_t2)) 3 (errV 104 t3)) 4 (pt b_out)) 19 (v_t19)) 20 (.int .i64 t20)) 21 (.int .i64 t21)) H (bx b_out [.bool out_0, v_out_1, .bool out_2, v_out_3, .bool out_4, v_out_5, .bool out_6, v_out_7] 28 :: bx b_t2 [.bool t2_0, v_t2_1, .bool t2_2, v_t2_3, .bool t2_4, v_t2_5, .bool t2_6, v_t2_7] 28 :: L) (QC.R H0 L r) := by
 unfold QC.b0 at he
 unfold QC.Kl0
 refine wR rfl <| w_d rfl (XO rfl rfl) <| wE ?_
 rcases its he with ⟨c20, he⟩ | ⟨c20, he⟩
 ·
  refine QB rfl (dt c20) <| QF <| QX <| Q8 <| wR rfl <| rK he fun c21 he => w_d rfl (XT (sz := 4) Tryz.underlying81 sz26 rfl h_t19.th.th rfl c21) ?_
  obtain ⟨_, l22, r23⟩ := Z5 (kd := Xz) h_t19.th.th c21
  obtain ⟨v24, v26, rfl, h25, h27⟩ := Zt r23
  refine w_d rfl (ZE (v := .agg ⟨[.bool (((rd t19 t21).f_n).f_neg), v24, .bool (((rd t19 t21).f_d).f_neg), v26]⟩) (cs := [.bool (((rd t19 t21).f_n).f_neg), v24, .bool (((rd t19 t21).f_d).f_neg), v26]) ty26 rfl rfl (by decide) l22 rfl) <| wN zr26 rfl rfl fun b28 => wS (.agg ⟨[.bool (((rd t19 t21).f_n).f_neg), v24, .bool (((rd t19 t21).f_d).f_neg), v26]⟩) sz26 rfl rfl rfl rfl rfl (oc rfl (oc (h25.one) (oc rfl (oc (h27.one) oz)))) .here u4 <| wQ rfl <| w_d rfl (Qq (v := .agg ⟨[.bool (((rd t19 t21).f_n).f_neg), v24, .bool (((rd t19 t21).f_d).f_neg), v26]⟩) ty26 rfl .here rfl rfl rfl rfl) <| w_d rfl (QM (o' := 0) Tryz.underlying28 rfl sz26 rfl rfl rfl) <| wL (.agg ⟨[.bool out_0, v_out_1, .bool out_2, v_out_3]⟩) ty26 rfl rfl .h1 rfl rfl <| bK he fun y29 hy30 he => w_d rfl (Xi (Qj co56 (vs := [.agg ⟨[.bool (((rd t19 t21).f_n).f_neg), v24, .bool (((rd t19 t21).f_d).f_neg), v26]⟩, .agg ⟨[.bool out_0, v_out_1, .bool out_2, v_out_3]⟩]) rfl (XW.calls k (a := (rd t19 t21)) (b := ⟨⟨out_0, out_1⟩, ⟨out_2, out_3⟩⟩) hy30 h25 h27 h_out_1 h_out_3))) <| wM (.tuple ⟨[.int .i64 y29.1, errV 104 y29.2]⟩) rfl rfl ?_
  refine w_d rfl (QS rfl rfl) <| w_d rfl (QS rfl rfl) <| wA (.int .i64 y29.1) rfl rfl <| wA (errV 104 y29.2) rfl rfl <| wQ rfl <| w_d rfl (Qq (v := .agg ⟨[.bool (((rd t19 t21).f_n).f_neg), v24, .bool (((rd t19 t21).f_d).f_neg), v26]⟩) ty26 rfl .here rfl rfl rfl rfl) <| w_d rfl (QM (o' := 4) Tryz.underlying28 rfl sz26 rfl rfl rfl) <| wL (.agg ⟨[.bool out_4, v_out_5, .bool out_6, v_out_7]⟩) ty26 rfl rfl .h1 rfl rfl <| bK he fun y33 hy34 he => w_d rfl (Xi (Qj co56 (vs := [.agg ⟨[.bool (((rd t19 t21).f_n).f_neg), v24, .bool (((rd t19 t21).f_d).f_neg), v26]⟩, .agg ⟨[.bool out_4, v_out_5, .bool out_6, v_out_7]⟩]) rfl (XW.calls k (a := (rd t19 t21)) (b := ⟨⟨out_4, out_5⟩, ⟨out_6, out_7⟩⟩) hy34 h25 h27 h_out_5 h_out_7))) ?_
  refine wM (.tuple ⟨[.int .i64 y33.1, errV 104 y33.2]⟩) rfl rfl <| w_d rfl (QS rfl rfl) <| w_d rfl (QS rfl rfl) <| wA (.int .i64 y33.1) rfl rfl <| wA (errV 104 y33.2) rfl rfl <| wE <| wR rfl <| wM (errV 104 y29.2) rfl rfl <| w_d rfl (X1 (e := y29.2) Tryz.underlying30 rfl) <| wM (.bool y29.2.isSome) rfl rfl ?_
  refine w_g (g := !y29.2.isSome) rfl rfl rfl wn_f (fun g37 => QR (v := errV 104 y33.2) rfl) <| w_g (g := !y29.2.isSome) rfl rfl rfl wn_f (fun g38 => X1 (e := y33.2) Tryz.underlying30 (cvt g38)) <| w_d rfl (d_or' (b := y29.2.isSome) (p := y33.2.isSome) rfl rfl rfl) <| Qc ?_
  rcases its he with ⟨c39, he⟩ | ⟨c39, he⟩
  ·
   refine QB rfl c39 <| wR rfl <| w_d rfl (Xx (cs' := z2c) Tryz.underlying28 zr28 rfl (by kernel_rfl) (parts := []) rfl .nil) <| w_d rfl (Zp (v := .int .i64 12) Tryz.underlying104 rfl rfl) <| wS (.agg ⟨z2c⟩) sz28 rfl rfl rfl rfl rfl (oc rfl (oc rfl (oc rfl (oc rfl (oc rfl (oc rfl (oc rfl (oc rfl oz)))))))) .h2 (.here (.here (.here (.here u4)))) <| wA (errV 104 (some 12)) rfl rfl <| Qc ?_
   obtain rfl := sj he
   refine Qn fn_82 rs_82 (.box (v := .agg ⟨z2c⟩) rfl ty28 rfl rfl .h2 rfl (.tmp (v := errV 104 (some 12)) rfl .nil)) <| ⟨⟨[_, _, _], rfl⟩, hle, ⟨.slice none 0 0, .slice none 0 0, .slice none 0 0, .slice none 0 0, rfl, (Q2 _ _), (Q2 _ _), (Q2 _ _), (Q2 _ _)⟩⟩
  ·
   refine QI rfl (Bool.eq_false_iff.2 c39) <| QF <| QX <| wR rfl <| wM (.int .i64 y29.1) rfl rfl <| w_d rfl (XO rfl rfl) <| Qc ?_
   rcases its he with ⟨c40, he⟩ | ⟨c40, he⟩
   ·
    refine QB rfl (dt c40) <| QH rfl <| w_d rfl (Qq (v := .agg ⟨[.bool (((rd t19 t21).f_n).f_neg), v24, .bool (((rd t19 t21).f_d).f_neg), v26]⟩) ty26 rfl .here rfl rfl rfl rfl) <| w_d rfl (QM (o' := 0) Tryz.underlying28 rfl sz26 rfl rfl rfl) <| wS (.agg ⟨[.bool (((rd t19 t21).f_n).f_neg), v24, .bool (((rd t19 t21).f_d).f_neg), v26]⟩) sz26 rfl rfl rfl rfl rfl (oc rfl (oc (h25.one) (oc rfl (oc (h27.one) oz)))) .h1 u4 <| Qc <| w_sl 2 (pt b_t2) rfl <| w_sl 3 (errV 104 t3) rfl <| w_sl 4 (pt b_out) rfl <| w_sl 6 (pt b28) rfl <| w_sl 9 (.int .i64 y33.1) rfl <| w_sl 19 (v_t19) rfl ?_
    refine w_sl 20 (.int .i64 t20) rfl <| w_sl 21 (.int .i64 t21) rfl <| QC.j2_ok (k := k) hh hle he h_t2_1 h_t2_3 h_t2_5 h_t2_7 h25 h27 h_out_5 h_out_7 h25 h27 h_t19
   ·
    refine QI rfl (df c40) <| QF <| w_sl 2 (pt b_t2) rfl <| w_sl 3 (errV 104 t3) rfl <| w_sl 4 (pt b_out) rfl <| w_sl 6 (pt b28) rfl <| w_sl 9 (.int .i64 y33.1) rfl <| w_sl 19 (v_t19) rfl <| w_sl 20 (.int .i64 t20) rfl <| w_sl 21 (.int .i64 t21) rfl <| QC.j2_ok (k := k) hh hle he h_t2_1 h_t2_3 h_t2_5 h_t2_7 h_out_1 h_out_3 h_out_5 h_out_7 h25 h27 h_t19
 ·
  refine QI rfl (df c20) <| Ya rfl <| wR rfl <| wL (.agg ⟨[.bool out_0, v_out_1, .bool out_2, v_out_3, .bool out_4, v_out_5, .bool out_6, v_out_7]⟩) ty28 rfl rfl .here rfl rfl <| wS (.agg ⟨[.bool out_0, v_out_1, .bool out_2, v_out_3, .bool out_4, v_out_5, .bool out_6, v_out_7]⟩) sz28 rfl rfl rfl rfl rfl (oc rfl (oc (h_out_1.one) (oc rfl (oc (h_out_3.one) (oc rfl (oc (h_out_5.one) (oc rfl (oc (h_out_7.one) oz)))))))) .h1 (.here (.here (.here (.here u4)))) <| wA (errV 104 none) rfl rfl <| Qc ?_
  obtain rfl := sj he
  refine Qn fn_82 rs_82 (.box (v := .agg ⟨[.bool out_0, v_out_1, .bool out_2, v_out_3, .bool out_4, v_out_5, .bool out_6, v_out_7]⟩) rfl ty28 rfl rfl .h1 rfl (.tmp (v := errV 104 none) rfl .nil)) <| ⟨⟨[_, _], rfl⟩, hle, ⟨v_out_1, v_out_3, v_out_5, v_out_7, rfl, h_out_1, h_out_3, h_out_5, h_out_7⟩⟩
theorem QC.ok : ∀ k, QC.OK (QC.hs k)
 | 0 => ⟨(by intros; exact nomatch (show none = some _ from by assumption))⟩
 | k + 1 => ⟨QC.b0_ok (k := k) (QC.ok k)⟩
theorem QC.calls (k : Nat) {H : Hp} {L : Items} {l : List QG} {v0_l : Value} {r : QL × (Option Int)} (he : QC.f k l = some r) (h0_l : Src Xz H L v0_l l) : Ct Tryz.prog 82 ⟨[v0_l]⟩ H L (cR H L (QC.out r)) := by
 refine XS (O := QC.out r) ?_
 have hle : H.le H := .refl _
 have hh := QC.ok k
 unfold QC.f at he
 refine QZ (args := [v0_l]) fn_82 rfl nt_82 rfl <| wR rfl <| wN zr28 rfl rfl fun b1 => wA (errV 104 none) rfl rfl <| wE <| rK he fun c2 he => ?_
 obtain ⟨_, l3, r4⟩ := Z5 (kd := Xz) h0_l.th c2
 obtain ⟨v5, v7, rfl, h6, h8⟩ := Zt r4
 refine rK he fun c9 he => ?_
 obtain ⟨_, l10, r11⟩ := Z5 (kd := Xz) h0_l.th c9
 obtain ⟨v12, v14, rfl, h13, h15⟩ := Zt r11
 refine YF (?_)
 refine Xv (p := 8) (tl := [8]) [[], [(0, some 11)], [(1, some 12)], [], [(3, some 14)], [(4, some 15)], [(2, some 13), (5, some 16)], []] [some 11, some 12, some 13, some 14, some 15, some 16, some 17, some 4] (fctF (.is (v0_l) :: .is (.pointer (some (pel v0_l 0 4))) :: .is (.agg ⟨[.bool (((rd l 0).f_n).f_neg), v5, .bool (((rd l 0).f_d).f_neg), v7]⟩) :: .is (v0_l) :: .is (.pointer (some (pel v0_l 0 4))) :: .is (.agg ⟨[.bool (((rd l 0).f_n).f_neg), v12, .bool (((rd l 0).f_d).f_neg), v14]⟩) :: .is (.agg ⟨[.bool (((rd l 0).f_n).f_neg), v5, .bool (((rd l 0).f_d).f_neg), v7, .bool (((rd l 0).f_n).f_neg), v12, .bool (((rd l 0).f_d).f_neg), v14]⟩) :: .box 28 z2c :: [])) (fun m_ => m_ 7 :: bx b1 z2c 28 :: L) (fun _ => none) mixed (by kernel_rfl) (by kernel_rfl) rfl (Xn (by kernel_rfl)) ⟨(fun H' m_ hH hm_ hu_ => dn <| s_d (m_ 0) rfl (QR (v := v0_l) rfl) (by exact rfl) rfl), (by rintro H' m_ hH hm_ hu_ _ rfl; exact dn <| s_d (m_ 1) rfl (XT (sz := 4) Tryz.underlying81 sz26 rfl (h0_l.mono hH).th.th rfl c2) (by exact rfl) rfl), (by rintro H' m_ hH hm_ hu_ _ rfl; exact dn <| s_d (m_ 2) rfl (ZE (v := .agg ⟨[.bool (((rd l 0).f_n).f_neg), v5, .bool (((rd l 0).f_d).f_neg), v7]⟩) (cs := [.bool (((rd l 0).f_n).f_neg), v5, .bool (((rd l 0).f_d).f_neg), v7]) ty26 rfl rfl (by decide) (l3.mono hH).th rfl) (by exact rfl) rfl), (fun H' m_ hH hm_ hu_ => dn <| s_d (m_ 3) rfl (QR (v := v0_l) rfl) (by exact rfl) rfl), (by rintro H' m_ hH hm_ hu_ _ rfl; exact dn <| s_d (m_ 4) rfl (XT (sz := 4) Tryz.underlying81 sz26 rfl (h0_l.mono hH).th.th rfl c9) (by exact rfl) rfl), (by rintro H' m_ hH hm_ hu_ _ rfl; exact dn <| s_d (m_ 5) rfl (ZE (v := .agg ⟨[.bool (((rd l 0).f_n).f_neg), v12, .bool (((rd l 0).f_d).f_neg), v14]⟩) (cs := [.bool (((rd l 0).f_n).f_neg), v12, .bool (((rd l 0).f_d).f_neg), v14]) ty26 rfl rfl (by decide) (l10.mono hH).th rfl) (by exact rfl) rfl), (by rintro H' m_ hH hm_ hu_ _ rfl _ rfl; exact dn <| s_d (m_ 6) rfl (Xx (cs' := [.bool (((rd l 0).f_n).f_neg), v5, .bool (((rd l 0).f_d).f_neg), v7, .bool (((rd l 0).f_n).f_neg), v12, .bool (((rd l 0).f_d).f_neg), v14]) Tryz.underlying28 zr28 rfl (by kernel_rfl) (parts := [(0, .agg ⟨[.bool (((rd l 0).f_n).f_neg), v5, .bool (((rd l 0).f_d).f_neg), v7]⟩), (1, .agg ⟨[.bool (((rd l 0).f_n).f_neg), v12, .bool (((rd l 0).f_d).f_neg), v14]⟩)]) rfl (.cons (X2 rfl sz26 rfl) rfl rfl u4 (.cons (X2 rfl sz26 rfl) rfl rfl (.there (.there (.there (.there u4)))) .nil))) (by exact rfl) rfl), (fun H' m_ hH hm_ hu_ => dn <| Ze hm_ rfl rfl (YJ zr28 rfl) rfl (fun _ => .here) (by exact fun b_ => ⟨b_, rfl, rfl⟩)), trivial⟩ ?_
 intro H17 e18
 rintro _ _ rfl _ _ rfl _ _ rfl _ _ rfl _ _ rfl _ _ rfl _ _ rfl _ _ ⟨b16, rfl, rfl⟩
 refine wS (.agg ⟨[.bool (((rd l 0).f_n).f_neg), v5, .bool (((rd l 0).f_d).f_neg), v7, .bool (((rd l 0).f_n).f_neg), v12, .bool (((rd l 0).f_d).f_neg), v14]⟩) sz28 rfl rfl rfl rfl rfl (oc rfl (oc (h6.one) (oc rfl (oc (h8.one) (oc rfl (oc (h13.one) (oc rfl (oc (h15.one) oz)))))))) .here (.here (.here (.here (.here u4)))) <| wE <| wR rfl <| wM v0_l rfl rfl <| rK he fun c19 he => w_d rfl (WF (kd := Xz) Tryz.underlying81 sz26 rfl (h0_l.mono e18).th.th (.inr ⟨_, _, rfl, rfl⟩) (.inl ⟨rfl, rfl⟩) c19) <| w_d rfl (XL Tryz.underlying81 rfl ((NQ (kd := Xz) h0_l c19).mono e18).th.th) <| wM (.int .i64 0) rfl rfl <| Qc <| Q8 ?_
 refine Ye <| w_sl 2 (pt b1) rfl <| w_sl 3 (errV 104 none) rfl <| w_sl 4 (pt b16) rfl <| w_sl 19 (cutv Xz.sz v0_l 1 (l.length : Int)) rfl <| w_sl 20 (.int .i64 ((cut l 1 (l.length : Int)).length : Int)) rfl <| w_sl 21 (.int .i64 0) rfl <| hh.l0 (hle.trans e18) he (Q2 _ _) (Q2 _ _) (Q2 _ _) (Q2 _ _) (h6.mono e18) (h8.mono e18) (h13.mono e18) (h15.mono e18) ((NQ (kd := Xz) h0_l c19).mono e18)
end Go.Proofs.YtkccpkccdbfomaaGreatDoor.GSS

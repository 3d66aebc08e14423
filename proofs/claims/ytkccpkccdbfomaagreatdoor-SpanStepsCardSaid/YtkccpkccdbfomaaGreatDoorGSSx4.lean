/- printed by gen.py -/
import Derived.Test.YtkccpkccdbfomaaGreatDoorGSSx3
namespace Go.Proofs.YtkccpkccdbfomaaGreatDoor.GSS
open Go Go.RowKit Go.Proofs.YtkccpkccdbfomaaGreatDoorK Go.Proofs.YtkccpkccdbfomaaGreatDoor
set_option maxRecDepth 100000
set_option maxHeartbeats 2000000
set_option linter.unusedVariables false
set_option linter.unusedSimpArgs false
noncomputable def Xs.C : Code := (Tryz.f124.body).getD .skip
def Xs.out (r : Qu × Qu × (Option Int)) (H : Hp) (v : Value) : Prop := ∃ v0 v1, v = .tuple ⟨[(Qd r.1 v0), (Qd r.2.1 v1), errV 104 r.2.2]⟩ ∧ Ro kU32 H v0 r.1.f_w ∧ Ro kU32 H v1 r.2.1.f_w
abbrev Xs.R (H0 : Hp) (L : Items) (r : Qu × Qu × (Option Int)) := fR H0 L (Xs.out r)
noncomputable def Xs.j1 (k : Nat) (b_0 : Bool) (b_1 r_ : List Int) (x_0 : Bool) (x_1 : List Int) (one_0 : Bool) (one_1 : List Int) : Option (Qu × Qu × (Option Int)) := (Xl.f k ⟨x_0, x_1⟩ ⟨one_0, one_1⟩).bind fun y50 => if y50.2.isSome = true then (some (⟨false, []⟩, ⟨false, []⟩, y50.2)) else ((QQ.f k b_1 r_).bind fun y57 => some (y50.1, ⟨false, y57⟩, none))
noncomputable def Xs.f (k : Nat) (a b : Qu) : Option (Qu × Qu × (Option Int)) := if (b.f_w.length : Int) = 0 then (some (⟨false, []⟩, ⟨false, []⟩, some 11)) else ((QV.f k a.f_w b.f_w).bind fun y6 => (XN.f k (!(a.f_neg == b.f_neg)) y6.1).bind fun y14 => if y14.2.isSome = true then (some (⟨false, []⟩, ⟨false, []⟩, y14.2)) else (if ((!a.f_neg) || (decide ((y6.2.length : Int) = 0))) = true then ((Xf.f k y6.2).bind fun y26 => some (y14.1, ⟨false, y26⟩, none)) else ((XR.f k 1).bind fun y36 => if (!b.f_neg) = true then ((XC.f k y36).bind fun y44 => Xs.j1 k b.f_neg b.f_w y6.2 y14.1.f_neg y14.1.f_w y44.f_neg y44.f_w) else (Xs.j1 k b.f_neg b.f_w y6.2 y14.1.f_neg y14.1.f_w y36.f_neg y36.f_w))))
theorem Xs.j1_mono {k : Nat} : ∀ y0 y1 y2 y3 y4 y5 y6, LeO (Xs.j1 k y0 y1 y2 y3 y4 y5 y6) (Xs.j1 (k + 1) y0 y1 y2 y3 y4 y5 y6) := fun _ _ _ _ _ _ _ => (LeO.bind (Xl.mono k _ _) fun _ => LeO.ite (LeO.refl _) (LeO.bind (QQ.mono k _ _) fun _ => LeO.refl _))
theorem Xs.mono : ∀ k y0 y1, LeO (Xs.f k y0 y1) (Xs.f (k + 1) y0 y1) := fun k _ _ => by unfold Xs.f; exact (LeO.ite (LeO.refl _) (LeO.bind (QV.mono k _ _) fun _ => LeO.bind (XN.mono k _ _) fun _ => LeO.ite (LeO.refl _) (LeO.ite (LeO.bind (Xf.mono k _) fun _ => LeO.refl _) (LeO.bind (XR.mono k _) fun _ => LeO.ite (LeO.bind (XC.mono k _) fun _ => Xs.j1_mono (k := k)  _ _ _ _ _ _ _) (Xs.j1_mono (k := k)  _ _ _ _ _ _ _)))))
noncomputable def Xs.Kj1 : List Item := .code (seqR (seqR (seqR (seqR (seqR (seqR (seqR (seqR Xs.C)))))))) :: []
theorem Xs.j1_ok {k : Nat} {H0 H : Hp} {L : Items} {r : Qu × Qu × (Option Int)} {jk_ : Nat → Value} {b_0 : Bool} {b_1 r_ : List Int} {x_0 : Bool} {x_1 : List Int} {one_0 : Bool} {one_1 : List Int} {v_b_1 v_r_ v_x_1 v_one_1 : Value} {b_b b_t4 b_t5 b_x b_one_ : Nat} (hle : H0.le H) (he : Xs.j1 k b_0 b_1 r_ x_0 x_1 one_0 one_1 = some r) (h_b_1 : Ro kU32 H v_b_1 b_1) (h_r_ : Ro kU32 H v_r_ r_) (h_x_1 : Ro kU32 H v_x_1 x_1) (h_one_1 : Ro kU32 H v_one_1 one_1) : Wp Tryz.prog 124 77 Xs.Kj1 (upd (upd (upd (upd (upd (upd (upd jk_ 3 (pt b_b)) 4 (pt b_t4)) 5 (pt b_t5)) 6 (errV 104 none)) 8 (v_r_)) 9 (pt b_x)) 11 (pt b_one_)) H (bx b_one_ [.bool one_0, v_one_1] 24 :: bx b_x [.bool x_0, v_x_1] 24 :: bx b_t5 [.bool false, .slice none 0 0] 24 :: bx b_t4 [.bool false, .slice none 0 0] 24 :: bx b_b [.bool b_0, v_b_1] 24 :: L) (Xs.R H0 L r) := by
 unfold Xs.j1 at he
 unfold Xs.Kj1
 refine wR rfl <| wL (.agg ⟨[.bool x_0, v_x_1]⟩) ty24 rfl rfl .h1 rfl rfl <| wL (.agg ⟨[.bool one_0, v_one_1]⟩) ty24 rfl rfl .here rfl rfl <| bK he fun y50 hy51 he => w_a rfl (Qj co127 (vs := [.agg ⟨[.bool x_0, v_x_1]⟩, .agg ⟨[.bool one_0, v_one_1]⟩]) rfl (Xl.calls k (a := ⟨x_0, x_1⟩) (b := ⟨one_0, one_1⟩) hy51 h_x_1 h_one_1)) ?_
 rintro _ H52 _ ⟨rfl, e53, v54, rfl, h55⟩
 refine wM (.tuple ⟨[(Qd y50.1 v54), errV 104 y50.2]⟩) rfl rfl <| w_d rfl (QS rfl rfl) <| w_d rfl (QS rfl rfl) <| wS (Qd y50.1 v54) sz24 rfl rfl rfl rfl rfl (XF h55) .h1 u2 <| wA (errV 104 y50.2) rfl rfl <| wE <| wR rfl <| wM (errV 104 y50.2) rfl rfl <| w_d rfl (X1 (e := y50.2) Tryz.underlying30 rfl) <| Qc ?_
 rcases its he with ⟨c56, he⟩ | ⟨c56, he⟩
 ·
  refine QB rfl c56 <| wR rfl <| w_d rfl (Xx (cs' := [.bool false, .slice none 0 0]) Tryz.underlying24 zr24 rfl (by kernel_rfl) (parts := []) rfl .nil) <| w_d rfl (Xx (cs' := [.bool false, .slice none 0 0]) Tryz.underlying24 zr24 rfl (by kernel_rfl) (parts := []) rfl .nil) <| wM (errV 104 y50.2) rfl rfl <| wS (.agg ⟨[.bool false, .slice none 0 0]⟩) sz24 rfl rfl rfl rfl rfl (oc rfl (oc rfl oz)) .h3 u2 <| wS (.agg ⟨[.bool false, .slice none 0 0]⟩) sz24 rfl rfl rfl rfl rfl (oc rfl (oc rfl oz)) .h2 u2 <| wA (errV 104 y50.2) rfl rfl <| Qc ?_
  obtain rfl := sj he
  refine Qn fn_124 rs_124 (.box (v := .agg ⟨[.bool false, .slice none 0 0]⟩) rfl ty24 rfl rfl .h3 rfl (.box (v := .agg ⟨[.bool false, .slice none 0 0]⟩) rfl ty24 rfl rfl .h2 rfl (.tmp (v := errV 104 y50.2) rfl .nil))) <| ⟨⟨[_, _, _, _, _], rfl⟩, hle.trans e53, ⟨.slice none 0 0, .slice none 0 0, rfl, (Q2 _ _), (Q2 _ _)⟩⟩
 ·
  refine QI rfl (Bool.eq_false_iff.2 c56) <| QF <| QX <| bK he fun y57 hy58 he => Xv (p := 7) (tl := [7, 8]) [[], [], [(1, some 72)], [], [(2, some 73), (3, some 74)], [(4, some 75)], [(0, some 71)]] [some 71, some 72, some 73, some 74, some 75, some 76, none] (fctF (.is (Qd y50.1 v54) :: .is (po b_b 1) :: .is (v_b_1) :: .is (v_r_) :: .ro kU32 (y57) :: .of (fun H v => ∃ v63, v = .agg ⟨[.bool false, v63]⟩ ∧ Ro kU32 H v63 y57) (by rintro _ _ _ hle ⟨v63, rfl, h64⟩; exact ⟨v63, rfl, h64.mono hle⟩) :: .itm (fun H itq_ => itq_ = bx b_t4 (QW y50.1 v54) 24) (by rintro _ _ _ hle rfl; exact rfl) :: [])) (fun m_ => bx b_one_ [.bool one_0, v_one_1] 24 :: bx b_x (QW y50.1 v54) 24 :: bx b_t5 [.bool false, .slice none 0 0] 24 :: m_ 6 :: bx b_b [.bool b_0, v_b_1] 24 :: L) (fun i_ => if i_ = 6 then bx b_t4 [.bool false, .slice none 0 0] 24 else none) mixed (by kernel_rfl) (by kernel_rfl) rfl (Xn (by kernel_rfl)) ⟨(fun H' m_ hH hm_ hu_ => dn <| s_d (m_ 0) rfl (Qq (v := (Qd y50.1 v54)) ty24 rfl .h1 rfl rfl rfl rfl) (by exact rfl) rfl), (fun H' m_ hH hm_ hu_ => dn <| s_d (m_ 1) rfl (QM (o' := 1) Tryz.underlying24 rfl sz22 rfl rfl rfl) (by exact rfl) rfl), (by rintro H' m_ hH hm_ hu_ _ rfl; exact dn <| s_d (m_ 2) rfl (Qq (v := v_b_1) ty22 rfl .h4 rfl rfl rfl rfl) (by exact rfl) rfl), (fun H' m_ hH hm_ hu_ => dn <| s_d (m_ 3) rfl (QR (v := v_r_) rfl) (by exact rfl) rfl), (by rintro H' m_ hH hm_ hu_ _ rfl _ rfl; exact dn <| s_k (m_ 4) rfl (Qj co143 (vs := [v_b_1, v_r_]) rfl (QQ.calls k hy58 ((h_b_1.mono (e53.trans hH)).src) ((h_r_.mono (e53.trans hH)).src))) rfl (by rintro v_ H_ _ ⟨rfl, e_, h_⟩; exact ⟨rfl, e_, h_⟩)), (by rintro H' m_ hH hm_ hu_ v61 (h62 : Ro kU32 H' v61 y57); exact dn <| s_d (m_ 5) rfl (Xx (cs' := [.bool false, v61]) Tryz.underlying24 zr24 rfl (by kernel_rfl) (parts := [(0, .bool false), (1, v61)]) rfl (.cons (X2 rfl sz4 rfl) rfl rfl u1 (.cons (X2 rfl sz22 rfl) h62.cells rfl (.there u1) .nil))) (by exact ⟨v61, rfl, h62⟩) rfl), (by rintro H' m_ hH hm_ hu_ _ rfl; exact dn <| ZN (bx b_t4 (QW y50.1 v54) 24) hm_ rfl (YW (v := (Qd y50.1 v54)) sz24 rfl rfl rfl rfl (oc rfl (oc (h55.one) oz)) .h3 u2) rfl (by exact ⟨rfl, rfl⟩)), trivial⟩ ?_
  intro H65 e66
  rintro _ _ rfl _ _ rfl _ _ rfl _ _ rfl v61 _ (h62 : Ro kU32 H65 v61 y57) _ _ ⟨v63, rfl, h64⟩ _ _ ⟨rfl, rfl⟩
  refine w_it (L' := bx b_one_ [.bool one_0, v_one_1] 24 :: bx b_x (QW y50.1 v54) 24 :: bx b_t5 [.bool false, .slice none 0 0] 24 :: bx b_t4 (QW y50.1 v54) 24 :: bx b_b [.bool b_0, v_b_1] 24 :: L) rfl <| wS (.agg ⟨[.bool false, v63]⟩) sz24 rfl rfl rfl rfl rfl (oc rfl (oc (h64.one) oz)) .h2 u2 <| wA (errV 104 none) rfl rfl <| Qc ?_
  obtain rfl := sj he
  refine Qn fn_124 rs_124 (.box (v := (Qd y50.1 v54)) rfl ty24 rfl rfl .h3 rfl (.box (v := .agg ⟨[.bool false, v63]⟩) rfl ty24 rfl rfl .h2 rfl (.tmp (v := errV 104 none) rfl .nil))) <| ⟨⟨[_, _, _, _, _], rfl⟩, hle.trans (e53.trans e66), ⟨v54, v63, rfl, (h55.mono e66), h64⟩⟩
theorem Xs.calls (k : Nat) {H : Hp} {L : Items} {a b : Qu} {v0_a v1_b : Value} {r : Qu × Qu × (Option Int)} (he : Xs.f k a b = some r) (h0_a : Ro kU32 H v0_a a.f_w) (h1_b : Ro kU32 H v1_b b.f_w) : Ct Tryz.prog 124 ⟨[(Qd a v0_a), (Qd b v1_b)]⟩ H L (cR H L (Xs.out r)) := by
 refine XS (O := Xs.out r) ?_
 have hle : H.le H := .refl _
 unfold Xs.f at he
 refine QZ (args := [(Qd a v0_a), (Qd b v1_b)]) fn_124 rfl nt_124 rfl <| wR rfl <| wB (Qd a v0_a) rfl rfl rfl <| fun b1 => wB (Qd b v1_b) rfl rfl rfl <| fun b2 => wN zr24 rfl rfl fun b3 => wN zr24 rfl rfl fun b4 => wA (errV 104 none) rfl rfl <| wE <| wR rfl ?_
 refine w_d rfl (QM (o' := 1) Tryz.underlying24 rfl sz22 rfl rfl rfl) <| wL v1_b ty22 rfl rfl .h2 rfl rfl <| w_d rfl (XL Tryz.underlying22 rfl h1_b.src) <| w_d rfl (Zb rfl rfl) <| Qc ?_
 rcases its he with ⟨c5, he⟩ | ⟨c5, he⟩
 ·
  refine QB rfl (dt c5) <| wR rfl <| w_d rfl (Xx (cs' := [.bool false, .slice none 0 0]) Tryz.underlying24 zr24 rfl (by kernel_rfl) (parts := []) rfl .nil) <| w_d rfl (Xx (cs' := [.bool false, .slice none 0 0]) Tryz.underlying24 zr24 rfl (by kernel_rfl) (parts := []) rfl .nil) <| w_d rfl (Zp (v := .int .i64 11) Tryz.underlying104 rfl rfl) <| wS (.agg ⟨[.bool false, .slice none 0 0]⟩) sz24 rfl rfl rfl rfl rfl (oc rfl (oc rfl oz)) .h1 u2 <| wS (.agg ⟨[.bool false, .slice none 0 0]⟩) sz24 rfl rfl rfl rfl rfl (oc rfl (oc rfl oz)) .here u2 <| wA (errV 104 (some 11)) rfl rfl <| Qc ?_
  obtain rfl := sj he
  refine Qn fn_124 rs_124 (.box (v := .agg ⟨[.bool false, .slice none 0 0]⟩) rfl ty24 rfl rfl .h1 rfl (.box (v := .agg ⟨[.bool false, .slice none 0 0]⟩) rfl ty24 rfl rfl .here rfl (.tmp (v := errV 104 (some 11)) rfl .nil))) <| ⟨⟨[_, _, _, _], rfl⟩, hle, ⟨.slice none 0 0, .slice none 0 0, rfl, (Q2 _ _), (Q2 _ _)⟩⟩
 ·
  refine QI rfl (df c5) <| QF <| wR rfl <| w_d rfl (QM (o' := 1) Tryz.underlying24 rfl sz22 rfl rfl rfl) <| wL v0_a ty22 rfl rfl .h3 rfl rfl <| w_d rfl (QM (o' := 1) Tryz.underlying24 rfl sz22 rfl rfl rfl) <| wL v1_b ty22 rfl rfl .h2 rfl rfl <| bK he fun y6 hy7 he => w_a rfl (Qj co142 (vs := [v0_a, v1_b]) rfl (QV.calls k hy7 h0_a h1_b.src)) ?_
  rintro _ H8 _ ⟨rfl, e9, v10, v12, rfl, h11, h13⟩
  refine wM (.tuple ⟨[v10, v12]⟩) rfl rfl <| w_d rfl (QS rfl rfl) <| w_d rfl (QS rfl rfl) <| wA v10 rfl rfl <| wA v12 rfl rfl <| wQ rfl <| w_d rfl (QM (o' := 0) Tryz.underlying24 rfl sz4 rfl rfl rfl) <| wL (.bool a.f_neg) ty4 rfl rfl .h3 rfl rfl <| w_d rfl (QM (o' := 0) Tryz.underlying24 rfl sz4 rfl rfl rfl) <| wL (.bool b.f_neg) ty4 rfl rfl .h2 rfl rfl ?_
  refine w_d rfl (G4 (a := a.f_neg) (b := b.f_neg) Tryz.underlying4 rfl rfl) <| wM v10 rfl rfl <| bK he fun y14 hy15 he => w_a rfl (Qj co115 (vs := [.bool (!(a.f_neg == b.f_neg)), v10]) rfl (XN.calls k hy15 h11)) ?_
  rintro _ H16 _ ⟨rfl, e17, v18, rfl, h19⟩
  refine wM (.tuple ⟨[(Qd y14.1 v18), errV 104 y14.2]⟩) rfl rfl <| w_d rfl (QS rfl rfl) <| w_d rfl (QS rfl rfl) <| wN zr24 rfl rfl fun b20 => wS (Qd y14.1 v18) sz24 rfl rfl rfl rfl rfl (XF h19) .here u2 <| wA (errV 104 y14.2) rfl rfl <| wE <| wR rfl <| wM (errV 104 y14.2) rfl rfl <| w_d rfl (X1 (e := y14.2) Tryz.underlying30 rfl) ?_
  refine Qc ?_
  rcases its he with ⟨c21, he⟩ | ⟨c21, he⟩
  ·
   refine QB rfl c21 <| wR rfl <| w_d rfl (Xx (cs' := [.bool false, .slice none 0 0]) Tryz.underlying24 zr24 rfl (by kernel_rfl) (parts := []) rfl .nil) <| w_d rfl (Xx (cs' := [.bool false, .slice none 0 0]) Tryz.underlying24 zr24 rfl (by kernel_rfl) (parts := []) rfl .nil) <| wM (errV 104 y14.2) rfl rfl <| wS (.agg ⟨[.bool false, .slice none 0 0]⟩) sz24 rfl rfl rfl rfl rfl (oc rfl (oc rfl oz)) .h2 u2 <| wS (.agg ⟨[.bool false, .slice none 0 0]⟩) sz24 rfl rfl rfl rfl rfl (oc rfl (oc rfl oz)) .h1 u2 <| wA (errV 104 y14.2) rfl rfl <| Qc ?_
   obtain rfl := sj he
   refine Qn fn_124 rs_124 (.box (v := .agg ⟨[.bool false, .slice none 0 0]⟩) rfl ty24 rfl rfl .h2 rfl (.box (v := .agg ⟨[.bool false, .slice none 0 0]⟩) rfl ty24 rfl rfl .h1 rfl (.tmp (v := errV 104 y14.2) rfl .nil))) <| ⟨⟨[_, _, _, _, _], rfl⟩, hle.trans (e9.trans e17), ⟨.slice none 0 0, .slice none 0 0, rfl, (Q2 _ _), (Q2 _ _)⟩⟩
  ·
   refine QI rfl (Bool.eq_false_iff.2 c21) <| QF <| QX <| wR rfl <| w_d rfl (QM (o' := 0) Tryz.underlying24 rfl sz4 rfl rfl rfl) <| wL (.bool a.f_neg) ty4 rfl rfl .h4 rfl rfl <| w_d rfl (Zg (b := a.f_neg) rfl) <| wM (.bool (!a.f_neg)) rfl rfl <| w_g (g := !(!a.f_neg)) rfl rfl rfl wn_f (fun g22 => QR (v := v12) rfl) <| w_g (g := !(!a.f_neg)) rfl rfl rfl wn_f (fun g23 => XL Tryz.underlying22 (cvt g23) (h13.mono e17).src) <| w_g (g := !(!a.f_neg)) rfl rfl rfl wn_f (fun g24 => Zb (cvt g24) rfl) ?_
   refine w_d rfl (d_or' (b := (!a.f_neg)) (p := (decide ((y6.2.length : Int) = 0))) rfl rfl rfl) <| Qc ?_
   rcases its he with ⟨c25, he⟩ | ⟨c25, he⟩
   ·
    refine QB rfl c25 <| QX <| bK he fun y26 hy27 he => Xv (p := 5) (tl := [5, 6]) [[], [], [(1, some 51)], [(2, some 52)], [(0, some 50)]] [some 50, some 51, some 52, some 53, none] (fctF (.is (Qd y14.1 v18) :: .is (v12) :: .ro kU32 (y26) :: .of (fun H v => ∃ v32, v = .agg ⟨[.bool false, v32]⟩ ∧ Ro kU32 H v32 y26) (by rintro _ _ _ hle ⟨v32, rfl, h33⟩; exact ⟨v32, rfl, h33.mono hle⟩) :: .itm (fun H itq_ => itq_ = bx b3 (QW y14.1 v18) 24) (by rintro _ _ _ hle rfl; exact rfl) :: [])) (fun m_ => bx b20 (QW y14.1 v18) 24 :: bx b4 [.bool false, .slice none 0 0] 24 :: m_ 4 :: bx b2 (QW b v1_b) 24 :: bx b1 (QW a v0_a) 24 :: L) (fun i_ => if i_ = 4 then bx b3 [.bool false, .slice none 0 0] 24 else none) mixed (by kernel_rfl) (by kernel_rfl) rfl (Xn (by kernel_rfl)) ⟨(fun H' m_ hH hm_ hu_ => dn <| s_d (m_ 0) rfl (Qq (v := (Qd y14.1 v18)) ty24 rfl .here rfl rfl rfl rfl) (by exact rfl) rfl), (fun H' m_ hH hm_ hu_ => dn <| s_d (m_ 1) rfl (QR (v := v12) rfl) (by exact rfl) rfl), (by rintro H' m_ hH hm_ hu_ _ rfl; exact dn <| s_k (m_ 2) rfl (Qj co119 (vs := [v12]) rfl (Xf.callsR k hy27 (h13.mono (e17.trans hH)))) rfl (by rintro v_ H_ _ ⟨rfl, e_, h_⟩; exact ⟨rfl, e_, h_⟩)), (by rintro H' m_ hH hm_ hu_ v30 (h31 : Ro kU32 H' v30 y26); exact dn <| s_d (m_ 3) rfl (Xx (cs' := [.bool false, v30]) Tryz.underlying24 zr24 rfl (by kernel_rfl) (parts := [(0, .bool false), (1, v30)]) rfl (.cons (X2 rfl sz4 rfl) rfl rfl u1 (.cons (X2 rfl sz22 rfl) h31.cells rfl (.there u1) .nil))) (by exact ⟨v30, rfl, h31⟩) rfl), (by rintro H' m_ hH hm_ hu_ _ rfl; exact dn <| ZN (bx b3 (QW y14.1 v18) 24) hm_ rfl (YW (v := (Qd y14.1 v18)) sz24 rfl rfl rfl rfl (oc rfl (oc (h19.one) oz)) .h2 u2) rfl (by exact ⟨rfl, rfl⟩)), trivial⟩ ?_
    intro H34 e35
    rintro _ _ rfl _ _ rfl v30 _ (h31 : Ro kU32 H34 v30 y26) _ _ ⟨v32, rfl, h33⟩ _ _ ⟨rfl, rfl⟩
    refine w_it (L' := bx b20 (QW y14.1 v18) 24 :: bx b4 [.bool false, .slice none 0 0] 24 :: bx b3 (QW y14.1 v18) 24 :: bx b2 (QW b v1_b) 24 :: bx b1 (QW a v0_a) 24 :: L) rfl <| wS (.agg ⟨[.bool false, v32]⟩) sz24 rfl rfl rfl rfl rfl (oc rfl (oc (h33.one) oz)) .h1 u2 <| wA (errV 104 none) rfl rfl <| Qc ?_
    obtain rfl := sj he
    refine Qn fn_124 rs_124 (.box (v := (Qd y14.1 v18)) rfl ty24 rfl rfl .h2 rfl (.box (v := .agg ⟨[.bool false, v32]⟩) rfl ty24 rfl rfl .h1 rfl (.tmp (v := errV 104 none) rfl .nil))) <| ⟨⟨[_, _, _, _, _], rfl⟩, hle.trans ((e9.trans e17).trans e35), ⟨v18, v32, rfl, (h19.mono e35), h33⟩⟩
   ·
    refine QI rfl (Bool.eq_false_iff.2 c25) <| QF <| wR rfl <| bK he fun y36 hy37 he => w_a rfl (Qj co71 (vs := [.int .i64 1]) rfl (XR.calls k hy37)) ?_
    rintro _ H38 _ ⟨rfl, e39, v40, rfl, h41⟩
    refine wN zr24 rfl rfl fun b42 => wS (Qd y36 v40) sz24 rfl rfl rfl rfl rfl (XF h41) .here u2 <| wE <| wR rfl <| w_d rfl (QM (o' := 0) Tryz.underlying24 rfl sz4 rfl rfl rfl) <| wL (.bool b.f_neg) ty4 rfl rfl .h4 rfl rfl <| w_d rfl (Zg (b := b.f_neg) rfl) <| Qc ?_
    rcases its he with ⟨c43, he⟩ | ⟨c43, he⟩
    ·
     refine QB rfl c43 <| QH rfl <| wL (Qd y36 v40) ty24 rfl rfl .here rfl rfl <| bK he fun y44 hy45 he => w_a rfl (Qj co121 (vs := [(Qd y36 v40)]) rfl (XC.calls k (a := y36) hy45 h41)) ?_
     rintro _ H46 _ ⟨rfl, e47, v48, rfl, h49⟩
     refine wS (Qd y44 v48) sz24 rfl rfl rfl rfl rfl (XF h49) .here u2 <| Qc <| Yw .h5 <| w_sl 3 (pt b2) rfl <| w_sl 4 (pt b3) rfl <| w_sl 5 (pt b4) rfl <| w_sl 6 (errV 104 none) rfl <| w_sl 8 (v12) rfl <| w_sl 9 (pt b20) rfl <| w_sl 11 (pt b42) rfl <| Xs.j1_ok (k := k) (hle.trans (((e9.trans e17).trans e39).trans e47)) he (h1_b.mono (((e9.trans e17).trans e39).trans e47)) (h13.mono ((e17.trans e39).trans e47)) (h19.mono (e39.trans e47)) h49
    ·
     refine QI rfl (Bool.eq_false_iff.2 c43) <| QF <| Yw .h5 <| w_sl 3 (pt b2) rfl <| w_sl 4 (pt b3) rfl <| w_sl 5 (pt b4) rfl <| w_sl 6 (errV 104 none) rfl <| w_sl 8 (v12) rfl <| w_sl 9 (pt b20) rfl <| w_sl 11 (pt b42) rfl <| Xs.j1_ok (k := k) (hle.trans ((e9.trans e17).trans e39)) he (h1_b.mono ((e9.trans e17).trans e39)) (h13.mono (e17.trans e39)) (h19.mono e39) h41
noncomputable def Q0.C : Code := (Tryz.f122.body).getD .skip
def Q0.out (r : Qu × (Option Int)) (H : Hp) (v : Value) : Prop := ∃ v0, v = .tuple ⟨[(Qd r.1 v0), errV 104 r.2]⟩ ∧ Ro kU32 H v0 r.1.f_w
theorem Q0.out_mono (r : Qu × (Option Int)) {H H' : Hp} {v : Value} (hle : H.le H') (h : Q0.out r H v) : Q0.out r H' v := by
 obtain ⟨v0, rfl, h0⟩ := h; exact ⟨v0, rfl, h0.mono hle⟩
abbrev Q0.R (H0 : Hp) (L : Items) (r : Qu × (Option Int)) := fR H0 L (Q0.out r)
structure Q0.Hs where
 l0 : Bool → (List Int) → Bool → (List Int) → Bool → (List Int) → (Option Int) → Option (Qu × (Option Int))
noncomputable def Q0.b0 (k : Nat) (h : Q0.Hs) (a_0 : Bool) (a_1 : List Int) (b_0 : Bool) (b_1 : List Int) (t4_0 : Bool) (t4_1 : List Int) (t5 : Option Int) : Option (Qu × (Option Int)) := (Xt.f k ⟨b_0, b_1⟩).bind fun y4 => if y4 = 0 then (some (⟨a_0, a_1⟩, none)) else ((Xs.f k ⟨a_0, a_1⟩ ⟨b_0, b_1⟩).bind fun y9 => if y9.2.2.isSome = true then (some (⟨false, []⟩, y9.2.2)) else (h.l0 b_0 b_1 y9.2.1.f_neg y9.2.1.f_w t4_0 t4_1 t5))
noncomputable def Q0.hs : Nat → Q0.Hs
 | 0 => ⟨fun _ _ _ _ _ _ _ => none⟩
 | k + 1 => ⟨fun x0 x1 x2 x3 x4 x5 x6 => Q0.b0 k (Q0.hs k) x0 x1 x2 x3 x4 x5 x6⟩
noncomputable def Q0.f (k : Nat) (a b : Qu) : Option (Qu × (Option Int)) := (fun h : Q0.Hs => h.l0 a.f_neg a.f_w b.f_neg b.f_w false [] none) (Q0.hs k)
structure Q0.LE (h h' : Q0.Hs) : Prop where
 l0 : ∀ y0 y1 y2 y3 y4 y5 y6, LeO (h.l0 y0 y1 y2 y3 y4 y5 y6) (h'.l0 y0 y1 y2 y3 y4 y5 y6)
theorem Q0.b0_mono {k : Nat} {h h' : Q0.Hs} (hl : Q0.LE h h') : ∀ y0 y1 y2 y3 y4 y5 y6, LeO (Q0.b0 k h y0 y1 y2 y3 y4 y5 y6) (Q0.b0 (k + 1) h' y0 y1 y2 y3 y4 y5 y6) := fun _ _ _ _ _ _ _ => (LeO.bind (Xt.mono k _) fun _ => LeO.ite (LeO.refl _) (LeO.bind (Xs.mono k _ _) fun _ => LeO.ite (LeO.refl _) (hl.l0 _ _ _ _ _ _ _)))
theorem Q0.hs_mono : ∀ k, Q0.LE (Q0.hs k) (Q0.hs (k + 1))
 | 0 => ⟨fun _ _ _ _ _ _ _ => LeO.none _⟩
 | k + 1 => ⟨Q0.b0_mono (k := k) (Q0.hs_mono k)⟩
theorem Q0.mono : ∀ k y0 y1, LeO (Q0.f k y0 y1) (Q0.f (k + 1) y0 y1) := fun k _ _ => have hl := Q0.hs_mono k; by unfold Q0.f; exact (hl.l0 _ _ _ _ _ _ _)
noncomputable def Q0.Kl0 : List Item := .code (lopB (blkB (seqL (seqR Q0.C)))) :: .inLoop (lopB (blkB (seqL (seqR Q0.C)))) :: .inBlock 0 :: .code (seqR (seqR Q0.C)) :: []
structure Q0.OK (h : Q0.Hs) : Prop where
 l0 : ∀ {H0 H : Hp} {L : Items} {r : Qu × (Option Int)} {jk_ : Nat → Value} {a_0 : Bool} {a_1 : List Int} {b_0 : Bool} {b_1 : List Int} {t4_0 : Bool} {t4_1 : List Int} {t5 : Option Int} {v_a_1 : Value} {v_b_1 : Value} {v_t4_1 : Value} {b_a : Nat} {b_b : Nat} {b_t4 : Nat} (_ : H0.le H) (_he : h.l0 a_0 a_1 b_0 b_1 t4_0 t4_1 t5 = some r) (_h_a_1 : Ro kU32 H v_a_1 a_1) (_h_b_1 : Ro kU32 H v_b_1 b_1) (_h_t4_1 : Ro kU32 H v_t4_1 t4_1), Wp Tryz.prog 122 26 Q0.Kl0 (upd (upd (upd (upd jk_ 2 (pt b_a)) 3 (pt b_b)) 4 (pt b_t4)) 5 (errV 104 t5)) H (bx b_t4 [.bool t4_0, v_t4_1] 24 :: bx b_b [.bool b_0, v_b_1] 24 :: bx b_a [.bool a_0, v_a_1] 24 :: L) (Q0.R H0 L r)
theorem Q0.b0_ok {k : Nat} {h : Q0.Hs} (hh : Q0.OK h) {H0 H : Hp} {L : Items} {r : Qu × (Option Int)} {jk_ : Nat → Value} {a_0 : Bool} {a_1 : List Int} {b_0 : Bool} {b_1 : List Int} {t4_0 : Bool} {t4_1 : List Int} {t5 : Option Int} {v_a_1 v_b_1 v_t4_1 : Value} {b_a b_b b_t4 : Nat} (hle : H0.le H) (he : Q0.b0 k h a_0 a_1 b_0 b_1 t4_0 t4_1 t5 = some r) (h_a_1 : Ro kU32 H v_a_1 a_1) (h_b_1 : Ro kU32 H v_b_1 b_1) (h_t4_1 : Ro kU32 H v_t4_1 t4_1) : Wp Tryz.prog 122 26 Q0.Kl0 (upd (upd (upd (upd jk_ 2 (pt b_a)) 3 (pt b_b)) 4 (pt b_t4)) 5 (errV 104 t5)) H (bx b_t4 [.bool t4_0, v_t4_1] 24 :: bx b_b [.bool b_0, v_b_1] 24 :: bx b_a [.bool a_0, v_a_1] 24 :: L) (Q0.R H0 L r) := by
 unfold Q0.b0 at he
 unfold Q0.Kl0
 refine QX <| wR rfl <| wL (.agg ⟨[.bool b_0, v_b_1]⟩) ty24 rfl rfl .h1 rfl rfl <| bK he fun y4 hy5 he => w_d rfl (Xi (Qj co84 (vs := [.agg ⟨[.bool b_0, v_b_1]⟩]) rfl (Xt.calls k (a := ⟨b_0, b_1⟩) hy5 h_b_1))) <| w_d rfl (Jx rfl rfl) <| Qc ?_
 rcases its he with ⟨c8, he⟩ | ⟨c8, he⟩
 ·
  refine QI rfl (nd_t c8) <| Ya rfl <| wR rfl <| wL (.agg ⟨[.bool a_0, v_a_1]⟩) ty24 rfl rfl .h2 rfl rfl <| wS (.agg ⟨[.bool a_0, v_a_1]⟩) sz24 rfl rfl rfl rfl rfl (oc rfl (oc (h_a_1.one) oz)) .here u2 <| wA (errV 104 none) rfl rfl <| Qc ?_
  obtain rfl := sj he
  refine Qn fn_122 rs_122 (.box (v := .agg ⟨[.bool a_0, v_a_1]⟩) rfl ty24 rfl rfl .here rfl (.tmp (v := errV 104 none) rfl .nil)) <| ⟨⟨[_, _, _], rfl⟩, hle, ⟨v_a_1, rfl, h_a_1⟩⟩
 ·
  refine QB rfl (nd_f c8) <| QF <| Q8 <| wR rfl <| wL (.agg ⟨[.bool a_0, v_a_1]⟩) ty24 rfl rfl .h2 rfl rfl <| wL (.agg ⟨[.bool b_0, v_b_1]⟩) ty24 rfl rfl .h1 rfl rfl <| bK he fun y9 hy10 he => w_a rfl (Qj co124 (vs := [.agg ⟨[.bool a_0, v_a_1]⟩, .agg ⟨[.bool b_0, v_b_1]⟩]) rfl (Xs.calls k (a := ⟨a_0, a_1⟩) (b := ⟨b_0, b_1⟩) hy10 h_a_1 h_b_1)) ?_
  rintro _ H11 _ ⟨rfl, e12, v13, v15, rfl, h14, h16⟩
  refine wM (.tuple ⟨[(Qd y9.1 v13), (Qd y9.2.1 v15), errV 104 y9.2.2]⟩) rfl rfl <| w_d rfl (QS rfl rfl) <| w_d rfl (QS rfl rfl) <| w_d rfl (QS rfl rfl) <| wN zr24 rfl rfl fun b17 => wN zr24 rfl rfl fun b18 => wS (Qd y9.1 v13) sz24 rfl rfl rfl rfl rfl (XF h14) .h1 u2 <| wS (Qd y9.2.1 v15) sz24 rfl rfl rfl rfl rfl (XF h16) .here u2 <| wA (errV 104 y9.2.2) rfl rfl <| wE <| QX ?_
  refine QH rfl <| wM (errV 104 y9.2.2) rfl rfl <| w_d rfl (X1 (e := y9.2.2) Tryz.underlying30 rfl) <| Qc ?_
  rcases its he with ⟨c19, he⟩ | ⟨c19, he⟩
  ·
   refine QB rfl c19 <| wR rfl <| w_d rfl (Xx (cs' := [.bool false, .slice none 0 0]) Tryz.underlying24 zr24 rfl (by kernel_rfl) (parts := []) rfl .nil) <| wM (errV 104 y9.2.2) rfl rfl <| wS (.agg ⟨[.bool false, .slice none 0 0]⟩) sz24 rfl rfl rfl rfl rfl (oc rfl (oc rfl oz)) .h2 u2 <| wA (errV 104 y9.2.2) rfl rfl <| Qc ?_
   obtain rfl := sj he
   refine Qn fn_122 rs_122 (.box (v := .agg ⟨[.bool false, .slice none 0 0]⟩) rfl ty24 rfl rfl .h2 rfl (.tmp (v := errV 104 y9.2.2) rfl .nil)) <| ⟨⟨[_, _, _, _, _], rfl⟩, hle.trans e12, ⟨.slice none 0 0, rfl, (Q2 _ _)⟩⟩
  ·
   refine QI rfl (Bool.eq_false_iff.2 c19) <| QF <| Xv (p := 3) (tl := [3]) [[], [], [(0, some 23)]] [some 23, some 24, none] (fctF (.is (.agg ⟨[.bool b_0, v_b_1]⟩) :: .is (Qd y9.2.1 v15) :: .itm (fun H itq_ => itq_ = bx b_a [.bool b_0, v_b_1] 24) (by rintro _ _ _ hle rfl; exact rfl) :: [])) (fun m_ => bx b18 (QW y9.2.1 v15) 24 :: bx b17 (QW y9.1 v13) 24 :: bx b_t4 [.bool t4_0, v_t4_1] 24 :: bx b_b [.bool b_0, v_b_1] 24 :: m_ 2 :: L) (fun i_ => if i_ = 2 then bx b_a [.bool a_0, v_a_1] 24 else none) mixed (by kernel_rfl) (by kernel_rfl) rfl (Xn (by kernel_rfl)) ⟨(fun H' m_ hH hm_ hu_ => dn <| s_d (m_ 0) rfl (Qq (v := .agg ⟨[.bool b_0, v_b_1]⟩) ty24 rfl .h3 rfl rfl rfl rfl) (by exact rfl) rfl), (fun H' m_ hH hm_ hu_ => dn <| s_d (m_ 1) rfl (Qq (v := (Qd y9.2.1 v15)) ty24 rfl .here rfl rfl rfl rfl) (by exact rfl) rfl), (by rintro H' m_ hH hm_ hu_ _ rfl; exact dn <| ZN (bx b_a [.bool b_0, v_b_1] 24) hm_ rfl (YW (v := .agg ⟨[.bool b_0, v_b_1]⟩) sz24 rfl rfl rfl rfl (oc rfl (oc (h_b_1.one) oz)) .h4 u2) rfl (by exact ⟨rfl, rfl⟩)), trivial⟩ ?_
   intro H20 e21
   rintro _ _ rfl _ _ rfl _ _ ⟨rfl, rfl⟩
   refine w_it (L' := bx b18 (QW y9.2.1 v15) 24 :: bx b17 (QW y9.1 v13) 24 :: bx b_t4 [.bool t4_0, v_t4_1] 24 :: bx b_b [.bool b_0, v_b_1] 24 :: bx b_a [.bool b_0, v_b_1] 24 :: L) rfl <| wS (Qd y9.2.1 v15) sz24 rfl rfl rfl rfl rfl (XF h16) .h3 u2 <| Qc <| Xp <| Xy <| Yw .h1 <| Yw .here <| w_sl 2 (pt b_a) rfl <| w_sl 3 (pt b_b) rfl <| w_sl 4 (pt b_t4) rfl <| w_sl 5 (errV 104 t5) rfl <| hh.l0 (hle.trans (e12.trans e21)) he (h_b_1.mono (e12.trans e21)) (h16.mono e21) (h_t4_1.mono (e12.trans e21))
theorem Q0.ok : ∀ k, Q0.OK (Q0.hs k)
 | 0 => ⟨(by intros; exact nomatch (show none = some _ from by assumption))⟩
 | k + 1 => ⟨Q0.b0_ok (k := k) (Q0.ok k)⟩
theorem Q0.calls (k : Nat) {H : Hp} {L : Items} {a b : Qu} {v0_a v1_b : Value} {r : Qu × (Option Int)} (he : Q0.f k a b = some r) (h0_a : Ro kU32 H v0_a a.f_w) (h1_b : Ro kU32 H v1_b b.f_w) : Ct Tryz.prog 122 ⟨[(Qd a v0_a), (Qd b v1_b)]⟩ H L (cR H L (Q0.out r)) := by
 refine XS (O := Q0.out r) ?_
 have hle : H.le H := .refl _
 have hh := Q0.ok k
 unfold Q0.f at he
 refine QZ (args := [(Qd a v0_a), (Qd b v1_b)]) fn_122 rfl nt_122 rfl <| wR rfl <| wB (Qd a v0_a) rfl rfl rfl <| fun b1 => wB (Qd b v1_b) rfl rfl rfl <| fun b2 => wN zr24 rfl rfl fun b3 => wA (errV 104 none) rfl rfl <| wE <| Q8 <| Ye <| w_sl 2 (pt b1) rfl ?_
 refine w_sl 3 (pt b2) rfl <| w_sl 4 (pt b3) rfl <| w_sl 5 (errV 104 none) rfl <| hh.l0 hle he h0_a h1_b (Q2 _ _)
noncomputable def XH.C : Code := (Tryz.f73.body).getD .skip
def XH.out (r : QG × (Option Int)) (H : Hp) (v : Value) : Prop := ∃ v0 v1, v = .tuple ⟨[(Qa r.1 v0 v1), errV 104 r.2]⟩ ∧ Ro kU32 H v0 r.1.f_n.f_w ∧ Ro kU32 H v1 r.1.f_d.f_w
theorem XH.out_mono (r : QG × (Option Int)) {H H' : Hp} {v : Value} (hle : H.le H') (h : XH.out r H v) : XH.out r H' v := by
 obtain ⟨v0, v1, rfl, h0, h1⟩ := h; exact ⟨v0, v1, rfl, h0.mono hle, h1.mono hle⟩
abbrev XH.R (H0 : Hp) (L : Items) (r : QG × (Option Int)) := fR H0 L (XH.out r)
noncomputable def XH.j1 (k : Nat) (n_0 : Bool) (n_1 : List Int) (d_0 : Bool) (d_1 : List Int) : Option (QG × (Option Int)) := (YO.f k ⟨n_0, n_1⟩).bind fun y28 => (Q0.f k y28 ⟨d_0, d_1⟩).bind fun y34 => if y34.2.isSome = true then (some (⟨⟨false, []⟩, ⟨false, []⟩⟩, y34.2)) else ((Xs.f k ⟨n_0, n_1⟩ y34.1).bind fun y52 => if y52.2.2.isSome = true then (some (⟨⟨false, []⟩, ⟨false, []⟩⟩, y52.2.2)) else ((Xs.f k ⟨d_0, d_1⟩ y34.1).bind fun y63 => if y63.2.2.isSome = true then (some (⟨⟨false, []⟩, ⟨false, []⟩⟩, y63.2.2)) else (some (⟨y52.1, y63.1⟩, none))))
noncomputable def XH.f (k : Nat) (n d : Qu) : Option (QG × (Option Int)) := (Xt.f k d).bind fun y4 => if y4 = 0 then (some (⟨⟨false, []⟩, ⟨false, []⟩⟩, some 11)) else ((Xt.f k d).bind fun y9 => if y9 < 0 then ((XC.f k n).bind fun y14 => (XC.f k d).bind fun y22 => XH.j1 k y14.f_neg y14.f_w y22.f_neg y22.f_w) else (XH.j1 k n.f_neg n.f_w d.f_neg d.f_w))
theorem XH.j1_mono {k : Nat} : ∀ y0 y1 y2 y3, LeO (XH.j1 k y0 y1 y2 y3) (XH.j1 (k + 1) y0 y1 y2 y3) := fun _ _ _ _ => (LeO.bind (YO.mono k _) fun _ => LeO.bind (Q0.mono k _ _) fun _ => LeO.ite (LeO.refl _) (LeO.bind (Xs.mono k _ _) fun _ => LeO.ite (LeO.refl _) (LeO.bind (Xs.mono k _ _) fun _ => LeO.ite (LeO.refl _) (LeO.refl _))))
theorem XH.mono : ∀ k y0 y1, LeO (XH.f k y0 y1) (XH.f (k + 1) y0 y1) := fun k _ _ => by unfold XH.f; exact (LeO.bind (Xt.mono k _) fun _ => LeO.ite (LeO.refl _) (LeO.bind (Xt.mono k _) fun _ => LeO.ite (LeO.bind (XC.mono k _) fun _ => LeO.bind (XC.mono k _) fun _ => XH.j1_mono (k := k)  _ _ _ _) (XH.j1_mono (k := k)  _ _ _ _)))
noncomputable def XH.Kj1 : List Item := .code (seqR (seqR (seqR XH.C))) :: []
theorem XH.j1_ok {k : Nat} {H0 H : Hp} {L : Items} {r : QG × (Option Int)} {jk_ : Nat → Value} {n_0 : Bool} {n_1 : List Int} {d_0 : Bool} {d_1 : List Int} {v_n_1 v_d_1 : Value} {b_n b_d b_t4 : Nat} (hle : H0.le H) (he : XH.j1 k n_0 n_1 d_0 d_1 = some r) (h_n_1 : Ro kU32 H v_n_1 n_1) (h_d_1 : Ro kU32 H v_d_1 d_1) : Wp Tryz.prog 73 60 XH.Kj1 (upd (upd (upd (upd jk_ 2 (pt b_n)) 3 (pt b_d)) 4 (pt b_t4)) 5 (errV 104 none)) H (bx b_t4 z0c 26 :: bx b_d [.bool d_0, v_d_1] 24 :: bx b_n [.bool n_0, v_n_1] 24 :: L) (XH.R H0 L r) := by
 unfold XH.j1 at he
 unfold XH.Kj1
 refine QX <| bK he fun y28 hy29 he => bK he fun y34 hy35 he => ?_
 refine YF (?_)
 refine Xv (p := 9) (tl := [9]) [[], [(0, some 25)], [], [(1, some 26), (2, some 27)], [(3, some 28)], [(4, some 24)], [(4, some 24)], [], [(5, some 29), (7, some 6)]] [some 25, some 26, some 27, some 28, some 24, some 29, some 30, some 6, none] (fctF (.is (.agg ⟨[.bool n_0, v_n_1]⟩) :: .of (YO.out y28) (YO.out_mono _) :: .is (.agg ⟨[.bool d_0, v_d_1]⟩) :: .of (Q0.out y34) (Q0.out_mono _) :: .of (fun H v => ∃ v40, v = .tuple ⟨[(Qd y34.1 v40), errV 104 y34.2]⟩ ∧ Ro kU32 H v40 y34.1.f_w) (by rintro _ _ _ hle ⟨v40, rfl, h41⟩; exact ⟨v40, rfl, h41.mono hle⟩) :: .of (fun H v => ∃ v42, v = (Qd y34.1 v42) ∧ Ro kU32 H v42 y34.1.f_w) (by rintro _ _ _ hle ⟨v42, rfl, h43⟩; exact ⟨v42, rfl, h43.mono hle⟩) :: .is (errV 104 y34.2) :: .box 24 [.bool false, .slice none 0 0] :: .st 7 (fun H bq_ itq_ => ∃ v45, itq_ = bx bq_ (QW y34.1 v45) 24 ∧ Ro kU32 H v45 y34.1.f_w) (by rintro _ _ _ _ hle ⟨v45, rfl, h46⟩; exact ⟨v45, rfl, h46.mono hle⟩) :: [])) (fun m_ => pk (m_ 8) (m_ 7) :: bx b_t4 z0c 26 :: bx b_d [.bool d_0, v_d_1] 24 :: bx b_n [.bool n_0, v_n_1] 24 :: L) (fun _ => none) mixed (by kernel_rfl) (by kernel_rfl) rfl (Xn (by kernel_rfl)) ⟨(fun H' m_ hH hm_ hu_ => dn <| s_d (m_ 0) rfl (Qq (v := .agg ⟨[.bool n_0, v_n_1]⟩) ty24 rfl .h3 rfl rfl rfl rfl) (by exact rfl) rfl), (by rintro H' m_ hH hm_ hu_ _ rfl; exact dn <| s_k (m_ 1) rfl (Qj co123 (vs := [.agg ⟨[.bool n_0, v_n_1]⟩]) rfl (YO.calls k (a := ⟨n_0, n_1⟩) hy29 (h_n_1.mono hH))) rfl (by rintro v_ H_ _ ⟨rfl, e_, h_⟩; exact ⟨rfl, e_, h_⟩)), (fun H' m_ hH hm_ hu_ => dn <| s_d (m_ 2) rfl (Qq (v := .agg ⟨[.bool d_0, v_d_1]⟩) ty24 rfl .h2 rfl rfl rfl rfl) (by exact rfl) rfl), (by rintro H' m_ hH hm_ hu_ _ ⟨v32, rfl, h33⟩ _ rfl; exact dn <| s_k (m_ 3) rfl (Qj co122 (vs := [(Qd y28 v32), .agg ⟨[.bool d_0, v_d_1]⟩]) rfl (Q0.calls k (a := y28) (b := ⟨d_0, d_1⟩) hy35 h33 (h_d_1.mono hH))) rfl (by rintro v_ H_ _ ⟨rfl, e_, h_⟩; exact ⟨rfl, e_, h_⟩)), (by rintro H' m_ hH hm_ hu_ _ ⟨v38, rfl, h39⟩; exact dn <| s_d (m_ 4) rfl (QR (v := .tuple ⟨[(Qd y34.1 v38), errV 104 y34.2]⟩) rfl) (by exact ⟨v38, rfl, h39⟩) rfl), (by rintro H' m_ hH hm_ hu_ _ ⟨v40, rfl, h41⟩; exact dn <| s_d (m_ 5) rfl (QS rfl rfl) (by exact ⟨v40, rfl, h41⟩) rfl), (by rintro H' m_ hH hm_ hu_ _ ⟨v40, rfl, h41⟩; exact dn <| s_d (m_ 6) rfl (QS rfl rfl) (by exact rfl) rfl), (fun H' m_ hH hm_ hu_ => dn <| Ze hm_ rfl rfl (YJ zr24 rfl) rfl (fun _ => (JH (hu_ 8 (by kernel_rfl)))) (by exact fun b_ => ⟨b_, rfl, rfl⟩)), (by rintro H' m_ hH hm_ hu_ _ ⟨v42, rfl, h43⟩ _ ⟨b44, rfl, hb44_⟩; exact dn <| Z6 (Λ' := fun z_ => z_ :: bx b_t4 z0c 26 :: bx b_d [.bool d_0, v_d_1] 24 :: bx b_n [.bool n_0, v_n_1] 24 :: L) (bx b44 (QW y34.1 v42) 24) hm_ rfl hb44_ rfl (YW (v := (Qd y34.1 v42)) sz24 rfl rfl rfl rfl (oc rfl (oc (h43.one) oz)) .here u2) rfl rfl (by exact ⟨rfl, v42, congrArg (fun b_ => (some (b_, Obj.cells ⟨(QW y34.1 v42)⟩ 24 (0, 0)) : Item')) (JF hb44_).symm, h43⟩)), trivial⟩ ?_
 intro H49 e50
 rintro _ _ rfl _ _ ⟨v32, rfl, h33⟩ _ _ rfl _ _ ⟨v38, rfl, h39⟩ _ _ ⟨v40, rfl, h41⟩ _ _ ⟨v42, rfl, h43⟩ _ _ rfl _ _ ⟨b44, rfl, rfl⟩ _ i47 ⟨rfl, v45, h48, h46⟩
 replace h48 : i47 = bx b44 (QW y34.1 v45) 24 := h48
 subst h48
 refine w_it (L' := bx b44 (QW y34.1 v45) 24 :: bx b_t4 z0c 26 :: bx b_d [.bool d_0, v_d_1] 24 :: bx b_n [.bool n_0, v_n_1] 24 :: L) rfl <| wA (errV 104 y34.2) rfl rfl <| wE <| wR rfl <| wM (errV 104 y34.2) rfl rfl <| w_d rfl (X1 (e := y34.2) Tryz.underlying30 rfl) <| Qc ?_
 rcases its he with ⟨c51, he⟩ | ⟨c51, he⟩
 ·
  refine QB rfl c51 <| wR rfl <| w_d rfl (Xx (cs' := z0c) Tryz.underlying26 zr26 rfl (by kernel_rfl) (parts := []) rfl .nil) <| wM (errV 104 y34.2) rfl rfl <| wS (.agg ⟨z0c⟩) sz26 rfl rfl rfl rfl rfl (oc rfl (oc rfl (oc rfl (oc rfl oz)))) .h1 u4 <| wA (errV 104 y34.2) rfl rfl <| Qc ?_
  obtain rfl := sj he
  refine Qn fn_73 rs_73 (.box (v := .agg ⟨z0c⟩) rfl ty26 rfl rfl .h1 rfl (.tmp (v := errV 104 y34.2) rfl .nil)) <| ⟨⟨[_, _, _, _], rfl⟩, hle.trans e50, ⟨.slice none 0 0, .slice none 0 0, rfl, (Q2 _ _), (Q2 _ _)⟩⟩
 ·
  refine QI rfl (Bool.eq_false_iff.2 c51) <| QF <| wR rfl <| wL (.agg ⟨[.bool n_0, v_n_1]⟩) ty24 rfl rfl .h3 rfl rfl <| wL (Qd y34.1 v45) ty24 rfl rfl .here rfl rfl <| bK he fun y52 hy53 he => w_a rfl (Qj co124 (vs := [.agg ⟨[.bool n_0, v_n_1]⟩, (Qd y34.1 v45)]) rfl (Xs.calls k (a := ⟨n_0, n_1⟩) (b := y34.1) hy53 (h_n_1.mono e50) h46)) ?_
  rintro _ H54 _ ⟨rfl, e55, v56, v58, rfl, h57, h59⟩
  refine wM (.tuple ⟨[(Qd y52.1 v56), (Qd y52.2.1 v58), errV 104 y52.2.2]⟩) rfl rfl <| w_d rfl (QS rfl rfl) <| w_d rfl (QS rfl rfl) <| w_d rfl (QS rfl rfl) <| wN zr24 rfl rfl fun b60 => wN zr24 rfl rfl fun b61 => wS (Qd y52.1 v56) sz24 rfl rfl rfl rfl rfl (XF h57) .h1 u2 <| wS (Qd y52.2.1 v58) sz24 rfl rfl rfl rfl rfl (XF h59) .here u2 <| wA (errV 104 y52.2.2) rfl rfl <| wE <| QX ?_
  refine QH rfl <| wM (errV 104 y52.2.2) rfl rfl <| w_d rfl (X1 (e := y52.2.2) Tryz.underlying30 rfl) <| Qc ?_
  rcases its he with ⟨c62, he⟩ | ⟨c62, he⟩
  ·
   refine QB rfl c62 <| wR rfl <| w_d rfl (Xx (cs' := z0c) Tryz.underlying26 zr26 rfl (by kernel_rfl) (parts := []) rfl .nil) <| wM (errV 104 y52.2.2) rfl rfl <| wS (.agg ⟨z0c⟩) sz26 rfl rfl rfl rfl rfl (oc rfl (oc rfl (oc rfl (oc rfl oz)))) .h3 u4 <| wA (errV 104 y52.2.2) rfl rfl <| Qc ?_
   obtain rfl := sj he
   refine Qn fn_73 rs_73 (.box (v := .agg ⟨z0c⟩) rfl ty26 rfl rfl .h3 rfl (.tmp (v := errV 104 y52.2.2) rfl .nil)) <| ⟨⟨[_, _, _, _, _, _], rfl⟩, hle.trans (e50.trans e55), ⟨.slice none 0 0, .slice none 0 0, rfl, (Q2 _ _), (Q2 _ _)⟩⟩
  ·
   refine QI rfl (Bool.eq_false_iff.2 c62) <| QF <| wR rfl <| wL (.agg ⟨[.bool d_0, v_d_1]⟩) ty24 rfl rfl .h4 rfl rfl <| wL (Qd y34.1 v45) ty24 rfl rfl .h2 rfl rfl <| bK he fun y63 hy64 he => w_a rfl (Qj co124 (vs := [.agg ⟨[.bool d_0, v_d_1]⟩, (Qd y34.1 v45)]) rfl (Xs.calls k (a := ⟨d_0, d_1⟩) (b := y34.1) hy64 (h_d_1.mono (e50.trans e55)) (h46.mono e55))) ?_
   rintro _ H65 _ ⟨rfl, e66, v67, v69, rfl, h68, h70⟩
   refine wM (.tuple ⟨[(Qd y63.1 v67), (Qd y63.2.1 v69), errV 104 y63.2.2]⟩) rfl rfl <| w_d rfl (QS rfl rfl) <| w_d rfl (QS rfl rfl) <| w_d rfl (QS rfl rfl) <| wN zr24 rfl rfl fun b71 => wN zr24 rfl rfl fun b72 => wS (Qd y63.1 v67) sz24 rfl rfl rfl rfl rfl (XF h68) .h1 u2 <| wS (Qd y63.2.1 v69) sz24 rfl rfl rfl rfl rfl (XF h70) .here u2 <| wA (errV 104 y63.2.2) rfl rfl <| wE <| QX ?_
   refine QH rfl <| wM (errV 104 y63.2.2) rfl rfl <| w_d rfl (X1 (e := y63.2.2) Tryz.underlying30 rfl) <| Qc ?_
   rcases its he with ⟨c73, he⟩ | ⟨c73, he⟩
   ·
    refine QB rfl c73 <| wR rfl <| w_d rfl (Xx (cs' := z0c) Tryz.underlying26 zr26 rfl (by kernel_rfl) (parts := []) rfl .nil) <| wM (errV 104 y63.2.2) rfl rfl <| wS (.agg ⟨z0c⟩) sz26 rfl rfl rfl rfl rfl (oc rfl (oc rfl (oc rfl (oc rfl oz)))) .h5 u4 <| wA (errV 104 y63.2.2) rfl rfl <| Qc ?_
    obtain rfl := sj he
    refine Qn fn_73 rs_73 (.box (v := .agg ⟨z0c⟩) rfl ty26 rfl rfl .h5 rfl (.tmp (v := errV 104 y63.2.2) rfl .nil)) <| ⟨⟨[_, _, _, _, _, _, _, _], rfl⟩, hle.trans ((e50.trans e55).trans e66), ⟨.slice none 0 0, .slice none 0 0, rfl, (Q2 _ _), (Q2 _ _)⟩⟩
   ·
    refine QI rfl (Bool.eq_false_iff.2 c73) <| QF <| wR rfl <| wL (Qd y52.1 v56) ty24 rfl rfl .h3 rfl rfl <| wL (Qd y63.1 v67) ty24 rfl rfl .h1 rfl rfl <| w_d rfl (Xx (cs' := [.bool y52.1.f_neg, v56, .bool y63.1.f_neg, v67]) Tryz.underlying26 zr26 rfl (by kernel_rfl) (parts := [(0, (Qd y52.1 v56)), (1, (Qd y63.1 v67))]) rfl (.cons (X2 rfl sz24 rfl) rfl rfl u2 (.cons (X2 rfl sz24 rfl) rfl rfl (.there (.there u2)) .nil))) <| wS (.agg ⟨[.bool y52.1.f_neg, v56, .bool y63.1.f_neg, v67]⟩) sz26 rfl rfl rfl rfl rfl (oc rfl (oc (h57.one) (oc rfl (oc (h68.one) oz)))) .h5 u4 <| wA (errV 104 none) rfl rfl <| Qc ?_
    obtain rfl := sj he
    refine Qn fn_73 rs_73 (.box (v := .agg ⟨[.bool y52.1.f_neg, v56, .bool y63.1.f_neg, v67]⟩) rfl ty26 rfl rfl .h5 rfl (.tmp (v := errV 104 none) rfl .nil)) <| ⟨⟨[_, _, _, _, _, _, _, _], rfl⟩, hle.trans ((e50.trans e55).trans e66), ⟨v56, v67, rfl, (h57.mono e66), h68⟩⟩
theorem XH.calls (k : Nat) {H : Hp} {L : Items} {n d : Qu} {v0_n v1_d : Value} {r : QG × (Option Int)} (he : XH.f k n d = some r) (h0_n : Ro kU32 H v0_n n.f_w) (h1_d : Ro kU32 H v1_d d.f_w) : Ct Tryz.prog 73 ⟨[(Qd n v0_n), (Qd d v1_d)]⟩ H L (cR H L (XH.out r)) := by
 refine XS (O := XH.out r) ?_
 have hle : H.le H := .refl _
 unfold XH.f at he
 refine QZ (args := [(Qd n v0_n), (Qd d v1_d)]) fn_73 rfl nt_73 rfl <| wR rfl <| wB (Qd n v0_n) rfl rfl rfl <| fun b1 => wB (Qd d v1_d) rfl rfl rfl <| fun b2 => wN zr26 rfl rfl fun b3 => wA (errV 104 none) rfl rfl <| wE <| wR rfl <| wL (Qd d v1_d) ty24 rfl rfl .h1 rfl rfl ?_
 refine bK he fun y4 hy5 he => w_d rfl (Xi (Qj co84 (vs := [(Qd d v1_d)]) rfl (Xt.calls k (a := d) hy5 h1_d))) <| w_d rfl (Zb rfl rfl) <| Qc ?_
 rcases its he with ⟨c8, he⟩ | ⟨c8, he⟩
 ·
  refine QB rfl (dt c8) <| wR rfl <| w_d rfl (Xx (cs' := z0c) Tryz.underlying26 zr26 rfl (by kernel_rfl) (parts := []) rfl .nil) <| w_d rfl (Zp (v := .int .i64 11) Tryz.underlying104 rfl rfl) <| wS (.agg ⟨z0c⟩) sz26 rfl rfl rfl rfl rfl (oc rfl (oc rfl (oc rfl (oc rfl oz)))) .here u4 <| wA (errV 104 (some 11)) rfl rfl <| Qc ?_
  obtain rfl := sj he
  refine Qn fn_73 rs_73 (.box (v := .agg ⟨z0c⟩) rfl ty26 rfl rfl .here rfl (.tmp (v := errV 104 (some 11)) rfl .nil)) <| ⟨⟨[_, _, _], rfl⟩, hle, ⟨.slice none 0 0, .slice none 0 0, rfl, (Q2 _ _), (Q2 _ _)⟩⟩
 ·
  refine QI rfl (df c8) <| QF <| QX <| wR rfl <| wL (Qd d v1_d) ty24 rfl rfl .h1 rfl rfl <| bK he fun y9 hy10 he => w_d rfl (Xi (Qj co84 (vs := [(Qd d v1_d)]) rfl (Xt.calls k (a := d) hy10 h1_d))) <| w_d rfl (XO rfl rfl) <| Qc ?_
  rcases its he with ⟨c13, he⟩ | ⟨c13, he⟩
  ·
   refine QB rfl (dt c13) <| bK he fun y14 hy15 he => Xv (p := 3) (tl := [3, 4, 5]) [[], [(0, some 20)], []] [some 20, some 21, some 22] (fctF (.is (Qd n v0_n) :: .of (XC.out y14) (XC.out_mono _) :: .is (Qd d v1_d) :: [])) (fun m_ => bx b3 z0c 26 :: bx b2 (QW d v1_d) 24 :: bx b1 (QW n v0_n) 24 :: L) (fun _ => none) mixed (by kernel_rfl) (by kernel_rfl) rfl (Xn (by kernel_rfl)) ⟨(fun H' m_ hH hm_ hu_ => dn <| s_d (m_ 0) rfl (Qq (v := (Qd n v0_n)) ty24 rfl .h2 rfl rfl rfl rfl) (by exact rfl) rfl), (by rintro H' m_ hH hm_ hu_ _ rfl; exact dn <| s_k (m_ 1) rfl (Qj co121 (vs := [(Qd n v0_n)]) rfl (XC.calls k (a := n) hy15 (h0_n.mono hH))) rfl (by rintro v_ H_ _ ⟨rfl, e_, h_⟩; exact ⟨rfl, e_, h_⟩)), (fun H' m_ hH hm_ hu_ => dn <| s_d (m_ 2) rfl (Qq (v := (Qd d v1_d)) ty24 rfl .h1 rfl rfl rfl rfl) (by exact rfl) rfl), trivial⟩ ?_
   intro H20 e21
   rintro _ _ rfl _ _ ⟨v18, rfl, h19⟩ _ _ rfl
   refine bK he fun y22 hy23 he => w_a rfl (Qj co121 (vs := [(Qd d v1_d)]) rfl (XC.calls k (a := d) hy23 (h1_d.mono e21))) ?_
   rintro _ H24 _ ⟨rfl, e25, v26, rfl, h27⟩
   refine wS (Qd y14 v18) sz24 rfl rfl rfl rfl rfl (XF h19) .h2 u2 <| wS (Qd y22 v26) sz24 rfl rfl rfl rfl rfl (XF h27) .h1 u2 <| Qc <| w_sl 2 (pt b1) rfl <| w_sl 3 (pt b2) rfl <| w_sl 4 (pt b3) rfl <| w_sl 5 (errV 104 none) rfl <| XH.j1_ok (k := k) (hle.trans (e21.trans e25)) he (h19.mono e25) h27
  ·
   refine QI rfl (df c13) <| QF <| w_sl 2 (pt b1) rfl <| w_sl 3 (pt b2) rfl <| w_sl 4 (pt b3) rfl <| w_sl 5 (errV 104 none) rfl <| XH.j1_ok (k := k) hle he h0_n h1_d
noncomputable def XQ.C : Code := (Tryz.f74.body).getD .skip
def XQ.out (r : QG) (H : Hp) (v : Value) : Prop := ∃ v0 v1, v = (Qa r v0 v1) ∧ Ro kU32 H v0 r.f_n.f_w ∧ Ro kU32 H v1 r.f_d.f_w
theorem XQ.out_mono (r : QG) {H H' : Hp} {v : Value} (hle : H.le H') (h : XQ.out r H v) : XQ.out r H' v := by
 obtain ⟨v0, v1, rfl, h0, h1⟩ := h; exact ⟨v0, v1, rfl, h0.mono hle, h1.mono hle⟩
noncomputable def XQ.f (k : Nat) (a : QJ) : Option QG := (XP.f k a.f_N).bind fun y3 => (XP.f k a.f_D).bind fun y9 => (XH.f k y3 y9).bind fun y15 => some (y15.1)
theorem XQ.calls (k : Nat) {H : Hp} {L : Items} {a : QJ} {v0_a v1_a : Value} {r : QG} (he : XQ.f k a = some r) (h0_a : Ro kI64 H v0_a a.f_N.f_D) (h1_a : Ro kI64 H v1_a a.f_D.f_D) : Ct Tryz.prog 74 ⟨[(Qe a v0_a v1_a)]⟩ H L (cR H L (XQ.out r)) := by
 refine XS (O := XQ.out r) ?_
 have hle : H.le H := .refl _
 unfold XQ.f at he
 refine QZ (args := [(Qe a v0_a v1_a)]) fn_74 rfl nt_74 rfl <| wR rfl <| wB (Qe a v0_a v1_a) rfl rfl rfl <| fun b1 => wN zr26 rfl rfl fun b2 => wE <| bK he fun y3 hy4 he => bK he fun y9 hy10 he => bK he fun y15 hy16 he => ?_
 refine YF (?_)
 refine Xv (p := 12) (tl := [12]) [[], [(0, some 6)], [(1, some 7)], [], [(3, some 9)], [(4, some 10)], [(2, some 8), (5, some 11)], [(6, some 12)], [(7, some 5)], [(7, some 5)], [], [(8, some 13), (10, some 3)]] [some 6, some 7, some 8, some 9, some 10, some 11, some 12, some 5, some 13, some 14, some 3, none] (fctF (.is (pt b1) :: .is (Qb a.f_N v0_a) :: .of (XP.out y3) (XP.out_mono _) :: .is (po b1 2) :: .is (Qb a.f_D v1_a) :: .of (XP.out y9) (XP.out_mono _) :: .of (XH.out y15) (XH.out_mono _) :: .of (fun H v => ∃ v23 v25, v = .tuple ⟨[(Qa y15.1 v23 v25), errV 104 y15.2]⟩ ∧ Ro kU32 H v23 y15.1.f_n.f_w ∧ Ro kU32 H v25 y15.1.f_d.f_w) (by rintro _ _ _ hle ⟨v23, v25, rfl, h24, h26⟩; exact ⟨v23, v25, rfl, h24.mono hle, h26.mono hle⟩) :: .of (fun H v => ∃ v27 v29, v = (Qa y15.1 v27 v29) ∧ Ro kU32 H v27 y15.1.f_n.f_w ∧ Ro kU32 H v29 y15.1.f_d.f_w) (by rintro _ _ _ hle ⟨v27, v29, rfl, h28, h30⟩; exact ⟨v27, v29, rfl, h28.mono hle, h30.mono hle⟩) :: .is (errV 104 y15.2) :: .box 26 z0c :: .st 10 (fun H bq_ itq_ => ∃ v32 v34, itq_ = bx bq_ (Qt y15.1 v32 v34) 26 ∧ Ro kU32 H v32 y15.1.f_n.f_w ∧ Ro kU32 H v34 y15.1.f_d.f_w) (by rintro _ _ _ _ hle ⟨v32, v34, rfl, h33, h35⟩; exact ⟨v32, v34, rfl, h33.mono hle, h35.mono hle⟩) :: [])) (fun m_ => pk (m_ 11) (m_ 10) :: bx b2 z0c 26 :: bx b1 (XB a v0_a v1_a) 40 :: L) (fun _ => none) mixed (by kernel_rfl) (by kernel_rfl) rfl (Xn (by kernel_rfl)) ⟨(fun H' m_ hH hm_ hu_ => dn <| s_d (m_ 0) rfl (QM (o' := 0) Tryz.underlying40 rfl sz37 rfl rfl rfl) (by exact rfl) rfl), (by rintro H' m_ hH hm_ hu_ _ rfl; exact dn <| s_d (m_ 1) rfl (Qq (v := (Qb a.f_N v0_a)) ty37 rfl .h2 rfl rfl rfl rfl) (by exact rfl) rfl), (by rintro H' m_ hH hm_ hu_ _ rfl; exact dn <| s_k (m_ 2) rfl (Qj co125 (vs := [(Qb a.f_N v0_a)]) rfl (XP.calls k (a := a.f_N) hy4 (h0_a.mono hH))) rfl (by rintro v_ H_ _ ⟨rfl, e_, h_⟩; exact ⟨rfl, e_, h_⟩)), (fun H' m_ hH hm_ hu_ => dn <| s_d (m_ 3) rfl (QM (o' := 2) Tryz.underlying40 rfl sz37 rfl rfl rfl) (by exact rfl) rfl), (by rintro H' m_ hH hm_ hu_ _ rfl; exact dn <| s_d (m_ 4) rfl (Qq (v := (Qb a.f_D v1_a)) ty37 rfl .h2 rfl rfl rfl rfl) (by exact rfl) rfl), (by rintro H' m_ hH hm_ hu_ _ rfl; exact dn <| s_k (m_ 5) rfl (Qj co125 (vs := [(Qb a.f_D v1_a)]) rfl (XP.calls k (a := a.f_D) hy10 (h1_a.mono hH))) rfl (by rintro v_ H_ _ ⟨rfl, e_, h_⟩; exact ⟨rfl, e_, h_⟩)), (by rintro H' m_ hH hm_ hu_ _ ⟨v7, rfl, h8⟩ _ ⟨v13, rfl, h14⟩; exact dn <| s_k (m_ 6) rfl (Qj co73 (vs := [(Qd y3 v7), (Qd y9 v13)]) rfl (XH.calls k (n := y3) (d := y9) hy16 h8 h14)) rfl (by rintro v_ H_ _ ⟨rfl, e_, h_⟩; exact ⟨rfl, e_, h_⟩)), (by rintro H' m_ hH hm_ hu_ _ ⟨v19, v21, rfl, h20, h22⟩; exact dn <| s_d (m_ 7) rfl (QR (v := .tuple ⟨[(Qa y15.1 v19 v21), errV 104 y15.2]⟩) rfl) (by exact ⟨v19, v21, rfl, h20, h22⟩) rfl), (by rintro H' m_ hH hm_ hu_ _ ⟨v23, v25, rfl, h24, h26⟩; exact dn <| s_d (m_ 8) rfl (QS rfl rfl) (by exact ⟨v23, v25, rfl, h24, h26⟩) rfl), (by rintro H' m_ hH hm_ hu_ _ ⟨v23, v25, rfl, h24, h26⟩; exact dn <| s_d (m_ 9) rfl (QS rfl rfl) (by exact rfl) rfl), (fun H' m_ hH hm_ hu_ => dn <| Ze hm_ rfl rfl (YJ zr26 rfl) rfl (fun _ => (JH (hu_ 11 (by kernel_rfl)))) (by exact fun b_ => ⟨b_, rfl, rfl⟩)), (by rintro H' m_ hH hm_ hu_ _ ⟨v27, v29, rfl, h28, h30⟩ _ ⟨b31, rfl, hb31_⟩; exact dn <| Z6 (Λ' := fun z_ => z_ :: bx b2 z0c 26 :: bx b1 (XB a v0_a v1_a) 40 :: L) (bx b31 (Qt y15.1 v27 v29) 26) hm_ rfl hb31_ rfl (YW (v := (Qa y15.1 v27 v29)) sz26 rfl rfl rfl rfl (oc rfl (oc (h28.one) (oc rfl (oc (h30.one) oz)))) .here u4) rfl rfl (by exact ⟨rfl, v27, v29, congrArg (fun b_ => (some (b_, Obj.cells ⟨(Qt y15.1 v27 v29)⟩ 26 (0, 0)) : Item')) (JF hb31_).symm, h28, h30⟩)), trivial⟩ ?_
 intro H38 e39
 rintro _ _ rfl _ _ rfl _ _ ⟨v7, rfl, h8⟩ _ _ rfl _ _ rfl _ _ ⟨v13, rfl, h14⟩ _ _ ⟨v19, v21, rfl, h20, h22⟩ _ _ ⟨v23, v25, rfl, h24, h26⟩ _ _ ⟨v27, v29, rfl, h28, h30⟩ _ _ rfl _ _ ⟨b31, rfl, rfl⟩ _ i36 ⟨rfl, v32, v34, h37, h33, h35⟩
 replace h37 : i36 = bx b31 (Qt y15.1 v32 v34) 26 := h37
 subst h37
 refine w_it (L' := bx b31 (Qt y15.1 v32 v34) 26 :: bx b2 z0c 26 :: bx b1 (XB a v0_a v1_a) 40 :: L) rfl <| wA (errV 104 y15.2) rfl rfl <| wQ rfl <| wL (Qa y15.1 v32 v34) ty26 rfl rfl .here rfl rfl <| wS (Qa y15.1 v32 v34) sz26 rfl rfl rfl rfl rfl (Xw h33 h35) .h1 u4 <| Qc ?_
 obtain rfl := sj he
 refine Qn fn_74 rs_74 (.box (v := (Qa y15.1 v32 v34)) rfl ty26 rfl rfl .h1 rfl .nil) <| ⟨⟨[_, _, _], rfl⟩, hle.trans e39, ⟨v32, v34, rfl, h33, h35⟩⟩
noncomputable def XJ.C : Code := (Tryz.f21.body).getD .skip
def XJ.out (r : QL) (H : Hp) (v : Value) : Prop := ∃ v0 v1 v2 v3, v = (Qg r v0 v1 v2 v3) ∧ Ro kU32 H v0 r.f_Low.f_n.f_w ∧ Ro kU32 H v1 r.f_Low.f_d.f_w ∧ Ro kU32 H v2 r.f_High.f_n.f_w ∧ Ro kU32 H v3 r.f_High.f_d.f_w
theorem XJ.out_mono (r : QL) {H H' : Hp} {v : Value} (hle : H.le H') (h : XJ.out r H v) : XJ.out r H' v := by
 obtain ⟨v0, v1, v2, v3, rfl, h0, h1, h2, h3⟩ := h; exact ⟨v0, v1, v2, v3, rfl, h0.mono hle, h1.mono hle, h2.mono hle, h3.mono hle⟩
noncomputable def XJ.f (k : Nat) (a : Xg) : Option QL := (XQ.f k a.f_Low).bind fun y3 => (XQ.f k a.f_High).bind fun y13 => some (⟨y3, y13⟩)
theorem XJ.calls (k : Nat) {H : Hp} {L : Items} {a : Xg} {v0_a v1_a v2_a v3_a : Value} {r : QL} (he : XJ.f k a = some r) (h0_a : Ro kI64 H v0_a a.f_Low.f_N.f_D) (h1_a : Ro kI64 H v1_a a.f_Low.f_D.f_D) (h2_a : Ro kI64 H v2_a a.f_High.f_N.f_D) (h3_a : Ro kI64 H v3_a a.f_High.f_D.f_D) : Ct Tryz.prog 21 ⟨[(Qk a v0_a v1_a v2_a v3_a)]⟩ H L (cR H L (XJ.out r)) := by
 refine XS (O := XJ.out r) ?_
 have hle : H.le H := .refl _
 unfold XJ.f at he
 refine QZ (args := [(Qk a v0_a v1_a v2_a v3_a)]) fn_21 rfl nt_21 rfl <| wR rfl <| wB (Qk a v0_a v1_a v2_a v3_a) rfl rfl rfl <| fun b1 => wN zr28 rfl rfl fun b2 => wE <| bK he fun y3 hy4 he => Xv (p := 5) (tl := [5, 6, 7]) [[], [(0, some 3)], [(1, some 4)], [], [(3, some 6)]] [some 3, some 4, some 5, some 6, some 7] (fctF (.is (pt b1) :: .is (Qe a.f_Low v0_a v1_a) :: .of (XQ.out y3) (XQ.out_mono _) :: .is (po b1 4) :: .is (Qe a.f_High v2_a v3_a) :: [])) (fun m_ => bx b2 z2c 28 :: bx b1 (YL a v0_a v1_a v2_a v3_a) 45 :: L) (fun _ => none) mixed (by kernel_rfl) (by kernel_rfl) rfl (Xn (by kernel_rfl)) ⟨(fun H' m_ hH hm_ hu_ => dn <| s_d (m_ 0) rfl (QM (o' := 0) Tryz.underlying45 rfl sz40 rfl rfl rfl) (by exact rfl) rfl), (by rintro H' m_ hH hm_ hu_ _ rfl; exact dn <| s_d (m_ 1) rfl (Qq (v := (Qe a.f_Low v0_a v1_a)) ty40 rfl .h1 rfl rfl rfl rfl) (by exact rfl) rfl), (by rintro H' m_ hH hm_ hu_ _ rfl; exact dn <| s_k (m_ 2) rfl (Qj co74 (vs := [(Qe a.f_Low v0_a v1_a)]) rfl (XQ.calls k (a := a.f_Low) hy4 (h0_a.mono hH) (h1_a.mono hH))) rfl (by rintro v_ H_ _ ⟨rfl, e_, h_⟩; exact ⟨rfl, e_, h_⟩)), (fun H' m_ hH hm_ hu_ => dn <| s_d (m_ 3) rfl (QM (o' := 4) Tryz.underlying45 rfl sz40 rfl rfl rfl) (by exact rfl) rfl), (by rintro H' m_ hH hm_ hu_ _ rfl; exact dn <| s_d (m_ 4) rfl (Qq (v := (Qe a.f_High v2_a v3_a)) ty40 rfl .h1 rfl rfl rfl rfl) (by exact rfl) rfl), trivial⟩ ?_
 intro H11 e12
 rintro _ _ rfl _ _ rfl _ _ ⟨v7, v9, rfl, h8, h10⟩ _ _ rfl _ _ rfl
 refine bK he fun y13 hy14 he => w_a rfl (Qj co74 (vs := [(Qe a.f_High v2_a v3_a)]) rfl (XQ.calls k (a := a.f_High) hy14 (h2_a.mono e12) (h3_a.mono e12))) ?_
 rintro _ H15 _ ⟨rfl, e16, v17, v19, rfl, h18, h20⟩
 refine w_d rfl (Xx (cs' := [.bool y3.f_n.f_neg, v7, .bool y3.f_d.f_neg, v9, .bool y13.f_n.f_neg, v17, .bool y13.f_d.f_neg, v19]) Tryz.underlying28 zr28 rfl (by kernel_rfl) (parts := [(0, (Qa y3 v7 v9)), (1, (Qa y13 v17 v19))]) rfl (.cons (X2 rfl sz26 rfl) rfl rfl u4 (.cons (X2 rfl sz26 rfl) rfl rfl (.there (.there (.there (.there u4)))) .nil))) <| wS (.agg ⟨[.bool y3.f_n.f_neg, v7, .bool y3.f_d.f_neg, v9, .bool y13.f_n.f_neg, v17, .bool y13.f_d.f_neg, v19]⟩) sz28 rfl rfl rfl rfl rfl (oc rfl (oc (h8.one) (oc rfl (oc (h10.one) (oc rfl (oc (h18.one) (oc rfl (oc (h20.one) oz)))))))) .here (.here (.here (.here (.here u4)))) <| Qc ?_
 obtain rfl := sj he
 refine Qn fn_21 rs_21 (.box (v := .agg ⟨[.bool y3.f_n.f_neg, v7, .bool y3.f_d.f_neg, v9, .bool y13.f_n.f_neg, v17, .bool y13.f_d.f_neg, v19]⟩) rfl ty28 rfl rfl .here rfl .nil) <| ⟨⟨[_, _], rfl⟩, hle.trans (e12.trans e16), ⟨v7, v9, v17, v19, rfl, (h8.mono e16), (h10.mono e16), h18, h20⟩⟩
noncomputable def QD.C : Code := (Tryz.f78.body).getD .skip
def QD.out (r : Qu) (H : Hp) (v : Value) : Prop := ∃ v0, v = (Qd r v0) ∧ Ro kU32 H v0 r.f_w
theorem QD.out_mono (r : Qu) {H H' : Hp} {v : Value} (hle : H.le H') (h : QD.out r H v) : QD.out r H' v := by
 obtain ⟨v0, rfl, h0⟩ := h; exact ⟨v0, rfl, h0.mono hle⟩
noncomputable def QD.f (k : Nat) (a : QG) : Option Qu := (Xt.f k a.f_d).bind fun y3 => if y3 = 0 then ((XR.f k 1).bind fun y8 => some (y8)) else (some (a.f_d))
theorem QD.mono : ∀ k y0, LeO (QD.f k y0) (QD.f (k + 1) y0) := fun k _ => by unfold QD.f; exact (LeO.bind (Xt.mono k _) fun _ => LeO.ite (LeO.bind (XR.mono k _) fun _ => LeO.refl _) (LeO.refl _))
theorem QD.calls (k : Nat) {H : Hp} {L : Items} {a : QG} {v0_a v1_a : Value} {r : Qu} (he : QD.f k a = some r) (h0_a : Ro kU32 H v0_a a.f_n.f_w) (h1_a : Ro kU32 H v1_a a.f_d.f_w) : Ct Tryz.prog 78 ⟨[(Qa a v0_a v1_a)]⟩ H L (cR H L (QD.out r)) := by
 refine XS (O := QD.out r) ?_
 have hle : H.le H := .refl _
 unfold QD.f at he
 refine QZ (args := [(Qa a v0_a v1_a)]) fn_78 rfl nt_78 rfl <| wR rfl <| wB (Qa a v0_a v1_a) rfl rfl rfl <| fun b1 => wN zr24 rfl rfl fun b2 => wE <| wR rfl <| w_d rfl (QM (o' := 2) Tryz.underlying26 rfl sz24 rfl rfl rfl) <| wL (Qd a.f_d v1_a) ty24 rfl rfl .h1 rfl rfl <| bK he fun y3 hy4 he => ?_
 refine w_d rfl (Xi (Qj co84 (vs := [(Qd a.f_d v1_a)]) rfl (Xt.calls k (a := a.f_d) hy4 h1_a))) <| w_d rfl (Zb rfl rfl) <| Qc ?_
 rcases its he with ⟨c7, he⟩ | ⟨c7, he⟩
 ·
  refine QB rfl (dt c7) <| wR rfl <| bK he fun y8 hy9 he => w_a rfl (Qj co71 (vs := [.int .i64 1]) rfl (XR.calls k hy9)) ?_
  rintro _ H10 _ ⟨rfl, e11, v12, rfl, h13⟩
  refine wS (Qd y8 v12) sz24 rfl rfl rfl rfl rfl (XF h13) .here u2 <| Qc ?_
  obtain rfl := sj he
  refine Qn fn_78 rs_78 (.box (v := (Qd y8 v12)) rfl ty24 rfl rfl .here rfl .nil) <| ⟨⟨[_, _], rfl⟩, hle.trans e11, ⟨v12, rfl, h13⟩⟩
 ·
  refine QI rfl (df c7) <| QF <| wR rfl <| w_d rfl (QM (o' := 2) Tryz.underlying26 rfl sz24 rfl rfl rfl) <| wL (Qd a.f_d v1_a) ty24 rfl rfl .h1 rfl rfl <| wS (Qd a.f_d v1_a) sz24 rfl rfl rfl rfl rfl (XF h1_a) .here u2 <| Qc ?_
  obtain rfl := sj he
  refine Qn fn_78 rs_78 (.box (v := (Qd a.f_d v1_a)) rfl ty24 rfl rfl .here rfl .nil) <| ⟨⟨[_, _], rfl⟩, hle, ⟨v1_a, rfl, h1_a⟩⟩
noncomputable def XD.C : Code := (Tryz.f128.body).getD .skip
def XD.out (r : Qu × (Option Int)) (H : Hp) (v : Value) : Prop := ∃ v0, v = .tuple ⟨[(Qd r.1 v0), errV 104 r.2]⟩ ∧ Ro kU32 H v0 r.1.f_w
theorem XD.out_mono (r : Qu × (Option Int)) {H H' : Hp} {v : Value} (hle : H.le H') (h : XD.out r H v) : XD.out r H' v := by
 obtain ⟨v0, rfl, h0⟩ := h; exact ⟨v0, rfl, h0.mono hle⟩
noncomputable def XD.f (k : Nat) (a b : Qu) : Option (Qu × (Option Int)) := (QK.f k a.f_w b.f_w).bind fun y4 => (XN.f k (!(a.f_neg == b.f_neg)) y4).bind fun y10 => some (y10.1, y10.2)
theorem XD.mono : ∀ k y0 y1, LeO (XD.f k y0 y1) (XD.f (k + 1) y0 y1) := fun k _ _ => by unfold XD.f; exact (LeO.bind (QK.mono k _ _) fun _ => LeO.bind (XN.mono k _ _) fun _ => LeO.refl _)
theorem XD.calls (k : Nat) {H : Hp} {L : Items} {a b : Qu} {v0_a v1_b : Value} {r : Qu × (Option Int)} (he : XD.f k a b = some r) (h0_a : Ro kU32 H v0_a a.f_w) (h1_b : Ro kU32 H v1_b b.f_w) : Ct Tryz.prog 128 ⟨[(Qd a v0_a), (Qd b v1_b)]⟩ H L (cR H L (XD.out r)) := by
 refine XS (O := XD.out r) ?_
 have hle : H.le H := .refl _
 unfold XD.f at he
 refine QZ (args := [(Qd a v0_a), (Qd b v1_b)]) fn_128 rfl nt_128 rfl <| wR rfl <| wB (Qd a v0_a) rfl rfl rfl <| fun b1 => wB (Qd b v1_b) rfl rfl rfl <| fun b2 => wN zr24 rfl rfl fun b3 => wA (errV 104 none) rfl rfl <| wE <| bK he fun y4 hy5 he => bK he fun y10 hy11 he => Xv (p := 13) (tl := [13, 14]) [[], [(0, some 6)], [], [(2, some 8)], [(1, some 7), (3, some 9)], [], [(5, some 11)], [], [(7, some 13)], [(6, some 12), (8, some 14)], [(4, some 10), (9, some 15)], [(10, some 16)], [(10, some 16)]] [some 6, some 7, some 8, some 9, some 10, some 11, some 12, some 13, some 14, some 15, some 16, some 17, some 18] (fctF (.is (pt b1) :: .is (.bool a.f_neg) :: .is (pt b2) :: .is (.bool b.f_neg) :: .is (.bool (!(a.f_neg == b.f_neg))) :: .is (po b1 1) :: .is (v0_a) :: .is (po b2 1) :: .is (v1_b) :: .ro kU32 (y4) :: .of (XN.out y10) (XN.out_mono _) :: .of (fun H v => ∃ v16, v = (Qd y10.1 v16) ∧ Ro kU32 H v16 y10.1.f_w) (by rintro _ _ _ hle ⟨v16, rfl, h17⟩; exact ⟨v16, rfl, h17.mono hle⟩) :: .is (errV 104 y10.2) :: [])) (fun m_ => bx b3 [.bool false, .slice none 0 0] 24 :: bx b2 (QW b v1_b) 24 :: bx b1 (QW a v0_a) 24 :: L) (fun _ => none) mixed (by kernel_rfl) (by kernel_rfl) rfl (Xn (by kernel_rfl)) ⟨(fun H' m_ hH hm_ hu_ => dn <| s_d (m_ 0) rfl (QM (o' := 0) Tryz.underlying24 rfl sz4 rfl rfl rfl) (by exact rfl) rfl), (by rintro H' m_ hH hm_ hu_ _ rfl; exact dn <| s_d (m_ 1) rfl (Qq (v := .bool a.f_neg) ty4 rfl .h2 rfl rfl rfl rfl) (by exact rfl) rfl), (fun H' m_ hH hm_ hu_ => dn <| s_d (m_ 2) rfl (QM (o' := 0) Tryz.underlying24 rfl sz4 rfl rfl rfl) (by exact rfl) rfl), (by rintro H' m_ hH hm_ hu_ _ rfl; exact dn <| s_d (m_ 3) rfl (Qq (v := .bool b.f_neg) ty4 rfl .h1 rfl rfl rfl rfl) (by exact rfl) rfl), (by rintro H' m_ hH hm_ hu_ _ rfl _ rfl; exact dn <| s_d (m_ 4) rfl (G4 (a := a.f_neg) (b := b.f_neg) Tryz.underlying4 rfl rfl) (by exact rfl) rfl), (fun H' m_ hH hm_ hu_ => dn <| s_d (m_ 5) rfl (QM (o' := 1) Tryz.underlying24 rfl sz22 rfl rfl rfl) (by exact rfl) rfl), (by rintro H' m_ hH hm_ hu_ _ rfl; exact dn <| s_d (m_ 6) rfl (Qq (v := v0_a) ty22 rfl .h2 rfl rfl rfl rfl) (by exact rfl) rfl), (fun H' m_ hH hm_ hu_ => dn <| s_d (m_ 7) rfl (QM (o' := 1) Tryz.underlying24 rfl sz22 rfl rfl rfl) (by exact rfl) rfl), (by rintro H' m_ hH hm_ hu_ _ rfl; exact dn <| s_d (m_ 8) rfl (Qq (v := v1_b) ty22 rfl .h1 rfl rfl rfl rfl) (by exact rfl) rfl), (by rintro H' m_ hH hm_ hu_ _ rfl _ rfl; exact dn <| s_k (m_ 9) rfl (Qj co145 (vs := [v0_a, v1_b]) rfl (QK.calls k hy5 ((h0_a.mono hH).src) ((h1_b.mono hH).src))) rfl (by rintro v_ H_ _ ⟨rfl, e_, h_⟩; exact ⟨rfl, e_, h_⟩)), (by rintro H' m_ hH hm_ hu_ _ rfl v8 (h9 : Ro kU32 H' v8 y4); exact dn <| s_k (m_ 10) rfl (Qj co115 (vs := [.bool (!(a.f_neg == b.f_neg)), v8]) rfl (XN.calls k hy11 h9)) rfl (by rintro v_ H_ _ ⟨rfl, e_, h_⟩; exact ⟨rfl, e_, h_⟩)), (by rintro H' m_ hH hm_ hu_ _ ⟨v14, rfl, h15⟩; exact dn <| s_d (m_ 11) rfl (QS rfl rfl) (by exact ⟨v14, rfl, h15⟩) rfl), (by rintro H' m_ hH hm_ hu_ _ ⟨v14, rfl, h15⟩; exact dn <| s_d (m_ 12) rfl (QS rfl rfl) (by exact rfl) rfl), trivial⟩ ?_
 intro H18 e19
 rintro _ _ rfl _ _ rfl _ _ rfl _ _ rfl _ _ rfl _ _ rfl _ _ rfl _ _ rfl _ _ rfl v8 _ (h9 : Ro kU32 H18 v8 y4) _ _ ⟨v14, rfl, h15⟩ _ _ ⟨v16, rfl, h17⟩ _ _ rfl
 refine wS (Qd y10.1 v16) sz24 rfl rfl rfl rfl rfl (XF h17) .here u2 <| wA (errV 104 y10.2) rfl rfl <| Qc ?_
 obtain rfl := sj he
 refine Qn fn_128 rs_128 (.box (v := (Qd y10.1 v16)) rfl ty24 rfl rfl .here rfl (.tmp (v := errV 104 y10.2) rfl .nil)) <| ⟨⟨[_, _, _], rfl⟩, hle.trans e19, ⟨v16, rfl, h17⟩⟩
noncomputable def X0.C : Code := (Tryz.f106.body).getD .skip
def X0.out (r : Qu × Qu × (Option Int)) (H : Hp) (v : Value) : Prop := ∃ v0 v1, v = .tuple ⟨[(Qd r.1 v0), (Qd r.2.1 v1), errV 104 r.2.2]⟩ ∧ Ro kU32 H v0 r.1.f_w ∧ Ro kU32 H v1 r.2.1.f_w
noncomputable def X0.f (k : Nat) (a b : QG) : Option (Qu × Qu × (Option Int)) := (QD.f k b).bind fun y5 => (XD.f k a.f_n y5).bind fun y11 => if y11.2.isSome = true then (some (y11.1, y11.1, y11.2)) else ((QD.f k a).bind fun y31 => (XD.f k b.f_n y31).bind fun y37 => some (y11.1, y37.1, y37.2))
theorem X0.mono : ∀ k y0 y1, LeO (X0.f k y0 y1) (X0.f (k + 1) y0 y1) := fun k _ _ => by unfold X0.f; exact (LeO.bind (QD.mono k _) fun _ => LeO.bind (XD.mono k _ _) fun _ => LeO.ite (LeO.refl _) (LeO.bind (QD.mono k _) fun _ => LeO.bind (XD.mono k _ _) fun _ => LeO.refl _))
theorem X0.calls (k : Nat) {H : Hp} {L : Items} {a b : QG} {v0_a v1_a v2_b v3_b : Value} {r : Qu × Qu × (Option Int)} (he : X0.f k a b = some r) (h0_a : Ro kU32 H v0_a a.f_n.f_w) (h1_a : Ro kU32 H v1_a a.f_d.f_w) (h2_b : Ro kU32 H v2_b b.f_n.f_w) (h3_b : Ro kU32 H v3_b b.f_d.f_w) : Ct Tryz.prog 106 ⟨[(Qa a v0_a v1_a), (Qa b v2_b v3_b)]⟩ H L (cR H L (X0.out r)) := by
 refine XS (O := X0.out r) ?_
 have hle : H.le H := .refl _
 unfold X0.f at he
 refine QZ (args := [(Qa a v0_a v1_a), (Qa b v2_b v3_b)]) fn_106 rfl nt_106 rfl <| wR rfl <| wB (Qa a v0_a v1_a) rfl rfl rfl <| fun b1 => wB (Qa b v2_b v3_b) rfl rfl rfl <| fun b2 => wN zr24 rfl rfl fun b3 => wN zr24 rfl rfl fun b4 => wA (errV 104 none) rfl rfl <| wE <| bK he fun y5 hy6 he => bK he fun y11 hy12 he => ?_
 refine YF (?_)
 refine Xv (p := 10) (tl := [10]) [[], [(0, some 11)], [], [(2, some 13)], [(1, some 12), (3, some 14)], [(4, some 15)], [(5, some 10)], [(5, some 10)], [], [(6, some 16), (8, some 7)]] [some 11, some 12, some 13, some 14, some 15, some 10, some 16, some 17, some 7, none] (fctF (.is (pt b1) :: .is (Qd a.f_n v0_a) :: .is (Qa b v2_b v3_b) :: .of (QD.out y5) (QD.out_mono _) :: .of (XD.out y11) (XD.out_mono _) :: .of (fun H v => ∃ v17, v = .tuple ⟨[(Qd y11.1 v17), errV 104 y11.2]⟩ ∧ Ro kU32 H v17 y11.1.f_w) (by rintro _ _ _ hle ⟨v17, rfl, h18⟩; exact ⟨v17, rfl, h18.mono hle⟩) :: .of (fun H v => ∃ v19, v = (Qd y11.1 v19) ∧ Ro kU32 H v19 y11.1.f_w) (by rintro _ _ _ hle ⟨v19, rfl, h20⟩; exact ⟨v19, rfl, h20.mono hle⟩) :: .is (errV 104 y11.2) :: .box 24 [.bool false, .slice none 0 0] :: .st 8 (fun H bq_ itq_ => ∃ v22, itq_ = bx bq_ (QW y11.1 v22) 24 ∧ Ro kU32 H v22 y11.1.f_w) (by rintro _ _ _ _ hle ⟨v22, rfl, h23⟩; exact ⟨v22, rfl, h23.mono hle⟩) :: [])) (fun m_ => pk (m_ 9) (m_ 8) :: bx b4 [.bool false, .slice none 0 0] 24 :: bx b3 [.bool false, .slice none 0 0] 24 :: bx b2 (Qt b v2_b v3_b) 26 :: bx b1 (Qt a v0_a v1_a) 26 :: L) (fun _ => none) mixed (by kernel_rfl) (by kernel_rfl) rfl (Xn (by kernel_rfl)) ⟨(fun H' m_ hH hm_ hu_ => dn <| s_d (m_ 0) rfl (QM (o' := 0) Tryz.underlying26 rfl sz24 rfl rfl rfl) (by exact rfl) rfl), (by rintro H' m_ hH hm_ hu_ _ rfl; exact dn <| s_d (m_ 1) rfl (Qq (v := (Qd a.f_n v0_a)) ty24 rfl .h4 rfl rfl rfl rfl) (by exact rfl) rfl), (fun H' m_ hH hm_ hu_ => dn <| s_d (m_ 2) rfl (Qq (v := (Qa b v2_b v3_b)) ty26 rfl .h3 rfl rfl rfl rfl) (by exact rfl) rfl), (by rintro H' m_ hH hm_ hu_ _ rfl; exact dn <| s_k (m_ 3) rfl (Qj co78 (vs := [(Qa b v2_b v3_b)]) rfl (QD.calls k (a := b) hy6 (h2_b.mono hH) (h3_b.mono hH))) rfl (by rintro v_ H_ _ ⟨rfl, e_, h_⟩; exact ⟨rfl, e_, h_⟩)), (by rintro H' m_ hH hm_ hu_ _ rfl _ ⟨v9, rfl, h10⟩; exact dn <| s_k (m_ 4) rfl (Qj co128 (vs := [(Qd a.f_n v0_a), (Qd y5 v9)]) rfl (XD.calls k (a := a.f_n) (b := y5) hy12 (h0_a.mono hH) h10)) rfl (by rintro v_ H_ _ ⟨rfl, e_, h_⟩; exact ⟨rfl, e_, h_⟩)), (by rintro H' m_ hH hm_ hu_ _ ⟨v15, rfl, h16⟩; exact dn <| s_d (m_ 5) rfl (QR (v := .tuple ⟨[(Qd y11.1 v15), errV 104 y11.2]⟩) rfl) (by exact ⟨v15, rfl, h16⟩) rfl), (by rintro H' m_ hH hm_ hu_ _ ⟨v17, rfl, h18⟩; exact dn <| s_d (m_ 6) rfl (QS rfl rfl) (by exact ⟨v17, rfl, h18⟩) rfl), (by rintro H' m_ hH hm_ hu_ _ ⟨v17, rfl, h18⟩; exact dn <| s_d (m_ 7) rfl (QS rfl rfl) (by exact rfl) rfl), (fun H' m_ hH hm_ hu_ => dn <| Ze hm_ rfl rfl (YJ zr24 rfl) rfl (fun _ => (JH (hu_ 9 (by kernel_rfl)))) (by exact fun b_ => ⟨b_, rfl, rfl⟩)), (by rintro H' m_ hH hm_ hu_ _ ⟨v19, rfl, h20⟩ _ ⟨b21, rfl, hb21_⟩; exact dn <| Z6 (Λ' := fun z_ => z_ :: bx b4 [.bool false, .slice none 0 0] 24 :: bx b3 [.bool false, .slice none 0 0] 24 :: bx b2 (Qt b v2_b v3_b) 26 :: bx b1 (Qt a v0_a v1_a) 26 :: L) (bx b21 (QW y11.1 v19) 24) hm_ rfl hb21_ rfl (YW (v := (Qd y11.1 v19)) sz24 rfl rfl rfl rfl (oc rfl (oc (h20.one) oz)) .here u2) rfl rfl (by exact ⟨rfl, v19, congrArg (fun b_ => (some (b_, Obj.cells ⟨(QW y11.1 v19)⟩ 24 (0, 0)) : Item')) (JF hb21_).symm, h20⟩)), trivial⟩ ?_
 intro H26 e27
 rintro _ _ rfl _ _ rfl _ _ rfl _ _ ⟨v9, rfl, h10⟩ _ _ ⟨v15, rfl, h16⟩ _ _ ⟨v17, rfl, h18⟩ _ _ ⟨v19, rfl, h20⟩ _ _ rfl _ _ ⟨b21, rfl, rfl⟩ _ i24 ⟨rfl, v22, h25, h23⟩
 replace h25 : i24 = bx b21 (QW y11.1 v22) 24 := h25
 subst h25
 refine w_it (L' := bx b21 (QW y11.1 v22) 24 :: bx b4 [.bool false, .slice none 0 0] 24 :: bx b3 [.bool false, .slice none 0 0] 24 :: bx b2 (Qt b v2_b v3_b) 26 :: bx b1 (Qt a v0_a v1_a) 26 :: L) rfl <| wA (errV 104 y11.2) rfl rfl <| wE <| wR rfl <| wM (errV 104 y11.2) rfl rfl <| w_d rfl (X1 (e := y11.2) Tryz.underlying30 rfl) <| Qc ?_
 rcases its he with ⟨c28, he⟩ | ⟨c28, he⟩
 ·
  refine QB rfl c28 <| QX <| Xv (p := 5) (tl := [5]) [[], [], [], [(0, some 20)], [(1, some 21)]] [some 20, some 21, some 22, none, none] (fctF (.is (Qd y11.1 v22) :: .is (Qd y11.1 v22) :: .is (errV 104 y11.2) :: .itm (fun H itq_ => itq_ = bx b3 (QW y11.1 v22) 24) (by rintro _ _ _ hle rfl; exact rfl) :: .itm (fun H itq_ => itq_ = bx b4 (QW y11.1 v22) 24) (by rintro _ _ _ hle rfl; exact rfl) :: [])) (fun m_ => bx b21 (QW y11.1 v22) 24 :: m_ 4 :: m_ 3 :: bx b2 (Qt b v2_b v3_b) 26 :: bx b1 (Qt a v0_a v1_a) 26 :: L) (fun i_ => if i_ = 3 then bx b3 [.bool false, .slice none 0 0] 24 else if i_ = 4 then bx b4 [.bool false, .slice none 0 0] 24 else none) mixed (by kernel_rfl) (by kernel_rfl) rfl (Xn (by kernel_rfl)) ⟨(fun H' m_ hH hm_ hu_ => dn <| s_d (m_ 0) rfl (Qq (v := (Qd y11.1 v22)) ty24 rfl .here rfl rfl rfl rfl) (by exact rfl) rfl), (fun H' m_ hH hm_ hu_ => dn <| s_d (m_ 1) rfl (Qq (v := (Qd y11.1 v22)) ty24 rfl .here rfl rfl rfl rfl) (by exact rfl) rfl), (fun H' m_ hH hm_ hu_ => dn <| s_d (m_ 2) rfl (QR (v := errV 104 y11.2) rfl) (by exact rfl) rfl), (by rintro H' m_ hH hm_ hu_ _ rfl; exact dn <| ZN (bx b3 (QW y11.1 v22) 24) hm_ rfl (YW (v := (Qd y11.1 v22)) sz24 rfl rfl rfl rfl (oc rfl (oc (h23.one) oz)) .h2 u2) rfl (by exact ⟨rfl, rfl⟩)), (by rintro H' m_ hH hm_ hu_ _ rfl; exact dn <| ZN (bx b4 (QW y11.1 v22) 24) hm_ rfl (YW (v := (Qd y11.1 v22)) sz24 rfl rfl rfl rfl (oc rfl (oc (h23.one) oz)) .h1 u2) rfl (by exact ⟨rfl, rfl⟩)), trivial⟩ ?_
  intro H29 e30
  rintro _ _ rfl _ _ rfl _ _ rfl _ _ ⟨rfl, rfl⟩ _ _ ⟨rfl, rfl⟩
  refine w_it (L' := bx b21 (QW y11.1 v22) 24 :: bx b4 (QW y11.1 v22) 24 :: bx b3 (QW y11.1 v22) 24 :: bx b2 (Qt b v2_b v3_b) 26 :: bx b1 (Qt a v0_a v1_a) 26 :: L) rfl <| wA (errV 104 y11.2) rfl rfl <| Qc ?_
  obtain rfl := sj he
  refine Qn fn_106 rs_106 (.box (v := (Qd y11.1 v22)) rfl ty24 rfl rfl .h2 rfl (.box (v := (Qd y11.1 v22)) rfl ty24 rfl rfl .h1 rfl (.tmp (v := errV 104 y11.2) rfl .nil))) <| ⟨⟨[_, _, _, _, _], rfl⟩, hle.trans (e27.trans e30), ⟨v22, v22, rfl, (h23.mono e30), (h23.mono e30)⟩⟩
 ·
  refine QI rfl (Bool.eq_false_iff.2 c28) <| QF <| QX <| bK he fun y31 hy32 he => bK he fun y37 hy38 he => ?_
  refine YF (?_)
  refine Xv (p := 10) (tl := [10]) [[], [(0, some 24)], [], [(2, some 26)], [(1, some 25), (3, some 27)], [(4, some 28)], [(5, some 23)], [(5, some 23)], [], [(6, some 29), (8, some 9)]] [some 24, some 25, some 26, some 27, some 28, some 23, some 29, some 30, some 9, none] (fctF (.is (pt b2) :: .is (Qd b.f_n v2_b) :: .is (Qa a v0_a v1_a) :: .of (QD.out y31) (QD.out_mono _) :: .of (XD.out y37) (XD.out_mono _) :: .of (fun H v => ∃ v43, v = .tuple ⟨[(Qd y37.1 v43), errV 104 y37.2]⟩ ∧ Ro kU32 H v43 y37.1.f_w) (by rintro _ _ _ hle ⟨v43, rfl, h44⟩; exact ⟨v43, rfl, h44.mono hle⟩) :: .of (fun H v => ∃ v45, v = (Qd y37.1 v45) ∧ Ro kU32 H v45 y37.1.f_w) (by rintro _ _ _ hle ⟨v45, rfl, h46⟩; exact ⟨v45, rfl, h46.mono hle⟩) :: .is (errV 104 y37.2) :: .box 24 [.bool false, .slice none 0 0] :: .st 8 (fun H bq_ itq_ => ∃ v48, itq_ = bx bq_ (QW y37.1 v48) 24 ∧ Ro kU32 H v48 y37.1.f_w) (by rintro _ _ _ _ hle ⟨v48, rfl, h49⟩; exact ⟨v48, rfl, h49.mono hle⟩) :: [])) (fun m_ => pk (m_ 9) (m_ 8) :: bx b21 (QW y11.1 v22) 24 :: bx b4 [.bool false, .slice none 0 0] 24 :: bx b3 [.bool false, .slice none 0 0] 24 :: bx b2 (Qt b v2_b v3_b) 26 :: bx b1 (Qt a v0_a v1_a) 26 :: L) (fun _ => none) mixed (by kernel_rfl) (by kernel_rfl) rfl (Xn (by kernel_rfl)) ⟨(fun H' m_ hH hm_ hu_ => dn <| s_d (m_ 0) rfl (QM (o' := 0) Tryz.underlying26 rfl sz24 rfl rfl rfl) (by exact rfl) rfl), (by rintro H' m_ hH hm_ hu_ _ rfl; exact dn <| s_d (m_ 1) rfl (Qq (v := (Qd b.f_n v2_b)) ty24 rfl .h4 rfl rfl rfl rfl) (by exact rfl) rfl), (fun H' m_ hH hm_ hu_ => dn <| s_d (m_ 2) rfl (Qq (v := (Qa a v0_a v1_a)) ty26 rfl .h5 rfl rfl rfl rfl) (by exact rfl) rfl), (by rintro H' m_ hH hm_ hu_ _ rfl; exact dn <| s_k (m_ 3) rfl (Qj co78 (vs := [(Qa a v0_a v1_a)]) rfl (QD.calls k (a := a) hy32 (h0_a.mono (e27.trans hH)) (h1_a.mono (e27.trans hH)))) rfl (by rintro v_ H_ _ ⟨rfl, e_, h_⟩; exact ⟨rfl, e_, h_⟩)), (by rintro H' m_ hH hm_ hu_ _ rfl _ ⟨v35, rfl, h36⟩; exact dn <| s_k (m_ 4) rfl (Qj co128 (vs := [(Qd b.f_n v2_b), (Qd y31 v35)]) rfl (XD.calls k (a := b.f_n) (b := y31) hy38 (h2_b.mono (e27.trans hH)) h36)) rfl (by rintro v_ H_ _ ⟨rfl, e_, h_⟩; exact ⟨rfl, e_, h_⟩)), (by rintro H' m_ hH hm_ hu_ _ ⟨v41, rfl, h42⟩; exact dn <| s_d (m_ 5) rfl (QR (v := .tuple ⟨[(Qd y37.1 v41), errV 104 y37.2]⟩) rfl) (by exact ⟨v41, rfl, h42⟩) rfl), (by rintro H' m_ hH hm_ hu_ _ ⟨v43, rfl, h44⟩; exact dn <| s_d (m_ 6) rfl (QS rfl rfl) (by exact ⟨v43, rfl, h44⟩) rfl), (by rintro H' m_ hH hm_ hu_ _ ⟨v43, rfl, h44⟩; exact dn <| s_d (m_ 7) rfl (QS rfl rfl) (by exact rfl) rfl), (fun H' m_ hH hm_ hu_ => dn <| Ze hm_ rfl rfl (YJ zr24 rfl) rfl (fun _ => (JH (hu_ 9 (by kernel_rfl)))) (by exact fun b_ => ⟨b_, rfl, rfl⟩)), (by rintro H' m_ hH hm_ hu_ _ ⟨v45, rfl, h46⟩ _ ⟨b47, rfl, hb47_⟩; exact dn <| Z6 (Λ' := fun z_ => z_ :: bx b21 (QW y11.1 v22) 24 :: bx b4 [.bool false, .slice none 0 0] 24 :: bx b3 [.bool false, .slice none 0 0] 24 :: bx b2 (Qt b v2_b v3_b) 26 :: bx b1 (Qt a v0_a v1_a) 26 :: L) (bx b47 (QW y37.1 v45) 24) hm_ rfl hb47_ rfl (YW (v := (Qd y37.1 v45)) sz24 rfl rfl rfl rfl (oc rfl (oc (h46.one) oz)) .here u2) rfl rfl (by exact ⟨rfl, v45, congrArg (fun b_ => (some (b_, Obj.cells ⟨(QW y37.1 v45)⟩ 24 (0, 0)) : Item')) (JF hb47_).symm, h46⟩)), trivial⟩ ?_
  intro H52 e53
  rintro _ _ rfl _ _ rfl _ _ rfl _ _ ⟨v35, rfl, h36⟩ _ _ ⟨v41, rfl, h42⟩ _ _ ⟨v43, rfl, h44⟩ _ _ ⟨v45, rfl, h46⟩ _ _ rfl _ _ ⟨b47, rfl, rfl⟩ _ i50 ⟨rfl, v48, h51, h49⟩
  replace h51 : i50 = bx b47 (QW y37.1 v48) 24 := h51
  subst h51
  refine w_it (L' := bx b47 (QW y37.1 v48) 24 :: bx b21 (QW y11.1 v22) 24 :: bx b4 [.bool false, .slice none 0 0] 24 :: bx b3 [.bool false, .slice none 0 0] 24 :: bx b2 (Qt b v2_b v3_b) 26 :: bx b1 (Qt a v0_a v1_a) 26 :: L) rfl <| wA (errV 104 y37.2) rfl rfl <| wE <| Xv (p := 5) (tl := [5]) [[], [], [], [(0, some 31)], [(1, some 32)]] [some 31, some 32, some 33, none, none] (fctF (.is (Qd y11.1 v22) :: .is (Qd y37.1 v48) :: .is (errV 104 y37.2) :: .itm (fun H itq_ => itq_ = bx b3 (QW y11.1 v22) 24) (by rintro _ _ _ hle rfl; exact rfl) :: .itm (fun H itq_ => itq_ = bx b4 (QW y37.1 v48) 24) (by rintro _ _ _ hle rfl; exact rfl) :: [])) (fun m_ => bx b47 (QW y37.1 v48) 24 :: bx b21 (QW y11.1 v22) 24 :: m_ 4 :: m_ 3 :: bx b2 (Qt b v2_b v3_b) 26 :: bx b1 (Qt a v0_a v1_a) 26 :: L) (fun i_ => if i_ = 3 then bx b3 [.bool false, .slice none 0 0] 24 else if i_ = 4 then bx b4 [.bool false, .slice none 0 0] 24 else none) mixed (by kernel_rfl) (by kernel_rfl) rfl (Xn (by kernel_rfl)) ⟨(fun H' m_ hH hm_ hu_ => dn <| s_d (m_ 0) rfl (Qq (v := (Qd y11.1 v22)) ty24 rfl .h1 rfl rfl rfl rfl) (by exact rfl) rfl), (fun H' m_ hH hm_ hu_ => dn <| s_d (m_ 1) rfl (Qq (v := (Qd y37.1 v48)) ty24 rfl .here rfl rfl rfl rfl) (by exact rfl) rfl), (fun H' m_ hH hm_ hu_ => dn <| s_d (m_ 2) rfl (QR (v := errV 104 y37.2) rfl) (by exact rfl) rfl), (by rintro H' m_ hH hm_ hu_ _ rfl; exact dn <| ZN (bx b3 (QW y11.1 v22) 24) hm_ rfl (YW (v := (Qd y11.1 v22)) sz24 rfl rfl rfl rfl (oc rfl (oc (h23.one) oz)) .h3 u2) rfl (by exact ⟨rfl, rfl⟩)), (by rintro H' m_ hH hm_ hu_ _ rfl; exact dn <| ZN (bx b4 (QW y37.1 v48) 24) hm_ rfl (YW (v := (Qd y37.1 v48)) sz24 rfl rfl rfl rfl (oc rfl (oc (h49.one) oz)) .h2 u2) rfl (by exact ⟨rfl, rfl⟩)), trivial⟩ ?_
  intro H54 e55
  rintro _ _ rfl _ _ rfl _ _ rfl _ _ ⟨rfl, rfl⟩ _ _ ⟨rfl, rfl⟩
  refine w_it (L' := bx b47 (QW y37.1 v48) 24 :: bx b21 (QW y11.1 v22) 24 :: bx b4 (QW y37.1 v48) 24 :: bx b3 (QW y11.1 v22) 24 :: bx b2 (Qt b v2_b v3_b) 26 :: bx b1 (Qt a v0_a v1_a) 26 :: L) rfl <| wA (errV 104 y37.2) rfl rfl <| Qc ?_
  obtain rfl := sj he
  refine Qn fn_106 rs_106 (.box (v := (Qd y11.1 v22)) rfl ty24 rfl rfl .h3 rfl (.box (v := (Qd y37.1 v48)) rfl ty24 rfl rfl .h2 rfl (.tmp (v := errV 104 y37.2) rfl .nil))) <| ⟨⟨[_, _, _, _, _, _], rfl⟩, hle.trans ((e27.trans e53).trans e55), ⟨v22, v48, rfl, (h23.mono (e53.trans e55)), (h49.mono e55)⟩⟩
noncomputable def YI.C : Code := (Tryz.f107.body).getD .skip
def YI.out (r : Int) (H : Hp) (v : Value) : Prop := v = .int .i64 r
noncomputable def YI.f (k : Nat) (a b : Qu) : Option Int := (Xt.f k a).bind fun y3 => (Xt.f k b).bind fun y9 => (Yh.f k y3 y9).bind fun y13 => if ((!decide (y13 = 0)) || (!(a.f_neg == b.f_neg))) = true then (some (y13)) else (if a.f_neg = true then ((Xb.f k b.f_w a.f_w).bind fun y24 => some (y24)) else ((Xb.f k a.f_w b.f_w).bind fun y28 => some (y28)))
theorem YI.mono : ∀ k y0 y1, LeO (YI.f k y0 y1) (YI.f (k + 1) y0 y1) := fun k _ _ => by unfold YI.f; exact (LeO.bind (Xt.mono k _) fun _ => LeO.bind (Xt.mono k _) fun _ => LeO.bind (Yh.mono k _ _) fun _ => LeO.ite (LeO.refl _) (LeO.ite (LeO.bind (Xb.mono k _ _) fun _ => LeO.refl _) (LeO.bind (Xb.mono k _ _) fun _ => LeO.refl _)))
theorem YI.calls (k : Nat) {H : Hp} {L : Items} {a b : Qu} {v0_a v1_b : Value} {r : Int} (he : YI.f k a b = some r) (h0_a : Ro kU32 H v0_a a.f_w) (h1_b : Ro kU32 H v1_b b.f_w) : Ct Tryz.prog 107 ⟨[(Qd a v0_a), (Qd b v1_b)]⟩ H L (fun v H' L' => L = L' ∧ H = H' ∧ v = .int .i64 r) := by
 refine Yr (O := YI.out r) (fun _ _ h => h) ?_
 have hle : H.le H := .refl _
 unfold YI.f at he
 refine QZ (args := [(Qd a v0_a), (Qd b v1_b)]) fn_107 rfl nt_107 rfl <| wR rfl <| wB (Qd a v0_a) rfl rfl rfl <| fun b1 => wB (Qd b v1_b) rfl rfl rfl <| fun b2 => wA (.int .i64 0) rfl rfl <| wE <| QX <| bK he fun y3 hy4 he => Xv (p := 3) (tl := [3, 4, 5]) [[], [(0, some 6)], []] [some 6, some 7, some 8] (fctF (.is (Qd a v0_a) :: .is (.int .i64 y3) :: .is (Qd b v1_b) :: [])) (fun m_ => bx b2 (QW b v1_b) 24 :: bx b1 (QW a v0_a) 24 :: L) (fun _ => none) mixed (by kernel_rfl) (by kernel_rfl) rfl (Xn (by kernel_rfl)) ⟨(fun H' m_ hH hm_ hu_ => dn <| s_d (m_ 0) rfl (Qq (v := (Qd a v0_a)) ty24 rfl .h1 rfl rfl rfl rfl) (by exact rfl) rfl), (by rintro H' m_ hH hm_ hu_ _ rfl; exact dn <| s_d (m_ 1) rfl (Xi (Qj co84 (vs := [(Qd a v0_a)]) rfl (Xt.calls k (a := a) hy4 (h0_a.mono hH)))) (by exact rfl) rfl), (fun H' m_ hH hm_ hu_ => dn <| s_d (m_ 2) rfl (Qq (v := (Qd b v1_b)) ty24 rfl .here rfl rfl rfl rfl) (by exact rfl) rfl), trivial⟩ ?_
 intro H7 e8
 rintro _ _ rfl _ _ rfl _ _ rfl
 refine bK he fun y9 hy10 he => w_d rfl (Xi (Qj co84 (vs := [(Qd b v1_b)]) rfl (Xt.calls k (a := b) hy10 (h1_b.mono e8)))) <| bK he fun y13 hy14 he => w_d rfl (Xi (Qj co136 (vs := [.int .i64 y3, .int .i64 y9]) rfl (Yh.calls k hy14))) <| wA (.int .i64 y13) rfl rfl <| wQ rfl <| wM (.int .i64 y13) rfl rfl <| w_d rfl (Jx rfl rfl) <| wM (.bool (!decide (y13 = 0))) rfl rfl <| w_g (g := !(!decide (y13 = 0))) rfl rfl rfl wn_f (fun g17 => QM (o' := 0) Tryz.underlying24 rfl sz4 rfl rfl rfl) ?_
 refine w_g (g := !(!decide (y13 = 0))) rfl rfl rfl wn_f (fun g18 => Qq (v := .bool a.f_neg) ty4 (cvt g18) .h1 rfl rfl rfl rfl) <| w_g (g := !(!decide (y13 = 0))) rfl rfl rfl wn_f (fun g19 => QM (o' := 0) Tryz.underlying24 rfl sz4 rfl rfl rfl) <| w_g (g := !(!decide (y13 = 0))) rfl rfl rfl wn_f (fun g20 => Qq (v := .bool b.f_neg) ty4 (cvt g20) .here rfl rfl rfl rfl) <| w_g (g := !(!decide (y13 = 0))) rfl rfl rfl wn_f (fun g21 => G4 (a := a.f_neg) (b := b.f_neg) Tryz.underlying4 (cvt g21) (cvt g21)) <| w_d rfl (d_or' (b := (!decide (y13 = 0))) (p := (!(a.f_neg == b.f_neg))) rfl rfl rfl) <| Qc ?_
 rcases its he with ⟨c22, he⟩ | ⟨c22, he⟩
 ·
  refine QB rfl c22 <| wR rfl <| wM (.int .i64 y13) rfl rfl <| wA (.int .i64 y13) rfl rfl <| Qc ?_
  obtain rfl := sj he
  refine Qn fn_107 rs_107 (.tmp (v := .int .i64 y13) rfl .nil) <| ⟨⟨[_, _], rfl⟩, hle.trans e8, rfl⟩
 ·
  refine QI rfl (Bool.eq_false_iff.2 c22) <| QF <| QX <| wR rfl <| w_d rfl (QM (o' := 0) Tryz.underlying24 rfl sz4 rfl rfl rfl) <| wL (.bool a.f_neg) ty4 rfl rfl .h1 rfl rfl <| Qc ?_
  rcases its he with ⟨c23, he⟩ | ⟨c23, he⟩
  ·
   refine QB rfl c23 <| wR rfl <| w_d rfl (QM (o' := 1) Tryz.underlying24 rfl sz22 rfl rfl rfl) <| wL v1_b ty22 rfl rfl .here rfl rfl <| w_d rfl (QM (o' := 1) Tryz.underlying24 rfl sz22 rfl rfl rfl) <| wL v0_a ty22 rfl rfl .h1 rfl rfl <| bK he fun y24 hy25 he => w_d rfl (Xi (Qj co137 (vs := [v1_b, v0_a]) rfl (Xb.calls k hy25 ((h1_b.mono e8).src) ((h0_a.mono e8).src)))) <| wA (.int .i64 y24) rfl rfl <| Qc ?_
   obtain rfl := sj he
   refine Qn fn_107 rs_107 (.tmp (v := .int .i64 y24) rfl .nil) <| ⟨⟨[_, _], rfl⟩, hle.trans e8, rfl⟩
  ·
   refine QI rfl (Bool.eq_false_iff.2 c23) <| QF <| wR rfl <| w_d rfl (QM (o' := 1) Tryz.underlying24 rfl sz22 rfl rfl rfl) <| wL v0_a ty22 rfl rfl .h1 rfl rfl <| w_d rfl (QM (o' := 1) Tryz.underlying24 rfl sz22 rfl rfl rfl) <| wL v1_b ty22 rfl rfl .here rfl rfl <| bK he fun y28 hy29 he => w_d rfl (Xi (Qj co137 (vs := [v0_a, v1_b]) rfl (Xb.calls k hy29 ((h0_a.mono e8).src) ((h1_b.mono e8).src)))) <| wA (.int .i64 y28) rfl rfl <| Qc ?_
   obtain rfl := sj he
   refine Qn fn_107 rs_107 (.tmp (v := .int .i64 y28) rfl .nil) <| ⟨⟨[_, _], rfl⟩, hle.trans e8, rfl⟩
noncomputable def XW.C : Code := (Tryz.f56.body).getD .skip
def XW.out (r : Int × (Option Int)) (H : Hp) (v : Value) : Prop := v = .tuple ⟨[.int .i64 r.1, errV 104 r.2]⟩
noncomputable def XW.f (k : Nat) (a b : QG) : Option (Int × (Option Int)) := (X0.f k a b).bind fun y3 => if y3.2.2.isSome = true then (some (0, y3.2.2)) else ((YI.f k y3.1 y3.2.1).bind fun y14 => some (y14, none))
theorem XW.mono : ∀ k y0 y1, LeO (XW.f k y0 y1) (XW.f (k + 1) y0 y1) := fun k _ _ => by unfold XW.f; exact (LeO.bind (X0.mono k _ _) fun _ => LeO.ite (LeO.refl _) (LeO.bind (YI.mono k _ _) fun _ => LeO.refl _))
theorem XW.calls (k : Nat) {H : Hp} {L : Items} {a b : QG} {v0_a v1_a v2_b v3_b : Value} {r : Int × (Option Int)} (he : XW.f k a b = some r) (h0_a : Ro kU32 H v0_a a.f_n.f_w) (h1_a : Ro kU32 H v1_a a.f_d.f_w) (h2_b : Ro kU32 H v2_b b.f_n.f_w) (h3_b : Ro kU32 H v3_b b.f_d.f_w) : Ct Tryz.prog 56 ⟨[(Qa a v0_a v1_a), (Qa b v2_b v3_b)]⟩ H L (fun v H' L' => L = L' ∧ H = H' ∧ v = .tuple ⟨[.int .i64 r.1, errV 104 r.2]⟩) := by
 refine Yr (O := XW.out r) (fun _ _ h => h) ?_
 have hle : H.le H := .refl _
 unfold XW.f at he
 refine QZ (args := [(Qa a v0_a v1_a), (Qa b v2_b v3_b)]) fn_56 rfl nt_56 rfl <| wR rfl <| wB (Qa a v0_a v1_a) rfl rfl rfl <| fun b1 => wB (Qa b v2_b v3_b) rfl rfl rfl <| fun b2 => wA (.int .i64 0) rfl rfl <| wA (errV 104 none) rfl rfl <| wQ rfl <| wL (Qa a v0_a v1_a) ty26 rfl rfl .h1 rfl rfl <| wL (Qa b v2_b v3_b) ty26 rfl rfl .here rfl rfl ?_
 refine bK he fun y3 hy4 he => w_a rfl (Qj co106 (vs := [(Qa a v0_a v1_a), (Qa b v2_b v3_b)]) rfl (X0.calls k (a := a) (b := b) hy4 h0_a h1_a h2_b h3_b)) ?_
 rintro _ H5 _ ⟨rfl, e6, v7, v9, rfl, h8, h10⟩
 refine wM (.tuple ⟨[(Qd y3.1 v7), (Qd y3.2.1 v9), errV 104 y3.2.2]⟩) rfl rfl <| w_d rfl (QS rfl rfl) <| w_d rfl (QS rfl rfl) <| w_d rfl (QS rfl rfl) <| wN zr24 rfl rfl fun b11 => wN zr24 rfl rfl fun b12 => wS (Qd y3.1 v7) sz24 rfl rfl rfl rfl rfl (XF h8) .h1 u2 <| wS (Qd y3.2.1 v9) sz24 rfl rfl rfl rfl rfl (XF h10) .here u2 <| wA (errV 104 y3.2.2) rfl rfl <| wE <| QX ?_
 refine QH rfl <| wM (errV 104 y3.2.2) rfl rfl <| w_d rfl (X1 (e := y3.2.2) Tryz.underlying30 rfl) <| Qc ?_
 rcases its he with ⟨c13, he⟩ | ⟨c13, he⟩
 ·
  refine QB rfl c13 <| wR rfl <| wM (errV 104 y3.2.2) rfl rfl <| wA (.int .i64 0) rfl rfl <| wA (errV 104 y3.2.2) rfl rfl <| Qc ?_
  obtain rfl := sj he
  refine Qn fn_56 rs_56 (.tmp (v := .int .i64 0) rfl (.tmp (v := errV 104 y3.2.2) rfl .nil)) <| ⟨⟨[_, _, _, _], rfl⟩, hle.trans e6, rfl⟩
 ·
  refine QI rfl (Bool.eq_false_iff.2 c13) <| QF <| wR rfl <| wL (Qd y3.1 v7) ty24 rfl rfl .h1 rfl rfl <| wL (Qd y3.2.1 v9) ty24 rfl rfl .here rfl rfl <| bK he fun y14 hy15 he => w_d rfl (Xi (Qj co107 (vs := [(Qd y3.1 v7), (Qd y3.2.1 v9)]) rfl (YI.calls k (a := y3.1) (b := y3.2.1) hy15 h8 h10))) <| wA (.int .i64 y14) rfl rfl <| wA (errV 104 none) rfl rfl <| Qc ?_
  obtain rfl := sj he
  refine Qn fn_56 rs_56 (.tmp (v := .int .i64 y14) rfl (.tmp (v := errV 104 none) rfl .nil)) <| ⟨⟨[_, _, _, _], rfl⟩, hle.trans e6, rfl⟩
noncomputable def Yi.C : Code := (Tryz.f31.body).getD .skip
def Yi.out (r : QL × (Option Int)) (H : Hp) (v : Value) : Prop := ∃ v0 v1 v2 v3, v = .tuple ⟨[(Qg r.1 v0 v1 v2 v3), errV 104 r.2]⟩ ∧ Ro kU32 H v0 r.1.f_Low.f_n.f_w ∧ Ro kU32 H v1 r.1.f_Low.f_d.f_w ∧ Ro kU32 H v2 r.1.f_High.f_n.f_w ∧ Ro kU32 H v3 r.1.f_High.f_d.f_w
noncomputable def Yi.f (k : Nat) (low high : QG) : Option (QL × (Option Int)) := (XW.f k low high).bind fun y4 => if y4.2.isSome = true then (some (⟨⟨⟨false, []⟩, ⟨false, []⟩⟩, ⟨⟨false, []⟩, ⟨false, []⟩⟩⟩, y4.2)) else (if 0 < y4.1 then (some (⟨⟨⟨false, []⟩, ⟨false, []⟩⟩, ⟨⟨false, []⟩, ⟨false, []⟩⟩⟩, some 1)) else (some (⟨low, high⟩, none)))
theorem Yi.mono : ∀ k y0 y1, LeO (Yi.f k y0 y1) (Yi.f (k + 1) y0 y1) := fun k _ _ => by unfold Yi.f; exact (LeO.bind (XW.mono k _ _) fun _ => LeO.ite (LeO.refl _) (LeO.ite (LeO.refl _) (LeO.refl _)))
theorem Yi.calls (k : Nat) {H : Hp} {L : Items} {low high : QG} {v0_low v1_low v2_high v3_high : Value} {r : QL × (Option Int)} (he : Yi.f k low high = some r) (h0_low : Ro kU32 H v0_low low.f_n.f_w) (h1_low : Ro kU32 H v1_low low.f_d.f_w) (h2_high : Ro kU32 H v2_high high.f_n.f_w) (h3_high : Ro kU32 H v3_high high.f_d.f_w) : Ct Tryz.prog 31 ⟨[(Qa low v0_low v1_low), (Qa high v2_high v3_high)]⟩ H L (cR H L (Yi.out r)) := by
 refine XS (O := Yi.out r) ?_
 have hle : H.le H := .refl _
 unfold Yi.f at he
 refine QZ (args := [(Qa low v0_low v1_low), (Qa high v2_high v3_high)]) fn_31 rfl nt_31 rfl <| wR rfl <| wB (Qa low v0_low v1_low) rfl rfl rfl <| fun b1 => wB (Qa high v2_high v3_high) rfl rfl rfl <| fun b2 => wN zr28 rfl rfl fun b3 => wA (errV 104 none) rfl rfl <| wQ rfl <| wL (Qa low v0_low v1_low) ty26 rfl rfl .h2 rfl rfl <| wL (Qa high v2_high v3_high) ty26 rfl rfl .h1 rfl rfl ?_
 refine bK he fun y4 hy5 he => w_d rfl (Xi (Qj co56 (vs := [(Qa low v0_low v1_low), (Qa high v2_high v3_high)]) rfl (XW.calls k (a := low) (b := high) hy5 h0_low h1_low h2_high h3_high))) <| wM (.tuple ⟨[.int .i64 y4.1, errV 104 y4.2]⟩) rfl rfl <| w_d rfl (QS rfl rfl) <| w_d rfl (QS rfl rfl) <| wA (.int .i64 y4.1) rfl rfl <| wA (errV 104 y4.2) rfl rfl <| wE <| Q8 <| wR rfl ?_
 refine wM (errV 104 y4.2) rfl rfl <| w_d rfl (X1 (e := y4.2) Tryz.underlying30 rfl) <| wA (.bool y4.2.isSome) rfl rfl <| Qc ?_
 rcases its he with ⟨c8, he⟩ | ⟨c8, he⟩
 ·
  refine QB rfl c8 <| wR rfl <| w_d rfl (Xx (cs' := z2c) Tryz.underlying28 zr28 rfl (by kernel_rfl) (parts := []) rfl .nil) <| wM (errV 104 y4.2) rfl rfl <| wS (.agg ⟨z2c⟩) sz28 rfl rfl rfl rfl rfl (oc rfl (oc rfl (oc rfl (oc rfl (oc rfl (oc rfl (oc rfl (oc rfl oz)))))))) .here (.here (.here (.here (.here u4)))) <| wA (errV 104 y4.2) rfl rfl <| Qc ?_
  obtain rfl := sj he
  refine Qn fn_31 rs_31 (.box (v := .agg ⟨z2c⟩) rfl ty28 rfl rfl .here rfl (.tmp (v := errV 104 y4.2) rfl .nil)) <| ⟨⟨[_, _, _], rfl⟩, hle, ⟨.slice none 0 0, .slice none 0 0, .slice none 0 0, .slice none 0 0, rfl, (Q2 _ _), (Q2 _ _), (Q2 _ _), (Q2 _ _)⟩⟩
 ·
  refine QI rfl (Bool.eq_false_iff.2 c8) <| wR rfl <| wM (.int .i64 y4.1) rfl rfl <| w_d rfl (Zi rfl rfl) <| wA (.bool (decide (0 < y4.1))) rfl rfl <| Qc ?_
  rcases its he with ⟨c9, he⟩ | ⟨c9, he⟩
  ·
   refine QB rfl (dt c9) <| wR rfl <| w_d rfl (Xx (cs' := z2c) Tryz.underlying28 zr28 rfl (by kernel_rfl) (parts := []) rfl .nil) <| w_d rfl (Zp (v := .int .i64 1) Tryz.underlying104 rfl rfl) <| wS (.agg ⟨z2c⟩) sz28 rfl rfl rfl rfl rfl (oc rfl (oc rfl (oc rfl (oc rfl (oc rfl (oc rfl (oc rfl (oc rfl oz)))))))) .here (.here (.here (.here (.here u4)))) <| wA (errV 104 (some 1)) rfl rfl <| Qc ?_
   obtain rfl := sj he
   refine Qn fn_31 rs_31 (.box (v := .agg ⟨z2c⟩) rfl ty28 rfl rfl .here rfl (.tmp (v := errV 104 (some 1)) rfl .nil)) <| ⟨⟨[_, _, _], rfl⟩, hle, ⟨.slice none 0 0, .slice none 0 0, .slice none 0 0, .slice none 0 0, rfl, (Q2 _ _), (Q2 _ _), (Q2 _ _), (Q2 _ _)⟩⟩
  ·
   refine QI rfl (df c9) <| QF <| Xp <| wR rfl <| wL (Qa low v0_low v1_low) ty26 rfl rfl .h2 rfl rfl <| wL (Qa high v2_high v3_high) ty26 rfl rfl .h1 rfl rfl <| w_d rfl (Xx (cs' := [.bool low.f_n.f_neg, v0_low, .bool low.f_d.f_neg, v1_low, .bool high.f_n.f_neg, v2_high, .bool high.f_d.f_neg, v3_high]) Tryz.underlying28 zr28 rfl (by kernel_rfl) (parts := [(0, (Qa low v0_low v1_low)), (1, (Qa high v2_high v3_high))]) rfl (.cons (X2 rfl sz26 rfl) rfl rfl u4 (.cons (X2 rfl sz26 rfl) rfl rfl (.there (.there (.there (.there u4)))) .nil))) <| wS (.agg ⟨[.bool low.f_n.f_neg, v0_low, .bool low.f_d.f_neg, v1_low, .bool high.f_n.f_neg, v2_high, .bool high.f_d.f_neg, v3_high]⟩) sz28 rfl rfl rfl rfl rfl (oc rfl (oc (h0_low.one) (oc rfl (oc (h1_low.one) (oc rfl (oc (h2_high.one) (oc rfl (oc (h3_high.one) oz)))))))) .here (.here (.here (.here (.here u4)))) <| wA (errV 104 none) rfl rfl <| Qc ?_
   obtain rfl := sj he
   refine Qn fn_31 rs_31 (.box (v := .agg ⟨[.bool low.f_n.f_neg, v0_low, .bool low.f_d.f_neg, v1_low, .bool high.f_n.f_neg, v2_high, .bool high.f_d.f_neg, v3_high]⟩) rfl ty28 rfl rfl .here rfl (.tmp (v := errV 104 none) rfl .nil)) <| ⟨⟨[_, _, _], rfl⟩, hle, ⟨v0_low, v1_low, v2_high, v3_high, rfl, h0_low, h1_low, h2_high, h3_high⟩⟩
noncomputable def QE.C : Code := (Tryz.f79.body).getD .skip
def QE.out (r : (Option Int)) (H : Hp) (v : Value) : Prop := v = errV 104 r
abbrev QE.R (H0 : Hp) (L : Items) (r : (Option Int)) := fR H0 L (QE.out r)
structure QE.Hs where
 l0 : (Option Int) → (List QL) → Int → Int → Option (Option Int)
noncomputable def QE.b0 (k : Nat) (h : QE.Hs) (t2 : Option Int) (t7 : List QL) (t8 t9 : Int) : Option (Option Int) := if t9 < t8 then (if (0 : Int) ≤ t9 ∧ t9 < (t7.length : Int) then ((Yi.f k ((rd t7 t9).f_Low) ((rd t7 t9).f_High)).bind fun y14 => if y14.2.isSome = true then (some (some 1)) else (h.l0 t2 t7 t8 (w64 (t9 + 1)))) else none) else (some (none))
noncomputable def QE.hs : Nat → QE.Hs
 | 0 => ⟨fun _ _ _ _ => none⟩
 | k + 1 => ⟨fun x0 x1 x2 x3 => QE.b0 k (QE.hs k) x0 x1 x2 x3⟩
noncomputable def QE.f (k : Nat) (l : List QL) : Option (Option Int) := (fun h : QE.Hs => h.l0 none l (l.length : Int) 0) (QE.hs k)
structure QE.LE (h h' : QE.Hs) : Prop where
 l0 : ∀ y0 y1 y2 y3, LeO (h.l0 y0 y1 y2 y3) (h'.l0 y0 y1 y2 y3)
theorem QE.b0_mono {k : Nat} {h h' : QE.Hs} (hl : QE.LE h h') : ∀ y0 y1 y2 y3, LeO (QE.b0 k h y0 y1 y2 y3) (QE.b0 (k + 1) h' y0 y1 y2 y3) := fun _ _ _ _ => (LeO.ite (LeO.ite (LeO.bind (Yi.mono k _ _) fun _ => LeO.ite (LeO.refl _) (hl.l0 _ _ _ _)) (LeO.refl _)) (LeO.refl _))
theorem QE.hs_mono : ∀ k, QE.LE (QE.hs k) (QE.hs (k + 1))
 | 0 => ⟨fun _ _ _ _ => LeO.none _⟩
 | k + 1 => ⟨QE.b0_mono (k := k) (QE.hs_mono k)⟩
theorem QE.mono : ∀ k y0, LeO (QE.f k y0) (QE.f (k + 1) y0) := fun k _ => have hl := QE.hs_mono k; by unfold QE.f; exact (hl.l0 _ _ _ _)
noncomputable def QE.Kl0 : List Item := .code (lopB (blkB (seqR (seqL (seqR QE.C))))) :: .inLoop (lopB (blkB (seqR (seqL (seqR QE.C))))) :: .inBlock 0 :: .code (seqR (seqR QE.C)) :: []
structure QE.OK (h : QE.Hs) : Prop where
 l0 : ∀ {H0 H : Hp} {L : Items} {r : (Option Int)} {jk_ : Nat → Value} {t2 : Option Int} {t7 : List QL} {t8 : Int} {t9 : Int} {v_t7 : Value} (_ : H0.le H) (_he : h.l0 t2 t7 t8 t9 = some r) (_h_t7 : Src YP H L v_t7 t7), Wp Tryz.prog 79 25 QE.Kl0 (upd (upd (upd (upd jk_ 2 (errV 104 t2)) 7 (v_t7)) 8 (.int .i64 t8)) 9 (.int .i64 t9)) H (L) (QE.R H0 L r)
theorem QE.b0_ok {k : Nat} {h : QE.Hs} (hh : QE.OK h) {H0 H : Hp} {L : Items} {r : (Option Int)} {jk_ : Nat → Value} {t2 : Option Int} {t7 : List QL} {t8 t9 : Int} {v_t7 : Value} (hle : H0.le H) (he : QE.b0 k h t2 t7 t8 t9 = some r) (h_t7 : Src YP H L v_t7 t7) : Wp Tryz.prog 79 25 QE.Kl0 (upd (upd (upd (upd jk_ 2 (errV 104 t2)) 7 (v_t7)) 8 (.int .i64 t8)) 9 (.int .i64 t9)) H (L) (QE.R H0 L r) := by
 unfold QE.b0 at he
 unfold QE.Kl0
 refine wR rfl <| w_d rfl (XO rfl rfl) <| wE ?_
 rcases its he with ⟨c1, he⟩ | ⟨c1, he⟩
 ·
  refine QB rfl (dt c1) <| QF <| QX <| Q8 <| wR rfl <| rK he fun c2 he => w_d rfl (XT (sz := 8) Tryz.underlying178 sz28 rfl h_t7 rfl c2) ?_
  obtain ⟨_, l3, r4⟩ := Z5 (kd := YP) h_t7 c2
  obtain ⟨v5, v7, v9, v11, rfl, h6, h8, h10, h12⟩ := Gz r4
  refine w_d rfl (ZE (v := .agg ⟨[.bool ((((rd t7 t9).f_Low).f_n).f_neg), v5, .bool ((((rd t7 t9).f_Low).f_d).f_neg), v7, .bool ((((rd t7 t9).f_High).f_n).f_neg), v9, .bool ((((rd t7 t9).f_High).f_d).f_neg), v11]⟩) (cs := [.bool ((((rd t7 t9).f_Low).f_n).f_neg), v5, .bool ((((rd t7 t9).f_Low).f_d).f_neg), v7, .bool ((((rd t7 t9).f_High).f_n).f_neg), v9, .bool ((((rd t7 t9).f_High).f_d).f_neg), v11]) ty28 rfl rfl (by decide) l3 rfl) <| wN zr28 rfl rfl fun b13 => wS (.agg ⟨[.bool ((((rd t7 t9).f_Low).f_n).f_neg), v5, .bool ((((rd t7 t9).f_Low).f_d).f_neg), v7, .bool ((((rd t7 t9).f_High).f_n).f_neg), v9, .bool ((((rd t7 t9).f_High).f_d).f_neg), v11]⟩) sz28 rfl rfl rfl rfl rfl (oc rfl (oc (h6.one) (oc rfl (oc (h8.one) (oc rfl (oc (h10.one) (oc rfl (oc (h12.one) oz)))))))) .here (.here (.here (.here (.here u4)))) <| wQ rfl <| w_d rfl (QM (o' := 0) Tryz.underlying28 rfl sz26 rfl rfl rfl) <| w_d rfl (Qq (v := .agg ⟨[.bool ((((rd t7 t9).f_Low).f_n).f_neg), v5, .bool ((((rd t7 t9).f_Low).f_d).f_neg), v7]⟩) ty26 rfl .here rfl rfl rfl rfl) <| w_d rfl (QM (o' := 4) Tryz.underlying28 rfl sz26 rfl rfl rfl) <| w_d rfl (Qq (v := .agg ⟨[.bool ((((rd t7 t9).f_High).f_n).f_neg), v9, .bool ((((rd t7 t9).f_High).f_d).f_neg), v11]⟩) ty26 rfl .here rfl rfl rfl rfl) <| bK he fun y14 hy15 he => w_a rfl (Qj co31 (vs := [.agg ⟨[.bool ((((rd t7 t9).f_Low).f_n).f_neg), v5, .bool ((((rd t7 t9).f_Low).f_d).f_neg), v7]⟩, .agg ⟨[.bool ((((rd t7 t9).f_High).f_n).f_neg), v9, .bool ((((rd t7 t9).f_High).f_d).f_neg), v11]⟩]) rfl (Yi.calls k (low := ((rd t7 t9).f_Low)) (high := ((rd t7 t9).f_High)) hy15 h6 h8 h10 h12)) ?_
  rintro _ H16 _ ⟨rfl, e17, v18, v20, v22, v24, rfl, h19, h21, h23, h25⟩
  refine wM (.tuple ⟨[(Qg y14.1 v18 v20 v22 v24), errV 104 y14.2]⟩) rfl rfl <| w_d rfl (QS rfl rfl) <| w_d rfl (QS rfl rfl) <| wN zr28 rfl rfl fun b26 => wS (Qg y14.1 v18 v20 v22 v24) sz28 rfl rfl rfl rfl rfl (X6 h19 h21 h23 h25) .here (.here (.here (.here (.here u4)))) <| wA (errV 104 y14.2) rfl rfl <| wQ rfl <| wM (errV 104 y14.2) rfl rfl <| w_d rfl (X1 (e := y14.2) Tryz.underlying30 rfl) <| Qc ?_
  rcases its he with ⟨c27, he⟩ | ⟨c27, he⟩
  ·
   refine QB rfl c27 <| wR rfl <| w_d rfl (Zp (v := .int .i64 1) Tryz.underlying104 rfl rfl) <| wA (errV 104 (some 1)) rfl rfl <| Qc ?_
   obtain rfl := sj he
   refine Qn fn_79 rs_79 (.tmp (v := errV 104 (some 1)) rfl .nil) <| ⟨⟨[_, _], rfl⟩, hle.trans e17, rfl⟩
  ·
   refine QI rfl (Bool.eq_false_iff.2 c27) <| QF <| Xp <| QH rfl <| w_d rfl (XG (c := w64 (t9 + 1)) rfl rfl rfl) <| wM (.int .i64 (w64 (t9 + 1))) rfl rfl <| Qc <| Xy <| Yw .h1 <| Yw .here <| w_sl 2 (errV 104 t2) rfl <| w_sl 7 (v_t7) rfl ?_
   refine w_sl 8 (.int .i64 t8) rfl <| w_sl 9 (.int .i64 (w64 (t9 + 1))) rfl <| hh.l0 (hle.trans e17) he (h_t7.mono e17)
 ·
  refine QI rfl (df c1) <| Ya rfl <| wR rfl <| wA (errV 104 none) rfl rfl <| Qc ?_
  obtain rfl := sj he
  refine Qn fn_79 rs_79 (.tmp (v := errV 104 none) rfl .nil) <| ⟨⟨[], rfl⟩, hle, rfl⟩
theorem QE.ok : ∀ k, QE.OK (QE.hs k)
 | 0 => ⟨(by intros; exact nomatch (show none = some _ from by assumption))⟩
 | k + 1 => ⟨QE.b0_ok (k := k) (QE.ok k)⟩
theorem QE.calls (k : Nat) {H : Hp} {L : Items} {l : List QL} {v0_l : Value} {r : (Option Int)} (he : QE.f k l = some r) (h0_l : Src YP H L v0_l l) : Ct Tryz.prog 79 ⟨[v0_l]⟩ H L (fun v H' L' => L = L' ∧ H = H' ∧ v = errV 104 r) := by
 refine Yr (O := QE.out r) (fun _ _ h => h) ?_
 have hle : H.le H := .refl _
 have hh := QE.ok k
 unfold QE.f at he
 refine QZ (args := [v0_l]) fn_79 rfl nt_79 rfl <| wR rfl <| wA (errV 104 none) rfl rfl <| wE <| wR rfl <| wM v0_l rfl rfl <| w_d rfl (XL Tryz.underlying178 rfl h0_l) <| wM (.int .i64 0) rfl rfl <| Qc ?_
 refine Q8 <| Ye <| w_sl 2 (errV 104 none) rfl <| w_sl 7 (v0_l) rfl <| w_sl 8 (.int .i64 (l.length : Int)) rfl <| w_sl 9 (.int .i64 0) rfl <| hh.l0 hle he h0_l
end Go.Proofs.YtkccpkccdbfomaaGreatDoor.GSS

/- printed by gen.py -/
import Derived.Test.YtkccpkccdbfomaaGreatDoorGBHx4
namespace Go.Proofs.YtkccpkccdbfomaaGreatDoor.GBH
open Go Go.RowKit Go.Proofs.YtkccpkccdbfomaaGreatDoorK Go.Proofs.YtkccpkccdbfomaaGreatDoor
set_option maxRecDepth 100000
set_option maxHeartbeats 2000000
set_option linter.unusedVariables false
set_option linter.unusedSimpArgs false
noncomputable def Xh.C : Code := (Tryz.f124.body).getD .skip
def Xh.out (r : Qq × Qq × (Option Int)) (H : Hp) (v : Value) : Prop := ∃ v0 v1, v = .tuple ⟨[(Qc r.1 v0), (Qc r.2.1 v1), errV 104 r.2.2]⟩ ∧ Ro kU32 H v0 r.1.f_w ∧ Ro kU32 H v1 r.2.1.f_w
abbrev Xh.R (H0 : Hp) (L : Items) (r : Qq × Qq × (Option Int)) := fR H0 L (Xh.out r)
noncomputable def Xh.j1 (k : Nat) (b_0 : Bool) (b_1 r_ : List Int) (x_0 : Bool) (x_1 : List Int) (one_0 : Bool) (one_1 : List Int) : Option (Qq × Qq × (Option Int)) := (Xc.f k ⟨x_0, x_1⟩ ⟨one_0, one_1⟩).bind fun y50 => if y50.2.isSome = true then (some (⟨false, []⟩, ⟨false, []⟩, y50.2)) else ((QC.f k b_1 r_).bind fun y57 => some (y50.1, ⟨false, y57⟩, none))
noncomputable def Xh.f (k : Nat) (a b : Qq) : Option (Qq × Qq × (Option Int)) := if (b.f_w.length : Int) = 0 then (some (⟨false, []⟩, ⟨false, []⟩, some 11)) else ((QJ.f k a.f_w b.f_w).bind fun y6 => (XF.f k (!(a.f_neg == b.f_neg)) y6.1).bind fun y14 => if y14.2.isSome = true then (some (⟨false, []⟩, ⟨false, []⟩, y14.2)) else (if ((!a.f_neg) || (decide ((y6.2.length : Int) = 0))) = true then ((Q7.f k y6.2).bind fun y26 => some (y14.1, ⟨false, y26⟩, none)) else ((XH.f k 1).bind fun y36 => if (!b.f_neg) = true then ((Xr.f k y36).bind fun y44 => Xh.j1 k b.f_neg b.f_w y6.2 y14.1.f_neg y14.1.f_w y44.f_neg y44.f_w) else (Xh.j1 k b.f_neg b.f_w y6.2 y14.1.f_neg y14.1.f_w y36.f_neg y36.f_w))))
theorem Xh.j1_mono {k : Nat} : ∀ y0 y1 y2 y3 y4 y5 y6, LeO (Xh.j1 k y0 y1 y2 y3 y4 y5 y6) (Xh.j1 (k + 1) y0 y1 y2 y3 y4 y5 y6) := fun _ _ _ _ _ _ _ => (LeO.bind (Xc.mono k _ _) fun _ => LeO.ite (LeO.refl _) (LeO.bind (QC.mono k _ _) fun _ => LeO.refl _))
theorem Xh.mono : ∀ k y0 y1, LeO (Xh.f k y0 y1) (Xh.f (k + 1) y0 y1) := fun k _ _ => by unfold Xh.f; exact (LeO.ite (LeO.refl _) (LeO.bind (QJ.mono k _ _) fun _ => LeO.bind (XF.mono k _ _) fun _ => LeO.ite (LeO.refl _) (LeO.ite (LeO.bind (Q7.mono k _) fun _ => LeO.refl _) (LeO.bind (XH.mono k _) fun _ => LeO.ite (LeO.bind (Xr.mono k _) fun _ => Xh.j1_mono (k := k)  _ _ _ _ _ _ _) (Xh.j1_mono (k := k)  _ _ _ _ _ _ _)))))
noncomputable def Xh.Kj1 : List Item := .code (seqR (seqR (seqR (seqR (seqR (seqR (seqR (seqR Xh.C)))))))) :: []
theorem Xh.j1_ok {k : Nat} {H0 H : Hp} {L : Items} {r : Qq × Qq × (Option Int)} {jk_ : Nat → Value} {b_0 : Bool} {b_1 r_ : List Int} {x_0 : Bool} {x_1 : List Int} {one_0 : Bool} {one_1 : List Int} {v_b_1 v_r_ v_x_1 v_one_1 : Value} {b_b b_t4 b_t5 b_x b_one_ : Nat} (hle : H0.le H) (he : Xh.j1 k b_0 b_1 r_ x_0 x_1 one_0 one_1 = some r) (h_b_1 : Ro kU32 H v_b_1 b_1) (h_r_ : Ro kU32 H v_r_ r_) (h_x_1 : Ro kU32 H v_x_1 x_1) (h_one_1 : Ro kU32 H v_one_1 one_1) : Wp Tryz.prog 124 77 Xh.Kj1 (upd (upd (upd (upd (upd (upd (upd jk_ 3 (pt b_b)) 4 (pt b_t4)) 5 (pt b_t5)) 6 (errV 104 none)) 8 (v_r_)) 9 (pt b_x)) 11 (pt b_one_)) H (bx b_one_ [.bool one_0, v_one_1] 24 :: bx b_x [.bool x_0, v_x_1] 24 :: bx b_t5 [.bool false, .slice none 0 0] 24 :: bx b_t4 [.bool false, .slice none 0 0] 24 :: bx b_b [.bool b_0, v_b_1] 24 :: L) (Xh.R H0 L r) := by
 unfold Xh.j1 at he
 unfold Xh.Kj1
 refine wR rfl <| wL (.agg ⟨[.bool x_0, v_x_1]⟩) ty24 rfl rfl .h1 rfl rfl <| wL (.agg ⟨[.bool one_0, v_one_1]⟩) ty24 rfl rfl .here rfl rfl <| bK he fun y50 hy51 he => w_a rfl (Qm co127 (vs := [.agg ⟨[.bool x_0, v_x_1]⟩, .agg ⟨[.bool one_0, v_one_1]⟩]) rfl (Xc.calls k (a := ⟨x_0, x_1⟩) (b := ⟨one_0, one_1⟩) hy51 h_x_1 h_one_1)) ?_
 rintro _ H52 _ ⟨rfl, e53, v54, rfl, h55⟩
 refine wM (.tuple ⟨[(Qc y50.1 v54), errV 104 y50.2]⟩) rfl rfl <| w_d rfl (QO rfl rfl) <| w_d rfl (QO rfl rfl) <| wS (Qc y50.1 v54) sz24 rfl rfl rfl rfl rfl (XC h55) .h1 u2 <| wA (errV 104 y50.2) rfl rfl <| wE <| wR rfl <| wM (errV 104 y50.2) rfl rfl <| w_d rfl (Ya (e := y50.2) Tryz.underlying30 rfl) <| Qa ?_
 rcases its he with ⟨c56, he⟩ | ⟨c56, he⟩
 ·
  refine Qy rfl c56 <| wR rfl <| w_d rfl (XD (cs' := [.bool false, .slice none 0 0]) Tryz.underlying24 zr24 rfl (by kernel_rfl) (parts := []) rfl .nil) <| w_d rfl (XD (cs' := [.bool false, .slice none 0 0]) Tryz.underlying24 zr24 rfl (by kernel_rfl) (parts := []) rfl .nil) <| wM (errV 104 y50.2) rfl rfl <| wS (.agg ⟨[.bool false, .slice none 0 0]⟩) sz24 rfl rfl rfl rfl rfl (oc rfl (oc rfl oz)) .h3 u2 <| wS (.agg ⟨[.bool false, .slice none 0 0]⟩) sz24 rfl rfl rfl rfl rfl (oc rfl (oc rfl oz)) .h2 u2 <| wA (errV 104 y50.2) rfl rfl <| Qa ?_
  obtain rfl := sj he
  refine Qi fn_124 rs_124 (.box (v := .agg ⟨[.bool false, .slice none 0 0]⟩) rfl ty24 rfl rfl .h3 rfl (.box (v := .agg ⟨[.bool false, .slice none 0 0]⟩) rfl ty24 rfl rfl .h2 rfl (.tmp (v := errV 104 y50.2) rfl .nil))) <| ⟨⟨[_, _, _, _, _], rfl⟩, hle.trans e53, ⟨.slice none 0 0, .slice none 0 0, rfl, (Q9 _ _), (Q9 _ _)⟩⟩
 ·
  refine QB rfl (Bool.eq_false_iff.2 c56) <| QA <| QV <| bK he fun y57 hy58 he => XJ (p := 7) (tl := [7, 8]) [[], [], [(1, some 72)], [], [(2, some 73), (3, some 74)], [(4, some 75)], [(0, some 71)]] [some 71, some 72, some 73, some 74, some 75, some 76, none] (fctF (.is (Qc y50.1 v54) :: .is (po b_b 1) :: .is (v_b_1) :: .is (v_r_) :: .ro kU32 (y57) :: .of (fun H v => ∃ v63, v = .agg ⟨[.bool false, v63]⟩ ∧ Ro kU32 H v63 y57) (by rintro _ _ _ hle ⟨v63, rfl, h64⟩; exact ⟨v63, rfl, h64.mono hle⟩) :: .itm (fun H itq_ => itq_ = bx b_t4 (QK y50.1 v54) 24) (by rintro _ _ _ hle rfl; exact rfl) :: [])) (fun m_ => bx b_one_ [.bool one_0, v_one_1] 24 :: bx b_x (QK y50.1 v54) 24 :: bx b_t5 [.bool false, .slice none 0 0] 24 :: m_ 6 :: bx b_b [.bool b_0, v_b_1] 24 :: L) (fun i_ => if i_ = 6 then bx b_t4 [.bool false, .slice none 0 0] 24 else none) mixed (by kernel_rfl) (by kernel_rfl) rfl (Xv (by kernel_rfl)) ⟨(fun H' m_ hH hm_ hu_ => dn <| s_d (m_ 0) rfl (QS (v := (Qc y50.1 v54)) ty24 rfl .h1 rfl rfl rfl rfl) (by exact rfl) rfl), (fun H' m_ hH hm_ hu_ => dn <| s_d (m_ 1) rfl (Xe (o' := 1) Tryz.underlying24 rfl sz22 rfl rfl rfl) (by exact rfl) rfl), (by rintro H' m_ hH hm_ hu_ _ rfl; exact dn <| s_d (m_ 2) rfl (QS (v := v_b_1) ty22 rfl .h4 rfl rfl rfl rfl) (by exact rfl) rfl), (fun H' m_ hH hm_ hu_ => dn <| s_d (m_ 3) rfl (QF (v := v_r_) rfl) (by exact rfl) rfl), (by rintro H' m_ hH hm_ hu_ _ rfl _ rfl; exact dn <| s_k (m_ 4) rfl (Qm co143 (vs := [v_b_1, v_r_]) rfl (QC.calls k hy58 ((h_b_1.mono (e53.trans hH)).src) ((h_r_.mono (e53.trans hH)).src))) rfl (by rintro v_ H_ _ ⟨rfl, e_, h_⟩; exact ⟨rfl, e_, h_⟩)), (by rintro H' m_ hH hm_ hu_ v61 (h62 : Ro kU32 H' v61 y57); exact dn <| s_d (m_ 5) rfl (XD (cs' := [.bool false, v61]) Tryz.underlying24 zr24 rfl (by kernel_rfl) (parts := [(0, .bool false), (1, v61)]) rfl (.cons (YC rfl sz4 rfl) rfl rfl u1 (.cons (YC rfl sz22 rfl) h62.cells rfl (.there u1) .nil))) (by exact ⟨v61, rfl, h62⟩) rfl), (by rintro H' m_ hH hm_ hu_ _ rfl; exact dn <| Zv (bx b_t4 (QK y50.1 v54) 24) hm_ rfl (YE (v := (Qc y50.1 v54)) sz24 rfl rfl rfl rfl (oc rfl (oc (h55.one) oz)) .h3 u2) rfl (by exact ⟨rfl, rfl⟩)), trivial⟩ ?_
  intro H65 e66
  rintro _ _ rfl _ _ rfl _ _ rfl _ _ rfl v61 _ (h62 : Ro kU32 H65 v61 y57) _ _ ⟨v63, rfl, h64⟩ _ _ ⟨rfl, rfl⟩
  refine w_it (L' := bx b_one_ [.bool one_0, v_one_1] 24 :: bx b_x (QK y50.1 v54) 24 :: bx b_t5 [.bool false, .slice none 0 0] 24 :: bx b_t4 (QK y50.1 v54) 24 :: bx b_b [.bool b_0, v_b_1] 24 :: L) rfl <| wS (.agg ⟨[.bool false, v63]⟩) sz24 rfl rfl rfl rfl rfl (oc rfl (oc (h64.one) oz)) .h2 u2 <| wA (errV 104 none) rfl rfl <| Qa ?_
  obtain rfl := sj he
  refine Qi fn_124 rs_124 (.box (v := (Qc y50.1 v54)) rfl ty24 rfl rfl .h3 rfl (.box (v := .agg ⟨[.bool false, v63]⟩) rfl ty24 rfl rfl .h2 rfl (.tmp (v := errV 104 none) rfl .nil))) <| ⟨⟨[_, _, _, _, _], rfl⟩, hle.trans (e53.trans e66), ⟨v54, v63, rfl, (h55.mono e66), h64⟩⟩
theorem Xh.calls (k : Nat) {H : Hp} {L : Items} {a b : Qq} {v0_a v1_b : Value} {r : Qq × Qq × (Option Int)} (he : Xh.f k a b = some r) (h0_a : Ro kU32 H v0_a a.f_w) (h1_b : Ro kU32 H v1_b b.f_w) : Ct Tryz.prog 124 ⟨[(Qc a v0_a), (Qc b v1_b)]⟩ H L (cR H L (Xh.out r)) := by
 refine XR (O := Xh.out r) ?_
 have hle : H.le H := .refl _
 unfold Xh.f at he
 refine QP (args := [_, _]) fn_124 rfl nt_124 rfl <| wR rfl <| wB (Qc a v0_a) rfl rfl rfl <| fun b1 => wB (Qc b v1_b) rfl rfl rfl <| fun b2 => wN zr24 rfl rfl fun b3 => wN zr24 rfl rfl fun b4 => wA (errV 104 none) rfl rfl <| wE <| wR rfl ?_
 refine w_d rfl (Xe (o' := 1) Tryz.underlying24 rfl sz22 rfl rfl rfl) <| wL v1_b ty22 rfl rfl .h2 rfl rfl <| w_d rfl (Xq Tryz.underlying22 rfl h1_b.src) <| w_d rfl (Y1 rfl rfl) <| Qa ?_
 rcases its he with ⟨c5, he⟩ | ⟨c5, he⟩
 ·
  refine Qy rfl (dt c5) <| wR rfl <| w_d rfl (XD (cs' := [.bool false, .slice none 0 0]) Tryz.underlying24 zr24 rfl (by kernel_rfl) (parts := []) rfl .nil) <| w_d rfl (XD (cs' := [.bool false, .slice none 0 0]) Tryz.underlying24 zr24 rfl (by kernel_rfl) (parts := []) rfl .nil) <| w_d rfl (YU (v := .int .i64 11) Tryz.underlying104 rfl rfl) <| wS (.agg ⟨[.bool false, .slice none 0 0]⟩) sz24 rfl rfl rfl rfl rfl (oc rfl (oc rfl oz)) .h1 u2 <| wS (.agg ⟨[.bool false, .slice none 0 0]⟩) sz24 rfl rfl rfl rfl rfl (oc rfl (oc rfl oz)) .here u2 <| wA (errV 104 (some 11)) rfl rfl <| Qa ?_
  obtain rfl := sj he
  refine Qi fn_124 rs_124 (.box (v := .agg ⟨[.bool false, .slice none 0 0]⟩) rfl ty24 rfl rfl .h1 rfl (.box (v := .agg ⟨[.bool false, .slice none 0 0]⟩) rfl ty24 rfl rfl .here rfl (.tmp (v := errV 104 (some 11)) rfl .nil))) <| ⟨⟨[_, _, _, _], rfl⟩, hle, ⟨.slice none 0 0, .slice none 0 0, rfl, (Q9 _ _), (Q9 _ _)⟩⟩
 ·
  refine QB rfl (df c5) <| QA <| wR rfl <| w_d rfl (Xe (o' := 1) Tryz.underlying24 rfl sz22 rfl rfl rfl) <| wL v0_a ty22 rfl rfl .h3 rfl rfl <| w_d rfl (Xe (o' := 1) Tryz.underlying24 rfl sz22 rfl rfl rfl) <| wL v1_b ty22 rfl rfl .h2 rfl rfl <| bK he fun y6 hy7 he => w_a rfl (Qm co142 (vs := [v0_a, v1_b]) rfl (QJ.calls k hy7 h0_a h1_b.src)) ?_
  rintro _ H8 _ ⟨rfl, e9, v10, v12, rfl, h11, h13⟩
  refine wM (.tuple ⟨[v10, v12]⟩) rfl rfl <| w_d rfl (QO rfl rfl) <| w_d rfl (QO rfl rfl) <| wA v10 rfl rfl <| wA v12 rfl rfl <| wQ rfl <| w_d rfl (Xe (o' := 0) Tryz.underlying24 rfl sz4 rfl rfl rfl) <| wL (.bool a.f_neg) ty4 rfl rfl .h3 rfl rfl <| w_d rfl (Xe (o' := 0) Tryz.underlying24 rfl sz4 rfl rfl rfl) <| wL (.bool b.f_neg) ty4 rfl rfl .h2 rfl rfl ?_
  refine w_d rfl (GF (a := a.f_neg) (b := b.f_neg) Tryz.underlying4 rfl rfl) <| wM v10 rfl rfl <| bK he fun y14 hy15 he => w_a rfl (Qm co115 (vs := [.bool (!(a.f_neg == b.f_neg)), v10]) rfl (XF.calls k hy15 h11)) ?_
  rintro _ H16 _ ⟨rfl, e17, v18, rfl, h19⟩
  refine wM (.tuple ⟨[(Qc y14.1 v18), errV 104 y14.2]⟩) rfl rfl <| w_d rfl (QO rfl rfl) <| w_d rfl (QO rfl rfl) <| wN zr24 rfl rfl fun b20 => wS (Qc y14.1 v18) sz24 rfl rfl rfl rfl rfl (XC h19) .here u2 <| wA (errV 104 y14.2) rfl rfl <| wE <| wR rfl <| wM (errV 104 y14.2) rfl rfl <| w_d rfl (Ya (e := y14.2) Tryz.underlying30 rfl) ?_
  refine Qa ?_
  rcases its he with ⟨c21, he⟩ | ⟨c21, he⟩
  ·
   refine Qy rfl c21 <| wR rfl <| w_d rfl (XD (cs' := [.bool false, .slice none 0 0]) Tryz.underlying24 zr24 rfl (by kernel_rfl) (parts := []) rfl .nil) <| w_d rfl (XD (cs' := [.bool false, .slice none 0 0]) Tryz.underlying24 zr24 rfl (by kernel_rfl) (parts := []) rfl .nil) <| wM (errV 104 y14.2) rfl rfl <| wS (.agg ⟨[.bool false, .slice none 0 0]⟩) sz24 rfl rfl rfl rfl rfl (oc rfl (oc rfl oz)) .h2 u2 <| wS (.agg ⟨[.bool false, .slice none 0 0]⟩) sz24 rfl rfl rfl rfl rfl (oc rfl (oc rfl oz)) .h1 u2 <| wA (errV 104 y14.2) rfl rfl <| Qa ?_
   obtain rfl := sj he
   refine Qi fn_124 rs_124 (.box (v := .agg ⟨[.bool false, .slice none 0 0]⟩) rfl ty24 rfl rfl .h2 rfl (.box (v := .agg ⟨[.bool false, .slice none 0 0]⟩) rfl ty24 rfl rfl .h1 rfl (.tmp (v := errV 104 y14.2) rfl .nil))) <| ⟨⟨[_, _, _, _, _], rfl⟩, hle.trans (e9.trans e17), ⟨.slice none 0 0, .slice none 0 0, rfl, (Q9 _ _), (Q9 _ _)⟩⟩
  ·
   refine QB rfl (Bool.eq_false_iff.2 c21) <| QA <| QV <| wR rfl <| w_d rfl (Xe (o' := 0) Tryz.underlying24 rfl sz4 rfl rfl rfl) <| wL (.bool a.f_neg) ty4 rfl rfl .h4 rfl rfl <| w_d rfl (Zz (b := a.f_neg) rfl) <| wM (.bool (!a.f_neg)) rfl rfl <| w_g (g := !(!a.f_neg)) rfl rfl rfl wn_f (fun g22 => QF (v := v12) rfl) <| w_g (g := !(!a.f_neg)) rfl rfl rfl wn_f (fun g23 => Xq Tryz.underlying22 (cvt g23) (h13.mono e17).src) <| w_g (g := !(!a.f_neg)) rfl rfl rfl wn_f (fun g24 => Y1 (cvt g24) rfl) ?_
   refine w_d rfl (d_or' (b := (!a.f_neg)) (p := (decide ((y6.2.length : Int) = 0))) rfl rfl rfl) <| Qa ?_
   rcases its he with ⟨c25, he⟩ | ⟨c25, he⟩
   ·
    refine Qy rfl c25 <| QV <| bK he fun y26 hy27 he => XJ (p := 5) (tl := [5, 6]) [[], [], [(1, some 51)], [(2, some 52)], [(0, some 50)]] [some 50, some 51, some 52, some 53, none] (fctF (.is (Qc y14.1 v18) :: .is (v12) :: .ro kU32 (y26) :: .of (fun H v => ∃ v32, v = .agg ⟨[.bool false, v32]⟩ ∧ Ro kU32 H v32 y26) (by rintro _ _ _ hle ⟨v32, rfl, h33⟩; exact ⟨v32, rfl, h33.mono hle⟩) :: .itm (fun H itq_ => itq_ = bx b3 (QK y14.1 v18) 24) (by rintro _ _ _ hle rfl; exact rfl) :: [])) (fun m_ => bx b20 (QK y14.1 v18) 24 :: bx b4 [.bool false, .slice none 0 0] 24 :: m_ 4 :: bx b2 (QK b v1_b) 24 :: bx b1 (QK a v0_a) 24 :: L) (fun i_ => if i_ = 4 then bx b3 [.bool false, .slice none 0 0] 24 else none) mixed (by kernel_rfl) (by kernel_rfl) rfl (Xv (by kernel_rfl)) ⟨(fun H' m_ hH hm_ hu_ => dn <| s_d (m_ 0) rfl (QS (v := (Qc y14.1 v18)) ty24 rfl .here rfl rfl rfl rfl) (by exact rfl) rfl), (fun H' m_ hH hm_ hu_ => dn <| s_d (m_ 1) rfl (QF (v := v12) rfl) (by exact rfl) rfl), (by rintro H' m_ hH hm_ hu_ _ rfl; exact dn <| s_k (m_ 2) rfl (Qm co119 (vs := [v12]) rfl (Q7.callsR k hy27 (h13.mono (e17.trans hH)))) rfl (by rintro v_ H_ _ ⟨rfl, e_, h_⟩; exact ⟨rfl, e_, h_⟩)), (by rintro H' m_ hH hm_ hu_ v30 (h31 : Ro kU32 H' v30 y26); exact dn <| s_d (m_ 3) rfl (XD (cs' := [.bool false, v30]) Tryz.underlying24 zr24 rfl (by kernel_rfl) (parts := [(0, .bool false), (1, v30)]) rfl (.cons (YC rfl sz4 rfl) rfl rfl u1 (.cons (YC rfl sz22 rfl) h31.cells rfl (.there u1) .nil))) (by exact ⟨v30, rfl, h31⟩) rfl), (by rintro H' m_ hH hm_ hu_ _ rfl; exact dn <| Zv (bx b3 (QK y14.1 v18) 24) hm_ rfl (YE (v := (Qc y14.1 v18)) sz24 rfl rfl rfl rfl (oc rfl (oc (h19.one) oz)) .h2 u2) rfl (by exact ⟨rfl, rfl⟩)), trivial⟩ ?_
    intro H34 e35
    rintro _ _ rfl _ _ rfl v30 _ (h31 : Ro kU32 H34 v30 y26) _ _ ⟨v32, rfl, h33⟩ _ _ ⟨rfl, rfl⟩
    refine w_it (L' := bx b20 (QK y14.1 v18) 24 :: bx b4 [.bool false, .slice none 0 0] 24 :: bx b3 (QK y14.1 v18) 24 :: bx b2 (QK b v1_b) 24 :: bx b1 (QK a v0_a) 24 :: L) rfl <| wS (.agg ⟨[.bool false, v32]⟩) sz24 rfl rfl rfl rfl rfl (oc rfl (oc (h33.one) oz)) .h1 u2 <| wA (errV 104 none) rfl rfl <| Qa ?_
    obtain rfl := sj he
    refine Qi fn_124 rs_124 (.box (v := (Qc y14.1 v18)) rfl ty24 rfl rfl .h2 rfl (.box (v := .agg ⟨[.bool false, v32]⟩) rfl ty24 rfl rfl .h1 rfl (.tmp (v := errV 104 none) rfl .nil))) <| ⟨⟨[_, _, _, _, _], rfl⟩, hle.trans ((e9.trans e17).trans e35), ⟨v18, v32, rfl, (h19.mono e35), h33⟩⟩
   ·
    refine QB rfl (Bool.eq_false_iff.2 c25) <| QA <| wR rfl <| bK he fun y36 hy37 he => w_a rfl (Qm co71 (vs := [.int .i64 1]) rfl (XH.calls k hy37)) ?_
    rintro _ H38 _ ⟨rfl, e39, v40, rfl, h41⟩
    refine wN zr24 rfl rfl fun b42 => wS (Qc y36 v40) sz24 rfl rfl rfl rfl rfl (XC h41) .here u2 <| wE <| wR rfl <| w_d rfl (Xe (o' := 0) Tryz.underlying24 rfl sz4 rfl rfl rfl) <| wL (.bool b.f_neg) ty4 rfl rfl .h4 rfl rfl <| w_d rfl (Zz (b := b.f_neg) rfl) <| Qa ?_
    rcases its he with ⟨c43, he⟩ | ⟨c43, he⟩
    ·
     refine Qy rfl c43 <| QD rfl <| wL (Qc y36 v40) ty24 rfl rfl .here rfl rfl <| bK he fun y44 hy45 he => w_a rfl (Qm co121 (vs := [(Qc y36 v40)]) rfl (Xr.calls k (a := y36) hy45 h41)) ?_
     rintro _ H46 _ ⟨rfl, e47, v48, rfl, h49⟩
     refine wS (Qc y44 v48) sz24 rfl rfl rfl rfl rfl (XC h49) .here u2 <| Qa <| YD .h5 <| w_sl 3 (pt b2) rfl <| w_sl 4 (pt b3) rfl <| w_sl 5 (pt b4) rfl <| w_sl 6 (errV 104 none) rfl <| w_sl 8 (v12) rfl <| w_sl 9 (pt b20) rfl <| w_sl 11 (pt b42) rfl <| Xh.j1_ok (k := k) (hle.trans (((e9.trans e17).trans e39).trans e47)) he (h1_b.mono (((e9.trans e17).trans e39).trans e47)) (h13.mono ((e17.trans e39).trans e47)) (h19.mono (e39.trans e47)) h49
    ·
     refine QB rfl (Bool.eq_false_iff.2 c43) <| QA <| YD .h5 <| w_sl 3 (pt b2) rfl <| w_sl 4 (pt b3) rfl <| w_sl 5 (pt b4) rfl <| w_sl 6 (errV 104 none) rfl <| w_sl 8 (v12) rfl <| w_sl 9 (pt b20) rfl <| w_sl 11 (pt b42) rfl <| Xh.j1_ok (k := k) (hle.trans ((e9.trans e17).trans e39)) he (h1_b.mono ((e9.trans e17).trans e39)) (h13.mono (e17.trans e39)) (h19.mono e39) h41
noncomputable def QM.C : Code := (Tryz.f122.body).getD .skip
def QM.out (r : Qq × (Option Int)) (H : Hp) (v : Value) : Prop := ∃ v0, v = .tuple ⟨[(Qc r.1 v0), errV 104 r.2]⟩ ∧ Ro kU32 H v0 r.1.f_w
theorem QM.out_mono (r : Qq × (Option Int)) {H H' : Hp} {v : Value} (hle : H.le H') (h : QM.out r H v) : QM.out r H' v := by
 obtain ⟨v0, rfl, h0⟩ := h; exact ⟨v0, rfl, h0.mono hle⟩
abbrev QM.R (H0 : Hp) (L : Items) (r : Qq × (Option Int)) := fR H0 L (QM.out r)
structure QM.Hs where
 l0 : Bool → (List Int) → Bool → (List Int) → Bool → (List Int) → (Option Int) → Option (Qq × (Option Int))
noncomputable def QM.b0 (k : Nat) (h : QM.Hs) (a_0 : Bool) (a_1 : List Int) (b_0 : Bool) (b_1 : List Int) (t4_0 : Bool) (t4_1 : List Int) (t5 : Option Int) : Option (Qq × (Option Int)) := (Xl.f k ⟨b_0, b_1⟩).bind fun y4 => if y4 = 0 then (some (⟨a_0, a_1⟩, none)) else ((Xh.f k ⟨a_0, a_1⟩ ⟨b_0, b_1⟩).bind fun y9 => if y9.2.2.isSome = true then (some (⟨false, []⟩, y9.2.2)) else (h.l0 b_0 b_1 y9.2.1.f_neg y9.2.1.f_w t4_0 t4_1 t5))
noncomputable def QM.hs : Nat → QM.Hs
 | 0 => ⟨fun _ _ _ _ _ _ _ => none⟩
 | k + 1 => ⟨fun x0 x1 x2 x3 x4 x5 x6 => QM.b0 k (QM.hs k) x0 x1 x2 x3 x4 x5 x6⟩
noncomputable def QM.f (k : Nat) (a b : Qq) : Option (Qq × (Option Int)) := (fun h : QM.Hs => h.l0 a.f_neg a.f_w b.f_neg b.f_w false [] none) (QM.hs k)
structure QM.LE (h h' : QM.Hs) : Prop where
 l0 : ∀ y0 y1 y2 y3 y4 y5 y6, LeO (h.l0 y0 y1 y2 y3 y4 y5 y6) (h'.l0 y0 y1 y2 y3 y4 y5 y6)
theorem QM.b0_mono {k : Nat} {h h' : QM.Hs} (hl : QM.LE h h') : ∀ y0 y1 y2 y3 y4 y5 y6, LeO (QM.b0 k h y0 y1 y2 y3 y4 y5 y6) (QM.b0 (k + 1) h' y0 y1 y2 y3 y4 y5 y6) := fun _ _ _ _ _ _ _ => (LeO.bind (Xl.mono k _) fun _ => LeO.ite (LeO.refl _) (LeO.bind (Xh.mono k _ _) fun _ => LeO.ite (LeO.refl _) (hl.l0 _ _ _ _ _ _ _)))
theorem QM.hs_mono : ∀ k, QM.LE (QM.hs k) (QM.hs (k + 1))
 | 0 => ⟨fun _ _ _ _ _ _ _ => LeO.none _⟩
 | k + 1 => ⟨QM.b0_mono (k := k) (QM.hs_mono k)⟩
theorem QM.mono : ∀ k y0 y1, LeO (QM.f k y0 y1) (QM.f (k + 1) y0 y1) := fun k _ _ => have hl := QM.hs_mono k; by unfold QM.f; exact (hl.l0 _ _ _ _ _ _ _)
noncomputable def QM.Kl0 : List Item := .code (lopB (blkB (seqL (seqR QM.C)))) :: .inLoop (lopB (blkB (seqL (seqR QM.C)))) :: .inBlock 0 :: .code (seqR (seqR QM.C)) :: []
structure QM.OK (h : QM.Hs) : Prop where
 l0 : ∀ {H0 H : Hp} {L : Items} {r : Qq × (Option Int)} {jk_ : Nat → Value} {a_0 : Bool} {a_1 : List Int} {b_0 : Bool} {b_1 : List Int} {t4_0 : Bool} {t4_1 : List Int} {t5 : Option Int} {v_a_1 : Value} {v_b_1 : Value} {v_t4_1 : Value} {b_a : Nat} {b_b : Nat} {b_t4 : Nat} (_ : H0.le H) (_he : h.l0 a_0 a_1 b_0 b_1 t4_0 t4_1 t5 = some r) (_h_a_1 : Ro kU32 H v_a_1 a_1) (_h_b_1 : Ro kU32 H v_b_1 b_1) (_h_t4_1 : Ro kU32 H v_t4_1 t4_1), Wp Tryz.prog 122 26 QM.Kl0 (upd (upd (upd (upd jk_ 2 (pt b_a)) 3 (pt b_b)) 4 (pt b_t4)) 5 (errV 104 t5)) H (bx b_t4 [.bool t4_0, v_t4_1] 24 :: bx b_b [.bool b_0, v_b_1] 24 :: bx b_a [.bool a_0, v_a_1] 24 :: L) (QM.R H0 L r)
theorem QM.b0_ok {k : Nat} {h : QM.Hs} (hh : QM.OK h) {H0 H : Hp} {L : Items} {r : Qq × (Option Int)} {jk_ : Nat → Value} {a_0 : Bool} {a_1 : List Int} {b_0 : Bool} {b_1 : List Int} {t4_0 : Bool} {t4_1 : List Int} {t5 : Option Int} {v_a_1 v_b_1 v_t4_1 : Value} {b_a b_b b_t4 : Nat} (hle : H0.le H) (he : QM.b0 k h a_0 a_1 b_0 b_1 t4_0 t4_1 t5 = some r) (h_a_1 : Ro kU32 H v_a_1 a_1) (h_b_1 : Ro kU32 H v_b_1 b_1) (h_t4_1 : Ro kU32 H v_t4_1 t4_1) : Wp Tryz.prog 122 26 QM.Kl0 (upd (upd (upd (upd jk_ 2 (pt b_a)) 3 (pt b_b)) 4 (pt b_t4)) 5 (errV 104 t5)) H (bx b_t4 [.bool t4_0, v_t4_1] 24 :: bx b_b [.bool b_0, v_b_1] 24 :: bx b_a [.bool a_0, v_a_1] 24 :: L) (QM.R H0 L r) := by
 unfold QM.b0 at he
 unfold QM.Kl0
 refine QV <| wR rfl <| wL (.agg ⟨[.bool b_0, v_b_1]⟩) ty24 rfl rfl .h1 rfl rfl <| bK he fun y4 hy5 he => w_d rfl (Xs (Qm co84 (vs := [.agg ⟨[.bool b_0, v_b_1]⟩]) rfl (Xl.calls k (a := ⟨b_0, b_1⟩) hy5 h_b_1))) <| w_d rfl (Zl rfl rfl) <| Qa ?_
 rcases its he with ⟨c8, he⟩ | ⟨c8, he⟩
 ·
  refine QB rfl (nd_t c8) <| X1 rfl <| wR rfl <| wL (.agg ⟨[.bool a_0, v_a_1]⟩) ty24 rfl rfl .h2 rfl rfl <| wS (.agg ⟨[.bool a_0, v_a_1]⟩) sz24 rfl rfl rfl rfl rfl (oc rfl (oc (h_a_1.one) oz)) .here u2 <| wA (errV 104 none) rfl rfl <| Qa ?_
  obtain rfl := sj he
  refine Qi fn_122 rs_122 (.box (v := .agg ⟨[.bool a_0, v_a_1]⟩) rfl ty24 rfl rfl .here rfl (.tmp (v := errV 104 none) rfl .nil)) <| ⟨⟨[_, _, _], rfl⟩, hle, ⟨v_a_1, rfl, h_a_1⟩⟩
 ·
  refine Qy rfl (nd_f c8) <| QA <| QU <| wR rfl <| wL (.agg ⟨[.bool a_0, v_a_1]⟩) ty24 rfl rfl .h2 rfl rfl <| wL (.agg ⟨[.bool b_0, v_b_1]⟩) ty24 rfl rfl .h1 rfl rfl <| bK he fun y9 hy10 he => w_a rfl (Qm co124 (vs := [.agg ⟨[.bool a_0, v_a_1]⟩, .agg ⟨[.bool b_0, v_b_1]⟩]) rfl (Xh.calls k (a := ⟨a_0, a_1⟩) (b := ⟨b_0, b_1⟩) hy10 h_a_1 h_b_1)) ?_
  rintro _ H11 _ ⟨rfl, e12, v13, v15, rfl, h14, h16⟩
  refine wM (.tuple ⟨[(Qc y9.1 v13), (Qc y9.2.1 v15), errV 104 y9.2.2]⟩) rfl rfl <| w_d rfl (QO rfl rfl) <| w_d rfl (QO rfl rfl) <| w_d rfl (QO rfl rfl) <| wN zr24 rfl rfl fun b17 => wN zr24 rfl rfl fun b18 => wS (Qc y9.1 v13) sz24 rfl rfl rfl rfl rfl (XC h14) .h1 u2 <| wS (Qc y9.2.1 v15) sz24 rfl rfl rfl rfl rfl (XC h16) .here u2 <| wA (errV 104 y9.2.2) rfl rfl <| wE <| QV ?_
  refine QD rfl <| wM (errV 104 y9.2.2) rfl rfl <| w_d rfl (Ya (e := y9.2.2) Tryz.underlying30 rfl) <| Qa ?_
  rcases its he with ⟨c19, he⟩ | ⟨c19, he⟩
  ·
   refine Qy rfl c19 <| wR rfl <| w_d rfl (XD (cs' := [.bool false, .slice none 0 0]) Tryz.underlying24 zr24 rfl (by kernel_rfl) (parts := []) rfl .nil) <| wM (errV 104 y9.2.2) rfl rfl <| wS (.agg ⟨[.bool false, .slice none 0 0]⟩) sz24 rfl rfl rfl rfl rfl (oc rfl (oc rfl oz)) .h2 u2 <| wA (errV 104 y9.2.2) rfl rfl <| Qa ?_
   obtain rfl := sj he
   refine Qi fn_122 rs_122 (.box (v := .agg ⟨[.bool false, .slice none 0 0]⟩) rfl ty24 rfl rfl .h2 rfl (.tmp (v := errV 104 y9.2.2) rfl .nil)) <| ⟨⟨[_, _, _, _, _], rfl⟩, hle.trans e12, ⟨.slice none 0 0, rfl, (Q9 _ _)⟩⟩
  ·
   refine QB rfl (Bool.eq_false_iff.2 c19) <| QA <| XJ (p := 3) (tl := [3]) [[], [], [(0, some 23)]] [some 23, some 24, none] (fctF (.is (.agg ⟨[.bool b_0, v_b_1]⟩) :: .is (Qc y9.2.1 v15) :: .itm (fun H itq_ => itq_ = bx b_a [.bool b_0, v_b_1] 24) (by rintro _ _ _ hle rfl; exact rfl) :: [])) (fun m_ => bx b18 (QK y9.2.1 v15) 24 :: bx b17 (QK y9.1 v13) 24 :: bx b_t4 [.bool t4_0, v_t4_1] 24 :: bx b_b [.bool b_0, v_b_1] 24 :: m_ 2 :: L) (fun i_ => if i_ = 2 then bx b_a [.bool a_0, v_a_1] 24 else none) mixed (by kernel_rfl) (by kernel_rfl) rfl (Xv (by kernel_rfl)) ⟨(fun H' m_ hH hm_ hu_ => dn <| s_d (m_ 0) rfl (QS (v := .agg ⟨[.bool b_0, v_b_1]⟩) ty24 rfl .h3 rfl rfl rfl rfl) (by exact rfl) rfl), (fun H' m_ hH hm_ hu_ => dn <| s_d (m_ 1) rfl (QS (v := (Qc y9.2.1 v15)) ty24 rfl .here rfl rfl rfl rfl) (by exact rfl) rfl), (by rintro H' m_ hH hm_ hu_ _ rfl; exact dn <| Zv (bx b_a [.bool b_0, v_b_1] 24) hm_ rfl (YE (v := .agg ⟨[.bool b_0, v_b_1]⟩) sz24 rfl rfl rfl rfl (oc rfl (oc (h_b_1.one) oz)) .h4 u2) rfl (by exact ⟨rfl, rfl⟩)), trivial⟩ ?_
   intro H20 e21
   rintro _ _ rfl _ _ rfl _ _ ⟨rfl, rfl⟩
   refine w_it (L' := bx b18 (QK y9.2.1 v15) 24 :: bx b17 (QK y9.1 v13) 24 :: bx b_t4 [.bool t4_0, v_t4_1] 24 :: bx b_b [.bool b_0, v_b_1] 24 :: bx b_a [.bool b_0, v_b_1] 24 :: L) rfl <| wS (Qc y9.2.1 v15) sz24 rfl rfl rfl rfl rfl (XC h16) .h3 u2 <| Qa <| Xk <| Xy <| YD .h1 <| YD .here <| w_sl 2 (pt b_a) rfl <| w_sl 3 (pt b_b) rfl <| w_sl 4 (pt b_t4) rfl <| w_sl 5 (errV 104 t5) rfl <| hh.l0 (hle.trans (e12.trans e21)) he (h_b_1.mono (e12.trans e21)) (h16.mono e21) (h_t4_1.mono (e12.trans e21))
theorem QM.ok : ∀ k, QM.OK (QM.hs k)
 | 0 => ⟨(by intros; exact nomatch (show none = some _ from by assumption))⟩
 | k + 1 => ⟨QM.b0_ok (k := k) (QM.ok k)⟩
theorem QM.calls (k : Nat) {H : Hp} {L : Items} {a b : Qq} {v0_a v1_b : Value} {r : Qq × (Option Int)} (he : QM.f k a b = some r) (h0_a : Ro kU32 H v0_a a.f_w) (h1_b : Ro kU32 H v1_b b.f_w) : Ct Tryz.prog 122 ⟨[(Qc a v0_a), (Qc b v1_b)]⟩ H L (cR H L (QM.out r)) := by
 refine XR (O := QM.out r) ?_
 have hle : H.le H := .refl _
 have hh := QM.ok k
 unfold QM.f at he
 refine QP (args := [_, _]) fn_122 rfl nt_122 rfl <| wR rfl <| wB (Qc a v0_a) rfl rfl rfl <| fun b1 => wB (Qc b v1_b) rfl rfl rfl <| fun b2 => wN zr24 rfl rfl fun b3 => wA (errV 104 none) rfl rfl <| wE <| QU <| X3 <| w_sl 2 (pt b1) rfl ?_
 refine w_sl 3 (pt b2) rfl <| w_sl 4 (pt b3) rfl <| w_sl 5 (errV 104 none) rfl <| hh.l0 hle he h0_a h1_b (Q9 _ _)
noncomputable def XA.C : Code := (Tryz.f73.body).getD .skip
def XA.out (r : Qe × (Option Int)) (H : Hp) (v : Value) : Prop := ∃ v0 v1, v = .tuple ⟨[(Qb r.1 v0 v1), errV 104 r.2]⟩ ∧ Ro kU32 H v0 r.1.f_n.f_w ∧ Ro kU32 H v1 r.1.f_d.f_w
theorem XA.out_mono (r : Qe × (Option Int)) {H H' : Hp} {v : Value} (hle : H.le H') (h : XA.out r H v) : XA.out r H' v := by
 obtain ⟨v0, v1, rfl, h0, h1⟩ := h; exact ⟨v0, v1, rfl, h0.mono hle, h1.mono hle⟩
abbrev XA.R (H0 : Hp) (L : Items) (r : Qe × (Option Int)) := fR H0 L (XA.out r)
noncomputable def XA.j1 (k : Nat) (n_0 : Bool) (n_1 : List Int) (d_0 : Bool) (d_1 : List Int) : Option (Qe × (Option Int)) := (Yx.f k ⟨n_0, n_1⟩).bind fun y28 => (QM.f k y28 ⟨d_0, d_1⟩).bind fun y34 => if y34.2.isSome = true then (some (⟨⟨false, []⟩, ⟨false, []⟩⟩, y34.2)) else ((Xh.f k ⟨n_0, n_1⟩ y34.1).bind fun y52 => if y52.2.2.isSome = true then (some (⟨⟨false, []⟩, ⟨false, []⟩⟩, y52.2.2)) else ((Xh.f k ⟨d_0, d_1⟩ y34.1).bind fun y63 => if y63.2.2.isSome = true then (some (⟨⟨false, []⟩, ⟨false, []⟩⟩, y63.2.2)) else (some (⟨y52.1, y63.1⟩, none))))
noncomputable def XA.f (k : Nat) (n d : Qq) : Option (Qe × (Option Int)) := (Xl.f k d).bind fun y4 => if y4 = 0 then (some (⟨⟨false, []⟩, ⟨false, []⟩⟩, some 11)) else ((Xl.f k d).bind fun y9 => if y9 < 0 then ((Xr.f k n).bind fun y14 => (Xr.f k d).bind fun y22 => XA.j1 k y14.f_neg y14.f_w y22.f_neg y22.f_w) else (XA.j1 k n.f_neg n.f_w d.f_neg d.f_w))
theorem XA.j1_mono {k : Nat} : ∀ y0 y1 y2 y3, LeO (XA.j1 k y0 y1 y2 y3) (XA.j1 (k + 1) y0 y1 y2 y3) := fun _ _ _ _ => (LeO.bind (Yx.mono k _) fun _ => LeO.bind (QM.mono k _ _) fun _ => LeO.ite (LeO.refl _) (LeO.bind (Xh.mono k _ _) fun _ => LeO.ite (LeO.refl _) (LeO.bind (Xh.mono k _ _) fun _ => LeO.ite (LeO.refl _) (LeO.refl _))))
theorem XA.mono : ∀ k y0 y1, LeO (XA.f k y0 y1) (XA.f (k + 1) y0 y1) := fun k _ _ => by unfold XA.f; exact (LeO.bind (Xl.mono k _) fun _ => LeO.ite (LeO.refl _) (LeO.bind (Xl.mono k _) fun _ => LeO.ite (LeO.bind (Xr.mono k _) fun _ => LeO.bind (Xr.mono k _) fun _ => XA.j1_mono (k := k)  _ _ _ _) (XA.j1_mono (k := k)  _ _ _ _)))
noncomputable def XA.Kj1 : List Item := .code (seqR (seqR (seqR XA.C))) :: []
theorem XA.j1_ok {k : Nat} {H0 H : Hp} {L : Items} {r : Qe × (Option Int)} {jk_ : Nat → Value} {n_0 : Bool} {n_1 : List Int} {d_0 : Bool} {d_1 : List Int} {v_n_1 v_d_1 : Value} {b_n b_d b_t4 : Nat} (hle : H0.le H) (he : XA.j1 k n_0 n_1 d_0 d_1 = some r) (h_n_1 : Ro kU32 H v_n_1 n_1) (h_d_1 : Ro kU32 H v_d_1 d_1) : Wp Tryz.prog 73 60 XA.Kj1 (upd (upd (upd (upd jk_ 2 (pt b_n)) 3 (pt b_d)) 4 (pt b_t4)) 5 (errV 104 none)) H (bx b_t4 z0c 26 :: bx b_d [.bool d_0, v_d_1] 24 :: bx b_n [.bool n_0, v_n_1] 24 :: L) (XA.R H0 L r) := by
 unfold XA.j1 at he
 unfold XA.Kj1
 refine QV <| bK he fun y28 hy29 he => bK he fun y34 hy35 he => ?_
 refine YM (?_)
 refine XJ (p := 9) (tl := [9]) [[], [(0, some 25)], [], [(1, some 26), (2, some 27)], [(3, some 28)], [(4, some 24)], [(4, some 24)], [], [(5, some 29), (7, some 6)]] [some 25, some 26, some 27, some 28, some 24, some 29, some 30, some 6, none] (fctF (.is (.agg ⟨[.bool n_0, v_n_1]⟩) :: .of (Yx.out y28) (Yx.out_mono _) :: .is (.agg ⟨[.bool d_0, v_d_1]⟩) :: .of (QM.out y34) (QM.out_mono _) :: .of (fun H v => ∃ v40, v = .tuple ⟨[(Qc y34.1 v40), errV 104 y34.2]⟩ ∧ Ro kU32 H v40 y34.1.f_w) (by rintro _ _ _ hle ⟨v40, rfl, h41⟩; exact ⟨v40, rfl, h41.mono hle⟩) :: .of (fun H v => ∃ v42, v = (Qc y34.1 v42) ∧ Ro kU32 H v42 y34.1.f_w) (by rintro _ _ _ hle ⟨v42, rfl, h43⟩; exact ⟨v42, rfl, h43.mono hle⟩) :: .is (errV 104 y34.2) :: .box 24 [.bool false, .slice none 0 0] :: .st 7 (fun H bq_ itq_ => ∃ v45, itq_ = bx bq_ (QK y34.1 v45) 24 ∧ Ro kU32 H v45 y34.1.f_w) (by rintro _ _ _ _ hle ⟨v45, rfl, h46⟩; exact ⟨v45, rfl, h46.mono hle⟩) :: [])) (fun m_ => pk (m_ 8) (m_ 7) :: bx b_t4 z0c 26 :: bx b_d [.bool d_0, v_d_1] 24 :: bx b_n [.bool n_0, v_n_1] 24 :: L) (fun _ => none) mixed (by kernel_rfl) (by kernel_rfl) rfl (Xv (by kernel_rfl)) ⟨(fun H' m_ hH hm_ hu_ => dn <| s_d (m_ 0) rfl (QS (v := .agg ⟨[.bool n_0, v_n_1]⟩) ty24 rfl .h3 rfl rfl rfl rfl) (by exact rfl) rfl), (by rintro H' m_ hH hm_ hu_ _ rfl; exact dn <| s_k (m_ 1) rfl (Qm co123 (vs := [.agg ⟨[.bool n_0, v_n_1]⟩]) rfl (Yx.calls k (a := ⟨n_0, n_1⟩) hy29 (h_n_1.mono hH))) rfl (by rintro v_ H_ _ ⟨rfl, e_, h_⟩; exact ⟨rfl, e_, h_⟩)), (fun H' m_ hH hm_ hu_ => dn <| s_d (m_ 2) rfl (QS (v := .agg ⟨[.bool d_0, v_d_1]⟩) ty24 rfl .h2 rfl rfl rfl rfl) (by exact rfl) rfl), (by rintro H' m_ hH hm_ hu_ _ ⟨v32, rfl, h33⟩ _ rfl; exact dn <| s_k (m_ 3) rfl (Qm co122 (vs := [(Qc y28 v32), .agg ⟨[.bool d_0, v_d_1]⟩]) rfl (QM.calls k (a := y28) (b := ⟨d_0, d_1⟩) hy35 h33 (h_d_1.mono hH))) rfl (by rintro v_ H_ _ ⟨rfl, e_, h_⟩; exact ⟨rfl, e_, h_⟩)), (by rintro H' m_ hH hm_ hu_ _ ⟨v38, rfl, h39⟩; exact dn <| s_d (m_ 4) rfl (QF (v := .tuple ⟨[(Qc y34.1 v38), errV 104 y34.2]⟩) rfl) (by exact ⟨v38, rfl, h39⟩) rfl), (by rintro H' m_ hH hm_ hu_ _ ⟨v40, rfl, h41⟩; exact dn <| s_d (m_ 5) rfl (QO rfl rfl) (by exact ⟨v40, rfl, h41⟩) rfl), (by rintro H' m_ hH hm_ hu_ _ ⟨v40, rfl, h41⟩; exact dn <| s_d (m_ 6) rfl (QO rfl rfl) (by exact rfl) rfl), (fun H' m_ hH hm_ hu_ => dn <| ZS hm_ rfl rfl (Y5 zr24 rfl) rfl (fun _ => (Jc (hu_ 8 (by kernel_rfl)))) (by exact fun b_ => ⟨b_, rfl, rfl⟩)), (by rintro H' m_ hH hm_ hu_ _ ⟨v42, rfl, h43⟩ _ ⟨b44, rfl, hb44_⟩; exact dn <| ZE (Λ' := fun z_ => z_ :: bx b_t4 z0c 26 :: bx b_d [.bool d_0, v_d_1] 24 :: bx b_n [.bool n_0, v_n_1] 24 :: L) (bx b44 (QK y34.1 v42) 24) hm_ rfl hb44_ rfl (YE (v := (Qc y34.1 v42)) sz24 rfl rfl rfl rfl (oc rfl (oc (h43.one) oz)) .here u2) rfl rfl (by exact ⟨rfl, v42, congrArg (fun b_ => (some (b_, Obj.cells ⟨(QK y34.1 v42)⟩ 24 (0, 0)) : Item')) (Jf hb44_).symm, h43⟩)), trivial⟩ ?_
 intro H49 e50
 rintro _ _ rfl _ _ ⟨v32, rfl, h33⟩ _ _ rfl _ _ ⟨v38, rfl, h39⟩ _ _ ⟨v40, rfl, h41⟩ _ _ ⟨v42, rfl, h43⟩ _ _ rfl _ _ ⟨b44, rfl, rfl⟩ _ i47 ⟨rfl, v45, h48, h46⟩
 replace h48 : i47 = bx b44 (QK y34.1 v45) 24 := h48
 subst h48
 refine w_it (L' := bx b44 (QK y34.1 v45) 24 :: bx b_t4 z0c 26 :: bx b_d [.bool d_0, v_d_1] 24 :: bx b_n [.bool n_0, v_n_1] 24 :: L) rfl <| wA (errV 104 y34.2) rfl rfl <| wE <| wR rfl <| wM (errV 104 y34.2) rfl rfl <| w_d rfl (Ya (e := y34.2) Tryz.underlying30 rfl) <| Qa ?_
 rcases its he with ⟨c51, he⟩ | ⟨c51, he⟩
 ·
  refine Qy rfl c51 <| wR rfl <| w_d rfl (XD (cs' := z0c) Tryz.underlying26 zr26 rfl (by kernel_rfl) (parts := []) rfl .nil) <| wM (errV 104 y34.2) rfl rfl <| wS (.agg ⟨z0c⟩) sz26 rfl rfl rfl rfl rfl (oc rfl (oc rfl (oc rfl (oc rfl oz)))) .h1 u4 <| wA (errV 104 y34.2) rfl rfl <| Qa ?_
  obtain rfl := sj he
  refine Qi fn_73 rs_73 (.box (v := .agg ⟨z0c⟩) rfl ty26 rfl rfl .h1 rfl (.tmp (v := errV 104 y34.2) rfl .nil)) <| ⟨⟨[_, _, _, _], rfl⟩, hle.trans e50, ⟨.slice none 0 0, .slice none 0 0, rfl, (Q9 _ _), (Q9 _ _)⟩⟩
 ·
  refine QB rfl (Bool.eq_false_iff.2 c51) <| QA <| wR rfl <| wL (.agg ⟨[.bool n_0, v_n_1]⟩) ty24 rfl rfl .h3 rfl rfl <| wL (Qc y34.1 v45) ty24 rfl rfl .here rfl rfl <| bK he fun y52 hy53 he => w_a rfl (Qm co124 (vs := [.agg ⟨[.bool n_0, v_n_1]⟩, (Qc y34.1 v45)]) rfl (Xh.calls k (a := ⟨n_0, n_1⟩) (b := y34.1) hy53 (h_n_1.mono e50) h46)) ?_
  rintro _ H54 _ ⟨rfl, e55, v56, v58, rfl, h57, h59⟩
  refine wM (.tuple ⟨[(Qc y52.1 v56), (Qc y52.2.1 v58), errV 104 y52.2.2]⟩) rfl rfl <| w_d rfl (QO rfl rfl) <| w_d rfl (QO rfl rfl) <| w_d rfl (QO rfl rfl) <| wN zr24 rfl rfl fun b60 => wN zr24 rfl rfl fun b61 => wS (Qc y52.1 v56) sz24 rfl rfl rfl rfl rfl (XC h57) .h1 u2 <| wS (Qc y52.2.1 v58) sz24 rfl rfl rfl rfl rfl (XC h59) .here u2 <| wA (errV 104 y52.2.2) rfl rfl <| wE <| QV ?_
  refine QD rfl <| wM (errV 104 y52.2.2) rfl rfl <| w_d rfl (Ya (e := y52.2.2) Tryz.underlying30 rfl) <| Qa ?_
  rcases its he with ⟨c62, he⟩ | ⟨c62, he⟩
  ·
   refine Qy rfl c62 <| wR rfl <| w_d rfl (XD (cs' := z0c) Tryz.underlying26 zr26 rfl (by kernel_rfl) (parts := []) rfl .nil) <| wM (errV 104 y52.2.2) rfl rfl <| wS (.agg ⟨z0c⟩) sz26 rfl rfl rfl rfl rfl (oc rfl (oc rfl (oc rfl (oc rfl oz)))) .h3 u4 <| wA (errV 104 y52.2.2) rfl rfl <| Qa ?_
   obtain rfl := sj he
   refine Qi fn_73 rs_73 (.box (v := .agg ⟨z0c⟩) rfl ty26 rfl rfl .h3 rfl (.tmp (v := errV 104 y52.2.2) rfl .nil)) <| ⟨⟨[_, _, _, _, _, _], rfl⟩, hle.trans (e50.trans e55), ⟨.slice none 0 0, .slice none 0 0, rfl, (Q9 _ _), (Q9 _ _)⟩⟩
  ·
   refine QB rfl (Bool.eq_false_iff.2 c62) <| QA <| wR rfl <| wL (.agg ⟨[.bool d_0, v_d_1]⟩) ty24 rfl rfl .h4 rfl rfl <| wL (Qc y34.1 v45) ty24 rfl rfl .h2 rfl rfl <| bK he fun y63 hy64 he => w_a rfl (Qm co124 (vs := [.agg ⟨[.bool d_0, v_d_1]⟩, (Qc y34.1 v45)]) rfl (Xh.calls k (a := ⟨d_0, d_1⟩) (b := y34.1) hy64 (h_d_1.mono (e50.trans e55)) (h46.mono e55))) ?_
   rintro _ H65 _ ⟨rfl, e66, v67, v69, rfl, h68, h70⟩
   refine wM (.tuple ⟨[(Qc y63.1 v67), (Qc y63.2.1 v69), errV 104 y63.2.2]⟩) rfl rfl <| w_d rfl (QO rfl rfl) <| w_d rfl (QO rfl rfl) <| w_d rfl (QO rfl rfl) <| wN zr24 rfl rfl fun b71 => wN zr24 rfl rfl fun b72 => wS (Qc y63.1 v67) sz24 rfl rfl rfl rfl rfl (XC h68) .h1 u2 <| wS (Qc y63.2.1 v69) sz24 rfl rfl rfl rfl rfl (XC h70) .here u2 <| wA (errV 104 y63.2.2) rfl rfl <| wE <| QV ?_
   refine QD rfl <| wM (errV 104 y63.2.2) rfl rfl <| w_d rfl (Ya (e := y63.2.2) Tryz.underlying30 rfl) <| Qa ?_
   rcases its he with ⟨c73, he⟩ | ⟨c73, he⟩
   ·
    refine Qy rfl c73 <| wR rfl <| w_d rfl (XD (cs' := z0c) Tryz.underlying26 zr26 rfl (by kernel_rfl) (parts := []) rfl .nil) <| wM (errV 104 y63.2.2) rfl rfl <| wS (.agg ⟨z0c⟩) sz26 rfl rfl rfl rfl rfl (oc rfl (oc rfl (oc rfl (oc rfl oz)))) .h5 u4 <| wA (errV 104 y63.2.2) rfl rfl <| Qa ?_
    obtain rfl := sj he
    refine Qi fn_73 rs_73 (.box (v := .agg ⟨z0c⟩) rfl ty26 rfl rfl .h5 rfl (.tmp (v := errV 104 y63.2.2) rfl .nil)) <| ⟨⟨[_, _, _, _, _, _, _, _], rfl⟩, hle.trans ((e50.trans e55).trans e66), ⟨.slice none 0 0, .slice none 0 0, rfl, (Q9 _ _), (Q9 _ _)⟩⟩
   ·
    refine QB rfl (Bool.eq_false_iff.2 c73) <| QA <| wR rfl <| wL (Qc y52.1 v56) ty24 rfl rfl .h3 rfl rfl <| wL (Qc y63.1 v67) ty24 rfl rfl .h1 rfl rfl <| w_d rfl (XD (cs' := [.bool y52.1.f_neg, v56, .bool y63.1.f_neg, v67]) Tryz.underlying26 zr26 rfl (by kernel_rfl) (parts := [(0, (Qc y52.1 v56)), (1, (Qc y63.1 v67))]) rfl (.cons (YC rfl sz24 rfl) rfl rfl u2 (.cons (YC rfl sz24 rfl) rfl rfl (.there (.there u2)) .nil))) <| wS (.agg ⟨[.bool y52.1.f_neg, v56, .bool y63.1.f_neg, v67]⟩) sz26 rfl rfl rfl rfl rfl (oc rfl (oc (h57.one) (oc rfl (oc (h68.one) oz)))) .h5 u4 <| wA (errV 104 none) rfl rfl <| Qa ?_
    obtain rfl := sj he
    refine Qi fn_73 rs_73 (.box (v := .agg ⟨[.bool y52.1.f_neg, v56, .bool y63.1.f_neg, v67]⟩) rfl ty26 rfl rfl .h5 rfl (.tmp (v := errV 104 none) rfl .nil)) <| ⟨⟨[_, _, _, _, _, _, _, _], rfl⟩, hle.trans ((e50.trans e55).trans e66), ⟨v56, v67, rfl, (h57.mono e66), h68⟩⟩
theorem XA.calls (k : Nat) {H : Hp} {L : Items} {n d : Qq} {v0_n v1_d : Value} {r : Qe × (Option Int)} (he : XA.f k n d = some r) (h0_n : Ro kU32 H v0_n n.f_w) (h1_d : Ro kU32 H v1_d d.f_w) : Ct Tryz.prog 73 ⟨[(Qc n v0_n), (Qc d v1_d)]⟩ H L (cR H L (XA.out r)) := by
 refine XR (O := XA.out r) ?_
 have hle : H.le H := .refl _
 unfold XA.f at he
 refine QP (args := [_, _]) fn_73 rfl nt_73 rfl <| wR rfl <| wB (Qc n v0_n) rfl rfl rfl <| fun b1 => wB (Qc d v1_d) rfl rfl rfl <| fun b2 => wN zr26 rfl rfl fun b3 => wA (errV 104 none) rfl rfl <| wE <| wR rfl <| wL (Qc d v1_d) ty24 rfl rfl .h1 rfl rfl ?_
 refine bK he fun y4 hy5 he => w_d rfl (Xs (Qm co84 (vs := [(Qc d v1_d)]) rfl (Xl.calls k (a := d) hy5 h1_d))) <| w_d rfl (Y1 rfl rfl) <| Qa ?_
 rcases its he with ⟨c8, he⟩ | ⟨c8, he⟩
 ·
  refine Qy rfl (dt c8) <| wR rfl <| w_d rfl (XD (cs' := z0c) Tryz.underlying26 zr26 rfl (by kernel_rfl) (parts := []) rfl .nil) <| w_d rfl (YU (v := .int .i64 11) Tryz.underlying104 rfl rfl) <| wS (.agg ⟨z0c⟩) sz26 rfl rfl rfl rfl rfl (oc rfl (oc rfl (oc rfl (oc rfl oz)))) .here u4 <| wA (errV 104 (some 11)) rfl rfl <| Qa ?_
  obtain rfl := sj he
  refine Qi fn_73 rs_73 (.box (v := .agg ⟨z0c⟩) rfl ty26 rfl rfl .here rfl (.tmp (v := errV 104 (some 11)) rfl .nil)) <| ⟨⟨[_, _, _], rfl⟩, hle, ⟨.slice none 0 0, .slice none 0 0, rfl, (Q9 _ _), (Q9 _ _)⟩⟩
 ·
  refine QB rfl (df c8) <| QA <| QV <| wR rfl <| wL (Qc d v1_d) ty24 rfl rfl .h1 rfl rfl <| bK he fun y9 hy10 he => w_d rfl (Xs (Qm co84 (vs := [(Qc d v1_d)]) rfl (Xl.calls k (a := d) hy10 h1_d))) <| w_d rfl (XG rfl rfl) <| Qa ?_
  rcases its he with ⟨c13, he⟩ | ⟨c13, he⟩
  ·
   refine Qy rfl (dt c13) <| bK he fun y14 hy15 he => XJ (p := 3) (tl := [3, 4, 5]) [[], [(0, some 20)], []] [some 20, some 21, some 22] (fctF (.is (Qc n v0_n) :: .of (Xr.out y14) (Xr.out_mono _) :: .is (Qc d v1_d) :: [])) (fun m_ => bx b3 z0c 26 :: bx b2 (QK d v1_d) 24 :: bx b1 (QK n v0_n) 24 :: L) (fun _ => none) mixed (by kernel_rfl) (by kernel_rfl) rfl (Xv (by kernel_rfl)) ⟨(fun H' m_ hH hm_ hu_ => dn <| s_d (m_ 0) rfl (QS (v := (Qc n v0_n)) ty24 rfl .h2 rfl rfl rfl rfl) (by exact rfl) rfl), (by rintro H' m_ hH hm_ hu_ _ rfl; exact dn <| s_k (m_ 1) rfl (Qm co121 (vs := [(Qc n v0_n)]) rfl (Xr.calls k (a := n) hy15 (h0_n.mono hH))) rfl (by rintro v_ H_ _ ⟨rfl, e_, h_⟩; exact ⟨rfl, e_, h_⟩)), (fun H' m_ hH hm_ hu_ => dn <| s_d (m_ 2) rfl (QS (v := (Qc d v1_d)) ty24 rfl .h1 rfl rfl rfl rfl) (by exact rfl) rfl), trivial⟩ ?_
   intro H20 e21
   rintro _ _ rfl _ _ ⟨v18, rfl, h19⟩ _ _ rfl
   refine bK he fun y22 hy23 he => w_a rfl (Qm co121 (vs := [(Qc d v1_d)]) rfl (Xr.calls k (a := d) hy23 (h1_d.mono e21))) ?_
   rintro _ H24 _ ⟨rfl, e25, v26, rfl, h27⟩
   refine wS (Qc y14 v18) sz24 rfl rfl rfl rfl rfl (XC h19) .h2 u2 <| wS (Qc y22 v26) sz24 rfl rfl rfl rfl rfl (XC h27) .h1 u2 <| Qa <| w_sl 2 (pt b1) rfl <| w_sl 3 (pt b2) rfl <| w_sl 4 (pt b3) rfl <| w_sl 5 (errV 104 none) rfl <| XA.j1_ok (k := k) (hle.trans (e21.trans e25)) he (h19.mono e25) h27
  ·
   refine QB rfl (df c13) <| QA <| w_sl 2 (pt b1) rfl <| w_sl 3 (pt b2) rfl <| w_sl 4 (pt b3) rfl <| w_sl 5 (errV 104 none) rfl <| XA.j1_ok (k := k) hle he h0_n h1_d
noncomputable def Yk.C : Code := (Tryz.f42.body).getD .skip
def Yk.out (r : Qe) (H : Hp) (v : Value) : Prop := ∃ v0 v1, v = (Qb r v0 v1) ∧ Ro kU32 H v0 r.f_n.f_w ∧ Ro kU32 H v1 r.f_d.f_w
noncomputable def Yk.f (k : Nat) (a : QX) : Option Qe := (XI.f k a.f_N).bind fun y3 => (XI.f k a.f_D).bind fun y9 => (XA.f k y3 y9).bind fun y15 => some (y15.1)
theorem Yk.calls (k : Nat) {H : Hp} {L : Items} {a : QX} {v0_a v1_a : Value} {r : Qe} (he : Yk.f k a = some r) (h0_a : Ro kI64 H v0_a a.f_N.f_D) (h1_a : Ro kI64 H v1_a a.f_D.f_D) : Ct Tryz.prog 42 ⟨[(YL a v0_a v1_a)]⟩ H L (cR H L (Yk.out r)) := by
 refine XR (O := Yk.out r) ?_
 have hle : H.le H := .refl _
 unfold Yk.f at he
 refine QP (args := [_]) fn_42 rfl nt_42 rfl <| wR rfl <| wB (YL a v0_a v1_a) rfl rfl rfl <| fun b1 => wN zr26 rfl rfl fun b2 => wE <| bK he fun y3 hy4 he => bK he fun y9 hy10 he => bK he fun y15 hy16 he => ?_
 refine YM (?_)
 refine XJ (p := 12) (tl := [12]) [[], [(0, some 6)], [(1, some 7)], [], [(3, some 9)], [(4, some 10)], [(2, some 8), (5, some 11)], [(6, some 12)], [(7, some 5)], [(7, some 5)], [], [(8, some 13), (10, some 3)]] [some 6, some 7, some 8, some 9, some 10, some 11, some 12, some 5, some 13, some 14, some 3, none] (fctF (.is (pt b1) :: .is (Qf a.f_N v0_a) :: .of (XI.out y3) (XI.out_mono _) :: .is (po b1 2) :: .is (Qf a.f_D v1_a) :: .of (XI.out y9) (XI.out_mono _) :: .of (XA.out y15) (XA.out_mono _) :: .of (fun H v => ∃ v23 v25, v = .tuple ⟨[(Qb y15.1 v23 v25), errV 104 y15.2]⟩ ∧ Ro kU32 H v23 y15.1.f_n.f_w ∧ Ro kU32 H v25 y15.1.f_d.f_w) (by rintro _ _ _ hle ⟨v23, v25, rfl, h24, h26⟩; exact ⟨v23, v25, rfl, h24.mono hle, h26.mono hle⟩) :: .of (fun H v => ∃ v27 v29, v = (Qb y15.1 v27 v29) ∧ Ro kU32 H v27 y15.1.f_n.f_w ∧ Ro kU32 H v29 y15.1.f_d.f_w) (by rintro _ _ _ hle ⟨v27, v29, rfl, h28, h30⟩; exact ⟨v27, v29, rfl, h28.mono hle, h30.mono hle⟩) :: .is (errV 104 y15.2) :: .box 26 z0c :: .st 10 (fun H bq_ itq_ => ∃ v32 v34, itq_ = bx bq_ (Xd y15.1 v32 v34) 26 ∧ Ro kU32 H v32 y15.1.f_n.f_w ∧ Ro kU32 H v34 y15.1.f_d.f_w) (by rintro _ _ _ _ hle ⟨v32, v34, rfl, h33, h35⟩; exact ⟨v32, v34, rfl, h33.mono hle, h35.mono hle⟩) :: [])) (fun m_ => pk (m_ 11) (m_ 10) :: bx b2 z0c 26 :: bx b1 (YO a v0_a v1_a) 40 :: L) (fun _ => none) mixed (by kernel_rfl) (by kernel_rfl) rfl (Xv (by kernel_rfl)) ⟨(fun H' m_ hH hm_ hu_ => dn <| s_d (m_ 0) rfl (Xe (o' := 0) Tryz.underlying40 rfl sz37 rfl rfl rfl) (by exact rfl) rfl), (by rintro H' m_ hH hm_ hu_ _ rfl; exact dn <| s_d (m_ 1) rfl (QS (v := (Qf a.f_N v0_a)) ty37 rfl .h2 rfl rfl rfl rfl) (by exact rfl) rfl), (by rintro H' m_ hH hm_ hu_ _ rfl; exact dn <| s_k (m_ 2) rfl (Qm co97 (vs := [(Qf a.f_N v0_a)]) rfl (XI.calls k (a := a.f_N) hy4 (h0_a.mono hH))) rfl (by rintro v_ H_ _ ⟨rfl, e_, h_⟩; exact ⟨rfl, e_, h_⟩)), (fun H' m_ hH hm_ hu_ => dn <| s_d (m_ 3) rfl (Xe (o' := 2) Tryz.underlying40 rfl sz37 rfl rfl rfl) (by exact rfl) rfl), (by rintro H' m_ hH hm_ hu_ _ rfl; exact dn <| s_d (m_ 4) rfl (QS (v := (Qf a.f_D v1_a)) ty37 rfl .h2 rfl rfl rfl rfl) (by exact rfl) rfl), (by rintro H' m_ hH hm_ hu_ _ rfl; exact dn <| s_k (m_ 5) rfl (Qm co97 (vs := [(Qf a.f_D v1_a)]) rfl (XI.calls k (a := a.f_D) hy10 (h1_a.mono hH))) rfl (by rintro v_ H_ _ ⟨rfl, e_, h_⟩; exact ⟨rfl, e_, h_⟩)), (by rintro H' m_ hH hm_ hu_ _ ⟨v7, rfl, h8⟩ _ ⟨v13, rfl, h14⟩; exact dn <| s_k (m_ 6) rfl (Qm co73 (vs := [(Qc y3 v7), (Qc y9 v13)]) rfl (XA.calls k (n := y3) (d := y9) hy16 h8 h14)) rfl (by rintro v_ H_ _ ⟨rfl, e_, h_⟩; exact ⟨rfl, e_, h_⟩)), (by rintro H' m_ hH hm_ hu_ _ ⟨v19, v21, rfl, h20, h22⟩; exact dn <| s_d (m_ 7) rfl (QF (v := .tuple ⟨[(Qb y15.1 v19 v21), errV 104 y15.2]⟩) rfl) (by exact ⟨v19, v21, rfl, h20, h22⟩) rfl), (by rintro H' m_ hH hm_ hu_ _ ⟨v23, v25, rfl, h24, h26⟩; exact dn <| s_d (m_ 8) rfl (QO rfl rfl) (by exact ⟨v23, v25, rfl, h24, h26⟩) rfl), (by rintro H' m_ hH hm_ hu_ _ ⟨v23, v25, rfl, h24, h26⟩; exact dn <| s_d (m_ 9) rfl (QO rfl rfl) (by exact rfl) rfl), (fun H' m_ hH hm_ hu_ => dn <| ZS hm_ rfl rfl (Y5 zr26 rfl) rfl (fun _ => (Jc (hu_ 11 (by kernel_rfl)))) (by exact fun b_ => ⟨b_, rfl, rfl⟩)), (by rintro H' m_ hH hm_ hu_ _ ⟨v27, v29, rfl, h28, h30⟩ _ ⟨b31, rfl, hb31_⟩; exact dn <| ZE (Λ' := fun z_ => z_ :: bx b2 z0c 26 :: bx b1 (YO a v0_a v1_a) 40 :: L) (bx b31 (Xd y15.1 v27 v29) 26) hm_ rfl hb31_ rfl (YE (v := (Qb y15.1 v27 v29)) sz26 rfl rfl rfl rfl (oc rfl (oc (h28.one) (oc rfl (oc (h30.one) oz)))) .here u4) rfl rfl (by exact ⟨rfl, v27, v29, congrArg (fun b_ => (some (b_, Obj.cells ⟨(Xd y15.1 v27 v29)⟩ 26 (0, 0)) : Item')) (Jf hb31_).symm, h28, h30⟩)), trivial⟩ ?_
 intro H38 e39
 rintro _ _ rfl _ _ rfl _ _ ⟨v7, rfl, h8⟩ _ _ rfl _ _ rfl _ _ ⟨v13, rfl, h14⟩ _ _ ⟨v19, v21, rfl, h20, h22⟩ _ _ ⟨v23, v25, rfl, h24, h26⟩ _ _ ⟨v27, v29, rfl, h28, h30⟩ _ _ rfl _ _ ⟨b31, rfl, rfl⟩ _ i36 ⟨rfl, v32, v34, h37, h33, h35⟩
 replace h37 : i36 = bx b31 (Xd y15.1 v32 v34) 26 := h37
 subst h37
 refine w_it (L' := bx b31 (Xd y15.1 v32 v34) 26 :: bx b2 z0c 26 :: bx b1 (YO a v0_a v1_a) 40 :: L) rfl <| wA (errV 104 y15.2) rfl rfl <| wQ rfl <| wL (Qb y15.1 v32 v34) ty26 rfl rfl .here rfl rfl <| wS (Qb y15.1 v32 v34) sz26 rfl rfl rfl rfl rfl (Xz h33 h35) .h1 u4 <| Qa ?_
 obtain rfl := sj he
 refine Qi fn_42 rs_42 (.box (v := (Qb y15.1 v32 v34)) rfl ty26 rfl rfl .h1 rfl .nil) <| ⟨⟨[_, _, _], rfl⟩, hle.trans e39, ⟨v32, v34, rfl, h33, h35⟩⟩
noncomputable def Qu.C : Code := (Tryz.f45.body).getD .skip
abbrev Qu.out (r : (List Qe)) (H : Hp) (v : Value) : Prop := Ro Q1 H v r
abbrev Qu.R (H0 : Hp) (L : Items) (r : (List Qe)) := fR H0 L (Qu.out r)
structure Qu.Hs where
 l0 : (List QX) → (List Qe) → Int → Option (List Qe)
noncomputable def Qu.b0 (k : Nat) (h : Qu.Hs) (l : List QX) (out : List Qe) (i : Int) : Option (List Qe) := if i < (l.length : Int) then (if (0 : Int) ≤ i ∧ i < (l.length : Int) then ((Yk.f k (rd l i)).bind fun y9 => if out.length + 1 ≤ 2199023255424 then (h.l0 l (out ++ [y9]) (w64 (i + 1))) else none) else none) else (some (out))
noncomputable def Qu.hs : Nat → Qu.Hs
 | 0 => ⟨fun _ _ _ => none⟩
 | k + 1 => ⟨fun x0 x1 x2 => Qu.b0 k (Qu.hs k) x0 x1 x2⟩
noncomputable def Qu.f (k : Nat) (l : List QX) : Option (List Qe) := (fun h : Qu.Hs => h.l0 l [] 0) (Qu.hs k)
noncomputable def Qu.Kl0 : List Item := .code (lopB (blkB (seqR (seqL (seqR (seqR Qu.C)))))) :: .inLoop (lopB (blkB (seqR (seqL (seqR (seqR Qu.C)))))) :: .inBlock 0 :: .code (seqR (seqR (seqR Qu.C))) :: []
structure Qu.OK (h : Qu.Hs) : Prop where
 l0 : ∀ {H0 H : Hp} {L : Items} {r : (List Qe)} {jk_ : Nat → Value} {l : List QX} {out : List Qe} {i : Int} {v_l : Value} {v_out : Value} {i_out : Item'} (_ : H0.le H) (_he : h.l0 l out i = some r) (_h_l : Src X9 H L v_l l) (_h_out : Sl Q1 H 26 i_out v_out out), Wp Tryz.prog 45 20 Qu.Kl0 (upd (upd (upd (upd jk_ 0 (v_l)) 2 (.slice none 0 0)) 3 (v_out)) 4 (.int .i64 i)) H (i_out :: L) (Qu.R H0 L r)
theorem Qu.b0_ok {k : Nat} {h : Qu.Hs} (hh : Qu.OK h) {H0 H : Hp} {L : Items} {r : (List Qe)} {jk_ : Nat → Value} {l : List QX} {out : List Qe} {i : Int} {v_l v_out : Value} {i_out : Item'} (hle : H0.le H) (he : Qu.b0 k h l out i = some r) (h_l : Src X9 H L v_l l) (h_out : Sl Q1 H 26 i_out v_out out) : Wp Tryz.prog 45 20 Qu.Kl0 (upd (upd (upd (upd jk_ 0 (v_l)) 2 (.slice none 0 0)) 3 (v_out)) 4 (.int .i64 i)) H (i_out :: L) (Qu.R H0 L r) := by
 unfold Qu.b0 at he
 unfold Qu.Kl0
 refine QV <| wR rfl <| wM (.int .i64 i) rfl rfl <| wM v_l rfl rfl <| w_d rfl (Xq Tryz.underlying68 rfl h_l.th) <| w_d rfl (XG rfl rfl) <| Qa ?_
 rcases its he with ⟨c1, he⟩ | ⟨c1, he⟩
 ·
  refine Qy rfl (dt c1) <| QA <| QV <| QU <| QD rfl <| wM v_out rfl rfl <| wM v_l rfl rfl <| wM (.int .i64 i) rfl rfl <| rK he fun c2 he => w_d rfl (XM (sz := 4) Tryz.underlying68 sz40 rfl h_l.th rfl c2) ?_
  obtain ⟨_, l3, r4⟩ := Jm (kd := X9) h_l.th c2
  obtain ⟨v5, v7, rfl, h6, h8⟩ := JL r4
  refine w_d rfl (ZM (v := .agg ⟨[.bool (((rd l i).f_N).f_Neg), v5, .bool (((rd l i).f_D).f_Neg), v7]⟩) (cs := [.bool (((rd l i).f_N).f_Neg), v5, .bool (((rd l i).f_D).f_Neg), v7]) ty40 rfl rfl (by decide) l3 rfl) <| bK he fun y9 hy10 he => w_a rfl (Qm co42 (vs := [.agg ⟨[.bool (((rd l i).f_N).f_Neg), v5, .bool (((rd l i).f_D).f_Neg), v7]⟩]) rfl (Yk.calls k (a := (rd l i)) hy10 h6 h8)) ?_
  rintro _ H11 _ ⟨rfl, e12, v13, v15, rfl, h14, h16⟩
  refine w_a rfl (o_buildSlice' (kd := Q1) (css := [(Xd y9 v13 v15)]) (xs := [y9]) (parts := [(0, (Qb y9 v13 v15))]) Tryz.underlying81 ti26 rfl ⟨_, _, rfl, rfl, rfl⟩ ⟨(ZZ (x := y9) h14 h16), trivial⟩ rfl (by decide)) ?_
  rintro v17 _ _ ⟨i18, rfl, rfl, h19⟩
  refine rK he fun c20 he => w_a rfl (o_append' (kd := Q1) (F := fun z_ => i18 :: z_ :: L) Tryz.underlying81 Tryz.underlying81 ti26 rfl (by first | omega | (simp only [List.nil_append, List.length_cons, List.length_nil]; omega)) rfl rfl (h_out.mono e12) (h19.src .here) (fun _ => .h1)) ?_
  rintro v21 _ _ ⟨i22, rfl, rfl, h23⟩
  refine wA v21 rfl rfl <| Qa <| Xk <| QD rfl <| wM (.int .i64 i) rfl rfl <| w_d rfl (Xt (c := w64 (i + 1)) rfl rfl rfl) <| wA (.int .i64 (w64 (i + 1))) rfl rfl <| Qa <| Xy <| YD .here <| w_sl 0 (v_l) rfl <| w_sl 2 (.slice none 0 0) rfl ?_
  refine w_sl 3 (v21) rfl <| w_sl 4 (.int .i64 (w64 (i + 1))) rfl <| hh.l0 (hle.trans e12) he (h_l.mono e12) h23
 ·
  refine QB rfl (df c1) <| X1 rfl <| wR rfl <| wM v_out rfl rfl <| wA v_out rfl rfl <| Qa <| Yv h_out .here ?_
  intro H24 e25 h26
  obtain rfl := sj he
  refine Qi fn_45 rs_45 (.tmp (v := v_out) rfl .nil) <| ⟨⟨[_], rfl⟩, hle.trans e25, h26⟩
theorem Qu.ok : ∀ k, Qu.OK (Qu.hs k)
 | 0 => ⟨(by intros; exact nomatch (show none = some _ from by assumption))⟩
 | k + 1 => ⟨Qu.b0_ok (k := k) (Qu.ok k)⟩
theorem Qu.calls (k : Nat) {H : Hp} {L : Items} {l : List QX} {v0_l : Value} {r : (List Qe)} (he : Qu.f k l = some r) (h0_l : Src X9 H L v0_l l) : Ct Tryz.prog 45 ⟨[v0_l]⟩ H L (cR H L (Qu.out r)) := by
 refine XR (O := Qu.out r) ?_
 have hle : H.le H := .refl _
 have hh := Qu.ok k
 unfold Qu.f at he
 refine QP (args := [_]) fn_45 rfl nt_45 rfl <| wR rfl <| wA (.slice none 0 0) rfl rfl <| wQ rfl <| wA (.slice none 0 0) rfl rfl <| wE <| wR rfl ?_
 refine wA (.int .i64 0) rfl rfl <| Qa <| QU <| X3 <| YM <| w_sl 0 (v0_l) rfl <| w_sl 2 (.slice none 0 0) rfl <| w_sl 3 (.slice none 0 0) rfl <| w_sl 4 (.int .i64 0) rfl <| hh.l0 hle he h0_l (Jd _ _ _)
noncomputable def Yt.C : Code := (Tryz.f117.body).getD .skip
def Yt.out (r : Bool) (H : Hp) (v : Value) : Prop := v = .bool r
noncomputable def Yt.f (k : Nat) (x : Int) : Option Bool := some (!decide (x = 0))
theorem Yt.mono : ∀ k y0, LeO (Yt.f k y0) (Yt.f (k + 1) y0) := fun k _ => by unfold Yt.f; exact (LeO.refl _)
theorem Yt.calls (k : Nat) {H : Hp} {L : Items} {x : Int} {r : Bool} (he : Yt.f k x = some r) : Ct Tryz.prog 117 ⟨[.int .u32 x]⟩ H L (fun v H' L' => L = L' ∧ H = H' ∧ v = .bool r) := by
 refine X6 (O := Yt.out r) (fun _ _ h => h) ?_
 have hle : H.le H := .refl _
 unfold Yt.f at he
 refine QP (args := [_]) fn_117 rfl nt_117 rfl <| wR rfl <| wA (.bool false) rfl rfl <| wQ rfl <| wM (.int .u32 x) rfl rfl <| w_d rfl (Zl rfl rfl) <| wA (.bool (!decide (x = 0))) rfl rfl <| Qa ?_
 obtain rfl := sj he
 refine Qi fn_117 rs_117 (.tmp (v := .bool (!decide (x = 0))) rfl .nil) <| ⟨⟨[], rfl⟩, hle, rfl⟩
noncomputable def Qd.C : Code := (Tryz.f141.body).getD .skip
def Qd.out (r : Int) (H : Hp) (v : Value) : Prop := v = .int .i64 r
abbrev Qd.R (H0 : Hp) (L : Items) (r : Int) := fR H0 L (Qd.out r)
structure Qd.Hs where
 l0 : (List Int) → Int → Int → Int → Option Int
noncomputable def Qd.b0 (k : Nat) (h : Qd.Hs) (s : List Int) (t4 t7 t8 : Int) : Option Int := if t8 < t7 then (if (0 : Int) ≤ t8 ∧ t8 < (s.length : Int) then ((Yt.f k (rd s t8)).bind fun y3 => if y3 = true then (some (t8)) else (h.l0 s t4 t7 (w64 (t8 + 1)))) else none) else (some ((-1)))
noncomputable def Qd.hs : Nat → Qd.Hs
 | 0 => ⟨fun _ _ _ _ => none⟩
 | k + 1 => ⟨fun x0 x1 x2 x3 => Qd.b0 k (Qd.hs k) x0 x1 x2 x3⟩
noncomputable def Qd.f (k : Nat) (s : List Int) : Option Int := (fun h : Qd.Hs => h.l0 s 0 (s.length : Int) 0) (Qd.hs k)
structure Qd.LE (h h' : Qd.Hs) : Prop where
 l0 : ∀ y0 y1 y2 y3, LeO (h.l0 y0 y1 y2 y3) (h'.l0 y0 y1 y2 y3)
theorem Qd.b0_mono {k : Nat} {h h' : Qd.Hs} (hl : Qd.LE h h') : ∀ y0 y1 y2 y3, LeO (Qd.b0 k h y0 y1 y2 y3) (Qd.b0 (k + 1) h' y0 y1 y2 y3) := fun _ _ _ _ => (LeO.ite (LeO.ite (LeO.bind (Yt.mono k _) fun _ => LeO.ite (LeO.refl _) (hl.l0 _ _ _ _)) (LeO.refl _)) (LeO.refl _))
theorem Qd.hs_mono : ∀ k, Qd.LE (Qd.hs k) (Qd.hs (k + 1))
 | 0 => ⟨fun _ _ _ _ => LeO.none _⟩
 | k + 1 => ⟨Qd.b0_mono (k := k) (Qd.hs_mono k)⟩
theorem Qd.mono : ∀ k y0, LeO (Qd.f k y0) (Qd.f (k + 1) y0) := fun k _ => have hl := Qd.hs_mono k; by unfold Qd.f; exact (hl.l0 _ _ _ _)
noncomputable def Qd.Kl0 : List Item := .code (lopB (blkB (seqR (seqL (seqR Qd.C))))) :: .inLoop (lopB (blkB (seqR (seqL (seqR Qd.C))))) :: .inBlock 0 :: .code (seqR (seqR Qd.C)) :: []
structure Qd.OK (h : Qd.Hs) : Prop where
 l0 : ∀ {H0 H : Hp} {L : Items} {r : Int} {jk_ : Nat → Value} {s : List Int} {t4 : Int} {t7 : Int} {t8 : Int} {v_s : Value} (_ : H0.le H) (_he : h.l0 s t4 t7 t8 = some r) (_h_s : Src kU32 H L v_s s), Wp Tryz.prog 141 19 Qd.Kl0 (upd (upd (upd (upd (upd jk_ 0 (v_s)) 1 (.func (.func 117) #[] #[])) 4 (.int .i64 t4)) 7 (.int .i64 t7)) 8 (.int .i64 t8)) H (L) (Qd.R H0 L r)
theorem Qd.b0_ok {k : Nat} {h : Qd.Hs} (hh : Qd.OK h) {H0 H : Hp} {L : Items} {r : Int} {jk_ : Nat → Value} {s : List Int} {t4 t7 t8 : Int} {v_s : Value} (hle : H0.le H) (he : Qd.b0 k h s t4 t7 t8 = some r) (h_s : Src kU32 H L v_s s) : Wp Tryz.prog 141 19 Qd.Kl0 (upd (upd (upd (upd (upd jk_ 0 (v_s)) 1 (.func (.func 117) #[] #[])) 4 (.int .i64 t4)) 7 (.int .i64 t7)) 8 (.int .i64 t8)) H (L) (Qd.R H0 L r) := by
 unfold Qd.b0 at he
 unfold Qd.Kl0
 refine wR rfl <| w_d rfl (XG rfl rfl) <| wE ?_
 rcases its he with ⟨c1, he⟩ | ⟨c1, he⟩
 ·
  refine Qy rfl (dt c1) <| QA <| QV <| QU <| wR rfl <| wM (.int .i64 t8) rfl rfl <| wA (.int .i64 t8) rfl rfl <| wQ rfl <| wM (.func (.func 117) #[] #[]) rfl rfl ?_
  refine wM v_s rfl rfl <| wM (.int .i64 t8) rfl rfl <| rK he fun c2 he => w_d rfl (XM (sz := 1) Tryz.underlying22 sz167 rfl h_s rfl c2) <| w_d rfl (XL ty167 rfl h_s c2) <| bK he fun y3 hy4 he => w_d rfl (Xs (W1 rfl co117 (vs := [.int .u32 (rd s t8)]) rfl (Yt.calls k hy4))) <| Qa ?_
  rcases its he with ⟨c7, he⟩ | ⟨c7, he⟩
  ·
   refine Qy rfl c7 <| wR rfl <| wM (.int .i64 t8) rfl rfl <| wA (.int .i64 t8) rfl rfl <| Qa ?_
   obtain rfl := sj he
   refine Qi fn_141 rs_141 (.tmp (v := .int .i64 t8) rfl .nil) <| ⟨⟨[], rfl⟩, hle, rfl⟩
  ·
   refine QB rfl (Bool.eq_false_iff.2 c7) <| QA <| Xk <| QD rfl <| w_d rfl (Xt (c := w64 (t8 + 1)) rfl rfl rfl) <| wM (.int .i64 (w64 (t8 + 1))) rfl rfl <| Qa <| Xy <| w_sl 0 (v_s) rfl <| w_sl 1 (.func (.func 117) #[] #[]) rfl <| w_sl 4 (.int .i64 t4) rfl <| w_sl 7 (.int .i64 t7) rfl ?_
   refine w_sl 8 (.int .i64 (w64 (t8 + 1))) rfl <| hh.l0 hle he h_s
 ·
  refine QB rfl (df c1) <| X1 rfl <| wR rfl <| wA (.int .i64 (-1)) rfl rfl <| Qa ?_
  obtain rfl := sj he
  refine Qi fn_141 rs_141 (.tmp (v := .int .i64 (-1)) rfl .nil) <| ⟨⟨[], rfl⟩, hle, rfl⟩
theorem Qd.ok : ∀ k, Qd.OK (Qd.hs k)
 | 0 => ⟨(by intros; exact nomatch (show none = some _ from by assumption))⟩
 | k + 1 => ⟨Qd.b0_ok (k := k) (Qd.ok k)⟩
theorem Qd.calls (k : Nat) {H : Hp} {L : Items} {s : List Int} {v0_s : Value} {r : Int} (he : Qd.f k s = some r) (h0_s : Src kU32 H L v0_s s) : Ct Tryz.prog 141 ⟨[v0_s, .func (.func 117) #[] #[]]⟩ H L (fun v H' L' => L = L' ∧ H = H' ∧ v = .int .i64 r) := by
 refine X6 (O := Qd.out r) (fun _ _ h => h) ?_
 have hle : H.le H := .refl _
 have hh := Qd.ok k
 unfold Qd.f at he
 refine QP (args := [_, _]) fn_141 rfl nt_141 rfl <| wR rfl <| wA (.int .i64 0) rfl rfl <| wE <| wR rfl <| wM v0_s rfl rfl <| w_d rfl (Xq Tryz.underlying22 rfl h0_s) <| wM (.int .i64 0) rfl rfl <| Qa ?_
 refine QU <| X3 <| w_sl 0 (v0_s) rfl <| w_sl 1 (.func (.func 117) #[] #[]) rfl <| w_sl 4 (.int .i64 0) rfl <| w_sl 7 (.int .i64 (s.length : Int)) rfl <| w_sl 8 (.int .i64 0) rfl <| hh.l0 hle he h0_s
noncomputable def Q3.C : Code := (Tryz.f116.body).getD .skip
def Q3.out (r : Bool) (H : Hp) (v : Value) : Prop := v = .bool r
noncomputable def Q3.f (k : Nat) (s : List Int) : Option Bool := (Qd.f k s).bind fun y1 => some (decide (0 ≤ y1))
theorem Q3.mono : ∀ k y0, LeO (Q3.f k y0) (Q3.f (k + 1) y0) := fun k _ => by unfold Q3.f; exact (LeO.bind (Qd.mono k _) fun _ => LeO.refl _)
theorem Q3.calls (k : Nat) {H : Hp} {L : Items} {s : List Int} {v0_s : Value} {r : Bool} (he : Q3.f k s = some r) (h0_s : Src kU32 H L v0_s s) : Ct Tryz.prog 116 ⟨[v0_s, .func (.func 117) #[] #[]]⟩ H L (fun v H' L' => L = L' ∧ H = H' ∧ v = .bool r) := by
 refine X6 (O := Q3.out r) (fun _ _ h => h) ?_
 have hle : H.le H := .refl _
 unfold Q3.f at he
 refine QP (args := [_, _]) fn_116 rfl nt_116 rfl <| wR rfl <| wA (.bool false) rfl rfl <| wQ rfl <| wM v0_s rfl rfl <| wM (.func (.func 117) #[] #[]) rfl rfl <| bK he fun y1 hy2 he => w_d rfl (Xs (Qm co141 (vs := [v0_s, .func (.func 117) #[] #[]]) rfl (Qd.calls k hy2 h0_s))) <| w_d rfl (ZB rfl rfl) ?_
 refine wA (.bool (decide (0 ≤ y1))) rfl rfl <| Qa ?_
 obtain rfl := sj he
 refine Qi fn_116 rs_116 (.tmp (v := .bool (decide (0 ≤ y1))) rfl .nil) <| ⟨⟨[], rfl⟩, hle, rfl⟩
noncomputable def Yl.C : Code := (Tryz.f120.body).getD .skip
def Yl.out (r : Qq × (Option Int)) (H : Hp) (v : Value) : Prop := ∃ v0, v = .tuple ⟨[(Qc r.1 v0), errV 104 r.2]⟩ ∧ Ro kU32 H v0 r.1.f_w
theorem Yl.out_mono (r : Qq × (Option Int)) {H H' : Hp} {v : Value} (hle : H.le H') (h : Yl.out r H v) : Yl.out r H' v := by
 obtain ⟨v0, rfl, h0⟩ := h; exact ⟨v0, rfl, h0.mono hle⟩
noncomputable def Yl.f (k : Nat) (a b : Qq) : Option (Qq × (Option Int)) := (Xr.f k b).bind fun y4 => (Xc.f k a y4).bind fun y10 => some (y10.1, y10.2)
theorem Yl.mono : ∀ k y0 y1, LeO (Yl.f k y0 y1) (Yl.f (k + 1) y0 y1) := fun k _ _ => by unfold Yl.f; exact (LeO.bind (Xr.mono k _) fun _ => LeO.bind (Xc.mono k _ _) fun _ => LeO.refl _)
theorem Yl.calls (k : Nat) {H : Hp} {L : Items} {a b : Qq} {v0_a v1_b : Value} {r : Qq × (Option Int)} (he : Yl.f k a b = some r) (h0_a : Ro kU32 H v0_a a.f_w) (h1_b : Ro kU32 H v1_b b.f_w) : Ct Tryz.prog 120 ⟨[(Qc a v0_a), (Qc b v1_b)]⟩ H L (cR H L (Yl.out r)) := by
 refine XR (O := Yl.out r) ?_
 have hle : H.le H := .refl _
 unfold Yl.f at he
 refine QP (args := [_, _]) fn_120 rfl nt_120 rfl <| wR rfl <| wB (Qc a v0_a) rfl rfl rfl <| fun b1 => wB (Qc b v1_b) rfl rfl rfl <| fun b2 => wN zr24 rfl rfl fun b3 => wA (errV 104 none) rfl rfl <| wE <| bK he fun y4 hy5 he => bK he fun y10 hy11 he => XJ (p := 6) (tl := [6, 7]) [[], [], [(1, some 7)], [(0, some 6), (2, some 8)], [(3, some 9)], [(3, some 9)]] [some 6, some 7, some 8, some 9, some 10, some 11] (fctF (.is (Qc a v0_a) :: .is (Qc b v1_b) :: .of (Xr.out y4) (Xr.out_mono _) :: .of (Xc.out y10) (Xc.out_mono _) :: .of (fun H v => ∃ v16, v = (Qc y10.1 v16) ∧ Ro kU32 H v16 y10.1.f_w) (by rintro _ _ _ hle ⟨v16, rfl, h17⟩; exact ⟨v16, rfl, h17.mono hle⟩) :: .is (errV 104 y10.2) :: [])) (fun m_ => bx b3 [.bool false, .slice none 0 0] 24 :: bx b2 (QK b v1_b) 24 :: bx b1 (QK a v0_a) 24 :: L) (fun _ => none) mixed (by kernel_rfl) (by kernel_rfl) rfl (Xv (by kernel_rfl)) ⟨(fun H' m_ hH hm_ hu_ => dn <| s_d (m_ 0) rfl (QS (v := (Qc a v0_a)) ty24 rfl .h2 rfl rfl rfl rfl) (by exact rfl) rfl), (fun H' m_ hH hm_ hu_ => dn <| s_d (m_ 1) rfl (QS (v := (Qc b v1_b)) ty24 rfl .h1 rfl rfl rfl rfl) (by exact rfl) rfl), (by rintro H' m_ hH hm_ hu_ _ rfl; exact dn <| s_k (m_ 2) rfl (Qm co121 (vs := [(Qc b v1_b)]) rfl (Xr.calls k (a := b) hy5 (h1_b.mono hH))) rfl (by rintro v_ H_ _ ⟨rfl, e_, h_⟩; exact ⟨rfl, e_, h_⟩)), (by rintro H' m_ hH hm_ hu_ _ rfl _ ⟨v8, rfl, h9⟩; exact dn <| s_k (m_ 3) rfl (Qm co127 (vs := [(Qc a v0_a), (Qc y4 v8)]) rfl (Xc.calls k (a := a) (b := y4) hy11 (h0_a.mono hH) h9)) rfl (by rintro v_ H_ _ ⟨rfl, e_, h_⟩; exact ⟨rfl, e_, h_⟩)), (by rintro H' m_ hH hm_ hu_ _ ⟨v14, rfl, h15⟩; exact dn <| s_d (m_ 4) rfl (QO rfl rfl) (by exact ⟨v14, rfl, h15⟩) rfl), (by rintro H' m_ hH hm_ hu_ _ ⟨v14, rfl, h15⟩; exact dn <| s_d (m_ 5) rfl (QO rfl rfl) (by exact rfl) rfl), trivial⟩ ?_
 intro H18 e19
 rintro _ _ rfl _ _ rfl _ _ ⟨v8, rfl, h9⟩ _ _ ⟨v14, rfl, h15⟩ _ _ ⟨v16, rfl, h17⟩ _ _ rfl
 refine wS (Qc y10.1 v16) sz24 rfl rfl rfl rfl rfl (XC h17) .here u2 <| wA (errV 104 y10.2) rfl rfl <| Qa ?_
 obtain rfl := sj he
 refine Qi fn_120 rs_120 (.box (v := (Qc y10.1 v16)) rfl ty24 rfl rfl .here rfl (.tmp (v := errV 104 y10.2) rfl .nil)) <| ⟨⟨[_, _, _], rfl⟩, hle.trans e19, ⟨v16, rfl, h17⟩⟩
noncomputable def Xn.C : Code := (Tryz.f72.body).getD .skip
def Xn.out (r : Qq × (Option Int)) (H : Hp) (v : Value) : Prop := ∃ v0, v = .tuple ⟨[(Qc r.1 v0), errV 104 r.2]⟩ ∧ Ro kU32 H v0 r.1.f_w
abbrev Xn.R (H0 : Hp) (L : Items) (r : Qq × (Option Int)) := fR H0 L (Xn.out r)
noncomputable def Xn.j1 (k : Nat) (a_0 : Bool) (a_1 : List Int) (lost : Bool) (rest : List Int) : Option (Qq × (Option Int)) := (Q7.f k rest).bind fun y68 => (XF.f k a_0 y68).bind fun y74 => if ((y74.2.isSome || (!a_0)) || (!lost)) = true then (some (y74.1, y74.2)) else ((XH.f k 1).bind fun y97 => (Yl.f k y74.1 y97).bind fun y103 => some (y103.1, y103.2))
noncomputable def Xn.f (k : Nat) (a : Qq) (n : Int) : Option (Qq × (Option Int)) := if ((decide (n < (-4096))) || (decide (4096 < n))) = true then (some (⟨false, []⟩, some 1)) else (if 0 ≤ n then (if 0 ≤ w64 (Int.tdiv n 32) ∧ w64 (Int.tdiv n 32) ≤ 70368744177664 then ((Xi.f k a.f_w (Int.tmod n 32)).bind fun y11 => if (List.replicate (w64 (Int.tdiv n 32) : Int).toNat (0 : Int)).length + y11.length ≤ 35184372088704 then ((XF.f k a.f_neg ((List.replicate (w64 (Int.tdiv n 32) : Int).toNat (0 : Int)) ++ y11)).bind fun y26 => some (y26.1, y26.2)) else none) else none) else (if (0 : Int) ≤ 0 ∧ (0 : Int) ≤ min (w64 (Int.tdiv (w64 (0 - n)) 32)) (a.f_w.length : Int) ∧ min (w64 (Int.tdiv (w64 (0 - n)) 32)) (a.f_w.length : Int) ≤ (a.f_w.length : Int) then ((Q3.f k (cut a.f_w 0 (min (w64 (Int.tdiv (w64 (0 - n)) 32)) (a.f_w.length : Int)))).bind fun y35 => if (0 : Int) ≤ min (w64 (Int.tdiv (w64 (0 - n)) 32)) (a.f_w.length : Int) ∧ (min (w64 (Int.tdiv (w64 (0 - n)) 32)) (a.f_w.length : Int) : Int) ≤ (a.f_w.length : Int) ∧ (a.f_w.length : Int) ≤ (a.f_w.length : Int) then (if ((decide ((min (w64 (Int.tdiv (w64 (0 - n)) 32)) (a.f_w.length : Int)) < (a.f_w.length : Int))) && (decide ((min (w64 (Int.tdiv (w64 (0 - n)) 32)) (a.f_w.length : Int)) = (w64 (Int.tdiv (w64 (0 - n)) 32))))) = true then (if (!y35) = true → (0 : Int) ≤ 0 ∧ 0 < ((cut a.f_w (min (w64 (Int.tdiv (w64 (0 - n)) 32)) (a.f_w.length : Int)) (a.f_w.length : Int)).length : Int) then (if (!y35) = true → 0 ≤ (Int.tmod (w64 (0 - n)) 32) then ((QI.f k (cut a.f_w (min (w64 (Int.tdiv (w64 (0 - n)) 32)) (a.f_w.length : Int)) (a.f_w.length : Int)) (Int.tmod (w64 (0 - n)) 32)).bind fun y62 => Xn.j1 k a.f_neg a.f_w (y35 || (!decide ((iand .u32 (rd (cut a.f_w (min (w64 (Int.tdiv (w64 (0 - n)) 32)) (a.f_w.length : Int)) (a.f_w.length : Int)) 0) ((((1 * 2 ^ shn .u32 (Int.tmod (w64 (0 - n)) 32)) % 4294967296) - 1) % 4294967296)) = 0))) y62) else none) else none) else (Xn.j1 k a.f_neg a.f_w y35 [])) else none) else none))
theorem Xn.j1_mono {k : Nat} : ∀ y0 y1 y2 y3, LeO (Xn.j1 k y0 y1 y2 y3) (Xn.j1 (k + 1) y0 y1 y2 y3) := fun _ _ _ _ => (LeO.bind (Q7.mono k _) fun _ => LeO.bind (XF.mono k _ _) fun _ => LeO.ite (LeO.refl _) (LeO.bind (XH.mono k _) fun _ => LeO.bind (Yl.mono k _ _) fun _ => LeO.refl _))
theorem Xn.mono : ∀ k y0 y1, LeO (Xn.f k y0 y1) (Xn.f (k + 1) y0 y1) := fun k _ _ => by unfold Xn.f; exact (LeO.ite (LeO.refl _) (LeO.ite (LeO.ite (LeO.bind (Xi.mono k _ _) fun _ => LeO.ite (LeO.bind (XF.mono k _ _) fun _ => LeO.refl _) (LeO.refl _)) (LeO.refl _)) (LeO.ite (LeO.bind (Q3.mono k _) fun _ => LeO.ite (LeO.ite (LeO.ite (LeO.ite (LeO.bind (QI.mono k _ _) fun _ => Xn.j1_mono (k := k)  _ _ _ _) (LeO.refl _)) (LeO.refl _)) (Xn.j1_mono (k := k)  _ _ _ _)) (LeO.refl _)) (LeO.refl _))))
noncomputable def Xn.Kj1 : List Item := .code (seqR (seqR (seqR (seqR (seqR (seqR (seqR Xn.C))))))) :: []
theorem Xn.j1_ok {k : Nat} {H0 H : Hp} {L : Items} {r : Qq × (Option Int)} {jk_ : Nat → Value} {a_0 : Bool} {a_1 : List Int} {lost : Bool} {rest : List Int} {v_a_1 v_rest : Value} {b_a b_t4 : Nat} (hle : H0.le H) (he : Xn.j1 k a_0 a_1 lost rest = some r) (h_a_1 : Ro kU32 H v_a_1 a_1) (h_rest : Ro kU32 H v_rest rest) : Wp Tryz.prog 72 109 Xn.Kj1 (upd (upd (upd (upd (upd jk_ 2 (pt b_a)) 4 (pt b_t4)) 5 (errV 104 none)) 8 (.bool lost)) 9 (v_rest)) H (bx b_t4 [.bool false, .slice none 0 0] 24 :: bx b_a [.bool a_0, v_a_1] 24 :: L) (Xn.R H0 L r) := by
 unfold Xn.j1 at he
 unfold Xn.Kj1
 refine QV <| bK he fun y68 hy69 he => bK he fun y74 hy75 he => ?_
 refine YM (?_)
 refine XJ (p := 10) (tl := [10]) [[], [(0, some 84)], [], [(2, some 86)], [(1, some 85), (3, some 87)], [(4, some 88)], [(5, some 83)], [(5, some 83)], [], [(6, some 89), (8, some 10)]] [some 84, some 85, some 86, some 87, some 88, some 83, some 89, some 90, some 10, none] (fctF (.is (pt b_a) :: .is (.bool a_0) :: .is (v_rest) :: .ro kU32 (y68) :: .of (XF.out y74) (XF.out_mono _) :: .of (fun H v => ∃ v80, v = .tuple ⟨[(Qc y74.1 v80), errV 104 y74.2]⟩ ∧ Ro kU32 H v80 y74.1.f_w) (by rintro _ _ _ hle ⟨v80, rfl, h81⟩; exact ⟨v80, rfl, h81.mono hle⟩) :: .of (fun H v => ∃ v82, v = (Qc y74.1 v82) ∧ Ro kU32 H v82 y74.1.f_w) (by rintro _ _ _ hle ⟨v82, rfl, h83⟩; exact ⟨v82, rfl, h83.mono hle⟩) :: .is (errV 104 y74.2) :: .box 24 [.bool false, .slice none 0 0] :: .st 8 (fun H bq_ itq_ => ∃ v85, itq_ = bx bq_ (QK y74.1 v85) 24 ∧ Ro kU32 H v85 y74.1.f_w) (by rintro _ _ _ _ hle ⟨v85, rfl, h86⟩; exact ⟨v85, rfl, h86.mono hle⟩) :: [])) (fun m_ => pk (m_ 9) (m_ 8) :: bx b_t4 [.bool false, .slice none 0 0] 24 :: bx b_a [.bool a_0, v_a_1] 24 :: L) (fun _ => none) mixed (by kernel_rfl) (by kernel_rfl) rfl (Xv (by kernel_rfl)) ⟨(fun H' m_ hH hm_ hu_ => dn <| s_d (m_ 0) rfl (Xe (o' := 0) Tryz.underlying24 rfl sz4 rfl rfl rfl) (by exact rfl) rfl), (by rintro H' m_ hH hm_ hu_ _ rfl; exact dn <| s_d (m_ 1) rfl (QS (v := .bool a_0) ty4 rfl .h2 rfl rfl rfl rfl) (by exact rfl) rfl), (fun H' m_ hH hm_ hu_ => dn <| s_d (m_ 2) rfl (QF (v := v_rest) rfl) (by exact rfl) rfl), (by rintro H' m_ hH hm_ hu_ _ rfl; exact dn <| s_k (m_ 3) rfl (Qm co119 (vs := [v_rest]) rfl (Q7.callsR k hy69 (h_rest.mono hH))) rfl (by rintro v_ H_ _ ⟨rfl, e_, h_⟩; exact ⟨rfl, e_, h_⟩)), (by rintro H' m_ hH hm_ hu_ _ rfl v72 (h73 : Ro kU32 H' v72 y68); exact dn <| s_k (m_ 4) rfl (Qm co115 (vs := [.bool a_0, v72]) rfl (XF.calls k hy75 h73)) rfl (by rintro v_ H_ _ ⟨rfl, e_, h_⟩; exact ⟨rfl, e_, h_⟩)), (by rintro H' m_ hH hm_ hu_ _ ⟨v78, rfl, h79⟩; exact dn <| s_d (m_ 5) rfl (QF (v := .tuple ⟨[(Qc y74.1 v78), errV 104 y74.2]⟩) rfl) (by exact ⟨v78, rfl, h79⟩) rfl), (by rintro H' m_ hH hm_ hu_ _ ⟨v80, rfl, h81⟩; exact dn <| s_d (m_ 6) rfl (QO rfl rfl) (by exact ⟨v80, rfl, h81⟩) rfl), (by rintro H' m_ hH hm_ hu_ _ ⟨v80, rfl, h81⟩; exact dn <| s_d (m_ 7) rfl (QO rfl rfl) (by exact rfl) rfl), (fun H' m_ hH hm_ hu_ => dn <| ZS hm_ rfl rfl (Y5 zr24 rfl) rfl (fun _ => (Jc (hu_ 9 (by kernel_rfl)))) (by exact fun b_ => ⟨b_, rfl, rfl⟩)), (by rintro H' m_ hH hm_ hu_ _ ⟨v82, rfl, h83⟩ _ ⟨b84, rfl, hb84_⟩; exact dn <| ZE (Λ' := fun z_ => z_ :: bx b_t4 [.bool false, .slice none 0 0] 24 :: bx b_a [.bool a_0, v_a_1] 24 :: L) (bx b84 (QK y74.1 v82) 24) hm_ rfl hb84_ rfl (YE (v := (Qc y74.1 v82)) sz24 rfl rfl rfl rfl (oc rfl (oc (h83.one) oz)) .here u2) rfl rfl (by exact ⟨rfl, v82, congrArg (fun b_ => (some (b_, Obj.cells ⟨(QK y74.1 v82)⟩ 24 (0, 0)) : Item')) (Jf hb84_).symm, h83⟩)), trivial⟩ ?_
 intro H89 e90
 rintro _ _ rfl _ _ rfl _ _ rfl v72 _ (h73 : Ro kU32 H89 v72 y68) _ _ ⟨v78, rfl, h79⟩ _ _ ⟨v80, rfl, h81⟩ _ _ ⟨v82, rfl, h83⟩ _ _ rfl _ _ ⟨b84, rfl, rfl⟩ _ i87 ⟨rfl, v85, h88, h86⟩
 replace h88 : i87 = bx b84 (QK y74.1 v85) 24 := h88
 subst h88
 refine w_it (L' := bx b84 (QK y74.1 v85) 24 :: bx b_t4 [.bool false, .slice none 0 0] 24 :: bx b_a [.bool a_0, v_a_1] 24 :: L) rfl <| wA (errV 104 y74.2) rfl rfl <| wE <| wR rfl <| wM (errV 104 y74.2) rfl rfl <| w_d rfl (Ya (e := y74.2) Tryz.underlying30 rfl) <| wM (.bool y74.2.isSome) rfl rfl <| w_g (g := !y74.2.isSome) rfl rfl rfl wn_f (fun g91 => Xe (o' := 0) Tryz.underlying24 rfl sz4 rfl rfl rfl) <| w_g (g := !y74.2.isSome) rfl rfl rfl wn_f (fun g92 => QS (v := .bool a_0) ty4 (cvt g92) .h2 rfl rfl rfl rfl) <| w_g (g := !y74.2.isSome) rfl rfl rfl wn_f (fun g93 => Zz (b := a_0) (cvt g93)) ?_
 refine w_d rfl (d_or' (b := y74.2.isSome) (p := (!a_0)) rfl rfl rfl) <| wM (.bool (y74.2.isSome || (!a_0))) rfl rfl <| w_g (g := !(y74.2.isSome || (!a_0))) rfl rfl rfl wn_f (fun g94 => QF (v := .bool lost) rfl) <| w_g (g := !(y74.2.isSome || (!a_0))) rfl rfl rfl wn_f (fun g95 => Zz (b := lost) (cvt g95)) <| w_d rfl (d_or' (b := (y74.2.isSome || (!a_0))) (p := (!lost)) rfl rfl rfl) <| Qa ?_
 rcases its he with ⟨c96, he⟩ | ⟨c96, he⟩
 ·
  refine Qy rfl c96 <| wR rfl <| wL (Qc y74.1 v85) ty24 rfl rfl .here rfl rfl <| wM (errV 104 y74.2) rfl rfl <| wS (Qc y74.1 v85) sz24 rfl rfl rfl rfl rfl (XC h86) .h1 u2 <| wA (errV 104 y74.2) rfl rfl <| Qa ?_
  obtain rfl := sj he
  refine Qi fn_72 rs_72 (.box (v := (Qc y74.1 v85)) rfl ty24 rfl rfl .h1 rfl (.tmp (v := errV 104 y74.2) rfl .nil)) <| ⟨⟨[_, _, _], rfl⟩, hle.trans e90, ⟨v85, rfl, h86⟩⟩
 ·
  refine QB rfl (Bool.eq_false_iff.2 c96) <| QA <| QV <| bK he fun y97 hy98 he => bK he fun y103 hy104 he => XJ (p := 5) (tl := [5, 6]) [[], [], [(0, some 104), (1, some 105)], [(2, some 106)], [(2, some 106)]] [some 104, some 105, some 106, some 107, some 108] (fctF (.is (Qc y74.1 v85) :: .of (XH.out y97) (XH.out_mono _) :: .of (Yl.out y103) (Yl.out_mono _) :: .of (fun H v => ∃ v109, v = (Qc y103.1 v109) ∧ Ro kU32 H v109 y103.1.f_w) (by rintro _ _ _ hle ⟨v109, rfl, h110⟩; exact ⟨v109, rfl, h110.mono hle⟩) :: .is (errV 104 y103.2) :: [])) (fun m_ => bx b84 (QK y74.1 v85) 24 :: bx b_t4 [.bool false, .slice none 0 0] 24 :: bx b_a [.bool a_0, v_a_1] 24 :: L) (fun _ => none) mixed (by kernel_rfl) (by kernel_rfl) rfl (Xv (by kernel_rfl)) ⟨(fun H' m_ hH hm_ hu_ => dn <| s_d (m_ 0) rfl (QS (v := (Qc y74.1 v85)) ty24 rfl .here rfl rfl rfl rfl) (by exact rfl) rfl), (fun H' m_ hH hm_ hu_ => dn <| s_k (m_ 1) rfl (Qm co71 (vs := [.int .i64 1]) rfl (XH.calls k hy98)) rfl (by rintro v_ H_ _ ⟨rfl, e_, h_⟩; exact ⟨rfl, e_, h_⟩)), (by rintro H' m_ hH hm_ hu_ _ rfl _ ⟨v101, rfl, h102⟩; exact dn <| s_k (m_ 2) rfl (Qm co120 (vs := [(Qc y74.1 v85), (Qc y97 v101)]) rfl (Yl.calls k (a := y74.1) (b := y97) hy104 (h86.mono hH) h102)) rfl (by rintro v_ H_ _ ⟨rfl, e_, h_⟩; exact ⟨rfl, e_, h_⟩)), (by rintro H' m_ hH hm_ hu_ _ ⟨v107, rfl, h108⟩; exact dn <| s_d (m_ 3) rfl (QO rfl rfl) (by exact ⟨v107, rfl, h108⟩) rfl), (by rintro H' m_ hH hm_ hu_ _ ⟨v107, rfl, h108⟩; exact dn <| s_d (m_ 4) rfl (QO rfl rfl) (by exact rfl) rfl), trivial⟩ ?_
  intro H111 e112
  rintro _ _ rfl _ _ ⟨v101, rfl, h102⟩ _ _ ⟨v107, rfl, h108⟩ _ _ ⟨v109, rfl, h110⟩ _ _ rfl
  refine wS (Qc y103.1 v109) sz24 rfl rfl rfl rfl rfl (XC h110) .h1 u2 <| wA (errV 104 y103.2) rfl rfl <| Qa ?_
  obtain rfl := sj he
  refine Qi fn_72 rs_72 (.box (v := (Qc y103.1 v109)) rfl ty24 rfl rfl .h1 rfl (.tmp (v := errV 104 y103.2) rfl .nil)) <| ⟨⟨[_, _, _], rfl⟩, hle.trans (e90.trans e112), ⟨v109, rfl, h110⟩⟩
theorem Xn.calls (k : Nat) {H : Hp} {L : Items} {a : Qq} {n : Int} {v0_a : Value} {r : Qq × (Option Int)} (he : Xn.f k a n = some r) (h0_a : Ro kU32 H v0_a a.f_w) : Ct Tryz.prog 72 ⟨[(Qc a v0_a), .int .i64 n]⟩ H L (cR H L (Xn.out r)) := by
 refine XR (O := Xn.out r) ?_
 have hle : H.le H := .refl _
 unfold Xn.f at he
 refine QP (args := [_, _]) fn_72 rfl nt_72 rfl <| wR rfl <| wB (Qc a v0_a) rfl rfl rfl <| fun b1 => wN zr24 rfl rfl fun b2 => wA (errV 104 none) rfl rfl <| wE <| wR rfl <| wM (.int .i64 n) rfl rfl <| w_d rfl (XG rfl rfl) ?_
 refine wM (.bool (decide (n < (-4096)))) rfl rfl <| w_g (g := !(decide (n < (-4096)))) rfl rfl rfl wn_f (fun g3 => QF (v := .int .i64 n) rfl) <| w_g (g := !(decide (n < (-4096)))) rfl rfl rfl wn_f (fun g4 => YR (cvt g4) rfl) <| w_d rfl (d_or' (b := (decide (n < (-4096)))) (p := (decide (4096 < n))) rfl rfl rfl) <| Qa ?_
 rcases its he with ⟨c5, he⟩ | ⟨c5, he⟩
 ·
  refine Qy rfl c5 <| wR rfl <| w_d rfl (XD (cs' := [.bool false, .slice none 0 0]) Tryz.underlying24 zr24 rfl (by kernel_rfl) (parts := []) rfl .nil) <| w_d rfl (YU (v := .int .i64 1) Tryz.underlying104 rfl rfl) <| wS (.agg ⟨[.bool false, .slice none 0 0]⟩) sz24 rfl rfl rfl rfl rfl (oc rfl (oc rfl oz)) .here u2 <| wA (errV 104 (some 1)) rfl rfl <| Qa ?_
  obtain rfl := sj he
  refine Qi fn_72 rs_72 (.box (v := .agg ⟨[.bool false, .slice none 0 0]⟩) rfl ty24 rfl rfl .here rfl (.tmp (v := errV 104 (some 1)) rfl .nil)) <| ⟨⟨[_, _], rfl⟩, hle, ⟨.slice none 0 0, rfl, (Q9 _ _)⟩⟩
 ·
  refine QB rfl (Bool.eq_false_iff.2 c5) <| QA <| QV <| wR rfl <| wM (.int .i64 n) rfl rfl <| w_d rfl (ZB rfl rfl) <| Qa ?_
  rcases its he with ⟨c6, he⟩ | ⟨c6, he⟩
  ·
   refine Qy rfl (dt c6) <| QV <| rK he fun c7 he => bK he fun y11 hy12 he => ?_
   refine YM (?_)
   refine XJ (p := 8) (tl := [8, 9]) [[], [(0, some 22)], [(1, some 23)], [], [(3, some 25)], [], [(5, some 27)], [(4, some 26), (6, some 28)]] [some 22, some 23, some 24, some 25, some 26, some 27, some 28, some 29] (fctF (.is (.int .i64 n) :: .is (.int .i64 (w64 (Int.tdiv n 32))) :: .sl kU32 167 (List.replicate (w64 (Int.tdiv n 32) : Int).toNat (0 : Int)) :: .is (po b1 1) :: .is (v0_a) :: .is (.int .i64 n) :: .is (.int .i64 (Int.tmod n 32)) :: .ro kU32 (y11) :: [])) (fun m_ => m_ 2 :: bx b2 [.bool false, .slice none 0 0] 24 :: bx b1 (QK a v0_a) 24 :: L) (fun _ => none) mixed (by kernel_rfl) (by kernel_rfl) rfl (Xv (by kernel_rfl)) ⟨(fun H' m_ hH hm_ hu_ => dn <| s_d (m_ 0) rfl (QF (v := .int .i64 n) rfl) (by exact rfl) rfl), (by rintro H' m_ hH hm_ hu_ _ rfl; exact dn <| s_d (m_ 1) rfl (Ju (c := w64 (Int.tdiv n 32)) rfl rfl (by decide) rfl) (by exact rfl) rfl), (by rintro H' m_ hH hm_ hu_ _ rfl; exact dn <| s_sl hm_ rfl rfl (o_make' (kd := kU32) (z0 := 0) Tryz.underlying22 ti167 (zp167 _) rfl rfl (by omega) (by omega) (by omega)) rfl (fun _ => .here) (by exact fun _ _ h_ => h_)), (fun H' m_ hH hm_ hu_ => dn <| s_d (m_ 3) rfl (Xe (o' := 1) Tryz.underlying24 rfl sz22 rfl rfl rfl) (by exact rfl) rfl), (by rintro H' m_ hH hm_ hu_ _ rfl; exact dn <| s_d (m_ 4) rfl (QS (v := v0_a) ty22 rfl .h2 rfl rfl rfl rfl) (by exact rfl) rfl), (fun H' m_ hH hm_ hu_ => dn <| s_d (m_ 5) rfl (QF (v := .int .i64 n) rfl) (by exact rfl) rfl), (by rintro H' m_ hH hm_ hu_ _ rfl; exact dn <| s_d (m_ 6) rfl (Jk rfl rfl (by decide)) (by exact rfl) rfl), (by rintro H' m_ hH hm_ hu_ _ rfl _ rfl; exact dn <| s_k (m_ 7) rfl (Qm co114 (vs := [v0_a, .int .i64 (Int.tmod n 32)]) rfl (Xi.callsR k hy12 ((h0_a.mono hH).src))) rfl (by rintro v_ H_ _ ⟨rfl, e_, h_⟩; exact ⟨rfl, e_, h_⟩)), trivial⟩ ?_
   intro H17 e18
   rintro _ _ rfl _ _ rfl v8 i9 (h10 : Sl kU32 H17 167 i9 v8 (List.replicate (w64 (Int.tdiv n 32) : Int).toNat (0 : Int))) _ _ rfl _ _ rfl _ _ rfl _ _ rfl v15 _ (h16 : Ro kU32 H17 v15 y11)
   refine rK he fun c19 he => w_a rfl (o_append' (kd := kU32) (F := fun z_ => z_ :: bx b2 [.bool false, .slice none 0 0] 24 :: bx b1 (QK a v0_a) 24 :: L) Tryz.underlying22 Tryz.underlying22 ti167 rfl (by first | omega | (simp only [List.nil_append, List.length_cons, List.length_nil]; omega)) rfl rfl h10 h16.src (fun _ => .here)) ?_
   rintro v20 _ _ ⟨i21, rfl, rfl, h22⟩
   refine wA v20 rfl rfl <| wQ rfl <| w_d rfl (Xe (o' := 0) Tryz.underlying24 rfl sz4 rfl rfl rfl) <| wL (.bool a.f_neg) ty4 rfl rfl .h2 rfl rfl <| wM v20 rfl rfl <| Yv h22 .here ?_
   intro H23 e24 h25
   refine bK he fun y26 hy27 he => w_a rfl (Qm co115 (vs := (QK a v20)) rfl (XF.calls k hy27 h25)) ?_
   rintro _ H28 _ ⟨rfl, e29, v30, rfl, h31⟩
   refine w_d rfl (QO rfl rfl) <| w_d rfl (QO rfl rfl) <| wS (Qc y26.1 v30) sz24 rfl rfl rfl rfl rfl (XC h31) .h1 u2 <| wA (errV 104 y26.2) rfl rfl <| Qa ?_
   obtain rfl := sj he
   refine Qi fn_72 rs_72 (.box (v := (Qc y26.1 v30)) rfl ty24 rfl rfl .h1 rfl (.tmp (v := errV 104 y26.2) rfl .nil)) <| ⟨⟨[_, _, _], rfl⟩, hle.trans ((e18.trans e24).trans e29), ⟨v30, rfl, h31⟩⟩
  ·
   refine QB rfl (df c6) <| QA <| wR rfl <| wM (.int .i64 n) rfl rfl <| w_d rfl (GI (c := w64 (0 - n)) rfl rfl) <| w_d rfl (Ju (c := w64 (Int.tdiv (w64 (0 - n)) 32)) rfl rfl (by decide) rfl) <| w_d rfl (Xe (o' := 1) Tryz.underlying24 rfl sz22 rfl rfl rfl) <| wL v0_a ty22 rfl rfl .h1 rfl rfl <| w_d rfl (Xq Tryz.underlying22 rfl h0_a.src) <| w_d rfl (QaP rfl rfl) <| wA (.int .i64 (min (w64 (Int.tdiv (w64 (0 - n)) 32)) (a.f_w.length : Int))) rfl rfl ?_
   refine wQ rfl <| w_d rfl (Xe (o' := 1) Tryz.underlying24 rfl sz22 rfl rfl rfl) <| wL v0_a ty22 rfl rfl .h1 rfl rfl <| wM (.int .i64 (min (w64 (Int.tdiv (w64 (0 - n)) 32)) (a.f_w.length : Int))) rfl rfl <| rK he fun c32 he => w_a rfl (Ni (kd := kU32) Tryz.underlying22 sz167 rfl h0_a (.inl ⟨rfl, rfl⟩) (.inr ⟨_, _, rfl, rfl⟩) c32) ?_
   rintro v33 _ _ ⟨h34, rfl, rfl⟩
   refine bK he fun y35 hy36 he => w_d rfl (Xs (Qm co116 (vs := [v33, .func (.func 117) #[] #[]]) rfl (Q3.calls k hy36 h34.src))) <| wA (.bool y35) rfl rfl <| wQ rfl <| w_d rfl (Xe (o' := 1) Tryz.underlying24 rfl sz22 rfl rfl rfl) <| wL v0_a ty22 rfl rfl .h1 rfl rfl <| wM (.int .i64 (min (w64 (Int.tdiv (w64 (0 - n)) 32)) (a.f_w.length : Int))) rfl rfl <| rK he fun c39 he => w_a rfl (Ni (kd := kU32) Tryz.underlying22 sz167 rfl h0_a (.inr ⟨_, _, rfl, rfl⟩) (.inl ⟨rfl, rfl⟩) c39) ?_
   rintro v40 _ _ ⟨h41, rfl, rfl⟩
   refine wA v40 rfl rfl <| wE <| wR rfl <| wM (.int .i64 (min (w64 (Int.tdiv (w64 (0 - n)) 32)) (a.f_w.length : Int))) rfl rfl <| w_d rfl (Xe (o' := 1) Tryz.underlying24 rfl sz22 rfl rfl rfl) <| wL v0_a ty22 rfl rfl .h1 rfl rfl <| w_d rfl (Xq Tryz.underlying22 rfl h0_a.src) <| w_d rfl (XG rfl rfl) <| wM (.bool (decide ((min (w64 (Int.tdiv (w64 (0 - n)) 32)) (a.f_w.length : Int)) < (a.f_w.length : Int)))) rfl rfl <| w_g (g := decide ((min (w64 (Int.tdiv (w64 (0 - n)) 32)) (a.f_w.length : Int)) < (a.f_w.length : Int))) rfl rfl rfl wn_t (fun g42 => QF (v := .int .i64 (min (w64 (Int.tdiv (w64 (0 - n)) 32)) (a.f_w.length : Int))) rfl) ?_
   refine w_g (g := decide ((min (w64 (Int.tdiv (w64 (0 - n)) 32)) (a.f_w.length : Int)) < (a.f_w.length : Int))) rfl rfl rfl wn_t (fun g43 => QF (v := .int .i64 n) rfl) <| w_g (g := decide ((min (w64 (Int.tdiv (w64 (0 - n)) 32)) (a.f_w.length : Int)) < (a.f_w.length : Int))) rfl rfl rfl wn_t (fun g44 => GI (c := w64 (0 - n)) (cvt g44) rfl) <| w_g (g := decide ((min (w64 (Int.tdiv (w64 (0 - n)) 32)) (a.f_w.length : Int)) < (a.f_w.length : Int))) rfl rfl rfl wn_t (fun g45 => Ju (c := w64 (Int.tdiv (w64 (0 - n)) 32)) (cvt g45) rfl (by decide) rfl) <| w_g (g := decide ((min (w64 (Int.tdiv (w64 (0 - n)) 32)) (a.f_w.length : Int)) < (a.f_w.length : Int))) rfl rfl rfl wn_t (fun g46 => Y1 (cvt g46) (cvt g46)) <| w_d rfl (d_and' (b := (decide ((min (w64 (Int.tdiv (w64 (0 - n)) 32)) (a.f_w.length : Int)) < (a.f_w.length : Int)))) (p := (decide ((min (w64 (Int.tdiv (w64 (0 - n)) 32)) (a.f_w.length : Int)) = (w64 (Int.tdiv (w64 (0 - n)) 32))))) rfl rfl rfl) <| Qa ?_
   rcases its he with ⟨c47, he⟩ | ⟨c47, he⟩
   ·
    refine Qy rfl c47 <| QV <| rK he fun c50 he => rK he fun c56 he => XJ (p := 10) (tl := [10, 11, 12, 13]) [[], [(0, some 65)], [(1, some 66)], [(1, some 66), (2, some 67)], [(1, some 66), (3, some 68)], [(1, some 66)], [(1, some 66), (5, some 70)], [(1, some 66), (6, some 71)], [(1, some 66), (7, some 72)], [(1, some 66), (8, some 73)]] [some 65, some 66, some 67, some 68, some 69, some 70, some 71, some 72, some 73, some 74] (fctF (.is (.bool y35) :: .is (.bool y35) :: .is (cond (!y35) v40 undef) :: .is (cond (!y35) (.pointer (some (pel v40 0 1))) undef) :: .is (cond (!y35) (.int .u32 (rd (cut a.f_w (min (w64 (Int.tdiv (w64 (0 - n)) 32)) (a.f_w.length : Int)) (a.f_w.length : Int)) 0)) undef) :: .is (cond (!y35) (.int .i64 n) undef) :: .is (cond (!y35) (.int .i64 (w64 (0 - n))) undef) :: .is (cond (!y35) (.int .i64 (Int.tmod (w64 (0 - n)) 32)) undef) :: .is (cond (!y35) (.int .u32 ((1 * 2 ^ shn .u32 (Int.tmod (w64 (0 - n)) 32)) % 4294967296)) undef) :: .is (cond (!y35) (.int .u32 ((((1 * 2 ^ shn .u32 (Int.tmod (w64 (0 - n)) 32)) % 4294967296) - 1) % 4294967296)) undef) :: [])) (fun m_ => bx b2 [.bool false, .slice none 0 0] 24 :: bx b1 (QK a v0_a) 24 :: L) (fun _ => none) mixed (by kernel_rfl) (by kernel_rfl) rfl (Xv (by kernel_rfl)) ⟨(fun H' m_ hH hm_ hu_ => dn <| s_d (m_ 0) rfl (QF (v := .bool y35) rfl) (by exact rfl) rfl), (by rintro H' m_ hH hm_ hu_ _ rfl; exact dn <| s_d (m_ 1) rfl (QF (v := .bool y35) rfl) (by exact rfl) rfl), (by rintro H' m_ hH hm_ hu_ _ rfl; exact dn <| s_g (g := !y35) (m_ 2) rfl rfl rfl wn_f (fun g48 => QF (v := v40) rfl) rfl (by exact fun g_ => cvt g_) (by exact fun g_ => cnt g_)), (by rintro H' m_ hH hm_ hu_ _ rfl _ rfl; exact dn <| s_g (g := !y35) (m_ 3) rfl rfl rfl wn_f (fun g49 => XM (sz := 1) Tryz.underlying22 sz167 (cvt g49) (h41.mono hH).src rfl (c50 g49)) rfl (by exact fun g_ => cvt g_) (by exact fun g_ => cnt g_)), (by rintro H' m_ hH hm_ hu_ _ rfl _ rfl; exact dn <| s_g (g := !y35) (m_ 4) rfl rfl rfl wn_f (fun g51 => XL ty167 (cvt g51) (h41.mono hH).src (c50 g51)) rfl (by exact fun g_ => cvt g_) (by exact fun g_ => cnt g_)), (by rintro H' m_ hH hm_ hu_ _ rfl; exact dn <| s_g (g := !y35) (m_ 5) rfl rfl rfl wn_f (fun g52 => QF (v := .int .i64 n) rfl) rfl (by exact fun g_ => cvt g_) (by exact fun g_ => cnt g_)), (by rintro H' m_ hH hm_ hu_ _ rfl _ rfl; exact dn <| s_g (g := !y35) (m_ 6) rfl rfl rfl wn_f (fun g53 => GI (c := w64 (0 - n)) (cvt g53) rfl) rfl (by exact fun g_ => cvt g_) (by exact fun g_ => cnt g_)), (by rintro H' m_ hH hm_ hu_ _ rfl _ rfl; exact dn <| s_g (g := !y35) (m_ 7) rfl rfl rfl wn_f (fun g54 => Jk (cvt g54) rfl (by decide)) rfl (by exact fun g_ => cvt g_) (by exact fun g_ => cnt g_)), (by rintro H' m_ hH hm_ hu_ _ rfl _ rfl; exact dn <| s_g (g := !y35) (m_ 8) rfl rfl rfl wn_f (fun g55 => Z9 (c := (1 * 2 ^ shn .u32 (Int.tmod (w64 (0 - n)) 32)) % 4294967296) rfl (cvt g55) (c56 g55) rfl) rfl (by exact fun g_ => cvt g_) (by exact fun g_ => cnt g_)), (by rintro H' m_ hH hm_ hu_ _ rfl _ rfl; exact dn <| s_g (g := !y35) (m_ 9) rfl rfl rfl wn_f (fun g57 => Ys (c := (((1 * 2 ^ shn .u32 (Int.tmod (w64 (0 - n)) 32)) % 4294967296) - 1) % 4294967296) (cvt g57) rfl rfl) rfl (by exact fun g_ => cvt g_) (by exact fun g_ => cnt g_)), trivial⟩ ?_
    intro H58 e59
    rintro _ _ rfl _ _ rfl _ _ rfl _ _ rfl _ _ rfl _ _ rfl _ _ rfl _ _ rfl _ _ rfl _ _ rfl
    refine w_g (g := !y35) rfl rfl rfl wn_f (fun g60 => Jp (cvt g60) (cvt g60)) <| w_g (g := !y35) rfl rfl rfl wn_f (fun g61 => Zl (cvt g61) rfl) <| w_d rfl (d_or' (b := y35) (p := (!decide ((iand .u32 (rd (cut a.f_w (min (w64 (Int.tdiv (w64 (0 - n)) 32)) (a.f_w.length : Int)) (a.f_w.length : Int)) 0) ((((1 * 2 ^ shn .u32 (Int.tmod (w64 (0 - n)) 32)) % 4294967296) - 1) % 4294967296)) = 0))) rfl rfl rfl) <| wA (.bool (y35 || (!decide ((iand .u32 (rd (cut a.f_w (min (w64 (Int.tdiv (w64 (0 - n)) 32)) (a.f_w.length : Int)) (a.f_w.length : Int)) 0) ((((1 * 2 ^ shn .u32 (Int.tmod (w64 (0 - n)) 32)) % 4294967296) - 1) % 4294967296)) = 0)))) rfl rfl <| Qa <| QD rfl <| wM v40 rfl rfl <| wM (.int .i64 n) rfl rfl <| w_d rfl (GI (c := w64 (0 - n)) rfl rfl) <| w_d rfl (Jk rfl rfl (by decide)) <| bK he fun y62 hy63 he => w_a rfl (Qm co118 (vs := [v40, .int .i64 (Int.tmod (w64 (0 - n)) 32)]) rfl (QI.calls k hy63 (h41.mono e59))) ?_
    rintro v66 H64 _ ⟨rfl, e65, h67⟩
    refine wA v66 rfl rfl <| Qa <| w_sl 2 (pt b1) rfl <| w_sl 4 (pt b2) rfl <| w_sl 5 (errV 104 none) rfl <| w_sl 8 (.bool (y35 || (!decide ((iand .u32 (rd (cut a.f_w (min (w64 (Int.tdiv (w64 (0 - n)) 32)) (a.f_w.length : Int)) (a.f_w.length : Int)) 0) ((((1 * 2 ^ shn .u32 (Int.tmod (w64 (0 - n)) 32)) % 4294967296) - 1) % 4294967296)) = 0)))) rfl <| w_sl 9 (v66) rfl <| Xn.j1_ok (k := k) (hle.trans (e59.trans e65)) he (h0_a.mono (e59.trans e65)) h67
   ·
    refine QB rfl (Bool.eq_false_iff.2 c47) <| QD rfl <| wA (.slice none 0 0) rfl rfl <| Qa <| w_sl 2 (pt b1) rfl <| w_sl 4 (pt b2) rfl <| w_sl 5 (errV 104 none) rfl <| w_sl 8 (.bool y35) rfl <| w_sl 9 (.slice none 0 0) rfl <| Xn.j1_ok (k := k) hle he h0_a (Q9 _ _)
noncomputable def Ye.C : Code := (Tryz.f18.body).getD .skip
def Ye.out (r : Qe × (Option Int)) (H : Hp) (v : Value) : Prop := ∃ v0 v1, v = .tuple ⟨[(Qb r.1 v0 v1), errV 104 r.2]⟩ ∧ Ro kU32 H v0 r.1.f_n.f_w ∧ Ro kU32 H v1 r.1.f_d.f_w
noncomputable def Ye.f (k : Nat) (n bits : Int) : Option (Qe × (Option Int)) := if ((decide (bits < 0)) || (decide (1024 < bits))) = true then (some (⟨⟨false, []⟩, ⟨false, []⟩⟩, some 1)) else ((XH.f k 1).bind fun y5 => (Xn.f k y5 bits).bind fun y11 => if y11.2.isSome = true then (some (⟨⟨false, []⟩, ⟨false, []⟩⟩, y11.2)) else ((XH.f k n).bind fun y19 => (XA.f k y19 y11.1).bind fun y25 => some (y25.1, y25.2)))
theorem Ye.mono : ∀ k y0 y1, LeO (Ye.f k y0 y1) (Ye.f (k + 1) y0 y1) := fun k _ _ => by unfold Ye.f; exact (LeO.ite (LeO.refl _) (LeO.bind (XH.mono k _) fun _ => LeO.bind (Xn.mono k _ _) fun _ => LeO.ite (LeO.refl _) (LeO.bind (XH.mono k _) fun _ => LeO.bind (XA.mono k _ _) fun _ => LeO.refl _)))
theorem Ye.calls (k : Nat) {H : Hp} {L : Items} {n bits : Int} {r : Qe × (Option Int)} (he : Ye.f k n bits = some r) : Ct Tryz.prog 18 ⟨[.int .i64 n, .int .i64 bits]⟩ H L (cR H L (Ye.out r)) := by
 refine XR (O := Ye.out r) ?_
 have hle : H.le H := .refl _
 unfold Ye.f at he
 refine QP (args := [_, _]) fn_18 rfl nt_18 rfl <| wR rfl <| wN zr26 rfl rfl fun b1 => wA (errV 104 none) rfl rfl <| wE <| wR rfl <| wM (.int .i64 bits) rfl rfl <| w_d rfl (XG rfl rfl) <| wM (.bool (decide (bits < 0))) rfl rfl ?_
 refine w_g (g := !(decide (bits < 0))) rfl rfl rfl wn_f (fun g2 => QF (v := .int .i64 bits) rfl) <| w_g (g := !(decide (bits < 0))) rfl rfl rfl wn_f (fun g3 => YR (cvt g3) rfl) <| w_d rfl (d_or' (b := (decide (bits < 0))) (p := (decide (1024 < bits))) rfl rfl rfl) <| Qa ?_
 rcases its he with ⟨c4, he⟩ | ⟨c4, he⟩
 ·
  refine Qy rfl c4 <| wR rfl <| w_d rfl (XD (cs' := z0c) Tryz.underlying26 zr26 rfl (by kernel_rfl) (parts := []) rfl .nil) <| w_d rfl (YU (v := .int .i64 1) Tryz.underlying104 rfl rfl) <| wS (.agg ⟨z0c⟩) sz26 rfl rfl rfl rfl rfl (oc rfl (oc rfl (oc rfl (oc rfl oz)))) .here u4 <| wA (errV 104 (some 1)) rfl rfl <| Qa ?_
  obtain rfl := sj he
  refine Qi fn_18 rs_18 (.box (v := .agg ⟨z0c⟩) rfl ty26 rfl rfl .here rfl (.tmp (v := errV 104 (some 1)) rfl .nil)) <| ⟨⟨[_], rfl⟩, hle, ⟨.slice none 0 0, .slice none 0 0, rfl, (Q9 _ _), (Q9 _ _)⟩⟩
 ·
  refine QB rfl (Bool.eq_false_iff.2 c4) <| QA <| wR rfl <| bK he fun y5 hy6 he => w_a rfl (Qm co71 (vs := [.int .i64 1]) rfl (XH.calls k hy6)) ?_
  rintro _ H7 _ ⟨rfl, e8, v9, rfl, h10⟩
  refine wM (.int .i64 bits) rfl rfl <| bK he fun y11 hy12 he => w_a rfl (Qm co72 (vs := [(Qc y5 v9), .int .i64 bits]) rfl (Xn.calls k (a := y5) hy12 h10)) ?_
  rintro _ H13 _ ⟨rfl, e14, v15, rfl, h16⟩
  refine wM (.tuple ⟨[(Qc y11.1 v15), errV 104 y11.2]⟩) rfl rfl <| w_d rfl (QO rfl rfl) <| w_d rfl (QO rfl rfl) <| wN zr24 rfl rfl fun b17 => wS (Qc y11.1 v15) sz24 rfl rfl rfl rfl rfl (XC h16) .here u2 <| wA (errV 104 y11.2) rfl rfl <| wE <| wR rfl <| wM (errV 104 y11.2) rfl rfl <| w_d rfl (Ya (e := y11.2) Tryz.underlying30 rfl) ?_
  refine Qa ?_
  rcases its he with ⟨c18, he⟩ | ⟨c18, he⟩
  ·
   refine Qy rfl c18 <| wR rfl <| w_d rfl (XD (cs' := z0c) Tryz.underlying26 zr26 rfl (by kernel_rfl) (parts := []) rfl .nil) <| wM (errV 104 y11.2) rfl rfl <| wS (.agg ⟨z0c⟩) sz26 rfl rfl rfl rfl rfl (oc rfl (oc rfl (oc rfl (oc rfl oz)))) .h1 u4 <| wA (errV 104 y11.2) rfl rfl <| Qa ?_
   obtain rfl := sj he
   refine Qi fn_18 rs_18 (.box (v := .agg ⟨z0c⟩) rfl ty26 rfl rfl .h1 rfl (.tmp (v := errV 104 y11.2) rfl .nil)) <| ⟨⟨[_, _], rfl⟩, hle.trans (e8.trans e14), ⟨.slice none 0 0, .slice none 0 0, rfl, (Q9 _ _), (Q9 _ _)⟩⟩
  ·
   refine QB rfl (Bool.eq_false_iff.2 c18) <| QA <| QV <| bK he fun y19 hy20 he => bK he fun y25 hy26 he => XJ (p := 6) (tl := [6, 7]) [[], [(0, some 26)], [], [(1, some 27), (2, some 28)], [(3, some 29)], [(3, some 29)]] [some 26, some 27, some 28, some 29, some 30, some 31] (fctF (.is (.int .i64 n) :: .of (XH.out y19) (XH.out_mono _) :: .is (Qc y11.1 v15) :: .of (XA.out y25) (XA.out_mono _) :: .of (fun H v => ∃ v33 v35, v = (Qb y25.1 v33 v35) ∧ Ro kU32 H v33 y25.1.f_n.f_w ∧ Ro kU32 H v35 y25.1.f_d.f_w) (by rintro _ _ _ hle ⟨v33, v35, rfl, h34, h36⟩; exact ⟨v33, v35, rfl, h34.mono hle, h36.mono hle⟩) :: .is (errV 104 y25.2) :: [])) (fun m_ => bx b17 (QK y11.1 v15) 24 :: bx b1 z0c 26 :: L) (fun _ => none) mixed (by kernel_rfl) (by kernel_rfl) rfl (Xv (by kernel_rfl)) ⟨(fun H' m_ hH hm_ hu_ => dn <| s_d (m_ 0) rfl (QF (v := .int .i64 n) rfl) (by exact rfl) rfl), (by rintro H' m_ hH hm_ hu_ _ rfl; exact dn <| s_k (m_ 1) rfl (Qm co71 (vs := [.int .i64 n]) rfl (XH.calls k hy20)) rfl (by rintro v_ H_ _ ⟨rfl, e_, h_⟩; exact ⟨rfl, e_, h_⟩)), (fun H' m_ hH hm_ hu_ => dn <| s_d (m_ 2) rfl (QS (v := (Qc y11.1 v15)) ty24 rfl .here rfl rfl rfl rfl) (by exact rfl) rfl), (by rintro H' m_ hH hm_ hu_ _ ⟨v23, rfl, h24⟩ _ rfl; exact dn <| s_k (m_ 3) rfl (Qm co73 (vs := [(Qc y19 v23), (Qc y11.1 v15)]) rfl (XA.calls k (n := y19) (d := y11.1) hy26 h24 (h16.mono hH))) rfl (by rintro v_ H_ _ ⟨rfl, e_, h_⟩; exact ⟨rfl, e_, h_⟩)), (by rintro H' m_ hH hm_ hu_ _ ⟨v29, v31, rfl, h30, h32⟩; exact dn <| s_d (m_ 4) rfl (QO rfl rfl) (by exact ⟨v29, v31, rfl, h30, h32⟩) rfl), (by rintro H' m_ hH hm_ hu_ _ ⟨v29, v31, rfl, h30, h32⟩; exact dn <| s_d (m_ 5) rfl (QO rfl rfl) (by exact rfl) rfl), trivial⟩ ?_
   intro H37 e38
   rintro _ _ rfl _ _ ⟨v23, rfl, h24⟩ _ _ rfl _ _ ⟨v29, v31, rfl, h30, h32⟩ _ _ ⟨v33, v35, rfl, h34, h36⟩ _ _ rfl
   refine wS (Qb y25.1 v33 v35) sz26 rfl rfl rfl rfl rfl (Xz h34 h36) .h1 u4 <| wA (errV 104 y25.2) rfl rfl <| Qa ?_
   obtain rfl := sj he
   refine Qi fn_18 rs_18 (.box (v := (Qb y25.1 v33 v35)) rfl ty26 rfl rfl .h1 rfl (.tmp (v := errV 104 y25.2) rfl .nil)) <| ⟨⟨[_, _], rfl⟩, hle.trans ((e8.trans e14).trans e38), ⟨v33, v35, rfl, h34, h36⟩⟩
end Go.Proofs.YtkccpkccdbfomaaGreatDoor.GBH

/- printed by gen.py -/
import Derived.Test.YtkccpkccdbfomaaGreatDoorGBHx1
namespace Go.Proofs.YtkccpkccdbfomaaGreatDoor.GBH
open Go Go.RowKit Go.Proofs.YtkccpkccdbfomaaGreatDoorK Go.Proofs.YtkccpkccdbfomaaGreatDoor
set_option maxRecDepth 100000
set_option maxHeartbeats 2000000
set_option linter.unusedVariables false
set_option linter.unusedSimpArgs false
noncomputable def Ym.C : Code := (Tryz.f17.body).getD .skip
def Ym.out (r : Qg) (H : Hp) (v : Value) : Prop := ∃ v0, v = (Qf r v0) ∧ Ro kI64 H v0 r.f_D
noncomputable def Ym.f (k : Nat) (a b : Qg) : Option Qg := if (a.f_Neg == b.f_Neg) = true then ((Qk.f k a.f_D b.f_D).bind fun y5 => (Xp.f k a.f_Neg y5).bind fun y13 => some (y13)) else ((QR.f k a.f_D b.f_D).bind fun y19 => if y19 = true then ((Qh.f k b.f_D a.f_D).bind fun y24 => (Xp.f k b.f_Neg y24).bind fun y32 => some (y32)) else ((Qh.f k a.f_D b.f_D).bind fun y38 => (Xp.f k a.f_Neg y38).bind fun y46 => some (y46)))
theorem Ym.calls (k : Nat) {H : Hp} {L : Items} {a b : Qg} {v0_a v1_b : Value} {r : Qg} (he : Ym.f k a b = some r) (h0_a : Ro kI64 H v0_a a.f_D) (h1_b : Ro kI64 H v1_b b.f_D) : Ct Tryz.prog 17 ⟨[(Qf a v0_a), (Qf b v1_b)]⟩ H L (cR H L (Ym.out r)) := by
 refine XR (O := Ym.out r) ?_
 have hle : H.le H := .refl _
 unfold Ym.f at he
 refine QP (args := [_, _]) fn_17 rfl nt_17 rfl <| wR rfl <| wB (Qf a v0_a) rfl rfl rfl <| fun b1 => wB (Qf b v1_b) rfl rfl rfl <| fun b2 => wN zr37 rfl rfl fun b3 => wE <| wR rfl <| w_d rfl (Xe (o' := 0) Tryz.underlying37 rfl sz4 rfl rfl rfl) <| wL (.bool a.f_Neg) ty4 rfl rfl .h2 rfl rfl ?_
 refine w_d rfl (Xe (o' := 0) Tryz.underlying37 rfl sz4 rfl rfl rfl) <| wL (.bool b.f_Neg) ty4 rfl rfl .h1 rfl rfl <| w_d rfl (Wc (a := a.f_Neg) (b := b.f_Neg) Tryz.underlying4 rfl rfl) <| Qa ?_
 rcases its he with ⟨c4, he⟩ | ⟨c4, he⟩
 ·
  refine Qy rfl c4 <| QV <| bK he fun y5 hy6 he => XJ (p := 7) (tl := [7, 8]) [[], [(0, some 10)], [], [(2, some 12)], [], [(4, some 14)], [(3, some 13), (5, some 15)]] [some 10, some 11, some 12, some 13, some 14, some 15, some 16] (fctF (.is (pt b1) :: .is (.bool a.f_Neg) :: .is (po b1 1) :: .is (v0_a) :: .is (po b2 1) :: .is (v1_b) :: .ro kI64 (y5) :: [])) (fun m_ => bx b3 [.bool false, .slice none 0 0] 37 :: bx b2 (QN b v1_b) 37 :: bx b1 (QN a v0_a) 37 :: L) (fun _ => none) mixed (by kernel_rfl) (by kernel_rfl) rfl (Xv (by kernel_rfl)) ⟨(fun H' m_ hH hm_ hu_ => dn <| s_d (m_ 0) rfl (Xe (o' := 0) Tryz.underlying37 rfl sz4 rfl rfl rfl) (by exact rfl) rfl), (by rintro H' m_ hH hm_ hu_ _ rfl; exact dn <| s_d (m_ 1) rfl (QS (v := .bool a.f_Neg) ty4 rfl .h2 rfl rfl rfl rfl) (by exact rfl) rfl), (fun H' m_ hH hm_ hu_ => dn <| s_d (m_ 2) rfl (Xe (o' := 1) Tryz.underlying37 rfl sz35 rfl rfl rfl) (by exact rfl) rfl), (by rintro H' m_ hH hm_ hu_ _ rfl; exact dn <| s_d (m_ 3) rfl (QS (v := v0_a) ty35 rfl .h2 rfl rfl rfl rfl) (by exact rfl) rfl), (fun H' m_ hH hm_ hu_ => dn <| s_d (m_ 4) rfl (Xe (o' := 1) Tryz.underlying37 rfl sz35 rfl rfl rfl) (by exact rfl) rfl), (by rintro H' m_ hH hm_ hu_ _ rfl; exact dn <| s_d (m_ 5) rfl (QS (v := v1_b) ty35 rfl .h1 rfl rfl rfl rfl) (by exact rfl) rfl), (by rintro H' m_ hH hm_ hu_ _ rfl _ rfl; exact dn <| s_k (m_ 6) rfl (Qm co68 (vs := [v0_a, v1_b]) rfl (Qk.calls k hy6 ((h0_a.mono hH).src) ((h1_b.mono hH).src))) rfl (by rintro v_ H_ _ ⟨rfl, e_, h_⟩; exact ⟨rfl, e_, h_⟩)), trivial⟩ ?_
  intro H11 e12
  rintro _ _ rfl _ _ rfl _ _ rfl _ _ rfl _ _ rfl _ _ rfl v9 _ (h10 : Ro kI64 H11 v9 y5)
  refine bK he fun y13 hy14 he => w_a rfl (Qm co66 (vs := (QN a v9)) rfl (Xp.calls k hy14 h10)) ?_
  rintro _ H15 _ ⟨rfl, e16, v17, rfl, h18⟩
  refine wS (Qf y13 v17) sz37 rfl rfl rfl rfl rfl (Xu h18) .here u2 <| Qa ?_
  obtain rfl := sj he
  refine Qi fn_17 rs_17 (.box (v := (Qf y13 v17)) rfl ty37 rfl rfl .here rfl .nil) <| ⟨⟨[_, _, _], rfl⟩, hle.trans (e12.trans e16), ⟨v17, rfl, h18⟩⟩
 ·
  refine QB rfl (Bool.eq_false_iff.2 c4) <| QA <| QV <| wR rfl <| w_d rfl (Xe (o' := 1) Tryz.underlying37 rfl sz35 rfl rfl rfl) <| wL v0_a ty35 rfl rfl .h2 rfl rfl <| w_d rfl (Xe (o' := 1) Tryz.underlying37 rfl sz35 rfl rfl rfl) <| wL v1_b ty35 rfl rfl .h1 rfl rfl <| bK he fun y19 hy20 he => w_d rfl (Xs (Qm co69 (vs := [v0_a, v1_b]) rfl (QR.calls k hy20 h0_a.src h1_b.src))) <| Qa ?_
  rcases its he with ⟨c23, he⟩ | ⟨c23, he⟩
  ·
   refine Qy rfl c23 <| QV <| bK he fun y24 hy25 he => XJ (p := 7) (tl := [7, 8]) [[], [(0, some 23)], [], [(2, some 25)], [], [(4, some 27)], [(3, some 26), (5, some 28)]] [some 23, some 24, some 25, some 26, some 27, some 28, some 29] (fctF (.is (pt b2) :: .is (.bool b.f_Neg) :: .is (po b2 1) :: .is (v1_b) :: .is (po b1 1) :: .is (v0_a) :: .ro kI64 (y24) :: [])) (fun m_ => bx b3 [.bool false, .slice none 0 0] 37 :: bx b2 (QN b v1_b) 37 :: bx b1 (QN a v0_a) 37 :: L) (fun _ => none) mixed (by kernel_rfl) (by kernel_rfl) rfl (Xv (by kernel_rfl)) ⟨(fun H' m_ hH hm_ hu_ => dn <| s_d (m_ 0) rfl (Xe (o' := 0) Tryz.underlying37 rfl sz4 rfl rfl rfl) (by exact rfl) rfl), (by rintro H' m_ hH hm_ hu_ _ rfl; exact dn <| s_d (m_ 1) rfl (QS (v := .bool b.f_Neg) ty4 rfl .h1 rfl rfl rfl rfl) (by exact rfl) rfl), (fun H' m_ hH hm_ hu_ => dn <| s_d (m_ 2) rfl (Xe (o' := 1) Tryz.underlying37 rfl sz35 rfl rfl rfl) (by exact rfl) rfl), (by rintro H' m_ hH hm_ hu_ _ rfl; exact dn <| s_d (m_ 3) rfl (QS (v := v1_b) ty35 rfl .h1 rfl rfl rfl rfl) (by exact rfl) rfl), (fun H' m_ hH hm_ hu_ => dn <| s_d (m_ 4) rfl (Xe (o' := 1) Tryz.underlying37 rfl sz35 rfl rfl rfl) (by exact rfl) rfl), (by rintro H' m_ hH hm_ hu_ _ rfl; exact dn <| s_d (m_ 5) rfl (QS (v := v0_a) ty35 rfl .h2 rfl rfl rfl rfl) (by exact rfl) rfl), (by rintro H' m_ hH hm_ hu_ _ rfl _ rfl; exact dn <| s_k (m_ 6) rfl (Qm co70 (vs := [v1_b, v0_a]) rfl (Qh.calls k hy25 ((h1_b.mono hH).src) ((h0_a.mono hH).src))) rfl (by rintro v_ H_ _ ⟨rfl, e_, h_⟩; exact ⟨rfl, e_, h_⟩)), trivial⟩ ?_
   intro H30 e31
   rintro _ _ rfl _ _ rfl _ _ rfl _ _ rfl _ _ rfl _ _ rfl v28 _ (h29 : Ro kI64 H30 v28 y24)
   refine bK he fun y32 hy33 he => w_a rfl (Qm co66 (vs := (QN b v28)) rfl (Xp.calls k hy33 h29)) ?_
   rintro _ H34 _ ⟨rfl, e35, v36, rfl, h37⟩
   refine wS (Qf y32 v36) sz37 rfl rfl rfl rfl rfl (Xu h37) .here u2 <| Qa ?_
   obtain rfl := sj he
   refine Qi fn_17 rs_17 (.box (v := (Qf y32 v36)) rfl ty37 rfl rfl .here rfl .nil) <| ⟨⟨[_, _, _], rfl⟩, hle.trans (e31.trans e35), ⟨v36, rfl, h37⟩⟩
  ·
   refine QB rfl (Bool.eq_false_iff.2 c23) <| QA <| QV <| bK he fun y38 hy39 he => XJ (p := 7) (tl := [7, 8]) [[], [(0, some 31)], [], [(2, some 33)], [], [(4, some 35)], [(3, some 34), (5, some 36)]] [some 31, some 32, some 33, some 34, some 35, some 36, some 37] (fctF (.is (pt b1) :: .is (.bool a.f_Neg) :: .is (po b1 1) :: .is (v0_a) :: .is (po b2 1) :: .is (v1_b) :: .ro kI64 (y38) :: [])) (fun m_ => bx b3 [.bool false, .slice none 0 0] 37 :: bx b2 (QN b v1_b) 37 :: bx b1 (QN a v0_a) 37 :: L) (fun _ => none) mixed (by kernel_rfl) (by kernel_rfl) rfl (Xv (by kernel_rfl)) ⟨(fun H' m_ hH hm_ hu_ => dn <| s_d (m_ 0) rfl (Xe (o' := 0) Tryz.underlying37 rfl sz4 rfl rfl rfl) (by exact rfl) rfl), (by rintro H' m_ hH hm_ hu_ _ rfl; exact dn <| s_d (m_ 1) rfl (QS (v := .bool a.f_Neg) ty4 rfl .h2 rfl rfl rfl rfl) (by exact rfl) rfl), (fun H' m_ hH hm_ hu_ => dn <| s_d (m_ 2) rfl (Xe (o' := 1) Tryz.underlying37 rfl sz35 rfl rfl rfl) (by exact rfl) rfl), (by rintro H' m_ hH hm_ hu_ _ rfl; exact dn <| s_d (m_ 3) rfl (QS (v := v0_a) ty35 rfl .h2 rfl rfl rfl rfl) (by exact rfl) rfl), (fun H' m_ hH hm_ hu_ => dn <| s_d (m_ 4) rfl (Xe (o' := 1) Tryz.underlying37 rfl sz35 rfl rfl rfl) (by exact rfl) rfl), (by rintro H' m_ hH hm_ hu_ _ rfl; exact dn <| s_d (m_ 5) rfl (QS (v := v1_b) ty35 rfl .h1 rfl rfl rfl rfl) (by exact rfl) rfl), (by rintro H' m_ hH hm_ hu_ _ rfl _ rfl; exact dn <| s_k (m_ 6) rfl (Qm co70 (vs := [v0_a, v1_b]) rfl (Qh.calls k hy39 ((h0_a.mono hH).src) ((h1_b.mono hH).src))) rfl (by rintro v_ H_ _ ⟨rfl, e_, h_⟩; exact ⟨rfl, e_, h_⟩)), trivial⟩ ?_
   intro H44 e45
   rintro _ _ rfl _ _ rfl _ _ rfl _ _ rfl _ _ rfl _ _ rfl v42 _ (h43 : Ro kI64 H44 v42 y38)
   refine bK he fun y46 hy47 he => w_a rfl (Qm co66 (vs := (QN a v42)) rfl (Xp.calls k hy47 h43)) ?_
   rintro _ H48 _ ⟨rfl, e49, v50, rfl, h51⟩
   refine wS (Qf y46 v50) sz37 rfl rfl rfl rfl rfl (Xu h51) .here u2 <| Qa ?_
   obtain rfl := sj he
   refine Qi fn_17 rs_17 (.box (v := (Qf y46 v50)) rfl ty37 rfl rfl .here rfl .nil) <| ⟨⟨[_, _, _], rfl⟩, hle.trans (e45.trans e49), ⟨v50, rfl, h51⟩⟩
noncomputable def Qw.C : Code := (Tryz.f12.body).getD .skip
def Qw.out (r : Qg) (H : Hp) (v : Value) : Prop := ∃ v0, v = (Qf r v0) ∧ Ro kI64 H v0 r.f_D
abbrev Qw.R (H0 : Hp) (L : Items) (r : Qg) := fR H0 L (Qw.out r)
structure Qw.Hs where
 l0 : Int → Bool → (List Int) → Int → Option Qg
 l1 : Int → Bool → (List Int) → Int → Option Qg
noncomputable def Qw.b0 (k : Nat) (h : Qw.Hs) (n : Int) (x_0 : Bool) (x_1 : List Int) (i : Int) : Option Qg := if (w64 (i + 30)) ≤ n then ((Qs.f k 1073741824).bind fun y10 => (Qj.f k ⟨x_0, x_1⟩ y10).bind fun y18 => h.l0 n y18.f_Neg y18.f_D (w64 (i + 30))) else (h.l1 n x_0 x_1 0)
noncomputable def Qw.b1 (k : Nat) (h : Qw.Hs) (n : Int) (x_0 : Bool) (x_1 : List Int) (i : Int) : Option Qg := if i < (Int.tmod n 30) then ((Ym.f k ⟨x_0, x_1⟩ ⟨x_0, x_1⟩).bind fun y25 => h.l1 n y25.f_Neg y25.f_D (w64 (i + 1))) else (some (⟨x_0, x_1⟩))
noncomputable def Qw.hs : Nat → Qw.Hs
 | 0 => ⟨fun _ _ _ _ => none, fun _ _ _ _ => none⟩
 | k + 1 => ⟨fun x0 x1 x2 x3 => Qw.b0 k (Qw.hs k) x0 x1 x2 x3, fun x0 x1 x2 x3 => Qw.b1 k (Qw.hs k) x0 x1 x2 x3⟩
noncomputable def Qw.f (k : Nat) (n : Int) : Option Qg := (fun h : Qw.Hs => (Qs.f k 1).bind fun y2 => h.l0 n y2.f_Neg y2.f_D 0) (Qw.hs k)
noncomputable def Qw.Kl0 : List Item := .code (lopB (blkB (seqR (seqL (seqR (seqR Qw.C)))))) :: .inLoop (lopB (blkB (seqR (seqL (seqR (seqR Qw.C)))))) :: .inBlock 0 :: .code (seqR (seqR (seqR Qw.C))) :: []
noncomputable def Qw.Kl1 : List Item := .code (lopB (blkB (seqR (seqL (seqR (seqR (seqR Qw.C))))))) :: .inLoop (lopB (blkB (seqR (seqL (seqR (seqR (seqR Qw.C))))))) :: .inBlock 2 :: .code (seqR (seqR (seqR (seqR Qw.C)))) :: []
structure Qw.OK (h : Qw.Hs) : Prop where
 l0 : ∀ {H0 H : Hp} {L : Items} {r : Qg} {jk_ : Nat → Value} {n : Int} {x_0 : Bool} {x_1 : List Int} {i : Int} {v_x_1 : Value} {b_t2 : Nat} {b_x : Nat} (_ : H0.le H) (_he : h.l0 n x_0 x_1 i = some r) (_h_x_1 : Ro kI64 H v_x_1 x_1), Wp Tryz.prog 12 26 Qw.Kl0 (upd (upd (upd (upd jk_ 0 (.int .i64 n)) 2 (pt b_t2)) 3 (pt b_x)) 4 (.int .i64 i)) H (bx b_x [.bool x_0, v_x_1] 37 :: bx b_t2 [.bool false, .slice none 0 0] 37 :: L) (Qw.R H0 L r)
 l1 : ∀ {H0 H : Hp} {L : Items} {r : Qg} {jk_ : Nat → Value} {n : Int} {x_0 : Bool} {x_1 : List Int} {i : Int} {v_x_1 : Value} {b_t2 : Nat} {b_x : Nat} (_ : H0.le H) (_he : h.l1 n x_0 x_1 i = some r) (_h_x_1 : Ro kI64 H v_x_1 x_1), Wp Tryz.prog 12 26 Qw.Kl1 (upd (upd (upd (upd jk_ 0 (.int .i64 n)) 2 (pt b_t2)) 3 (pt b_x)) 5 (.int .i64 i)) H (bx b_x [.bool x_0, v_x_1] 37 :: bx b_t2 [.bool false, .slice none 0 0] 37 :: L) (Qw.R H0 L r)
theorem Qw.b0_ok {k : Nat} {h : Qw.Hs} (hh : Qw.OK h) {H0 H : Hp} {L : Items} {r : Qg} {jk_ : Nat → Value} {n : Int} {x_0 : Bool} {x_1 : List Int} {i : Int} {v_x_1 : Value} {b_t2 b_x : Nat} (hle : H0.le H) (he : Qw.b0 k h n x_0 x_1 i = some r) (h_x_1 : Ro kI64 H v_x_1 x_1) : Wp Tryz.prog 12 26 Qw.Kl0 (upd (upd (upd (upd jk_ 0 (.int .i64 n)) 2 (pt b_t2)) 3 (pt b_x)) 4 (.int .i64 i)) H (bx b_x [.bool x_0, v_x_1] 37 :: bx b_t2 [.bool false, .slice none 0 0] 37 :: L) (Qw.R H0 L r) := by
 unfold Qw.b0 at he
 unfold Qw.Kl0
 refine QV <| wR rfl <| wM (.int .i64 i) rfl rfl <| w_d rfl (Xt (c := w64 (i + 30)) rfl rfl rfl) <| wM (.int .i64 n) rfl rfl <| w_d rfl (Gf rfl rfl) <| Qa ?_
 rcases its he with ⟨c9, he⟩ | ⟨c9, he⟩
 ·
  refine Qy rfl (dt c9) <| QA <| QV <| QU <| bK he fun y10 hy11 he => XJ (p := 2) (tl := [2, 3]) [[], []] [some 13, some 14] (fctF (.is (.agg ⟨[.bool x_0, v_x_1]⟩) :: .of (Qs.out y10) (Qs.out_mono _) :: [])) (fun m_ => bx b_x [.bool x_0, v_x_1] 37 :: bx b_t2 [.bool false, .slice none 0 0] 37 :: L) (fun _ => none) mixed (by kernel_rfl) (by kernel_rfl) rfl (Xv (by kernel_rfl)) ⟨(fun H' m_ hH hm_ hu_ => dn <| s_d (m_ 0) rfl (QS (v := .agg ⟨[.bool x_0, v_x_1]⟩) ty37 rfl .here rfl rfl rfl rfl) (by exact rfl) rfl), (fun H' m_ hH hm_ hu_ => dn <| s_k (m_ 1) rfl (Qm co16 (vs := [.int .i64 1073741824]) rfl (Qs.calls k hy11)) rfl (by rintro v_ H_ _ ⟨rfl, e_, h_⟩; exact ⟨rfl, e_, h_⟩)), trivial⟩ ?_
  intro H16 e17
  rintro _ _ rfl _ _ ⟨v14, rfl, h15⟩
  refine bK he fun y18 hy19 he => w_a rfl (Qm co15 (vs := [.agg ⟨[.bool x_0, v_x_1]⟩, (Qf y10 v14)]) rfl (Qj.calls k (a := ⟨x_0, x_1⟩) (b := y10) hy19 (h_x_1.mono e17) h15)) ?_
  rintro _ H20 _ ⟨rfl, e21, v22, rfl, h23⟩
  refine wS (Qf y18 v22) sz37 rfl rfl rfl rfl rfl (Xu h23) .here u2 <| Qa <| Xk <| QD rfl <| wM (.int .i64 i) rfl rfl <| w_d rfl (Xt (c := w64 (i + 30)) rfl rfl rfl) <| wA (.int .i64 (w64 (i + 30))) rfl rfl <| Qa <| Xy <| w_sl 0 (.int .i64 n) rfl <| w_sl 2 (pt b_t2) rfl <| w_sl 3 (pt b_x) rfl ?_
  refine w_sl 4 (.int .i64 (w64 (i + 30))) rfl <| hh.l0 (hle.trans (e17.trans e21)) he h23
 ·
  refine QB rfl (df c9) <| X1 rfl <| QV <| wR rfl <| wA (.int .i64 0) rfl rfl <| Qa <| QU <| X3 <| w_sl 0 (.int .i64 n) rfl <| w_sl 2 (pt b_t2) rfl <| w_sl 3 (pt b_x) rfl ?_
  refine w_sl 5 (.int .i64 0) rfl <| hh.l1 hle he h_x_1
theorem Qw.b1_ok {k : Nat} {h : Qw.Hs} (hh : Qw.OK h) {H0 H : Hp} {L : Items} {r : Qg} {jk_ : Nat → Value} {n : Int} {x_0 : Bool} {x_1 : List Int} {i : Int} {v_x_1 : Value} {b_t2 b_x : Nat} (hle : H0.le H) (he : Qw.b1 k h n x_0 x_1 i = some r) (h_x_1 : Ro kI64 H v_x_1 x_1) : Wp Tryz.prog 12 26 Qw.Kl1 (upd (upd (upd (upd jk_ 0 (.int .i64 n)) 2 (pt b_t2)) 3 (pt b_x)) 5 (.int .i64 i)) H (bx b_x [.bool x_0, v_x_1] 37 :: bx b_t2 [.bool false, .slice none 0 0] 37 :: L) (Qw.R H0 L r) := by
 unfold Qw.b1 at he
 unfold Qw.Kl1
 refine QV <| wR rfl <| wM (.int .i64 i) rfl rfl <| wM (.int .i64 n) rfl rfl <| w_d rfl (Jk rfl rfl (by decide)) <| w_d rfl (XG rfl rfl) <| Qa ?_
 rcases its he with ⟨c24, he⟩ | ⟨c24, he⟩
 ·
  refine Qy rfl (dt c24) <| QA <| QV <| QU <| QD rfl <| wL (.agg ⟨[.bool x_0, v_x_1]⟩) ty37 rfl rfl .here rfl rfl <| wL (.agg ⟨[.bool x_0, v_x_1]⟩) ty37 rfl rfl .here rfl rfl <| bK he fun y25 hy26 he => w_a rfl (Qm co17 (vs := [.agg ⟨[.bool x_0, v_x_1]⟩, .agg ⟨[.bool x_0, v_x_1]⟩]) rfl (Ym.calls k (a := ⟨x_0, x_1⟩) (b := ⟨x_0, x_1⟩) hy26 h_x_1 h_x_1)) ?_
  rintro _ H27 _ ⟨rfl, e28, v29, rfl, h30⟩
  refine wS (Qf y25 v29) sz37 rfl rfl rfl rfl rfl (Xu h30) .here u2 <| Qa <| Xk <| QD rfl <| wM (.int .i64 i) rfl rfl <| w_d rfl (Xt (c := w64 (i + 1)) rfl rfl rfl) <| wA (.int .i64 (w64 (i + 1))) rfl rfl <| Qa <| Xy <| w_sl 0 (.int .i64 n) rfl <| w_sl 2 (pt b_t2) rfl <| w_sl 3 (pt b_x) rfl ?_
  refine w_sl 5 (.int .i64 (w64 (i + 1))) rfl <| hh.l1 (hle.trans e28) he h30
 ·
  refine QB rfl (df c24) <| X1 rfl <| wR rfl <| wL (.agg ⟨[.bool x_0, v_x_1]⟩) ty37 rfl rfl .here rfl rfl <| wS (.agg ⟨[.bool x_0, v_x_1]⟩) sz37 rfl rfl rfl rfl rfl (oc rfl (oc (h_x_1.one) oz)) .h1 u2 <| Qa ?_
  obtain rfl := sj he
  refine Qi fn_12 rs_12 (.box (v := .agg ⟨[.bool x_0, v_x_1]⟩) rfl ty37 rfl rfl .h1 rfl .nil) <| ⟨⟨[_, _], rfl⟩, hle, ⟨v_x_1, rfl, h_x_1⟩⟩
theorem Qw.ok : ∀ k, Qw.OK (Qw.hs k)
 | 0 => ⟨(by intros; exact nomatch (show none = some _ from by assumption)), (by intros; exact nomatch (show none = some _ from by assumption))⟩
 | k + 1 => ⟨Qw.b0_ok (k := k) (Qw.ok k), Qw.b1_ok (k := k) (Qw.ok k)⟩
theorem Qw.calls (k : Nat) {H : Hp} {L : Items} {n : Int} {r : Qg} (he : Qw.f k n = some r) : Ct Tryz.prog 12 ⟨[.int .i64 n]⟩ H L (cR H L (Qw.out r)) := by
 refine XR (O := Qw.out r) ?_
 have hle : H.le H := .refl _
 have hh := Qw.ok k
 unfold Qw.f at he
 refine QP (args := [_]) fn_12 rfl nt_12 rfl <| wR rfl <| wN zr37 rfl rfl fun b1 => wQ rfl <| bK he fun y2 hy3 he => w_a rfl (Qm co16 (vs := [.int .i64 1]) rfl (Qs.calls k hy3)) ?_
 rintro _ H4 _ ⟨rfl, e5, v6, rfl, h7⟩
 refine wN zr37 rfl rfl fun b8 => wS (Qf y2 v6) sz37 rfl rfl rfl rfl rfl (Xu h7) .here u2 <| wE <| wR rfl <| wA (.int .i64 0) rfl rfl <| Qa <| QU <| X3 <| w_sl 0 (.int .i64 n) rfl <| w_sl 2 (pt b1) rfl ?_
 refine w_sl 3 (pt b8) rfl <| w_sl 4 (.int .i64 0) rfl <| hh.l0 (hle.trans e5) he h7
noncomputable def Yj.C : Code := (Tryz.f62.body).getD .skip
def Yj.out (r : Int) (H : Hp) (v : Value) : Prop := v = .int .i64 r
noncomputable def Yj.f (k : Nat) (a : Qg) : Option Int := if (a.f_D.length : Int) = 0 then (some (0)) else (if a.f_Neg = true then (some ((-1))) else (some (1)))
theorem Yj.calls (k : Nat) {H : Hp} {L : Items} {a : Qg} {v0_a : Value} {r : Int} (he : Yj.f k a = some r) (h0_a : Ro kI64 H v0_a a.f_D) : Ct Tryz.prog 62 ⟨[(Qf a v0_a)]⟩ H L (fun v H' L' => L = L' ∧ H = H' ∧ v = .int .i64 r) := by
 refine X6 (O := Yj.out r) (fun _ _ h => h) ?_
 have hle : H.le H := .refl _
 unfold Yj.f at he
 refine QP (args := [_]) fn_62 rfl nt_62 rfl <| wR rfl <| wB (Qf a v0_a) rfl rfl rfl <| fun b1 => wA (.int .i64 0) rfl rfl <| wE <| wR rfl <| w_d rfl (Xe (o' := 1) Tryz.underlying37 rfl sz35 rfl rfl rfl) <| wL v0_a ty35 rfl rfl .here rfl rfl <| w_d rfl (Xq Tryz.underlying35 rfl h0_a.src) ?_
 refine w_d rfl (Y1 rfl rfl) <| Qa ?_
 rcases its he with ⟨c2, he⟩ | ⟨c2, he⟩
 ·
  refine Qy rfl (dt c2) <| wR rfl <| wA (.int .i64 0) rfl rfl <| Qa ?_
  obtain rfl := sj he
  refine Qi fn_62 rs_62 (.tmp (v := .int .i64 0) rfl .nil) <| ⟨⟨[_], rfl⟩, hle, rfl⟩
 ·
  refine QB rfl (df c2) <| QA <| QV <| wR rfl <| w_d rfl (Xe (o' := 0) Tryz.underlying37 rfl sz4 rfl rfl rfl) <| wL (.bool a.f_Neg) ty4 rfl rfl .here rfl rfl <| Qa ?_
  rcases its he with ⟨c3, he⟩ | ⟨c3, he⟩
  ·
   refine Qy rfl c3 <| wR rfl <| wA (.int .i64 (-1)) rfl rfl <| Qa ?_
   obtain rfl := sj he
   refine Qi fn_62 rs_62 (.tmp (v := .int .i64 (-1)) rfl .nil) <| ⟨⟨[_], rfl⟩, hle, rfl⟩
  ·
   refine QB rfl (Bool.eq_false_iff.2 c3) <| QA <| wR rfl <| wA (.int .i64 1) rfl rfl <| Qa ?_
   obtain rfl := sj he
   refine Qi fn_62 rs_62 (.tmp (v := .int .i64 1) rfl .nil) <| ⟨⟨[_], rfl⟩, hle, rfl⟩
noncomputable def XS.C : Code := (Tryz.f63.body).getD .skip
def XS.out (r : Qg) (H : Hp) (v : Value) : Prop := ∃ v0, v = (Qf r v0) ∧ Ro kI64 H v0 r.f_D
theorem XS.out_mono (r : Qg) {H H' : Hp} {v : Value} (hle : H.le H') (h : XS.out r H v) : XS.out r H' v := by
 obtain ⟨v0, rfl, h0⟩ := h; exact ⟨v0, rfl, h0.mono hle⟩
noncomputable def XS.f (k : Nat) (a : Qg) : Option Qg := (Xp.f k (!a.f_Neg) a.f_D).bind fun y3 => some (y3)
theorem XS.calls (k : Nat) {H : Hp} {L : Items} {a : Qg} {v0_a : Value} {r : Qg} (he : XS.f k a = some r) (h0_a : Ro kI64 H v0_a a.f_D) : Ct Tryz.prog 63 ⟨[(Qf a v0_a)]⟩ H L (cR H L (XS.out r)) := by
 refine XR (O := XS.out r) ?_
 have hle : H.le H := .refl _
 unfold XS.f at he
 refine QP (args := [_]) fn_63 rfl nt_63 rfl <| wR rfl <| wB (Qf a v0_a) rfl rfl rfl <| fun b1 => wN zr37 rfl rfl fun b2 => wQ rfl <| w_d rfl (Xe (o' := 0) Tryz.underlying37 rfl sz4 rfl rfl rfl) <| wL (.bool a.f_Neg) ty4 rfl rfl .h1 rfl rfl <| w_d rfl (Zz (b := a.f_Neg) rfl) <| w_d rfl (Xe (o' := 1) Tryz.underlying37 rfl sz35 rfl rfl rfl) ?_
 refine wL v0_a ty35 rfl rfl .h1 rfl rfl <| bK he fun y3 hy4 he => w_a rfl (Qm co66 (vs := [.bool (!a.f_Neg), v0_a]) rfl (Xp.calls k hy4 h0_a)) ?_
 rintro _ H5 _ ⟨rfl, e6, v7, rfl, h8⟩
 refine wS (Qf y3 v7) sz37 rfl rfl rfl rfl rfl (Xu h8) .here u2 <| Qa ?_
 obtain rfl := sj he
 refine Qi fn_63 rs_63 (.box (v := (Qf y3 v7)) rfl ty37 rfl rfl .here rfl .nil) <| ⟨⟨[_, _], rfl⟩, hle.trans e6, ⟨v7, rfl, h8⟩⟩
noncomputable def Yb.C : Code := (Tryz.f64.body).getD .skip
def Yb.out (r : Qg) (H : Hp) (v : Value) : Prop := ∃ v0, v = (Qf r v0) ∧ Ro kI64 H v0 r.f_D
theorem Yb.out_mono (r : Qg) {H H' : Hp} {v : Value} (hle : H.le H') (h : Yb.out r H v) : Yb.out r H' v := by
 obtain ⟨v0, rfl, h0⟩ := h; exact ⟨v0, rfl, h0.mono hle⟩
noncomputable def Yb.f (k : Nat) (a : Qg) : Option Qg := some (⟨false, a.f_D⟩)
theorem Yb.calls (k : Nat) {H : Hp} {L : Items} {a : Qg} {v0_a : Value} {r : Qg} (he : Yb.f k a = some r) (h0_a : Ro kI64 H v0_a a.f_D) : Ct Tryz.prog 64 ⟨[(Qf a v0_a)]⟩ H L (cR H L (Yb.out r)) := by
 refine XR (O := Yb.out r) ?_
 have hle : H.le H := .refl _
 unfold Yb.f at he
 refine QP (args := [_]) fn_64 rfl nt_64 rfl <| wR rfl <| wB (Qf a v0_a) rfl rfl rfl <| fun b1 => wN zr37 rfl rfl fun b2 => wQ rfl <| w_d rfl (Xe (o' := 1) Tryz.underlying37 rfl sz35 rfl rfl rfl) <| wL v0_a ty35 rfl rfl .h1 rfl rfl <| w_d rfl (XD (cs' := [.bool false, v0_a]) Tryz.underlying37 zr37 rfl (by kernel_rfl) (parts := [(1, v0_a)]) rfl (.cons (YC rfl sz35 rfl) h0_a.cells rfl (.there u1) .nil)) <| wS (.agg ⟨[.bool false, v0_a]⟩) sz37 rfl rfl rfl rfl rfl (oc rfl (oc (h0_a.one) oz)) .here u2 ?_
 refine Qa ?_
 obtain rfl := sj he
 refine Qi fn_64 rs_64 (.box (v := .agg ⟨[.bool false, v0_a]⟩) rfl ty37 rfl rfl .here rfl .nil) <| ⟨⟨[_, _], rfl⟩, hle, ⟨v0_a, rfl, h0_a⟩⟩
noncomputable def YG.C : Code := (Tryz.f14.body).getD .skip
def YG.out (r : Qg) (H : Hp) (v : Value) : Prop := ∃ v0, v = (Qf r v0) ∧ Ro kI64 H v0 r.f_D
noncomputable def YG.f (k : Nat) (a b : Qg) : Option Qg := (XS.f k b).bind fun y4 => (Ym.f k a y4).bind fun y12 => some (y12)
theorem YG.calls (k : Nat) {H : Hp} {L : Items} {a b : Qg} {v0_a v1_b : Value} {r : Qg} (he : YG.f k a b = some r) (h0_a : Ro kI64 H v0_a a.f_D) (h1_b : Ro kI64 H v1_b b.f_D) : Ct Tryz.prog 14 ⟨[(Qf a v0_a), (Qf b v1_b)]⟩ H L (cR H L (YG.out r)) := by
 refine XR (O := YG.out r) ?_
 have hle : H.le H := .refl _
 unfold YG.f at he
 refine QP (args := [_, _]) fn_14 rfl nt_14 rfl <| wR rfl <| wB (Qf a v0_a) rfl rfl rfl <| fun b1 => wB (Qf b v1_b) rfl rfl rfl <| fun b2 => wN zr37 rfl rfl fun b3 => wE <| bK he fun y4 hy5 he => XJ (p := 3) (tl := [3, 4]) [[], [], [(1, some 6)]] [some 5, some 6, some 7] (fctF (.is (Qf a v0_a) :: .is (Qf b v1_b) :: .of (XS.out y4) (XS.out_mono _) :: [])) (fun m_ => bx b3 [.bool false, .slice none 0 0] 37 :: bx b2 (QN b v1_b) 37 :: bx b1 (QN a v0_a) 37 :: L) (fun _ => none) mixed (by kernel_rfl) (by kernel_rfl) rfl (Xv (by kernel_rfl)) ⟨(fun H' m_ hH hm_ hu_ => dn <| s_d (m_ 0) rfl (QS (v := (Qf a v0_a)) ty37 rfl .h2 rfl rfl rfl rfl) (by exact rfl) rfl), (fun H' m_ hH hm_ hu_ => dn <| s_d (m_ 1) rfl (QS (v := (Qf b v1_b)) ty37 rfl .h1 rfl rfl rfl rfl) (by exact rfl) rfl), (by rintro H' m_ hH hm_ hu_ _ rfl; exact dn <| s_k (m_ 2) rfl (Qm co63 (vs := [(Qf b v1_b)]) rfl (XS.calls k (a := b) hy5 (h1_b.mono hH))) rfl (by rintro v_ H_ _ ⟨rfl, e_, h_⟩; exact ⟨rfl, e_, h_⟩)), trivial⟩ ?_
 intro H10 e11
 rintro _ _ rfl _ _ rfl _ _ ⟨v8, rfl, h9⟩
 refine bK he fun y12 hy13 he => w_a rfl (Qm co17 (vs := [(Qf a v0_a), (Qf y4 v8)]) rfl (Ym.calls k (a := a) (b := y4) hy13 (h0_a.mono e11) h9)) ?_
 rintro _ H14 _ ⟨rfl, e15, v16, rfl, h17⟩
 refine wS (Qf y12 v16) sz37 rfl rfl rfl rfl rfl (Xu h17) .here u2 <| Qa ?_
 obtain rfl := sj he
 refine Qi fn_14 rs_14 (.box (v := (Qf y12 v16)) rfl ty37 rfl rfl .here rfl .nil) <| ⟨⟨[_, _, _], rfl⟩, hle.trans (e11.trans e15), ⟨v16, rfl, h17⟩⟩
noncomputable def Qo.C : Code := (Tryz.f65.body).getD .skip
def Qo.out (r : Qg × Qg) (H : Hp) (v : Value) : Prop := ∃ v0 v1, v = .tuple ⟨[(Qf r.1 v0), (Qf r.2 v1)]⟩ ∧ Ro kI64 H v0 r.1.f_D ∧ Ro kI64 H v1 r.2.f_D
abbrev Qo.R (H0 : Hp) (L : Items) (r : Qg × Qg) := fR H0 L (Qo.out r)
structure Qo.Hs where
 l0 : Bool → (List Int) → Bool → (List Int) → (List Int) → (List Int) → Int → Option (Qg × Qg)
 l1 : Bool → (List Int) → Bool → (List Int) → (List Int) → (List Int) → Int → Option (Qg × Qg)
noncomputable def Qo.b0 (k : Nat) (h : Qo.Hs) (a_0 : Bool) (a_1 : List Int) (b_0 : Bool) (b_1 rest q : List Int) (i : Int) : Option (Qg × Qg) := if 0 ≤ i then (if (0 : Int) ≤ i ∧ i < (a_1.length : Int) then (if [rd a_1 i].length + rest.length ≤ 17592186044288 then ((QH.f k ([rd a_1 i] ++ rest)).bind fun y21 => h.l1 a_0 a_1 b_0 b_1 y21 q i) else none) else none) else ((QH.f k q).bind fun y30 => (Xp.f k (!(a_0 == b_0)) y30).bind fun y36 => (Xp.f k false rest).bind fun y45 => if (a_0 && (decide (0 < (rest.length : Int)))) = true then ((Qh.f k b_1 rest).bind fun y56 => (Xp.f k false y56).bind fun y62 => if b_0 = true then ((Qs.f k 1).bind fun y69 => (Ym.f k y36 y69).bind fun y77 => some (y77, y62)) else ((Qs.f k 1).bind fun y85 => (YG.f k y36 y85).bind fun y93 => some (y93, y62))) else (some (y36, y45)))
noncomputable def Qo.b1 (k : Nat) (h : Qo.Hs) (a_0 : Bool) (a_1 : List Int) (b_0 : Bool) (b_1 rest q : List Int) (i : Int) : Option (Qg × Qg) := (QR.f k rest b_1).bind fun y103 => if (!y103) = true then ((Qh.f k rest b_1).bind fun y108 => if (0 : Int) ≤ i ∧ i < (q.length : Int) then (if (0 : Int) ≤ i ∧ i < (q.length : Int) then (h.l1 a_0 a_1 b_0 b_1 y108 (q.set (i : Int).toNat (w64 ((rd q i) + 1))) i) else none) else none) else (h.l0 a_0 a_1 b_0 b_1 rest q (w64 (i - 1)))
noncomputable def Qo.hs : Nat → Qo.Hs
 | 0 => ⟨fun _ _ _ _ _ _ _ => none, fun _ _ _ _ _ _ _ => none⟩
 | k + 1 => ⟨fun x0 x1 x2 x3 x4 x5 x6 => Qo.b0 k (Qo.hs k) x0 x1 x2 x3 x4 x5 x6, fun x0 x1 x2 x3 x4 x5 x6 => Qo.b1 k (Qo.hs k) x0 x1 x2 x3 x4 x5 x6⟩
noncomputable def Qo.f (k : Nat) (a b : Qg) : Option (Qg × Qg) := (fun h : Qo.Hs => if 0 ≤ (a.f_D.length : Int) ∧ (a.f_D.length : Int) ≤ 35184372088832 then (h.l0 a.f_Neg a.f_D b.f_Neg b.f_D [] (List.replicate ((a.f_D.length : Int) : Int).toNat (0 : Int)) (w64 ((a.f_D.length : Int) - 1))) else none) (Qo.hs k)
noncomputable def Qo.Kl0 : List Item := .code (lopB (blkB (seqR (seqL (seqR (seqR (seqR Qo.C))))))) :: .inLoop (lopB (blkB (seqR (seqL (seqR (seqR (seqR Qo.C))))))) :: .inBlock 0 :: .code (seqR (seqR (seqR (seqR Qo.C)))) :: []
noncomputable def Qo.Kl1 : List Item := .code (lopB (blkB (seqR (blkB (seqL (seqR (lopB (blkB (seqR (seqL (seqR (seqR (seqR Qo.C))))))))))))) :: .inLoop (lopB (blkB (seqR (blkB (seqL (seqR (lopB (blkB (seqR (seqL (seqR (seqR (seqR Qo.C))))))))))))) :: .inBlock 2 :: .inBlock 1 :: .code (seqR (seqR (lopB (blkB (seqR (seqL (seqR (seqR (seqR Qo.C))))))))) :: .inLoop (lopB (blkB (seqR (seqL (seqR (seqR (seqR Qo.C))))))) :: .inBlock 0 :: .code (seqR (seqR (seqR (seqR Qo.C)))) :: []
structure Qo.OK (h : Qo.Hs) : Prop where
 l0 : ∀ {H0 H : Hp} {L : Items} {r : Qg × Qg} {jk_ : Nat → Value} {a_0 : Bool} {a_1 : List Int} {b_0 : Bool} {b_1 : List Int} {rest : List Int} {q : List Int} {i : Int} {v_a_1 : Value} {v_b_1 : Value} {v_rest : Value} {v_q : Value} {i_q : Item'} {b_a : Nat} {b_b : Nat} {b_t4 : Nat} {b_t5 : Nat} (_ : H0.le H) (_he : h.l0 a_0 a_1 b_0 b_1 rest q i = some r) (_h_a_1 : Ro kI64 H v_a_1 a_1) (_h_b_1 : Ro kI64 H v_b_1 b_1) (_h_rest : Ro kI64 H v_rest rest) (_h_q : Sl kI64 H 3 i_q v_q q), Wp Tryz.prog 65 79 Qo.Kl0 (upd (upd (upd (upd (upd (upd (upd jk_ 2 (pt b_a)) 3 (pt b_b)) 4 (pt b_t4)) 5 (pt b_t5)) 6 (v_rest)) 7 (v_q)) 8 (.int .i64 i)) H (i_q :: bx b_t5 [.bool false, .slice none 0 0] 37 :: bx b_t4 [.bool false, .slice none 0 0] 37 :: bx b_b [.bool b_0, v_b_1] 37 :: bx b_a [.bool a_0, v_a_1] 37 :: L) (Qo.R H0 L r)
 l1 : ∀ {H0 H : Hp} {L : Items} {r : Qg × Qg} {jk_ : Nat → Value} {a_0 : Bool} {a_1 : List Int} {b_0 : Bool} {b_1 : List Int} {rest : List Int} {q : List Int} {i : Int} {v_a_1 : Value} {v_b_1 : Value} {v_rest : Value} {v_q : Value} {i_q : Item'} {b_a : Nat} {b_b : Nat} {b_t4 : Nat} {b_t5 : Nat} (_ : H0.le H) (_he : h.l1 a_0 a_1 b_0 b_1 rest q i = some r) (_h_a_1 : Ro kI64 H v_a_1 a_1) (_h_b_1 : Ro kI64 H v_b_1 b_1) (_h_rest : Ro kI64 H v_rest rest) (_h_q : Sl kI64 H 3 i_q v_q q), Wp Tryz.prog 65 79 Qo.Kl1 (upd (upd (upd (upd (upd (upd (upd jk_ 2 (pt b_a)) 3 (pt b_b)) 4 (pt b_t4)) 5 (pt b_t5)) 6 (v_rest)) 7 (v_q)) 8 (.int .i64 i)) H (i_q :: bx b_t5 [.bool false, .slice none 0 0] 37 :: bx b_t4 [.bool false, .slice none 0 0] 37 :: bx b_b [.bool b_0, v_b_1] 37 :: bx b_a [.bool a_0, v_a_1] 37 :: L) (Qo.R H0 L r)
theorem Qo.b0_ok {k : Nat} {h : Qo.Hs} (hh : Qo.OK h) {H0 H : Hp} {L : Items} {r : Qg × Qg} {jk_ : Nat → Value} {a_0 : Bool} {a_1 : List Int} {b_0 : Bool} {b_1 rest q : List Int} {i : Int} {v_a_1 v_b_1 v_rest v_q : Value} {i_q : Item'} {b_a b_b b_t4 b_t5 : Nat} (hle : H0.le H) (he : Qo.b0 k h a_0 a_1 b_0 b_1 rest q i = some r) (h_a_1 : Ro kI64 H v_a_1 a_1) (h_b_1 : Ro kI64 H v_b_1 b_1) (h_rest : Ro kI64 H v_rest rest) (h_q : Sl kI64 H 3 i_q v_q q) : Wp Tryz.prog 65 79 Qo.Kl0 (upd (upd (upd (upd (upd (upd (upd jk_ 2 (pt b_a)) 3 (pt b_b)) 4 (pt b_t4)) 5 (pt b_t5)) 6 (v_rest)) 7 (v_q)) 8 (.int .i64 i)) H (i_q :: bx b_t5 [.bool false, .slice none 0 0] 37 :: bx b_t4 [.bool false, .slice none 0 0] 37 :: bx b_b [.bool b_0, v_b_1] 37 :: bx b_a [.bool a_0, v_a_1] 37 :: L) (Qo.R H0 L r) := by
 unfold Qo.b0 at he
 unfold Qo.Kl0
 refine QV <| wR rfl <| wM (.int .i64 i) rfl rfl <| w_d rfl (ZB rfl rfl) <| Qa ?_
 rcases its he with ⟨c9, he⟩ | ⟨c9, he⟩
 ·
  refine Qy rfl (dt c9) <| QA <| QV <| QU <| wR rfl <| w_d rfl (Xe (o' := 1) Tryz.underlying37 rfl sz35 rfl rfl rfl) <| wL v_a_1 ty35 rfl rfl .h4 rfl rfl <| wM (.int .i64 i) rfl rfl <| rK he fun c10 he => w_d rfl (XM (sz := 1) Tryz.underlying35 sz3 rfl h_a_1.src rfl c10) <| w_d rfl (XL ty3 rfl h_a_1.src c10) ?_
  refine w_a rfl (o_buildSlice' (kd := kI64) (css := [[.int .i64 (rd a_1 i)]]) (xs := [rd a_1 i]) (parts := [(0, .int .i64 (rd a_1 i))]) Tryz.underlying35 ti3 rfl ⟨_, _, rfl, rfl, rfl⟩ ⟨rfl, trivial⟩ rfl (by decide)) ?_
  rintro v11 _ _ ⟨i12, rfl, rfl, h13⟩
  refine wM v_rest rfl rfl <| rK he fun c14 he => w_a rfl (o_append' (kd := kI64) (F := fun z_ => z_ :: i_q :: bx b_t5 [.bool false, .slice none 0 0] 37 :: bx b_t4 [.bool false, .slice none 0 0] 37 :: bx b_b [.bool b_0, v_b_1] 37 :: bx b_a [.bool a_0, v_a_1] 37 :: L) Tryz.underlying35 Tryz.underlying35 ti3 rfl (by first | omega | (simp only [List.nil_append, List.length_cons, List.length_nil]; omega)) rfl rfl h13 h_rest.src (fun _ => .here)) ?_
  rintro v15 _ _ ⟨i16, rfl, rfl, h17⟩
  refine Yv h17 .here ?_
  intro H18 e19 h20
  refine bK he fun y21 hy22 he => w_a rfl (Qm co67 (vs := [v15]) rfl (QH.calls k hy22 h20)) ?_
  rintro v25 H23 _ ⟨rfl, e24, h26⟩
  refine wA v25 rfl rfl <| Qa <| QU <| X3 <| YD .here <| w_sl 2 (pt b_a) rfl <| w_sl 3 (pt b_b) rfl <| w_sl 4 (pt b_t4) rfl <| w_sl 5 (pt b_t5) rfl <| w_sl 6 (v25) rfl <| w_sl 7 (v_q) rfl <| w_sl 8 (.int .i64 i) rfl <| hh.l1 (hle.trans (e19.trans e24)) he (h_a_1.mono (e19.trans e24)) (h_b_1.mono (e19.trans e24)) h26 (h_q.mono (e19.trans e24))
 ·
  refine QB rfl (df c9) <| X1 rfl <| QV <| Yv h_q .here ?_
  intro H27 e28 h29
  refine bK he fun y30 hy31 he => bK he fun y36 hy37 he => ?_
  refine YM (?_)
  refine XJ (p := 9) (tl := [9]) [[], [(0, some 47)], [], [(2, some 49)], [(1, some 48), (3, some 50)], [], [(5, some 52)], [(4, some 51), (6, some 53)], []] [some 47, some 48, some 49, some 50, some 51, some 52, some 53, some 54, some 9] (fctF (.is (pt b_a) :: .is (.bool a_0) :: .is (pt b_b) :: .is (.bool b_0) :: .is (.bool (!(a_0 == b_0))) :: .is (v_q) :: .ro kI64 (y30) :: .of (Xp.out y36) (Xp.out_mono _) :: .box 37 [.bool false, .slice none 0 0] :: [])) (fun m_ => m_ 8 :: none :: bx b_t5 [.bool false, .slice none 0 0] 37 :: bx b_t4 [.bool false, .slice none 0 0] 37 :: bx b_b [.bool b_0, v_b_1] 37 :: bx b_a [.bool a_0, v_a_1] 37 :: L) (fun _ => none) mixed (by kernel_rfl) (by kernel_rfl) rfl (Xv (by kernel_rfl)) ⟨(fun H' m_ hH hm_ hu_ => dn <| s_d (m_ 0) rfl (Xe (o' := 0) Tryz.underlying37 rfl sz4 rfl rfl rfl) (by exact rfl) rfl), (by rintro H' m_ hH hm_ hu_ _ rfl; exact dn <| s_d (m_ 1) rfl (QS (v := .bool a_0) ty4 rfl .h5 rfl rfl rfl rfl) (by exact rfl) rfl), (fun H' m_ hH hm_ hu_ => dn <| s_d (m_ 2) rfl (Xe (o' := 0) Tryz.underlying37 rfl sz4 rfl rfl rfl) (by exact rfl) rfl), (by rintro H' m_ hH hm_ hu_ _ rfl; exact dn <| s_d (m_ 3) rfl (QS (v := .bool b_0) ty4 rfl .h4 rfl rfl rfl rfl) (by exact rfl) rfl), (by rintro H' m_ hH hm_ hu_ _ rfl _ rfl; exact dn <| s_d (m_ 4) rfl (GF (a := a_0) (b := b_0) Tryz.underlying4 rfl rfl) (by exact rfl) rfl), (fun H' m_ hH hm_ hu_ => dn <| s_d (m_ 5) rfl (QF (v := v_q) rfl) (by exact rfl) rfl), (by rintro H' m_ hH hm_ hu_ _ rfl; exact dn <| s_k (m_ 6) rfl (Qm co67 (vs := [v_q]) rfl (QH.calls k hy31 (h29.mono hH))) rfl (by rintro v_ H_ _ ⟨rfl, e_, h_⟩; exact ⟨rfl, e_, h_⟩)), (by rintro H' m_ hH hm_ hu_ _ rfl v34 (h35 : Ro kI64 H' v34 y30); exact dn <| s_k (m_ 7) rfl (Qm co66 (vs := [.bool (!(a_0 == b_0)), v34]) rfl (Xp.calls k hy37 h35)) rfl (by rintro v_ H_ _ ⟨rfl, e_, h_⟩; exact ⟨rfl, e_, h_⟩)), (fun H' m_ hH hm_ hu_ => dn <| ZS hm_ rfl rfl (Y5 zr37 rfl) rfl (fun _ => .here) (by exact fun b_ => ⟨b_, rfl, rfl⟩)), trivial⟩ ?_
  intro H43 e44
  rintro _ _ rfl _ _ rfl _ _ rfl _ _ rfl _ _ rfl _ _ rfl v34 _ (h35 : Ro kI64 H43 v34 y30) _ _ ⟨v40, rfl, h41⟩ _ _ ⟨b42, rfl, rfl⟩
  refine wS (Qf y36 v40) sz37 rfl rfl rfl rfl rfl (Xu h41) .here u2 <| wQ rfl <| wM v_rest rfl rfl <| bK he fun y45 hy46 he => w_a rfl (Qm co66 (vs := [.bool false, v_rest]) rfl (Xp.calls k hy46 (h_rest.mono (e28.trans e44)))) ?_
  rintro _ H47 _ ⟨rfl, e48, v49, rfl, h50⟩
  refine wN zr37 rfl rfl fun b51 => wS (Qf y45 v49) sz37 rfl rfl rfl rfl rfl (Xu h50) .here u2 <| wE <| wR rfl <| w_d rfl (Xe (o' := 0) Tryz.underlying37 rfl sz4 rfl rfl rfl) <| w_d rfl (QS (v := .bool a_0) ty4 rfl .h6 rfl rfl rfl rfl) <| wM (.bool a_0) rfl rfl <| w_g (g := a_0) rfl rfl rfl wn_t (fun g52 => QF (v := v_rest) rfl) <| w_g (g := a_0) rfl rfl rfl wn_t (fun g53 => Xq Tryz.underlying35 (cvt g53) (h_rest.mono ((e28.trans e44).trans e48)).src) <| w_g (g := a_0) rfl rfl rfl wn_t (fun g54 => YR (cvt g54) rfl) ?_
  refine w_d rfl (d_and' (b := a_0) (p := (decide (0 < (rest.length : Int)))) rfl rfl rfl) <| Qa ?_
  rcases its he with ⟨c55, he⟩ | ⟨c55, he⟩
  ·
   refine Qy rfl c55 <| wR rfl <| w_d rfl (Xe (o' := 1) Tryz.underlying37 rfl sz35 rfl rfl rfl) <| w_d rfl (QS (v := v_b_1) ty35 rfl .h5 rfl rfl rfl rfl) <| wM v_rest rfl rfl <| bK he fun y56 hy57 he => w_a rfl (Qm co70 (vs := [v_b_1, v_rest]) rfl (Qh.calls k hy57 ((h_b_1.mono ((e28.trans e44).trans e48)).src) ((h_rest.mono ((e28.trans e44).trans e48)).src))) ?_
   rintro v60 H58 _ ⟨rfl, e59, h61⟩
   refine bK he fun y62 hy63 he => w_a rfl (Qm co66 (vs := [.bool false, v60]) rfl (Xp.calls k hy63 h61)) ?_
   rintro _ H64 _ ⟨rfl, e65, v66, rfl, h67⟩
   refine wS (Qf y62 v66) sz37 rfl rfl rfl rfl rfl (Xu h67) .here u2 <| wQ rfl <| w_d rfl (Xe (o' := 0) Tryz.underlying37 rfl sz4 rfl rfl rfl) <| w_d rfl (QS (v := .bool b_0) ty4 rfl .h5 rfl rfl rfl rfl) <| Qa ?_
   rcases its he with ⟨c68, he⟩ | ⟨c68, he⟩
   ·
    refine Qy rfl c68 <| bK he fun y69 hy70 he => XJ (p := 2) (tl := [2, 3]) [[], []] [some 71, some 72] (fctF (.is (Qf y36 v40) :: .of (Qs.out y69) (Qs.out_mono _) :: [])) (fun m_ => bx b51 (QN y62 v66) 37 :: bx b42 (QN y36 v40) 37 :: none :: bx b_t5 [.bool false, .slice none 0 0] 37 :: bx b_t4 [.bool false, .slice none 0 0] 37 :: bx b_b [.bool b_0, v_b_1] 37 :: bx b_a [.bool a_0, v_a_1] 37 :: L) (fun _ => none) mixed (by kernel_rfl) (by kernel_rfl) rfl (Xv (by kernel_rfl)) ⟨(fun H' m_ hH hm_ hu_ => dn <| s_d (m_ 0) rfl (QS (v := (Qf y36 v40)) ty37 rfl .h1 rfl rfl rfl rfl) (by exact rfl) rfl), (fun H' m_ hH hm_ hu_ => dn <| s_k (m_ 1) rfl (Qm co16 (vs := [.int .i64 1]) rfl (Qs.calls k hy70)) rfl (by rintro v_ H_ _ ⟨rfl, e_, h_⟩; exact ⟨rfl, e_, h_⟩)), trivial⟩ ?_
    intro H75 e76
    rintro _ _ rfl _ _ ⟨v73, rfl, h74⟩
    refine bK he fun y77 hy78 he => w_a rfl (Qm co17 (vs := [(Qf y36 v40), (Qf y69 v73)]) rfl (Ym.calls k (a := y36) (b := y69) hy78 (h41.mono (((e48.trans e59).trans e65).trans e76)) h74)) ?_
    rintro _ H79 _ ⟨rfl, e80, v81, rfl, h82⟩
    refine wS (Qf y77 v81) sz37 rfl rfl rfl rfl rfl (Xu h82) .h1 u2 <| wE <| XJ (p := 3) (tl := [3]) [[], [], [(0, some 77)]] [some 77, some 78, none] (fctF (.is (Qf y77 v81) :: .is (Qf y62 v66) :: .itm (fun H itq_ => itq_ = bx b_t4 (QN y77 v81) 37) (by rintro _ _ _ hle rfl; exact rfl) :: [])) (fun m_ => bx b51 (QN y62 v66) 37 :: bx b42 (QN y77 v81) 37 :: none :: bx b_t5 [.bool false, .slice none 0 0] 37 :: m_ 2 :: bx b_b [.bool b_0, v_b_1] 37 :: bx b_a [.bool a_0, v_a_1] 37 :: L) (fun i_ => if i_ = 2 then bx b_t4 [.bool false, .slice none 0 0] 37 else none) mixed (by kernel_rfl) (by kernel_rfl) rfl (Xv (by kernel_rfl)) ⟨(fun H' m_ hH hm_ hu_ => dn <| s_d (m_ 0) rfl (QS (v := (Qf y77 v81)) ty37 rfl .h1 rfl rfl rfl rfl) (by exact rfl) rfl), (fun H' m_ hH hm_ hu_ => dn <| s_d (m_ 1) rfl (QS (v := (Qf y62 v66)) ty37 rfl .here rfl rfl rfl rfl) (by exact rfl) rfl), (by rintro H' m_ hH hm_ hu_ _ rfl; exact dn <| Zv (bx b_t4 (QN y77 v81) 37) hm_ rfl (YE (v := (Qf y77 v81)) sz37 rfl rfl rfl rfl (oc rfl (oc (h82.one) oz)) .h4 u2) rfl (by exact ⟨rfl, rfl⟩)), trivial⟩ ?_
    intro H83 e84
    rintro _ _ rfl _ _ rfl _ _ ⟨rfl, rfl⟩
    refine w_it (L' := bx b51 (QN y62 v66) 37 :: bx b42 (QN y77 v81) 37 :: none :: bx b_t5 [.bool false, .slice none 0 0] 37 :: bx b_t4 (QN y77 v81) 37 :: bx b_b [.bool b_0, v_b_1] 37 :: bx b_a [.bool a_0, v_a_1] 37 :: L) rfl <| wS (Qf y62 v66) sz37 rfl rfl rfl rfl rfl (Xu h67) .h3 u2 <| Qa ?_
    obtain rfl := sj he
    refine Qi fn_65 rs_65 (.box (v := (Qf y77 v81)) rfl ty37 rfl rfl .h4 rfl (.box (v := (Qf y62 v66)) rfl ty37 rfl rfl .h3 rfl .nil)) <| ⟨⟨[_, _, _, _, _, _, _], rfl⟩, hle.trans (((((((e28.trans e44).trans e48).trans e59).trans e65).trans e76).trans e80).trans e84), ⟨v81, v66, rfl, (h82.mono e84), (h67.mono ((e76.trans e80).trans e84))⟩⟩
   ·
    refine QB rfl (Bool.eq_false_iff.2 c68) <| bK he fun y85 hy86 he => XJ (p := 2) (tl := [2, 3]) [[], []] [some 74, some 75] (fctF (.is (Qf y36 v40) :: .of (Qs.out y85) (Qs.out_mono _) :: [])) (fun m_ => bx b51 (QN y62 v66) 37 :: bx b42 (QN y36 v40) 37 :: none :: bx b_t5 [.bool false, .slice none 0 0] 37 :: bx b_t4 [.bool false, .slice none 0 0] 37 :: bx b_b [.bool b_0, v_b_1] 37 :: bx b_a [.bool a_0, v_a_1] 37 :: L) (fun _ => none) mixed (by kernel_rfl) (by kernel_rfl) rfl (Xv (by kernel_rfl)) ⟨(fun H' m_ hH hm_ hu_ => dn <| s_d (m_ 0) rfl (QS (v := (Qf y36 v40)) ty37 rfl .h1 rfl rfl rfl rfl) (by exact rfl) rfl), (fun H' m_ hH hm_ hu_ => dn <| s_k (m_ 1) rfl (Qm co16 (vs := [.int .i64 1]) rfl (Qs.calls k hy86)) rfl (by rintro v_ H_ _ ⟨rfl, e_, h_⟩; exact ⟨rfl, e_, h_⟩)), trivial⟩ ?_
    intro H91 e92
    rintro _ _ rfl _ _ ⟨v89, rfl, h90⟩
    refine bK he fun y93 hy94 he => w_a rfl (Qm co14 (vs := [(Qf y36 v40), (Qf y85 v89)]) rfl (YG.calls k (a := y36) (b := y85) hy94 (h41.mono (((e48.trans e59).trans e65).trans e92)) h90)) ?_
    rintro _ H95 _ ⟨rfl, e96, v97, rfl, h98⟩
    refine wS (Qf y93 v97) sz37 rfl rfl rfl rfl rfl (Xu h98) .h1 u2 <| wE <| XJ (p := 3) (tl := [3]) [[], [], [(0, some 77)]] [some 77, some 78, none] (fctF (.is (Qf y93 v97) :: .is (Qf y62 v66) :: .itm (fun H itq_ => itq_ = bx b_t4 (QN y93 v97) 37) (by rintro _ _ _ hle rfl; exact rfl) :: [])) (fun m_ => bx b51 (QN y62 v66) 37 :: bx b42 (QN y93 v97) 37 :: none :: bx b_t5 [.bool false, .slice none 0 0] 37 :: m_ 2 :: bx b_b [.bool b_0, v_b_1] 37 :: bx b_a [.bool a_0, v_a_1] 37 :: L) (fun i_ => if i_ = 2 then bx b_t4 [.bool false, .slice none 0 0] 37 else none) mixed (by kernel_rfl) (by kernel_rfl) rfl (Xv (by kernel_rfl)) ⟨(fun H' m_ hH hm_ hu_ => dn <| s_d (m_ 0) rfl (QS (v := (Qf y93 v97)) ty37 rfl .h1 rfl rfl rfl rfl) (by exact rfl) rfl), (fun H' m_ hH hm_ hu_ => dn <| s_d (m_ 1) rfl (QS (v := (Qf y62 v66)) ty37 rfl .here rfl rfl rfl rfl) (by exact rfl) rfl), (by rintro H' m_ hH hm_ hu_ _ rfl; exact dn <| Zv (bx b_t4 (QN y93 v97) 37) hm_ rfl (YE (v := (Qf y93 v97)) sz37 rfl rfl rfl rfl (oc rfl (oc (h98.one) oz)) .h4 u2) rfl (by exact ⟨rfl, rfl⟩)), trivial⟩ ?_
    intro H99 e100
    rintro _ _ rfl _ _ rfl _ _ ⟨rfl, rfl⟩
    refine w_it (L' := bx b51 (QN y62 v66) 37 :: bx b42 (QN y93 v97) 37 :: none :: bx b_t5 [.bool false, .slice none 0 0] 37 :: bx b_t4 (QN y93 v97) 37 :: bx b_b [.bool b_0, v_b_1] 37 :: bx b_a [.bool a_0, v_a_1] 37 :: L) rfl <| wS (Qf y62 v66) sz37 rfl rfl rfl rfl rfl (Xu h67) .h3 u2 <| Qa ?_
    obtain rfl := sj he
    refine Qi fn_65 rs_65 (.box (v := (Qf y93 v97)) rfl ty37 rfl rfl .h4 rfl (.box (v := (Qf y62 v66)) rfl ty37 rfl rfl .h3 rfl .nil)) <| ⟨⟨[_, _, _, _, _, _, _], rfl⟩, hle.trans (((((((e28.trans e44).trans e48).trans e59).trans e65).trans e92).trans e96).trans e100), ⟨v97, v66, rfl, (h98.mono e100), (h67.mono ((e92.trans e96).trans e100))⟩⟩
  ·
   refine QB rfl (Bool.eq_false_iff.2 c55) <| QA <| QV <| XJ (p := 3) (tl := [3]) [[], [], [(0, some 77)]] [some 77, some 78, none] (fctF (.is (Qf y36 v40) :: .is (Qf y45 v49) :: .itm (fun H itq_ => itq_ = bx b_t4 (QN y36 v40) 37) (by rintro _ _ _ hle rfl; exact rfl) :: [])) (fun m_ => bx b51 (QN y45 v49) 37 :: bx b42 (QN y36 v40) 37 :: none :: bx b_t5 [.bool false, .slice none 0 0] 37 :: m_ 2 :: bx b_b [.bool b_0, v_b_1] 37 :: bx b_a [.bool a_0, v_a_1] 37 :: L) (fun i_ => if i_ = 2 then bx b_t4 [.bool false, .slice none 0 0] 37 else none) mixed (by kernel_rfl) (by kernel_rfl) rfl (Xv (by kernel_rfl)) ⟨(fun H' m_ hH hm_ hu_ => dn <| s_d (m_ 0) rfl (QS (v := (Qf y36 v40)) ty37 rfl .h1 rfl rfl rfl rfl) (by exact rfl) rfl), (fun H' m_ hH hm_ hu_ => dn <| s_d (m_ 1) rfl (QS (v := (Qf y45 v49)) ty37 rfl .here rfl rfl rfl rfl) (by exact rfl) rfl), (by rintro H' m_ hH hm_ hu_ _ rfl; exact dn <| Zv (bx b_t4 (QN y36 v40) 37) hm_ rfl (YE (v := (Qf y36 v40)) sz37 rfl rfl rfl rfl (oc rfl (oc (h41.one) oz)) .h4 u2) rfl (by exact ⟨rfl, rfl⟩)), trivial⟩ ?_
   intro H101 e102
   rintro _ _ rfl _ _ rfl _ _ ⟨rfl, rfl⟩
   refine w_it (L' := bx b51 (QN y45 v49) 37 :: bx b42 (QN y36 v40) 37 :: none :: bx b_t5 [.bool false, .slice none 0 0] 37 :: bx b_t4 (QN y36 v40) 37 :: bx b_b [.bool b_0, v_b_1] 37 :: bx b_a [.bool a_0, v_a_1] 37 :: L) rfl <| wS (Qf y45 v49) sz37 rfl rfl rfl rfl rfl (Xu h50) .h3 u2 <| Qa ?_
   obtain rfl := sj he
   refine Qi fn_65 rs_65 (.box (v := (Qf y36 v40)) rfl ty37 rfl rfl .h4 rfl (.box (v := (Qf y45 v49)) rfl ty37 rfl rfl .h3 rfl .nil)) <| ⟨⟨[_, _, _, _, _, _, _], rfl⟩, hle.trans (((e28.trans e44).trans e48).trans e102), ⟨v40, v49, rfl, (h41.mono (e48.trans e102)), (h50.mono e102)⟩⟩
theorem Qo.b1_ok {k : Nat} {h : Qo.Hs} (hh : Qo.OK h) {H0 H : Hp} {L : Items} {r : Qg × Qg} {jk_ : Nat → Value} {a_0 : Bool} {a_1 : List Int} {b_0 : Bool} {b_1 rest q : List Int} {i : Int} {v_a_1 v_b_1 v_rest v_q : Value} {i_q : Item'} {b_a b_b b_t4 b_t5 : Nat} (hle : H0.le H) (he : Qo.b1 k h a_0 a_1 b_0 b_1 rest q i = some r) (h_a_1 : Ro kI64 H v_a_1 a_1) (h_b_1 : Ro kI64 H v_b_1 b_1) (h_rest : Ro kI64 H v_rest rest) (h_q : Sl kI64 H 3 i_q v_q q) : Wp Tryz.prog 65 79 Qo.Kl1 (upd (upd (upd (upd (upd (upd (upd jk_ 2 (pt b_a)) 3 (pt b_b)) 4 (pt b_t4)) 5 (pt b_t5)) 6 (v_rest)) 7 (v_q)) 8 (.int .i64 i)) H (i_q :: bx b_t5 [.bool false, .slice none 0 0] 37 :: bx b_t4 [.bool false, .slice none 0 0] 37 :: bx b_b [.bool b_0, v_b_1] 37 :: bx b_a [.bool a_0, v_a_1] 37 :: L) (Qo.R H0 L r) := by
 unfold Qo.b1 at he
 unfold Qo.Kl1
 refine QV <| wR rfl <| wM v_rest rfl rfl <| w_d rfl (Xe (o' := 1) Tryz.underlying37 rfl sz35 rfl rfl rfl) <| wL v_b_1 ty35 rfl rfl .h3 rfl rfl <| bK he fun y103 hy104 he => w_d rfl (Xs (Qm co69 (vs := [v_rest, v_b_1]) rfl (QR.calls k hy104 h_rest.src h_b_1.src))) <| w_d rfl (Zz (b := y103) rfl) <| Qa ?_
 rcases its he with ⟨c107, he⟩ | ⟨c107, he⟩
 ·
  refine Qy rfl c107 <| QA <| QU <| wR rfl <| wM v_rest rfl rfl <| w_d rfl (Xe (o' := 1) Tryz.underlying37 rfl sz35 rfl rfl rfl) <| wL v_b_1 ty35 rfl rfl .h3 rfl rfl <| bK he fun y108 hy109 he => w_a rfl (Qm co70 (vs := [v_rest, v_b_1]) rfl (Qh.calls k hy109 h_rest.src h_b_1.src)) ?_
  rintro v112 H110 _ ⟨rfl, e111, h113⟩
  refine wA v112 rfl rfl <| Qa <| QD rfl <| wM v_q rfl rfl <| wM (.int .i64 i) rfl rfl <| rK he fun c114 he => w_d rfl (YF (sz := 1) Tryz.underlying35 sz3 rfl (h_q.mono e111).shp rfl c114) <| w_d rfl (XL ty3 rfl ((h_q.mono e111).src .here) c114) <| w_d rfl (Xt (c := w64 ((rd q i) + 1)) rfl rfl rfl) <| rK he fun c115 he => w_d rfl (YF (sz := 1) Tryz.underlying35 sz3 rfl (h_q.mono e111).shp rfl c115) <| w_a0 rfl (Y4 (kd := kI64) (v := .int .i64 (w64 ((rd q i) + 1))) (F := fun z_ => z_ :: bx b_t5 [.bool false, .slice none 0 0] 37 :: bx b_t4 [.bool false, .slice none 0 0] 37 :: bx b_b [.bool b_0, v_b_1] 37 :: bx b_a [.bool a_0, v_a_1] 37 :: L) sz3 rfl rfl rfl rfl (h_q.mono e111) c115 (fun _ => .here)) ?_
  rintro _ _ _ ⟨i116, rfl, rfl, rfl, h117⟩
  refine Qa <| Xk <| Xy <| w_sl 2 (pt b_a) rfl <| w_sl 3 (pt b_b) rfl <| w_sl 4 (pt b_t4) rfl <| w_sl 5 (pt b_t5) rfl <| w_sl 6 (v112) rfl <| w_sl 7 (v_q) rfl <| w_sl 8 (.int .i64 i) rfl <| hh.l1 (hle.trans e111) he (h_a_1.mono e111) (h_b_1.mono e111) h113 h117
 ·
  refine QB rfl (Bool.eq_false_iff.2 c107) <| X1 rfl <| Xk <| QD rfl <| wM (.int .i64 i) rfl rfl <| w_d rfl (Ys (c := w64 (i - 1)) rfl rfl rfl) <| wA (.int .i64 (w64 (i - 1))) rfl rfl <| Qa <| Xy <| w_sl 2 (pt b_a) rfl <| w_sl 3 (pt b_b) rfl <| w_sl 4 (pt b_t4) rfl ?_
  refine w_sl 5 (pt b_t5) rfl <| w_sl 6 (v_rest) rfl <| w_sl 7 (v_q) rfl <| w_sl 8 (.int .i64 (w64 (i - 1))) rfl <| hh.l0 hle he h_a_1 h_b_1 h_rest h_q
theorem Qo.ok : ∀ k, Qo.OK (Qo.hs k)
 | 0 => ⟨(by intros; exact nomatch (show none = some _ from by assumption)), (by intros; exact nomatch (show none = some _ from by assumption))⟩
 | k + 1 => ⟨Qo.b0_ok (k := k) (Qo.ok k), Qo.b1_ok (k := k) (Qo.ok k)⟩
theorem Qo.calls (k : Nat) {H : Hp} {L : Items} {a b : Qg} {v0_a v1_b : Value} {r : Qg × Qg} (he : Qo.f k a b = some r) (h0_a : Ro kI64 H v0_a a.f_D) (h1_b : Ro kI64 H v1_b b.f_D) : Ct Tryz.prog 65 ⟨[(Qf a v0_a), (Qf b v1_b)]⟩ H L (cR H L (Qo.out r)) := by
 refine XR (O := Qo.out r) ?_
 have hle : H.le H := .refl _
 have hh := Qo.ok k
 unfold Qo.f at he
 refine QP (args := [_, _]) fn_65 rfl nt_65 rfl <| wR rfl <| wB (Qf a v0_a) rfl rfl rfl <| fun b1 => wB (Qf b v1_b) rfl rfl rfl <| fun b2 => wN zr37 rfl rfl fun b3 => wN zr37 rfl rfl fun b4 => wQ rfl <| wA (.slice none 0 0) rfl rfl <| Qa ?_
 refine wR rfl <| w_d rfl (Xe (o' := 1) Tryz.underlying37 rfl sz35 rfl rfl rfl) <| wL v0_a ty35 rfl rfl .h3 rfl rfl <| w_d rfl (Xq Tryz.underlying35 rfl h0_a.src) <| rK he fun c5 he => w_a rfl (o_make' (kd := kI64) (z0 := 0) Tryz.underlying35 ti3 (zp3 _) rfl rfl (by omega) (by omega) (by omega)) ?_
 rintro v6 _ _ ⟨i7, rfl, rfl, h8⟩
 refine wA v6 rfl rfl <| wE <| wR rfl <| w_d rfl (Xe (o' := 1) Tryz.underlying37 rfl sz35 rfl rfl rfl) <| wL v0_a ty35 rfl rfl .h4 rfl rfl <| w_d rfl (Xq Tryz.underlying35 rfl h0_a.src) <| w_d rfl (Ys (c := w64 ((a.f_D.length : Int) - 1)) rfl rfl rfl) <| wA (.int .i64 (w64 ((a.f_D.length : Int) - 1))) rfl rfl <| Qa <| QU ?_
 refine X3 <| w_sl 2 (pt b1) rfl <| w_sl 3 (pt b2) rfl <| w_sl 4 (pt b3) rfl <| w_sl 5 (pt b4) rfl <| w_sl 6 (.slice none 0 0) rfl <| w_sl 7 (v6) rfl <| w_sl 8 (.int .i64 (w64 ((a.f_D.length : Int) - 1))) rfl <| hh.l0 hle he h0_a h1_b (Q9 _ _) h8
noncomputable def QE.C : Code := (Tryz.f13.body).getD .skip
def QE.out (r : QX) (H : Hp) (v : Value) : Prop := ∃ v0 v1, v = (YL r v0 v1) ∧ Ro kI64 H v0 r.f_N.f_D ∧ Ro kI64 H v1 r.f_D.f_D
abbrev QE.R (H0 : Hp) (L : Items) (r : QX) := fR H0 L (QE.out r)
structure QE.Hs where
 l0 : Bool → (List Int) → Bool → (List Int) → Bool → (List Int) → Bool → (List Int) → Option QX
noncomputable def QE.j1 (k : Nat) (h : QE.Hs) (n_0 : Bool) (n_1 : List Int) (d_0 : Bool) (d_1 : List Int) : Option QX := (Yb.f k ⟨n_0, n_1⟩).bind fun y23 => h.l0 n_0 n_1 d_0 d_1 y23.f_Neg y23.f_D d_0 d_1
noncomputable def QE.b0 (k : Nat) (h : QE.Hs) (n_0 : Bool) (n_1 : List Int) (d_0 : Bool) (d_1 : List Int) (a_0 : Bool) (a_1 : List Int) (b_0 : Bool) (b_1 : List Int) : Option QX := (Yj.f k ⟨b_0, b_1⟩).bind fun y37 => if y37 = 0 then ((Qo.f k ⟨n_0, n_1⟩ ⟨a_0, a_1⟩).bind fun y42 => (Qo.f k ⟨d_0, d_1⟩ ⟨a_0, a_1⟩).bind fun y52 => some (⟨y42.1, y52.1⟩)) else ((Qo.f k ⟨a_0, a_1⟩ ⟨b_0, b_1⟩).bind fun y62 => h.l0 n_0 n_1 d_0 d_1 b_0 b_1 y62.2.f_Neg y62.2.f_D)
noncomputable def QE.hs : Nat → QE.Hs
 | 0 => ⟨fun _ _ _ _ _ _ _ _ => none⟩
 | k + 1 => ⟨fun x0 x1 x2 x3 x4 x5 x6 x7 => QE.b0 k (QE.hs k) x0 x1 x2 x3 x4 x5 x6 x7⟩
noncomputable def QE.f (k : Nat) (n d : Qg) : Option QX := (fun h : QE.Hs => (Yj.f k d).bind fun y4 => if y4 < 0 then ((XS.f k n).bind fun y9 => (XS.f k d).bind fun y17 => QE.j1 k h y9.f_Neg y9.f_D y17.f_Neg y17.f_D) else (QE.j1 k h n.f_Neg n.f_D d.f_Neg d.f_D)) (QE.hs k)
noncomputable def QE.Kj1 : List Item := .code (seqR (seqR QE.C)) :: []
noncomputable def QE.Kl0 : List Item := .code (lopB (blkB (seqL (seqR (seqR (seqR QE.C)))))) :: .inLoop (lopB (blkB (seqL (seqR (seqR (seqR QE.C)))))) :: .inBlock 0 :: .code (seqR (seqR (seqR (seqR QE.C)))) :: []
structure QE.OK (h : QE.Hs) : Prop where
 l0 : ∀ {H0 H : Hp} {L : Items} {r : QX} {jk_ : Nat → Value} {n_0 : Bool} {n_1 : List Int} {d_0 : Bool} {d_1 : List Int} {a_0 : Bool} {a_1 : List Int} {b_0 : Bool} {b_1 : List Int} {v_n_1 : Value} {v_d_1 : Value} {v_a_1 : Value} {v_b_1 : Value} {b_n : Nat} {b_d : Nat} {b_t4 : Nat} {b_a : Nat} {b_b : Nat} (_ : H0.le H) (_he : h.l0 n_0 n_1 d_0 d_1 a_0 a_1 b_0 b_1 = some r) (_h_n_1 : Ro kI64 H v_n_1 n_1) (_h_d_1 : Ro kI64 H v_d_1 d_1) (_h_a_1 : Ro kI64 H v_a_1 a_1) (_h_b_1 : Ro kI64 H v_b_1 b_1), Wp Tryz.prog 13 49 QE.Kl0 (upd (upd (upd (upd (upd jk_ 2 (pt b_n)) 3 (pt b_d)) 4 (pt b_t4)) 5 (pt b_a)) 6 (pt b_b)) H (bx b_a [.bool a_0, v_a_1] 37 :: bx b_b [.bool b_0, v_b_1] 37 :: bx b_t4 z0c 40 :: bx b_d [.bool d_0, v_d_1] 37 :: bx b_n [.bool n_0, v_n_1] 37 :: L) (QE.R H0 L r)
theorem QE.j1_ok {k : Nat} {h : QE.Hs} (hh : QE.OK h) {H0 H : Hp} {L : Items} {r : QX} {jk_ : Nat → Value} {n_0 : Bool} {n_1 : List Int} {d_0 : Bool} {d_1 : List Int} {v_n_1 v_d_1 : Value} {b_n b_d b_t4 : Nat} (hle : H0.le H) (he : QE.j1 k h n_0 n_1 d_0 d_1 = some r) (h_n_1 : Ro kI64 H v_n_1 n_1) (h_d_1 : Ro kI64 H v_d_1 d_1) : Wp Tryz.prog 13 49 QE.Kj1 (upd (upd (upd jk_ 2 (pt b_n)) 3 (pt b_d)) 4 (pt b_t4)) H (bx b_t4 z0c 40 :: bx b_d [.bool d_0, v_d_1] 37 :: bx b_n [.bool n_0, v_n_1] 37 :: L) (QE.R H0 L r) := by
 unfold QE.j1 at he
 unfold QE.Kj1
 refine QV <| bK he fun y23 hy24 he => ?_
 refine YM (YM (?_))
 refine XJ (p := 6) (tl := [6]) [[], [(0, some 20)], [], [], [], [(1, some 21), (3, some 5)]] [some 20, some 21, some 22, some 5, some 6, none] (fctF (.is (.agg ⟨[.bool n_0, v_n_1]⟩) :: .of (Yb.out y23) (Yb.out_mono _) :: .is (.agg ⟨[.bool d_0, v_d_1]⟩) :: .box 37 [.bool false, .slice none 0 0] :: .box 37 [.bool false, .slice none 0 0] :: .st 3 (fun H bq_ itq_ => ∃ v31, itq_ = bx bq_ (QN y23 v31) 37 ∧ Ro kI64 H v31 y23.f_D) (by rintro _ _ _ _ hle ⟨v31, rfl, h32⟩; exact ⟨v31, rfl, h32.mono hle⟩) :: [])) (fun m_ => pk (m_ 5) (m_ 3) :: m_ 4 :: bx b_t4 z0c 40 :: bx b_d [.bool d_0, v_d_1] 37 :: bx b_n [.bool n_0, v_n_1] 37 :: L) (fun _ => none) mixed (by kernel_rfl) (by kernel_rfl) rfl (Xv (by kernel_rfl)) ⟨(fun H' m_ hH hm_ hu_ => dn <| s_d (m_ 0) rfl (QS (v := .agg ⟨[.bool n_0, v_n_1]⟩) ty37 rfl .h4 rfl rfl rfl rfl) (by exact rfl) rfl), (by rintro H' m_ hH hm_ hu_ _ rfl; exact dn <| s_k (m_ 1) rfl (Qm co64 (vs := [.agg ⟨[.bool n_0, v_n_1]⟩]) rfl (Yb.calls k (a := ⟨n_0, n_1⟩) hy24 (h_n_1.mono hH))) rfl (by rintro v_ H_ _ ⟨rfl, e_, h_⟩; exact ⟨rfl, e_, h_⟩)), (fun H' m_ hH hm_ hu_ => dn <| s_d (m_ 2) rfl (QS (v := .agg ⟨[.bool d_0, v_d_1]⟩) ty37 rfl .h3 rfl rfl rfl rfl) (by exact rfl) rfl), (fun H' m_ hH hm_ hu_ => dn <| ZS hm_ rfl rfl (Y5 zr37 rfl) rfl (fun _ => (Jc (hu_ 5 (by kernel_rfl)))) (by exact fun b_ => ⟨b_, rfl, rfl⟩)), (fun H' m_ hH hm_ hu_ => dn <| ZS hm_ rfl rfl (Y5 zr37 rfl) rfl (fun _ => .h1) (by exact fun b_ => ⟨b_, rfl, rfl⟩)), (by rintro H' m_ hH hm_ hu_ _ ⟨v27, rfl, h28⟩ _ ⟨b29, rfl, hb29_⟩; exact dn <| ZE (Λ' := fun z_ => z_ :: m_ 4 :: bx b_t4 z0c 40 :: bx b_d [.bool d_0, v_d_1] 37 :: bx b_n [.bool n_0, v_n_1] 37 :: L) (bx b29 (QN y23 v27) 37) hm_ rfl hb29_ rfl (YE (v := (Qf y23 v27)) sz37 rfl rfl rfl rfl (oc rfl (oc (h28.one) oz)) .here u2) rfl rfl (by exact ⟨rfl, v27, congrArg (fun b_ => (some (b_, Obj.cells ⟨(QN y23 v27)⟩ 37 (0, 0)) : Item')) (Jf hb29_).symm, h28⟩)), trivial⟩ ?_
 intro H35 e36
 rintro _ _ rfl _ _ ⟨v27, rfl, h28⟩ _ _ rfl _ _ ⟨b29, rfl, rfl⟩ _ _ ⟨b30, rfl, rfl⟩ _ i33 ⟨rfl, v31, h34, h32⟩
 replace h34 : i33 = bx b29 (QN y23 v31) 37 := h34
 subst h34
 refine w_it (L' := bx b29 (QN y23 v31) 37 :: bx b30 [.bool false, .slice none 0 0] 37 :: bx b_t4 z0c 40 :: bx b_d [.bool d_0, v_d_1] 37 :: bx b_n [.bool n_0, v_n_1] 37 :: L) rfl <| wS (.agg ⟨[.bool d_0, v_d_1]⟩) sz37 rfl rfl rfl rfl rfl (oc rfl (oc (h_d_1.one) oz)) .h1 u2 <| wE <| QU <| X3 <| w_sl 2 (pt b_n) rfl <| w_sl 3 (pt b_d) rfl <| w_sl 4 (pt b_t4) rfl <| w_sl 5 (pt b29) rfl <| w_sl 6 (pt b30) rfl <| hh.l0 (hle.trans e36) he (h_n_1.mono e36) (h_d_1.mono e36) h32 (h_d_1.mono e36)
theorem QE.b0_ok {k : Nat} {h : QE.Hs} (hh : QE.OK h) {H0 H : Hp} {L : Items} {r : QX} {jk_ : Nat → Value} {n_0 : Bool} {n_1 : List Int} {d_0 : Bool} {d_1 : List Int} {a_0 : Bool} {a_1 : List Int} {b_0 : Bool} {b_1 : List Int} {v_n_1 v_d_1 v_a_1 v_b_1 : Value} {b_n b_d b_t4 b_a b_b : Nat} (hle : H0.le H) (he : QE.b0 k h n_0 n_1 d_0 d_1 a_0 a_1 b_0 b_1 = some r) (h_n_1 : Ro kI64 H v_n_1 n_1) (h_d_1 : Ro kI64 H v_d_1 d_1) (h_a_1 : Ro kI64 H v_a_1 a_1) (h_b_1 : Ro kI64 H v_b_1 b_1) : Wp Tryz.prog 13 49 QE.Kl0 (upd (upd (upd (upd (upd jk_ 2 (pt b_n)) 3 (pt b_d)) 4 (pt b_t4)) 5 (pt b_a)) 6 (pt b_b)) H (bx b_a [.bool a_0, v_a_1] 37 :: bx b_b [.bool b_0, v_b_1] 37 :: bx b_t4 z0c 40 :: bx b_d [.bool d_0, v_d_1] 37 :: bx b_n [.bool n_0, v_n_1] 37 :: L) (QE.R H0 L r) := by
 unfold QE.b0 at he
 unfold QE.Kl0
 refine QV <| wR rfl <| wL (.agg ⟨[.bool b_0, v_b_1]⟩) ty37 rfl rfl .h1 rfl rfl <| bK he fun y37 hy38 he => w_d rfl (Xs (Qm co62 (vs := [.agg ⟨[.bool b_0, v_b_1]⟩]) rfl (Yj.calls k (a := ⟨b_0, b_1⟩) hy38 h_b_1))) <| w_d rfl (Zl rfl rfl) <| Qa ?_
 rcases its he with ⟨c41, he⟩ | ⟨c41, he⟩
 ·
  refine QB rfl (nd_t c41) <| X1 rfl <| wR rfl <| wL (.agg ⟨[.bool n_0, v_n_1]⟩) ty37 rfl rfl .h4 rfl rfl <| wL (.agg ⟨[.bool a_0, v_a_1]⟩) ty37 rfl rfl .here rfl rfl <| bK he fun y42 hy43 he => w_a rfl (Qm co65 (vs := [.agg ⟨[.bool n_0, v_n_1]⟩, .agg ⟨[.bool a_0, v_a_1]⟩]) rfl (Qo.calls k (a := ⟨n_0, n_1⟩) (b := ⟨a_0, a_1⟩) hy43 h_n_1 h_a_1)) ?_
  rintro _ H44 _ ⟨rfl, e45, v46, v48, rfl, h47, h49⟩
  refine wM (.tuple ⟨[(Qf y42.1 v46), (Qf y42.2 v48)]⟩) rfl rfl <| w_d rfl (QO rfl rfl) <| w_d rfl (QO rfl rfl) <| wN zr37 rfl rfl fun b50 => wN zr37 rfl rfl fun b51 => wS (Qf y42.1 v46) sz37 rfl rfl rfl rfl rfl (Xu h47) .h1 u2 <| wS (Qf y42.2 v48) sz37 rfl rfl rfl rfl rfl (Xu h49) .here u2 <| wQ rfl <| w_d rfl (QS (v := .agg ⟨[.bool d_0, v_d_1]⟩) ty37 rfl .h5 rfl rfl rfl rfl) <| wL (.agg ⟨[.bool a_0, v_a_1]⟩) ty37 rfl rfl .h2 rfl rfl ?_
  refine bK he fun y52 hy53 he => w_a rfl (Qm co65 (vs := [.agg ⟨[.bool d_0, v_d_1]⟩, .agg ⟨[.bool a_0, v_a_1]⟩]) rfl (Qo.calls k (a := ⟨d_0, d_1⟩) (b := ⟨a_0, a_1⟩) hy53 (h_d_1.mono e45) (h_a_1.mono e45))) ?_
  rintro _ H54 _ ⟨rfl, e55, v56, v58, rfl, h57, h59⟩
  refine wM (.tuple ⟨[(Qf y52.1 v56), (Qf y52.2 v58)]⟩) rfl rfl <| w_d rfl (QO rfl rfl) <| w_d rfl (QO rfl rfl) <| wN zr37 rfl rfl fun b60 => wN zr37 rfl rfl fun b61 => wS (Qf y52.1 v56) sz37 rfl rfl rfl rfl rfl (Xu h57) .h1 u2 <| wS (Qf y52.2 v58) sz37 rfl rfl rfl rfl rfl (Xu h59) .here u2 <| wQ rfl <| wL (Qf y42.1 v46) ty37 rfl rfl .h3 rfl rfl <| wL (Qf y52.1 v56) ty37 rfl rfl .h1 rfl rfl ?_
  refine w_d rfl (XD (cs' := [.bool y42.1.f_Neg, v46, .bool y52.1.f_Neg, v56]) Tryz.underlying40 zr40 rfl (by kernel_rfl) (parts := [(0, (Qf y42.1 v46)), (1, (Qf y52.1 v56))]) rfl (.cons (YC rfl sz37 rfl) rfl rfl u2 (.cons (YC rfl sz37 rfl) rfl rfl (.there (.there u2)) .nil))) <| wS (.agg ⟨[.bool y42.1.f_Neg, v46, .bool y52.1.f_Neg, v56]⟩) sz40 rfl rfl rfl rfl rfl (oc rfl (oc (h47.one) (oc rfl (oc (h57.one) oz)))) .h6 u4 <| Qa ?_
  obtain rfl := sj he
  refine Qi fn_13 rs_13 (.box (v := .agg ⟨[.bool y42.1.f_Neg, v46, .bool y52.1.f_Neg, v56]⟩) rfl ty40 rfl rfl .h6 rfl .nil) <| ⟨⟨[_, _, _, _, _, _, _, _, _], rfl⟩, hle.trans (e45.trans e55), ⟨v46, v56, rfl, (h47.mono e55), h57⟩⟩
 ·
  refine Qy rfl (nd_f c41) <| QA <| QU <| wR rfl <| wL (.agg ⟨[.bool a_0, v_a_1]⟩) ty37 rfl rfl .here rfl rfl <| wL (.agg ⟨[.bool b_0, v_b_1]⟩) ty37 rfl rfl .h1 rfl rfl <| bK he fun y62 hy63 he => w_a rfl (Qm co65 (vs := [.agg ⟨[.bool a_0, v_a_1]⟩, .agg ⟨[.bool b_0, v_b_1]⟩]) rfl (Qo.calls k (a := ⟨a_0, a_1⟩) (b := ⟨b_0, b_1⟩) hy63 h_a_1 h_b_1)) ?_
  rintro _ H64 _ ⟨rfl, e65, v66, v68, rfl, h67, h69⟩
  refine wM (.tuple ⟨[(Qf y62.1 v66), (Qf y62.2 v68)]⟩) rfl rfl <| w_d rfl (QO rfl rfl) <| w_d rfl (QO rfl rfl) <| wN zr37 rfl rfl fun b70 => wN zr37 rfl rfl fun b71 => wS (Qf y62.1 v66) sz37 rfl rfl rfl rfl rfl (Xu h67) .h1 u2 <| wS (Qf y62.2 v68) sz37 rfl rfl rfl rfl rfl (Xu h69) .here u2 <| Qa <| XJ (p := 3) (tl := [3]) [[], [], [(0, some 32)]] [some 32, some 33, none] (fctF (.is (.agg ⟨[.bool b_0, v_b_1]⟩) :: .is (Qf y62.2 v68) :: .itm (fun H itq_ => itq_ = bx b_a [.bool b_0, v_b_1] 37) (by rintro _ _ _ hle rfl; exact rfl) :: [])) (fun m_ => bx b71 (QN y62.2 v68) 37 :: bx b70 (QN y62.1 v66) 37 :: m_ 2 :: bx b_b [.bool b_0, v_b_1] 37 :: bx b_t4 z0c 40 :: bx b_d [.bool d_0, v_d_1] 37 :: bx b_n [.bool n_0, v_n_1] 37 :: L) (fun i_ => if i_ = 2 then bx b_a [.bool a_0, v_a_1] 37 else none) mixed (by kernel_rfl) (by kernel_rfl) rfl (Xv (by kernel_rfl)) ⟨(fun H' m_ hH hm_ hu_ => dn <| s_d (m_ 0) rfl (QS (v := .agg ⟨[.bool b_0, v_b_1]⟩) ty37 rfl .h3 rfl rfl rfl rfl) (by exact rfl) rfl), (fun H' m_ hH hm_ hu_ => dn <| s_d (m_ 1) rfl (QS (v := (Qf y62.2 v68)) ty37 rfl .here rfl rfl rfl rfl) (by exact rfl) rfl), (by rintro H' m_ hH hm_ hu_ _ rfl; exact dn <| Zv (bx b_a [.bool b_0, v_b_1] 37) hm_ rfl (YE (v := .agg ⟨[.bool b_0, v_b_1]⟩) sz37 rfl rfl rfl rfl (oc rfl (oc (h_b_1.one) oz)) .h2 u2) rfl (by exact ⟨rfl, rfl⟩)), trivial⟩ ?_
  intro H72 e73
  rintro _ _ rfl _ _ rfl _ _ ⟨rfl, rfl⟩
  refine w_it (L' := bx b71 (QN y62.2 v68) 37 :: bx b70 (QN y62.1 v66) 37 :: bx b_a [.bool b_0, v_b_1] 37 :: bx b_b [.bool b_0, v_b_1] 37 :: bx b_t4 z0c 40 :: bx b_d [.bool d_0, v_d_1] 37 :: bx b_n [.bool n_0, v_n_1] 37 :: L) rfl <| wS (Qf y62.2 v68) sz37 rfl rfl rfl rfl rfl (Xu h69) .h3 u2 <| Qa <| Xk <| Xy <| YD .h1 <| YD .here <| w_sl 2 (pt b_n) rfl <| w_sl 3 (pt b_d) rfl <| w_sl 4 (pt b_t4) rfl <| w_sl 5 (pt b_a) rfl <| w_sl 6 (pt b_b) rfl <| hh.l0 (hle.trans (e65.trans e73)) he (h_n_1.mono (e65.trans e73)) (h_d_1.mono (e65.trans e73)) (h_b_1.mono (e65.trans e73)) (h69.mono e73)
theorem QE.ok : ∀ k, QE.OK (QE.hs k)
 | 0 => ⟨(by intros; exact nomatch (show none = some _ from by assumption))⟩
 | k + 1 => ⟨QE.b0_ok (k := k) (QE.ok k)⟩
theorem QE.calls (k : Nat) {H : Hp} {L : Items} {n d : Qg} {v0_n v1_d : Value} {r : QX} (he : QE.f k n d = some r) (h0_n : Ro kI64 H v0_n n.f_D) (h1_d : Ro kI64 H v1_d d.f_D) : Ct Tryz.prog 13 ⟨[(Qf n v0_n), (Qf d v1_d)]⟩ H L (cR H L (QE.out r)) := by
 refine XR (O := QE.out r) ?_
 have hle : H.le H := .refl _
 have hh := QE.ok k
 unfold QE.f at he
 refine QP (args := [_, _]) fn_13 rfl nt_13 rfl <| wR rfl <| wB (Qf n v0_n) rfl rfl rfl <| fun b1 => wB (Qf d v1_d) rfl rfl rfl <| fun b2 => wN zr40 rfl rfl fun b3 => wE <| wR rfl <| wL (Qf d v1_d) ty37 rfl rfl .h1 rfl rfl <| bK he fun y4 hy5 he => ?_
 refine w_d rfl (Xs (Qm co62 (vs := [(Qf d v1_d)]) rfl (Yj.calls k (a := d) hy5 h1_d))) <| w_d rfl (XG rfl rfl) <| Qa ?_
 rcases its he with ⟨c8, he⟩ | ⟨c8, he⟩
 ·
  refine Qy rfl (dt c8) <| bK he fun y9 hy10 he => XJ (p := 3) (tl := [3, 4, 5]) [[], [(0, some 16)], []] [some 16, some 17, some 18] (fctF (.is (Qf n v0_n) :: .of (XS.out y9) (XS.out_mono _) :: .is (Qf d v1_d) :: [])) (fun m_ => bx b3 z0c 40 :: bx b2 (QN d v1_d) 37 :: bx b1 (QN n v0_n) 37 :: L) (fun _ => none) mixed (by kernel_rfl) (by kernel_rfl) rfl (Xv (by kernel_rfl)) ⟨(fun H' m_ hH hm_ hu_ => dn <| s_d (m_ 0) rfl (QS (v := (Qf n v0_n)) ty37 rfl .h2 rfl rfl rfl rfl) (by exact rfl) rfl), (by rintro H' m_ hH hm_ hu_ _ rfl; exact dn <| s_k (m_ 1) rfl (Qm co63 (vs := [(Qf n v0_n)]) rfl (XS.calls k (a := n) hy10 (h0_n.mono hH))) rfl (by rintro v_ H_ _ ⟨rfl, e_, h_⟩; exact ⟨rfl, e_, h_⟩)), (fun H' m_ hH hm_ hu_ => dn <| s_d (m_ 2) rfl (QS (v := (Qf d v1_d)) ty37 rfl .h1 rfl rfl rfl rfl) (by exact rfl) rfl), trivial⟩ ?_
  intro H15 e16
  rintro _ _ rfl _ _ ⟨v13, rfl, h14⟩ _ _ rfl
  refine bK he fun y17 hy18 he => w_a rfl (Qm co63 (vs := [(Qf d v1_d)]) rfl (XS.calls k (a := d) hy18 (h1_d.mono e16))) ?_
  rintro _ H19 _ ⟨rfl, e20, v21, rfl, h22⟩
  refine wS (Qf y9 v13) sz37 rfl rfl rfl rfl rfl (Xu h14) .h2 u2 <| wS (Qf y17 v21) sz37 rfl rfl rfl rfl rfl (Xu h22) .h1 u2 <| Qa <| w_sl 2 (pt b1) rfl <| w_sl 3 (pt b2) rfl <| w_sl 4 (pt b3) rfl <| QE.j1_ok (k := k) hh (hle.trans (e16.trans e20)) he (h14.mono e20) h22
 ·
  refine QB rfl (df c8) <| QA <| w_sl 2 (pt b1) rfl <| w_sl 3 (pt b2) rfl <| w_sl 4 (pt b3) rfl <| QE.j1_ok (k := k) hh hle he h0_n h1_d
noncomputable def Yz.C : Code := (Tryz.f43.body).getD .skip
def Yz.out (r : QX) (H : Hp) (v : Value) : Prop := ∃ v0 v1, v = (YL r v0 v1) ∧ Ro kI64 H v0 r.f_N.f_D ∧ Ro kI64 H v1 r.f_D.f_D
noncomputable def Yz.f (k : Nat) (n : Int) : Option QX := (Qs.f k n).bind fun y2 => (Qw.f k 20).bind fun y8 => (QE.f k y2 y8).bind fun y14 => some (y14)
theorem Yz.calls (k : Nat) {H : Hp} {L : Items} {n : Int} {r : QX} (he : Yz.f k n = some r) : Ct Tryz.prog 43 ⟨[.int .i64 n]⟩ H L (cR H L (Yz.out r)) := by
 refine XR (O := Yz.out r) ?_
 have hle : H.le H := .refl _
 unfold Yz.f at he
 refine QP (args := [_]) fn_43 rfl nt_43 rfl <| wR rfl <| wN zr40 rfl rfl fun b1 => wQ rfl <| wM (.int .i64 n) rfl rfl <| bK he fun y2 hy3 he => w_a rfl (Qm co16 (vs := [.int .i64 n]) rfl (Qs.calls k hy3)) ?_
 rintro _ H4 _ ⟨rfl, e5, v6, rfl, h7⟩
 refine bK he fun y8 hy9 he => w_a rfl (Qm co12 (vs := [.int .i64 20]) rfl (Qw.calls k hy9)) ?_
 rintro _ H10 _ ⟨rfl, e11, v12, rfl, h13⟩
 refine bK he fun y14 hy15 he => w_a rfl (Qm co13 (vs := [(Qf y2 v6), (Qf y8 v12)]) rfl (QE.calls k (n := y2) (d := y8) hy15 (h7.mono e11) h13)) ?_
 rintro _ H16 _ ⟨rfl, e17, v18, v20, rfl, h19, h21⟩
 refine wS (YL y14 v18 v20) sz40 rfl rfl rfl rfl rfl (Gk h19 h21) .here u4 <| Qa ?_
 obtain rfl := sj he
 refine Qi fn_43 rs_43 (.box (v := (YL y14 v18 v20)) rfl ty40 rfl rfl .here rfl .nil) <| ⟨⟨[_], rfl⟩, hle.trans ((e5.trans e11).trans e17), ⟨v18, v20, rfl, h19, h21⟩⟩
noncomputable def QG.C : Code := (Tryz.f46.body).getD .skip
abbrev QG.out (r : (List QX)) (H : Hp) (v : Value) : Prop := Ro X9 H v r
abbrev QG.R (H0 : Hp) (L : Items) (r : (List QX)) := fR H0 L (QG.out r)
structure QG.Hs where
 l0 : (List Int) → (List QX) → Int → Option (List QX)
noncomputable def QG.b0 (k : Nat) (h : QG.Hs) (l : List Int) (out : List QX) (i : Int) : Option (List QX) := if i < (l.length : Int) then (if (0 : Int) ≤ i ∧ i < (l.length : Int) then ((Yz.f k (rd l i)).bind fun y3 => if out.length + 1 ≤ 2199023255424 then (h.l0 l (out ++ [y3]) (w64 (i + 1))) else none) else none) else (some (out))
noncomputable def QG.hs : Nat → QG.Hs
 | 0 => ⟨fun _ _ _ => none⟩
 | k + 1 => ⟨fun x0 x1 x2 => QG.b0 k (QG.hs k) x0 x1 x2⟩
noncomputable def QG.f (k : Nat) (l : List Int) : Option (List QX) := (fun h : QG.Hs => h.l0 l [] 0) (QG.hs k)
noncomputable def QG.Kl0 : List Item := .code (lopB (blkB (seqR (seqL (seqR (seqR QG.C)))))) :: .inLoop (lopB (blkB (seqR (seqL (seqR (seqR QG.C)))))) :: .inBlock 0 :: .code (seqR (seqR (seqR QG.C))) :: []
structure QG.OK (h : QG.Hs) : Prop where
 l0 : ∀ {H0 H : Hp} {L : Items} {r : (List QX)} {jk_ : Nat → Value} {l : List Int} {out : List QX} {i : Int} {v_l : Value} {v_out : Value} {i_out : Item'} (_ : H0.le H) (_he : h.l0 l out i = some r) (_h_l : Src kI64 H L v_l l) (_h_out : Sl X9 H 40 i_out v_out out), Wp Tryz.prog 46 20 QG.Kl0 (upd (upd (upd (upd jk_ 0 (v_l)) 2 (.slice none 0 0)) 3 (v_out)) 4 (.int .i64 i)) H (i_out :: L) (QG.R H0 L r)
theorem QG.b0_ok {k : Nat} {h : QG.Hs} (hh : QG.OK h) {H0 H : Hp} {L : Items} {r : (List QX)} {jk_ : Nat → Value} {l : List Int} {out : List QX} {i : Int} {v_l v_out : Value} {i_out : Item'} (hle : H0.le H) (he : QG.b0 k h l out i = some r) (h_l : Src kI64 H L v_l l) (h_out : Sl X9 H 40 i_out v_out out) : Wp Tryz.prog 46 20 QG.Kl0 (upd (upd (upd (upd jk_ 0 (v_l)) 2 (.slice none 0 0)) 3 (v_out)) 4 (.int .i64 i)) H (i_out :: L) (QG.R H0 L r) := by
 unfold QG.b0 at he
 unfold QG.Kl0
 refine QV <| wR rfl <| wM (.int .i64 i) rfl rfl <| wM v_l rfl rfl <| w_d rfl (Xq Tryz.underlying72 rfl h_l.th) <| w_d rfl (XG rfl rfl) <| Qa ?_
 rcases its he with ⟨c1, he⟩ | ⟨c1, he⟩
 ·
  refine Qy rfl (dt c1) <| QA <| QV <| QU <| QD rfl <| wM v_out rfl rfl <| wM v_l rfl rfl <| wM (.int .i64 i) rfl rfl <| rK he fun c2 he => w_d rfl (XM (sz := 1) Tryz.underlying72 sz2 rfl h_l.th rfl c2) <| w_d rfl (XL ty2 rfl h_l.th c2) <| bK he fun y3 hy4 he => ?_
  refine w_a rfl (Qm co43 (vs := [.int .i64 (rd l i)]) rfl (Yz.calls k hy4)) ?_
  rintro _ H5 _ ⟨rfl, e6, v7, v9, rfl, h8, h10⟩
  refine w_a rfl (o_buildSlice' (kd := X9) (css := [(YO y3 v7 v9)]) (xs := [y3]) (parts := [(0, (YL y3 v7 v9))]) Tryz.underlying68 ti40 rfl ⟨_, _, rfl, rfl, rfl⟩ ⟨(JS (x := y3) h8 h10), trivial⟩ rfl (by decide)) ?_
  rintro v11 _ _ ⟨i12, rfl, rfl, h13⟩
  refine rK he fun c14 he => w_a rfl (o_append' (kd := X9) (F := fun z_ => i12 :: z_ :: L) Tryz.underlying68 Tryz.underlying68 ti40 rfl (by first | omega | (simp only [List.nil_append, List.length_cons, List.length_nil]; omega)) rfl rfl (h_out.mono e6) (h13.src .here) (fun _ => .h1)) ?_
  rintro v15 _ _ ⟨i16, rfl, rfl, h17⟩
  refine wA v15 rfl rfl <| Qa <| Xk <| QD rfl <| wM (.int .i64 i) rfl rfl <| w_d rfl (Xt (c := w64 (i + 1)) rfl rfl rfl) <| wA (.int .i64 (w64 (i + 1))) rfl rfl <| Qa <| Xy <| YD .here <| w_sl 0 (v_l) rfl <| w_sl 2 (.slice none 0 0) rfl ?_
  refine w_sl 3 (v15) rfl <| w_sl 4 (.int .i64 (w64 (i + 1))) rfl <| hh.l0 (hle.trans e6) he (h_l.mono e6) h17
 ·
  refine QB rfl (df c1) <| X1 rfl <| wR rfl <| wM v_out rfl rfl <| wA v_out rfl rfl <| Qa <| Yv h_out .here ?_
  intro H18 e19 h20
  obtain rfl := sj he
  refine Qi fn_46 rs_46 (.tmp (v := v_out) rfl .nil) <| ⟨⟨[_], rfl⟩, hle.trans e19, h20⟩
theorem QG.ok : ∀ k, QG.OK (QG.hs k)
 | 0 => ⟨(by intros; exact nomatch (show none = some _ from by assumption))⟩
 | k + 1 => ⟨QG.b0_ok (k := k) (QG.ok k)⟩
theorem QG.calls (k : Nat) {H : Hp} {L : Items} {l : List Int} {v0_l : Value} {r : (List QX)} (he : QG.f k l = some r) (h0_l : Src kI64 H L v0_l l) : Ct Tryz.prog 46 ⟨[v0_l]⟩ H L (cR H L (QG.out r)) := by
 refine XR (O := QG.out r) ?_
 have hle : H.le H := .refl _
 have hh := QG.ok k
 unfold QG.f at he
 refine QP (args := [_]) fn_46 rfl nt_46 rfl <| wR rfl <| wA (.slice none 0 0) rfl rfl <| wQ rfl <| wA (.slice none 0 0) rfl rfl <| wE <| wR rfl ?_
 refine wA (.int .i64 0) rfl rfl <| Qa <| QU <| X3 <| YM <| w_sl 0 (v0_l) rfl <| w_sl 2 (.slice none 0 0) rfl <| w_sl 3 (.slice none 0 0) rfl <| w_sl 4 (.int .i64 0) rfl <| hh.l0 hle he h0_l (Jd _ _ _)
noncomputable def Qr.C : Code := (Tryz.f99.body).getD .skip
def Qr.out (r : ByteArray) (H : Hp) (v : Value) : Prop := v = .string r
abbrev Qr.R (H0 : Hp) (L : Items) (r : ByteArray) := fR H0 L (Qr.out r)
structure Qr.Hs where
 l0 : Bool → (List Int) → ByteArray → ByteArray → Int → Option ByteArray
noncomputable def Qr.j1 (k : Nat) (h : Qr.Hs) (a_0 : Bool) (a_1 : List Int) (t2 s : ByteArray) : Option ByteArray := if (a_1.length : Int) = 0 then (some (str_2)) else (h.l0 a_0 a_1 t2 s (w64 ((a_1.length : Int) - 1)))
noncomputable def Qr.b0 (k : Nat) (h : Qr.Hs) (a_0 : Bool) (a_1 : List Int) (t2 s : ByteArray) (i : Int) : Option ByteArray := if 0 ≤ i then (if (0 : Int) ≤ i ∧ i < (a_1.length : Int) then (if (0 : Int) ≤ i ∧ i < (a_1.length : Int) then (if (0 : Int) ≤ rd a_1 i ∧ (rd a_1 i : Int) ≤ w64 ((rd a_1 i) + 1) ∧ w64 ((rd a_1 i) + 1) ≤ (str_3.size : Int) then (if (s.size + (scut str_3 (rd a_1 i) (w64 ((rd a_1 i) + 1))).size : Int) ≤ 9223372036854775807 then (h.l0 a_0 a_1 t2 (s ++ (scut str_3 (rd a_1 i) (w64 ((rd a_1 i) + 1)))) (w64 (i - 1))) else none) else none) else none) else none) else (some (s))
noncomputable def Qr.hs : Nat → Qr.Hs
 | 0 => ⟨fun _ _ _ _ _ => none⟩
 | k + 1 => ⟨fun x0 x1 x2 x3 x4 => Qr.b0 k (Qr.hs k) x0 x1 x2 x3 x4⟩
noncomputable def Qr.f (k : Nat) (a : Qg) : Option ByteArray := (fun h : Qr.Hs => (Yj.f k a).bind fun y2 => if y2 < 0 then (Qr.j1 k h a.f_Neg a.f_D str_0 str_1) else (Qr.j1 k h a.f_Neg a.f_D str_0 str_0)) (Qr.hs k)
noncomputable def Qr.Kj1 : List Item := .code (seqR (seqR (seqR Qr.C))) :: []
noncomputable def Qr.Kl0 : List Item := .code (lopB (blkB (seqR (seqL (seqR (seqR (seqR (seqR Qr.C)))))))) :: .inLoop (lopB (blkB (seqR (seqL (seqR (seqR (seqR (seqR Qr.C)))))))) :: .inBlock 0 :: .code (seqR (seqR (seqR (seqR (seqR Qr.C))))) :: []
structure Qr.OK (h : Qr.Hs) : Prop where
 l0 : ∀ {H0 H : Hp} {L : Items} {r : ByteArray} {jk_ : Nat → Value} {a_0 : Bool} {a_1 : List Int} {t2 : ByteArray} {s : ByteArray} {i : Int} {v_a_1 : Value} {b_a : Nat} (_ : H0.le H) (_he : h.l0 a_0 a_1 t2 s i = some r) (_h_a_1 : Ro kI64 H v_a_1 a_1), Wp Tryz.prog 99 35 Qr.Kl0 (upd (upd (upd (upd jk_ 1 (pt b_a)) 2 (.string t2)) 3 (.string s)) 4 (.int .i64 i)) H (bx b_a [.bool a_0, v_a_1] 37 :: L) (Qr.R H0 L r)
theorem Qr.j1_ok {k : Nat} {h : Qr.Hs} (hh : Qr.OK h) {H0 H : Hp} {L : Items} {r : ByteArray} {jk_ : Nat → Value} {a_0 : Bool} {a_1 : List Int} {t2 s : ByteArray} {v_a_1 : Value} {b_a : Nat} (hle : H0.le H) (he : Qr.j1 k h a_0 a_1 t2 s = some r) (h_a_1 : Ro kI64 H v_a_1 a_1) : Wp Tryz.prog 99 35 Qr.Kj1 (upd (upd (upd jk_ 1 (pt b_a)) 2 (.string t2)) 3 (.string s)) H (bx b_a [.bool a_0, v_a_1] 37 :: L) (Qr.R H0 L r) := by
 unfold Qr.j1 at he
 unfold Qr.Kj1
 refine QV <| wR rfl <| w_d rfl (Xe (o' := 1) Tryz.underlying37 rfl sz35 rfl rfl rfl) <| wL v_a_1 ty35 rfl rfl .here rfl rfl <| w_d rfl (Xq Tryz.underlying35 rfl h_a_1.src) <| w_d rfl (Y1 rfl rfl) <| Qa ?_
 rcases its he with ⟨c7, he⟩ | ⟨c7, he⟩
 ·
  refine Qy rfl (dt c7) <| wR rfl <| wA (.string str_2) rfl rfl <| Qa ?_
  obtain rfl := sj he
  refine Qi fn_99 rs_99 (.tmp (v := .string str_2) rfl .nil) <| ⟨⟨[_], rfl⟩, hle, rfl⟩
 ·
  refine QB rfl (df c7) <| QA <| QV <| wR rfl <| w_d rfl (Xe (o' := 1) Tryz.underlying37 rfl sz35 rfl rfl rfl) <| wL v_a_1 ty35 rfl rfl .here rfl rfl <| w_d rfl (Xq Tryz.underlying35 rfl h_a_1.src) <| w_d rfl (Ys (c := w64 ((a_1.length : Int) - 1)) rfl rfl rfl) <| wA (.int .i64 (w64 ((a_1.length : Int) - 1))) rfl rfl <| Qa <| QU ?_
  refine X3 <| w_sl 1 (pt b_a) rfl <| w_sl 2 (.string t2) rfl <| w_sl 3 (.string s) rfl <| w_sl 4 (.int .i64 (w64 ((a_1.length : Int) - 1))) rfl <| hh.l0 hle he h_a_1
theorem Qr.b0_ok {k : Nat} {h : Qr.Hs} (hh : Qr.OK h) {H0 H : Hp} {L : Items} {r : ByteArray} {jk_ : Nat → Value} {a_0 : Bool} {a_1 : List Int} {t2 s : ByteArray} {i : Int} {v_a_1 : Value} {b_a : Nat} (hle : H0.le H) (he : Qr.b0 k h a_0 a_1 t2 s i = some r) (h_a_1 : Ro kI64 H v_a_1 a_1) : Wp Tryz.prog 99 35 Qr.Kl0 (upd (upd (upd (upd jk_ 1 (pt b_a)) 2 (.string t2)) 3 (.string s)) 4 (.int .i64 i)) H (bx b_a [.bool a_0, v_a_1] 37 :: L) (Qr.R H0 L r) := by
 unfold Qr.b0 at he
 unfold Qr.Kl0
 refine QV <| wR rfl <| wM (.int .i64 i) rfl rfl <| w_d rfl (ZB rfl rfl) <| Qa ?_
 rcases its he with ⟨c8, he⟩ | ⟨c8, he⟩
 ·
  refine Qy rfl (dt c8) <| QA <| QV <| QU <| rK he fun c9 he => rK he fun c10 he => rK he fun c11 he => XJ (p := 13) (tl := [13, 14]) [[], [], [(1, some 21)], [], [(2, some 22), (3, some 23)], [(4, some 24)], [], [(6, some 26)], [], [(7, some 27), (8, some 28)], [(9, some 29)], [(10, some 30)], [(5, some 25), (11, some 31)]] [some 20, some 21, some 22, some 23, some 24, some 25, some 26, some 27, some 28, some 29, some 30, some 31, some 32] (fctF (.is (.string s) :: .is (po b_a 1) :: .is (v_a_1) :: .is (.int .i64 i) :: .is (.pointer (some (pel v_a_1 i 1))) :: .is (.int .i64 (rd a_1 i)) :: .is (po b_a 1) :: .is (v_a_1) :: .is (.int .i64 i) :: .is (.pointer (some (pel v_a_1 i 1))) :: .is (.int .i64 (rd a_1 i)) :: .is (.int .i64 (w64 ((rd a_1 i) + 1))) :: .is (.string (scut str_3 (rd a_1 i) (w64 ((rd a_1 i) + 1)))) :: [])) (fun m_ => bx b_a [.bool a_0, v_a_1] 37 :: L) (fun _ => none) mixed (by kernel_rfl) (by kernel_rfl) rfl (Xv (by kernel_rfl)) ⟨(fun H' m_ hH hm_ hu_ => dn <| s_d (m_ 0) rfl (QF (v := .string s) rfl) (by exact rfl) rfl), (fun H' m_ hH hm_ hu_ => dn <| s_d (m_ 1) rfl (Xe (o' := 1) Tryz.underlying37 rfl sz35 rfl rfl rfl) (by exact rfl) rfl), (by rintro H' m_ hH hm_ hu_ _ rfl; exact dn <| s_d (m_ 2) rfl (QS (v := v_a_1) ty35 rfl .here rfl rfl rfl rfl) (by exact rfl) rfl), (fun H' m_ hH hm_ hu_ => dn <| s_d (m_ 3) rfl (QF (v := .int .i64 i) rfl) (by exact rfl) rfl), (by rintro H' m_ hH hm_ hu_ _ rfl _ rfl; exact dn <| s_d (m_ 4) rfl (XM (sz := 1) Tryz.underlying35 sz3 rfl (h_a_1.mono hH).src rfl c9) (by exact rfl) rfl), (by rintro H' m_ hH hm_ hu_ _ rfl; exact dn <| s_d (m_ 5) rfl (XL ty3 rfl (h_a_1.mono hH).src c9) (by exact rfl) rfl), (fun H' m_ hH hm_ hu_ => dn <| s_d (m_ 6) rfl (Xe (o' := 1) Tryz.underlying37 rfl sz35 rfl rfl rfl) (by exact rfl) rfl), (by rintro H' m_ hH hm_ hu_ _ rfl; exact dn <| s_d (m_ 7) rfl (QS (v := v_a_1) ty35 rfl .here rfl rfl rfl rfl) (by exact rfl) rfl), (fun H' m_ hH hm_ hu_ => dn <| s_d (m_ 8) rfl (QF (v := .int .i64 i) rfl) (by exact rfl) rfl), (by rintro H' m_ hH hm_ hu_ _ rfl _ rfl; exact dn <| s_d (m_ 9) rfl (XM (sz := 1) Tryz.underlying35 sz3 rfl (h_a_1.mono hH).src rfl c10) (by exact rfl) rfl), (by rintro H' m_ hH hm_ hu_ _ rfl; exact dn <| s_d (m_ 10) rfl (XL ty3 rfl (h_a_1.mono hH).src c10) (by exact rfl) rfl), (by rintro H' m_ hH hm_ hu_ _ rfl; exact dn <| s_d (m_ 11) rfl (Xt (c := w64 ((rd a_1 i) + 1)) rfl rfl rfl) (by exact rfl) rfl), (by rintro H' m_ hH hm_ hu_ _ rfl _ rfl; exact dn <| s_d (m_ 12) rfl (UW Tryz.underlying9 rfl (.inr ⟨_, _, rfl, rfl⟩) (.inr ⟨_, _, rfl, rfl⟩) c11) (by exact rfl) rfl), trivial⟩ ?_
  intro H12 e13
  rintro _ _ rfl _ _ rfl _ _ rfl _ _ rfl _ _ rfl _ _ rfl _ _ rfl _ _ rfl _ _ rfl _ _ rfl _ _ rfl _ _ rfl _ _ rfl
  refine rK he fun c14 he => w_d rfl (O5 rfl rfl c14) <| wA (.string (s ++ (scut str_3 (rd a_1 i) (w64 ((rd a_1 i) + 1))))) rfl rfl <| Qa <| Xk <| QD rfl <| wM (.int .i64 i) rfl rfl <| w_d rfl (Ys (c := w64 (i - 1)) rfl rfl rfl) <| wA (.int .i64 (w64 (i - 1))) rfl rfl <| Qa <| Xy <| w_sl 1 (pt b_a) rfl ?_
  refine w_sl 2 (.string t2) rfl <| w_sl 3 (.string (s ++ (scut str_3 (rd a_1 i) (w64 ((rd a_1 i) + 1))))) rfl <| w_sl 4 (.int .i64 (w64 (i - 1))) rfl <| hh.l0 (hle.trans e13) he (h_a_1.mono e13)
 ·
  refine QB rfl (df c8) <| X1 rfl <| wR rfl <| wM (.string s) rfl rfl <| wA (.string s) rfl rfl <| Qa ?_
  obtain rfl := sj he
  refine Qi fn_99 rs_99 (.tmp (v := .string s) rfl .nil) <| ⟨⟨[_], rfl⟩, hle, rfl⟩
theorem Qr.ok : ∀ k, Qr.OK (Qr.hs k)
 | 0 => ⟨(by intros; exact nomatch (show none = some _ from by assumption))⟩
 | k + 1 => ⟨Qr.b0_ok (k := k) (Qr.ok k)⟩
theorem Qr.calls (k : Nat) {H : Hp} {L : Items} {a : Qg} {v0_a : Value} {r : ByteArray} (he : Qr.f k a = some r) (h0_a : Ro kI64 H v0_a a.f_D) : Ct Tryz.prog 99 ⟨[(Qf a v0_a)]⟩ H L (fun v H' L' => L = L' ∧ H = H' ∧ v = .string r) := by
 refine X6 (O := Qr.out r) (fun _ _ h => h) ?_
 have hle : H.le H := .refl _
 have hh := Qr.ok k
 unfold Qr.f at he
 refine QP (args := [_]) fn_99 rfl nt_99 rfl <| wR rfl <| wB (Qf a v0_a) rfl rfl rfl <| fun b1 => wA (.string str_0) rfl rfl <| wQ rfl <| wA (.string str_0) rfl rfl <| wE <| QV ?_
 refine QD rfl <| wL (Qf a v0_a) ty37 rfl rfl .here rfl rfl <| bK he fun y2 hy3 he => w_d rfl (Xs (Qm co62 (vs := [(Qf a v0_a)]) rfl (Yj.calls k (a := a) hy3 h0_a))) <| w_d rfl (XG rfl rfl) <| Qa ?_
 rcases its he with ⟨c6, he⟩ | ⟨c6, he⟩
 ·
  refine Qy rfl (dt c6) <| QD rfl <| wA (.string str_1) rfl rfl <| Qa <| w_sl 1 (pt b1) rfl <| w_sl 2 (.string str_0) rfl <| w_sl 3 (.string str_1) rfl <| Qr.j1_ok (k := k) hh hle he h0_a
 ·
  refine QB rfl (df c6) <| QA <| w_sl 1 (pt b1) rfl <| w_sl 2 (.string str_0) rfl <| w_sl 3 (.string str_0) rfl <| Qr.j1_ok (k := k) hh hle he h0_a
noncomputable def Xf.C : Code := (Tryz.f147.body).getD .skip
def Xf.out (r : Bool) (H : Hp) (v : Value) : Prop := v = .bool r
abbrev Xf.R (H0 : Hp) (L : Items) (r : Bool) := fR H0 L (Xf.out r)
structure Xf.Hs where
 l0 : Bool → (List Int) → Int → Int → Option Bool
noncomputable def Xf.b0 (k : Nat) (h : Xf.Hs) (t2 : Bool) (t24 : List Int) (t25 t26 : Int) : Option Bool := if t26 < t25 then (if (0 : Int) ≤ t26 ∧ t26 < (t24.length : Int) then (if ((decide ((rd t24 t26) < 48)) || (decide (57 < (rd t24 t26)))) = true then (some (false)) else (h.l0 t2 t24 t25 (w64 (t26 + 1)))) else none) else (some (true))
noncomputable def Xf.hs : Nat → Xf.Hs
 | 0 => ⟨fun _ _ _ _ => none⟩
 | k + 1 => ⟨fun x0 x1 x2 x3 => Xf.b0 k (Xf.hs k) x0 x1 x2 x3⟩
noncomputable def Xf.f (k : Nat) (s : ByteArray) : Option Bool := (fun h : Xf.Hs => if (!((decide ((s.size : Int) = 0)) || (decide (1300 < (s.size : Int))))) = true → (0 : Int) ≤ 0 ∧ 0 < (s.size : Int) then (if (((decide ((s.size : Int) = 0)) || (decide (1300 < (s.size : Int)))) || ((decide ((bt s 0) = 48)) && (decide (1 < (s.size : Int))))) = true then (some (false)) else (h.l0 false (bytesOf s) ((bytesOf s).length : Int) 0)) else none) (Xf.hs k)
noncomputable def Xf.Kl0 : List Item := .code (lopB (blkB (seqR (seqL (seqR (seqR Xf.C)))))) :: .inLoop (lopB (blkB (seqR (seqL (seqR (seqR Xf.C)))))) :: .inBlock 0 :: .code (seqR (seqR (seqR Xf.C))) :: []
structure Xf.OK (h : Xf.Hs) : Prop where
 l0 : ∀ {H0 H : Hp} {L : Items} {r : Bool} {jk_ : Nat → Value} {t2 : Bool} {t24 : List Int} {t25 : Int} {t26 : Int} {v_t24 : Value} (_ : H0.le H) (_he : h.l0 t2 t24 t25 t26 = some r) (_h_t24 : Ro kU8 H v_t24 t24), Wp Tryz.prog 147 37 Xf.Kl0 (upd (upd (upd (upd jk_ 2 (.bool t2)) 24 (v_t24)) 25 (.int .i64 t25)) 26 (.int .i64 t26)) H (L) (Xf.R H0 L r)
theorem Xf.b0_ok {k : Nat} {h : Xf.Hs} (hh : Xf.OK h) {H0 H : Hp} {L : Items} {r : Bool} {jk_ : Nat → Value} {t2 : Bool} {t24 : List Int} {t25 t26 : Int} {v_t24 : Value} (hle : H0.le H) (he : Xf.b0 k h t2 t24 t25 t26 = some r) (h_t24 : Ro kU8 H v_t24 t24) : Wp Tryz.prog 147 37 Xf.Kl0 (upd (upd (upd (upd jk_ 2 (.bool t2)) 24 (v_t24)) 25 (.int .i64 t25)) 26 (.int .i64 t26)) H (L) (Xf.R H0 L r) := by
 unfold Xf.b0 at he
 unfold Xf.Kl0
 refine wR rfl <| w_d rfl (XG rfl rfl) <| wE ?_
 rcases its he with ⟨c18, he⟩ | ⟨c18, he⟩
 ·
  refine Qy rfl (dt c18) <| QA <| QV <| QU <| wR rfl <| rK he fun c19 he => w_d rfl (XM (sz := 1) Tryz.underlying52 sz5 rfl h_t24.src rfl c19) <| w_d rfl (XL ty5 rfl h_t24.src c19) <| wA (.int .u8 (rd t24 t26)) rfl rfl <| wE ?_
  refine QD rfl <| wM (.int .u8 (rd t24 t26)) rfl rfl <| w_d rfl (XG rfl rfl) <| wM (.bool (decide ((rd t24 t26) < 48))) rfl rfl <| w_g (g := !(decide ((rd t24 t26) < 48))) rfl rfl rfl wn_f (fun g20 => QF (v := .int .u8 (rd t24 t26)) rfl) <| w_g (g := !(decide ((rd t24 t26) < 48))) rfl rfl rfl wn_f (fun g21 => YR (cvt g21) rfl) <| w_d rfl (d_or' (b := (decide ((rd t24 t26) < 48))) (p := (decide (57 < (rd t24 t26)))) rfl rfl rfl) <| Qa ?_
  rcases its he with ⟨c22, he⟩ | ⟨c22, he⟩
  ·
   refine Qy rfl c22 <| wR rfl <| wA (.bool false) rfl rfl <| Qa ?_
   obtain rfl := sj he
   refine Qi fn_147 rs_147 (.tmp (v := .bool false) rfl .nil) <| ⟨⟨[], rfl⟩, hle, rfl⟩
  ·
   refine QB rfl (Bool.eq_false_iff.2 c22) <| QA <| Xk <| QD rfl <| w_d rfl (Xt (c := w64 (t26 + 1)) rfl rfl rfl) <| wM (.int .i64 (w64 (t26 + 1))) rfl rfl <| Qa <| Xy <| w_sl 2 (.bool t2) rfl <| w_sl 24 (v_t24) rfl <| w_sl 25 (.int .i64 t25) rfl <| w_sl 26 (.int .i64 (w64 (t26 + 1))) rfl <| hh.l0 hle he h_t24
 ·
  refine QB rfl (df c18) <| X1 rfl <| wR rfl <| wA (.bool true) rfl rfl <| Qa ?_
  obtain rfl := sj he
  refine Qi fn_147 rs_147 (.tmp (v := .bool true) rfl .nil) <| ⟨⟨[], rfl⟩, hle, rfl⟩
theorem Xf.ok : ∀ k, Xf.OK (Xf.hs k)
 | 0 => ⟨(by intros; exact nomatch (show none = some _ from by assumption))⟩
 | k + 1 => ⟨Xf.b0_ok (k := k) (Xf.ok k)⟩
theorem Xf.calls (k : Nat) {H : Hp} {L : Items} {s : ByteArray} {r : Bool} (he : Xf.f k s = some r) : Ct Tryz.prog 147 ⟨[.string s]⟩ H L (fun v H' L' => L = L' ∧ H = H' ∧ v = .bool r) := by
 refine X6 (O := Xf.out r) (fun _ _ h => h) ?_
 have hle : H.le H := .refl _
 have hh := Xf.ok k
 unfold Xf.f at he
 refine QP (args := [_]) fn_147 rfl nt_147 rfl <| wR rfl <| wA (.bool false) rfl rfl <| wE <| wR rfl <| wM (.string s) rfl rfl <| w_d rfl (Mm Tryz.underlying9 rfl) <| w_d rfl (Y1 rfl rfl) <| wM (.bool (decide ((s.size : Int) = 0))) rfl rfl ?_
 refine w_g (g := !(decide ((s.size : Int) = 0))) rfl rfl rfl wn_f (fun g1 => QF (v := .string s) rfl) <| w_g (g := !(decide ((s.size : Int) = 0))) rfl rfl rfl wn_f (fun g2 => Mm Tryz.underlying9 (cvt g2)) <| w_g (g := !(decide ((s.size : Int) = 0))) rfl rfl rfl wn_f (fun g3 => YR (cvt g3) rfl) <| w_d rfl (d_or' (b := (decide ((s.size : Int) = 0))) (p := (decide (1300 < (s.size : Int)))) rfl rfl rfl) <| wM (.bool ((decide ((s.size : Int) = 0)) || (decide (1300 < (s.size : Int))))) rfl rfl <| w_g (g := !((decide ((s.size : Int) = 0)) || (decide (1300 < (s.size : Int))))) rfl rfl rfl wn_f (fun g4 => QF (v := .string s) rfl) <| rK he fun c6 he => w_g (g := !((decide ((s.size : Int) = 0)) || (decide (1300 < (s.size : Int))))) rfl rfl rfl wn_f (fun g5 => d_bt Tryz.underlying9 (cvt g5) rfl (c6 g5)) <| w_g (g := !((decide ((s.size : Int) = 0)) || (decide (1300 < (s.size : Int))))) rfl rfl rfl wn_f (fun g7 => Y1 (cvt g7) rfl) <| w_g (g := !((decide ((s.size : Int) = 0)) || (decide (1300 < (s.size : Int))))) rfl rfl rfl wn_f (fun g8 => QF (v := .bool (decide ((bt s 0) = 48))) (cvt g8)) <| w_g (g := (!((decide ((s.size : Int) = 0)) || (decide (1300 < (s.size : Int))))) && (decide ((bt s 0) = 48))) rfl rfl rfl Jt (fun g9 => QF (v := .string s) rfl) <| w_g (g := (!((decide ((s.size : Int) = 0)) || (decide (1300 < (s.size : Int))))) && (decide ((bt s 0) = 48))) rfl rfl rfl Jt (fun g10 => Mm Tryz.underlying9 (cvt g10)) ?_
 refine w_g (g := (!((decide ((s.size : Int) = 0)) || (decide (1300 < (s.size : Int))))) && (decide ((bt s 0) = 48))) rfl rfl rfl Jt (fun g11 => YR (cvt g11) rfl) <| w_g (g := !((decide ((s.size : Int) = 0)) || (decide (1300 < (s.size : Int))))) rfl rfl rfl wn_f (fun g12 => d_and' (b := (decide ((bt s 0) = 48))) (p := (decide (1 < (s.size : Int)))) (cvt g12) (cva g12) rfl) <| w_d rfl (d_or' (b := ((decide ((s.size : Int) = 0)) || (decide (1300 < (s.size : Int))))) (p := ((decide ((bt s 0) = 48)) && (decide (1 < (s.size : Int))))) rfl rfl rfl) <| Qa ?_
 rcases its he with ⟨c13, he⟩ | ⟨c13, he⟩
 ·
  refine Qy rfl c13 <| wR rfl <| wA (.bool false) rfl rfl <| Qa ?_
  obtain rfl := sj he
  refine Qi fn_147 rs_147 (.tmp (v := .bool false) rfl .nil) <| ⟨⟨[], rfl⟩, hle, rfl⟩
 ·
  refine QB rfl (Bool.eq_false_iff.2 c13) <| QA <| QV <| wR rfl <| wM (.string s) rfl rfl <| w_a rfl (OR Tryz.underlying9 Tryz.underlying52 Tryz.underlying5 rfl) ?_
  rintro v14 H15 _ ⟨rfl, e16, h17⟩
  refine w_d rfl (Xq Tryz.underlying52 rfl h17.src) <| wM (.int .i64 0) rfl rfl <| Qa <| QU <| X3 <| w_sl 2 (.bool false) rfl <| w_sl 24 (v14) rfl <| w_sl 25 (.int .i64 ((bytesOf s).length : Int)) rfl <| w_sl 26 (.int .i64 0) rfl <| hh.l0 (hle.trans e16) he h17
end Go.Proofs.YtkccpkccdbfomaaGreatDoor.GBH

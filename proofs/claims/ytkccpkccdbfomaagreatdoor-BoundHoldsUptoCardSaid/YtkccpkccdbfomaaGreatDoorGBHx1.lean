/- printed by gen.py -/
import Derived.Test.YtkccpkccdbfomaaGreatDoorGBHx0
namespace Go.Proofs.YtkccpkccdbfomaaGreatDoor.GBH
open Go Go.RowKit Go.Proofs.YtkccpkccdbfomaaGreatDoorK Go.Proofs.YtkccpkccdbfomaaGreatDoor
set_option maxRecDepth 100000
set_option maxHeartbeats 2000000
set_option linter.unusedVariables false
set_option linter.unusedSimpArgs false
noncomputable def Yy.C : Code := (Tryz.f152.body).getD .skip
def Yy.out (r : Int × Bool) (H : Hp) (v : Value) : Prop := v = .tuple ⟨[.int .i64 r.1, .bool r.2]⟩
noncomputable def Yy.f (k : Nat) (s : XX) : Option (Int × Bool) := (Zk.f k 4611686018427387903).bind fun y2 => (XO.f k s y2).bind fun y6 => (Zk.f k (-4611686018427387904)).bind fun y13 => (XO.f k s y13).bind fun y17 => (Yn.f k y6).bind fun y24 => if y24 = true then (some ((-4611686018427387903), true)) else ((Yn.f k y17).bind fun y29 => if (!y29) = true then (some (4611686018427387903, true)) else (some (w64 (s.e0), false)))
theorem Yy.calls (k : Nat) {H : Hp} {L : Items} {s : XX} {r : Int × Bool} (he : Yy.f k s = some r) : Ct Tryz.prog 152 ⟨[(Xg s)]⟩ H L (fun v H' L' => L = L' ∧ H = H' ∧ v = .tuple ⟨[.int .i64 r.1, .bool r.2]⟩) := by
 refine X6 (O := Yy.out r) (fun _ _ h => h) ?_
 have hle : H.le H := .refl _
 unfold Yy.f at he
 refine QP (args := [_]) fn_152 rfl nt_152 rfl <| wR rfl <| wB (Xg s) rfl rfl rfl <| fun b1 => wA (.int .i64 0) rfl rfl <| wA (.bool false) rfl rfl <| wE <| bK he fun y2 hy3 he => bK he fun y6 hy7 he => ?_
 refine YM (?_)
 refine XJ (p := 4) (tl := [4]) [[], [], [(0, some 6), (1, some 7)], []] [some 6, some 7, some 8, some 4] (fctF (.is (Xg s) :: .is (Xg y2) :: .is (Xg y6) :: .box 216 [.int .u64 0, .int .u64 0, .int .u64 0] :: [])) (fun m_ => m_ 3 :: bx b1 (YH s) 216 :: L) (fun _ => none) mixed (by kernel_rfl) (by kernel_rfl) rfl (Xv (by kernel_rfl)) ⟨(fun H' m_ hH hm_ hu_ => dn <| s_d (m_ 0) rfl (QS (v := (Xg s)) ty216 rfl .h1 rfl rfl rfl rfl) (by exact rfl) rfl), (fun H' m_ hH hm_ hu_ => dn <| s_d (m_ 1) rfl (Xs (Qm co165 (vs := [.int .i64 4611686018427387903]) rfl (Zk.calls k hy3))) (by exact rfl) rfl), (by rintro H' m_ hH hm_ hu_ _ rfl _ rfl; exact dn <| s_d (m_ 2) rfl (Xs (Qm co149 (vs := [(Xg s), (Xg y2)]) rfl (XO.calls k (s := s) (o := y2) hy7))) (by exact rfl) rfl), (fun H' m_ hH hm_ hu_ => dn <| ZS hm_ rfl rfl (Y5 zr216 rfl) rfl (fun _ => .here) (by exact fun b_ => ⟨b_, rfl, rfl⟩)), trivial⟩ ?_
 intro H11 e12
 rintro _ _ rfl _ _ rfl _ _ rfl _ _ ⟨b10, rfl, rfl⟩
 refine wS (Xg y6) sz216 rfl rfl rfl rfl rfl (oc rfl (oc rfl (oc rfl oz))) .here (.here u2) <| wE <| bK he fun y13 hy14 he => bK he fun y17 hy18 he => ?_
 refine YM (?_)
 refine XJ (p := 4) (tl := [4]) [[], [], [(0, some 9), (1, some 10)], []] [some 9, some 10, some 11, some 5] (fctF (.is (Xg s) :: .is (Xg y13) :: .is (Xg y17) :: .box 216 [.int .u64 0, .int .u64 0, .int .u64 0] :: [])) (fun m_ => m_ 3 :: bx b10 (YH y6) 216 :: bx b1 (YH s) 216 :: L) (fun _ => none) mixed (by kernel_rfl) (by kernel_rfl) rfl (Xv (by kernel_rfl)) ⟨(fun H' m_ hH hm_ hu_ => dn <| s_d (m_ 0) rfl (QS (v := (Xg s)) ty216 rfl .h2 rfl rfl rfl rfl) (by exact rfl) rfl), (fun H' m_ hH hm_ hu_ => dn <| s_d (m_ 1) rfl (Xs (Qm co165 (vs := [.int .i64 (-4611686018427387904)]) rfl (Zk.calls k hy14))) (by exact rfl) rfl), (by rintro H' m_ hH hm_ hu_ _ rfl _ rfl; exact dn <| s_d (m_ 2) rfl (Xs (Qm co149 (vs := [(Xg s), (Xg y13)]) rfl (XO.calls k (s := s) (o := y13) hy18))) (by exact rfl) rfl), (fun H' m_ hH hm_ hu_ => dn <| ZS hm_ rfl rfl (Y5 zr216 rfl) rfl (fun _ => .here) (by exact fun b_ => ⟨b_, rfl, rfl⟩)), trivial⟩ ?_
 intro H22 e23
 rintro _ _ rfl _ _ rfl _ _ rfl _ _ ⟨b21, rfl, rfl⟩
 refine wS (Xg y17) sz216 rfl rfl rfl rfl rfl (oc rfl (oc rfl (oc rfl oz))) .here (.here u2) <| wE <| QU <| wR rfl <| wL (Xg y6) ty216 rfl rfl .h1 rfl rfl <| bK he fun y24 hy25 he => w_d rfl (Xs (Qm co164 (vs := [(Xg y6)]) rfl (Yn.calls k (s := y6) hy25))) <| wA (.bool y24) rfl rfl <| Qa ?_
 rcases its he with ⟨c28, he⟩ | ⟨c28, he⟩
 ·
  refine Qy rfl c28 <| wR rfl <| wA (.int .i64 (-4611686018427387903)) rfl rfl <| wA (.bool true) rfl rfl <| Qa ?_
  obtain rfl := sj he
  refine Qi fn_152 rs_152 (.tmp (v := .int .i64 (-4611686018427387903)) rfl (.tmp (v := .bool true) rfl .nil)) <| ⟨⟨[_, _, _], rfl⟩, hle.trans (e12.trans e23), rfl⟩
 ·
  refine QB rfl (Bool.eq_false_iff.2 c28) <| wR rfl <| wL (Xg y17) ty216 rfl rfl .here rfl rfl <| bK he fun y29 hy30 he => w_d rfl (Xs (Qm co164 (vs := [(Xg y17)]) rfl (Yn.calls k (s := y17) hy30))) <| w_d rfl (Zz (b := y29) rfl) <| wA (.bool (!y29)) rfl rfl <| Qa ?_
  rcases its he with ⟨c33, he⟩ | ⟨c33, he⟩
  ·
   refine Qy rfl c33 <| wR rfl <| wA (.int .i64 4611686018427387903) rfl rfl <| wA (.bool true) rfl rfl <| Qa ?_
   obtain rfl := sj he
   refine Qi fn_152 rs_152 (.tmp (v := .int .i64 4611686018427387903) rfl (.tmp (v := .bool true) rfl .nil)) <| ⟨⟨[_, _, _], rfl⟩, hle.trans (e12.trans e23), rfl⟩
  ·
   refine QB rfl (Bool.eq_false_iff.2 c33) <| QA <| Xk <| wR rfl <| w_d rfl (Yr (o' := 0) Tryz.underlying216 sz113 rfl rfl (by decide) rfl) <| wL (.int .u64 s.e0) ty113 rfl rfl .h2 rfl rfl <| w_d rfl (XY (c := w64 (s.e0)) Tryz.underlying113 Tryz.underlying2 rfl rfl) <| wA (.int .i64 (w64 (s.e0))) rfl rfl <| wA (.bool false) rfl rfl <| Qa ?_
   obtain rfl := sj he
   refine Qi fn_152 rs_152 (.tmp (v := .int .i64 (w64 (s.e0))) rfl (.tmp (v := .bool false) rfl .nil)) <| ⟨⟨[_, _, _], rfl⟩, hle.trans (e12.trans e23), rfl⟩
noncomputable def XN.C : Code := (Tryz.f135.body).getD .skip
def XN.out (r : Int × Bool × (Option Int)) (H : Hp) (v : Value) : Prop := v = .tuple ⟨[.int .i64 r.1, .bool r.2.1, errV 104 r.2.2]⟩
abbrev XN.R (H0 : Hp) (L : Items) (r : Int × Bool × (Option Int)) := fR H0 L (XN.out r)
structure XN.Hs where
 l0 : (List Int) → Int → Int → Int → Int → (List Int) → Int → Int → Option (Int × Bool × (Option Int))
noncomputable def XN.b0 (k : Nat) (h : XN.Hs) (b : List Int) (point s_0 s_1 s_2 : Int) (t30 : List Int) (t31 t32 : Int) : Option (Int × Bool × (Option Int)) := if t32 < t31 then (if (0 : Int) ≤ t32 ∧ t32 < (t30.length : Int) then (if (0 : Int) ≤ t32 ∧ t32 < (b.length : Int) then ((YN.f k (rd t30 t32) (rd b t32)).bind fun y18 => (XO.f k ⟨s_0, s_1, s_2⟩ y18).bind fun y24 => h.l0 b point y24.e0 y24.e1 y24.e2 t30 t31 (w64 (t32 + 1))) else none) else none) else ((Xb.f k ⟨s_0, s_1, s_2⟩ point).bind fun y28 => (Yy.f k y28).bind fun y32 => some (y32.1, y32.2, none))
noncomputable def XN.hs : Nat → XN.Hs
 | 0 => ⟨fun _ _ _ _ _ _ _ _ => none⟩
 | k + 1 => ⟨fun x0 x1 x2 x3 x4 x5 x6 x7 => XN.b0 k (XN.hs k) x0 x1 x2 x3 x4 x5 x6 x7⟩
noncomputable def XN.f (k : Nat) (a b : List Int) (point : Int) : Option (Int × Bool × (Option Int)) := (fun h : XN.Hs => (YS.f k point).bind fun y1 => if (((!y1) || (!decide ((a.length : Int) = (b.length : Int)))) || (decide (64 < (a.length : Int)))) = true then (some (0, false, some 1)) else (h.l0 b point 0 0 0 a (a.length : Int) 0)) (XN.hs k)
noncomputable def XN.Kl0 : List Item := .code (lopB (blkB (seqR (seqL (seqR (seqR (seqR XN.C))))))) :: .inLoop (lopB (blkB (seqR (seqL (seqR (seqR (seqR XN.C))))))) :: .inBlock 0 :: .code (seqR (seqR (seqR (seqR XN.C)))) :: []
structure XN.OK (h : XN.Hs) : Prop where
 l0 : ∀ {H0 H : Hp} {L : Items} {r : Int × Bool × (Option Int)} {jk_ : Nat → Value} {b : List Int} {point : Int} {s_0 : Int} {s_1 : Int} {s_2 : Int} {t30 : List Int} {t31 : Int} {t32 : Int} {v_b : Value} {v_t30 : Value} {b_s : Nat} (_ : H0.le H) (_he : h.l0 b point s_0 s_1 s_2 t30 t31 t32 = some r) (_h_b : Src kI64 H L v_b b) (_h_t30 : Src kI64 H L v_t30 t30), Wp Tryz.prog 135 55 XN.Kl0 (upd (upd (upd (upd (upd (upd (upd (upd (upd jk_ 1 (v_b)) 2 (.int .i64 point)) 6 (.int .i64 0)) 7 (.bool false)) 8 (errV 104 none)) 9 (pt b_s)) 30 (v_t30)) 31 (.int .i64 t31)) 32 (.int .i64 t32)) H (bx b_s [.int .u64 s_0, .int .u64 s_1, .int .u64 s_2] 216 :: L) (XN.R H0 L r)
theorem XN.b0_ok {k : Nat} {h : XN.Hs} (hh : XN.OK h) {H0 H : Hp} {L : Items} {r : Int × Bool × (Option Int)} {jk_ : Nat → Value} {b : List Int} {point s_0 s_1 s_2 : Int} {t30 : List Int} {t31 t32 : Int} {v_b v_t30 : Value} {b_s : Nat} (hle : H0.le H) (he : XN.b0 k h b point s_0 s_1 s_2 t30 t31 t32 = some r) (h_b : Src kI64 H L v_b b) (h_t30 : Src kI64 H L v_t30 t30) : Wp Tryz.prog 135 55 XN.Kl0 (upd (upd (upd (upd (upd (upd (upd (upd (upd jk_ 1 (v_b)) 2 (.int .i64 point)) 6 (.int .i64 0)) 7 (.bool false)) 8 (errV 104 none)) 9 (pt b_s)) 30 (v_t30)) 31 (.int .i64 t31)) 32 (.int .i64 t32)) H (bx b_s [.int .u64 s_0, .int .u64 s_1, .int .u64 s_2] 216 :: L) (XN.R H0 L r) := by
 unfold XN.b0 at he
 unfold XN.Kl0
 refine wR rfl <| w_d rfl (XG rfl rfl) <| wE ?_
 rcases its he with ⟨c15, he⟩ | ⟨c15, he⟩
 ·
  refine Qy rfl (dt c15) <| QA <| QV <| QU <| wR rfl <| wM (.int .i64 t32) rfl rfl <| rK he fun c16 he => w_d rfl (XM (sz := 1) Tryz.underlying72 sz2 rfl h_t30.th rfl c16) <| w_d rfl (XL ty2 rfl h_t30.th c16) <| wA (.int .i64 t32) rfl rfl <| wA (.int .i64 (rd t30 t32)) rfl rfl ?_
  refine Qa <| rK he fun c17 he => bK he fun y18 hy19 he => XJ (p := 7) (tl := [7, 8]) [[], [], [], [], [(2, some 39), (3, some 40)], [(4, some 41)], [(1, some 38), (5, some 42)]] [some 37, some 38, some 39, some 40, some 41, some 42, some 43] (fctF (.is (.agg ⟨[.int .u64 s_0, .int .u64 s_1, .int .u64 s_2]⟩) :: .is (.int .i64 (rd t30 t32)) :: .is (v_b) :: .is (.int .i64 t32) :: .is (.pointer (some (pel v_b t32 1))) :: .is (.int .i64 (rd b t32)) :: .is (Xg y18) :: [])) (fun m_ => bx b_s [.int .u64 s_0, .int .u64 s_1, .int .u64 s_2] 216 :: L) (fun _ => none) mixed (by kernel_rfl) (by kernel_rfl) rfl (Xv (by kernel_rfl)) ⟨(fun H' m_ hH hm_ hu_ => dn <| s_d (m_ 0) rfl (QS (v := .agg ⟨[.int .u64 s_0, .int .u64 s_1, .int .u64 s_2]⟩) ty216 rfl .here rfl rfl rfl rfl) (by exact rfl) rfl), (fun H' m_ hH hm_ hu_ => dn <| s_d (m_ 1) rfl (QF (v := .int .i64 (rd t30 t32)) rfl) (by exact rfl) rfl), (fun H' m_ hH hm_ hu_ => dn <| s_d (m_ 2) rfl (QF (v := v_b) rfl) (by exact rfl) rfl), (fun H' m_ hH hm_ hu_ => dn <| s_d (m_ 3) rfl (QF (v := .int .i64 t32) rfl) (by exact rfl) rfl), (by rintro H' m_ hH hm_ hu_ _ rfl _ rfl; exact dn <| s_d (m_ 4) rfl (XM (sz := 1) Tryz.underlying72 sz2 rfl (h_b.mono hH).th rfl c17) (by exact rfl) rfl), (by rintro H' m_ hH hm_ hu_ _ rfl; exact dn <| s_d (m_ 5) rfl (XL ty2 rfl (h_b.mono hH).th c17) (by exact rfl) rfl), (by rintro H' m_ hH hm_ hu_ _ rfl _ rfl; exact dn <| s_d (m_ 6) rfl (Xs (Qm co150 (vs := [.int .i64 (rd t30 t32), .int .i64 (rd b t32)]) rfl (YN.calls k hy19))) (by exact rfl) rfl), trivial⟩ ?_
  intro H22 e23
  rintro _ _ rfl _ _ rfl _ _ rfl _ _ rfl _ _ rfl _ _ rfl _ _ rfl
  refine bK he fun y24 hy25 he => w_d rfl (Xs (Qm co149 (vs := [.agg ⟨[.int .u64 s_0, .int .u64 s_1, .int .u64 s_2]⟩, (Xg y18)]) rfl (XO.calls k (s := ⟨s_0, s_1, s_2⟩) (o := y18) hy25))) <| wS (Xg y24) sz216 rfl rfl rfl rfl rfl (oc rfl (oc rfl (oc rfl oz))) .here (.here u2) <| Qa <| Xk <| QD rfl <| w_d rfl (Xt (c := w64 (t32 + 1)) rfl rfl rfl) <| wM (.int .i64 (w64 (t32 + 1))) rfl rfl <| Qa <| Xy <| w_sl 1 (v_b) rfl <| w_sl 2 (.int .i64 point) rfl ?_
  refine w_sl 6 (.int .i64 0) rfl <| w_sl 7 (.bool false) rfl <| w_sl 8 (errV 104 none) rfl <| w_sl 9 (pt b_s) rfl <| w_sl 30 (v_t30) rfl <| w_sl 31 (.int .i64 t31) rfl <| w_sl 32 (.int .i64 (w64 (t32 + 1))) rfl <| hh.l0 (hle.trans e23) he (h_b.mono e23) (h_t30.mono e23)
 ·
  refine QB rfl (df c15) <| X1 rfl <| wR rfl <| wL (.agg ⟨[.int .u64 s_0, .int .u64 s_1, .int .u64 s_2]⟩) ty216 rfl rfl .here rfl rfl <| wM (.int .i64 point) rfl rfl <| bK he fun y28 hy29 he => w_d rfl (Xs (Qm co151 (vs := [.agg ⟨[.int .u64 s_0, .int .u64 s_1, .int .u64 s_2]⟩, .int .i64 point]) rfl (Xb.calls k (s := ⟨s_0, s_1, s_2⟩) hy29))) <| bK he fun y32 hy33 he => w_d rfl (Xs (Qm co152 (vs := [(Xg y28)]) rfl (Yy.calls k (s := y28) hy33))) <| wM (.tuple ⟨[.int .i64 y32.1, .bool y32.2]⟩) rfl rfl <| w_d rfl (QO rfl rfl) ?_
  refine w_d rfl (QO rfl rfl) <| wA (.int .i64 y32.1) rfl rfl <| wA (.bool y32.2) rfl rfl <| wQ rfl <| wM (.int .i64 y32.1) rfl rfl <| wM (.bool y32.2) rfl rfl <| wA (.int .i64 y32.1) rfl rfl <| wA (.bool y32.2) rfl rfl <| wA (errV 104 none) rfl rfl <| Qa ?_
  obtain rfl := sj he
  refine Qi fn_135 rs_135 (.tmp (v := .int .i64 y32.1) rfl (.tmp (v := .bool y32.2) rfl (.tmp (v := errV 104 none) rfl .nil))) <| ⟨⟨[_], rfl⟩, hle, rfl⟩
theorem XN.ok : ∀ k, XN.OK (XN.hs k)
 | 0 => ⟨(by intros; exact nomatch (show none = some _ from by assumption))⟩
 | k + 1 => ⟨XN.b0_ok (k := k) (XN.ok k)⟩
theorem XN.calls (k : Nat) {H : Hp} {L : Items} {a b : List Int} {point : Int} {v0_a v1_b : Value} {r : Int × Bool × (Option Int)} (he : XN.f k a b point = some r) (h0_a : Src kI64 H L v0_a a) (h1_b : Src kI64 H L v1_b b) : Ct Tryz.prog 135 ⟨[v0_a, v1_b, .int .i64 point]⟩ H L (fun v H' L' => L = L' ∧ H = H' ∧ v = .tuple ⟨[.int .i64 r.1, .bool r.2.1, errV 104 r.2.2]⟩) := by
 refine X6 (O := XN.out r) (fun _ _ h => h) ?_
 have hle : H.le H := .refl _
 have hh := XN.ok k
 unfold XN.f at he
 refine QP (args := [_, _, _]) fn_135 rfl nt_135 rfl <| wR rfl <| wA (.int .i64 0) rfl rfl <| wA (.bool false) rfl rfl <| wA (errV 104 none) rfl rfl <| wE <| wR rfl <| wM (.int .i64 point) rfl rfl <| bK he fun y1 hy2 he => ?_
 refine w_d rfl (Xs (Qm co148 (vs := [.int .i64 point]) rfl (YS.calls k hy2))) <| w_d rfl (Zz (b := y1) rfl) <| wM (.bool (!y1)) rfl rfl <| w_g (g := !(!y1)) rfl rfl rfl wn_f (fun g5 => QF (v := v0_a) rfl) <| w_g (g := !(!y1)) rfl rfl rfl wn_f (fun g6 => Xq Tryz.underlying72 (cvt g6) h0_a) <| w_g (g := !(!y1)) rfl rfl rfl wn_f (fun g7 => QF (v := v1_b) rfl) <| w_g (g := !(!y1)) rfl rfl rfl wn_f (fun g8 => Xq Tryz.underlying72 (cvt g8) h1_b) <| w_g (g := !(!y1)) rfl rfl rfl wn_f (fun g9 => Zl (cvt g9) (cvt g9)) <| w_d rfl (d_or' (b := (!y1)) (p := (!decide ((a.length : Int) = (b.length : Int)))) rfl rfl rfl) <| wM (.bool ((!y1) || (!decide ((a.length : Int) = (b.length : Int))))) rfl rfl <| w_g (g := !((!y1) || (!decide ((a.length : Int) = (b.length : Int))))) rfl rfl rfl wn_f (fun g10 => QF (v := v0_a) rfl) <| w_g (g := !((!y1) || (!decide ((a.length : Int) = (b.length : Int))))) rfl rfl rfl wn_f (fun g11 => Xq Tryz.underlying72 (cvt g11) h0_a) ?_
 refine w_g (g := !((!y1) || (!decide ((a.length : Int) = (b.length : Int))))) rfl rfl rfl wn_f (fun g12 => YR (cvt g12) rfl) <| w_d rfl (d_or' (b := ((!y1) || (!decide ((a.length : Int) = (b.length : Int))))) (p := (decide (64 < (a.length : Int)))) rfl rfl rfl) <| Qa ?_
 rcases its he with ⟨c13, he⟩ | ⟨c13, he⟩
 ·
  refine Qy rfl c13 <| wR rfl <| w_d rfl (YU (v := .int .i64 1) Tryz.underlying104 rfl rfl) <| wA (.int .i64 0) rfl rfl <| wA (.bool false) rfl rfl <| wA (errV 104 (some 1)) rfl rfl <| Qa ?_
  obtain rfl := sj he
  refine Qi fn_135 rs_135 (.tmp (v := .int .i64 0) rfl (.tmp (v := .bool false) rfl (.tmp (v := errV 104 (some 1)) rfl .nil))) <| ⟨⟨[], rfl⟩, hle, rfl⟩
 ·
  refine QB rfl (Bool.eq_false_iff.2 c13) <| QA <| wR rfl <| wN zr216 rfl rfl fun b14 => wE <| wR rfl <| wM v0_a rfl rfl <| w_d rfl (Xq Tryz.underlying72 rfl h0_a.th) <| wM (.int .i64 0) rfl rfl ?_
  refine Qa <| QU <| X3 <| w_sl 1 (v1_b) rfl <| w_sl 2 (.int .i64 point) rfl <| w_sl 6 (.int .i64 0) rfl <| w_sl 7 (.bool false) rfl <| w_sl 8 (errV 104 none) rfl <| w_sl 9 (pt b14) rfl <| w_sl 30 (v0_a) rfl <| w_sl 31 (.int .i64 (a.length : Int)) rfl <| w_sl 32 (.int .i64 0) rfl <| hh.l0 hle he h1_b h0_a
noncomputable def ZK.C : Code := (Tryz.f104.body).getD .skip
def ZK.out (r : Int × Bool) (H : Hp) (v : Value) : Prop := v = .tuple ⟨[.int .i64 r.1, .bool r.2]⟩
noncomputable def ZK.f (k : Nat) (a b : List Int) : Option (Int × Bool) := (XN.f k a b 20).bind fun y1 => some (y1.1, y1.2.1 && y1.2.2.isNone)
theorem ZK.calls (k : Nat) {H : Hp} {L : Items} {a b : List Int} {v0_a v1_b : Value} {r : Int × Bool} (he : ZK.f k a b = some r) (h0_a : Src kI64 H L v0_a a) (h1_b : Src kI64 H L v1_b b) : Ct Tryz.prog 104 ⟨[v0_a, v1_b]⟩ H L (fun v H' L' => L = L' ∧ H = H' ∧ v = .tuple ⟨[.int .i64 r.1, .bool r.2]⟩) := by
 refine X6 (O := ZK.out r) (fun _ _ h => h) ?_
 have hle : H.le H := .refl _
 unfold ZK.f at he
 refine QP (args := [_, _]) fn_104 rfl nt_104 rfl <| wR rfl <| wA (.int .i64 0) rfl rfl <| wA (.bool false) rfl rfl <| wQ rfl <| wM v0_a rfl rfl <| wM v1_b rfl rfl <| bK he fun y1 hy2 he => w_d rfl (Xs (Qm co135 (vs := [v0_a, v1_b, .int .i64 20]) rfl (XN.calls k hy2 h0_a h1_b))) ?_
 refine wM (.tuple ⟨[.int .i64 y1.1, .bool y1.2.1, errV 104 y1.2.2]⟩) rfl rfl <| w_d rfl (QO rfl rfl) <| w_d rfl (QO rfl rfl) <| w_d rfl (QO rfl rfl) <| wA (.int .i64 y1.1) rfl rfl <| wA (.bool y1.2.1) rfl rfl <| wA (errV 104 y1.2.2) rfl rfl <| wE <| XJ (p := 7) (tl := [7]) [[], [], [(1, some 17)], [(2, some 18)], [(2, some 18), (3, some 19)], [(2, some 18), (4, some 20)], [(0, some 16)]] [some 16, some 17, some 18, some 19, some 20, some 21, some 4] (fctF (.is (.int .i64 y1.1) :: .is (.bool y1.2.1) :: .is (.bool y1.2.1) :: .is (cond y1.2.1 (errV 104 y1.2.2) undef) :: .is (cond y1.2.1 (.bool y1.2.2.isNone) undef) :: .is (.bool (y1.2.1 && y1.2.2.isNone)) :: .is (.int .i64 y1.1) :: [])) (fun m_ => L) (fun _ => none) mixed (by kernel_rfl) (by kernel_rfl) rfl (Xv (by kernel_rfl)) ⟨(fun H' m_ hH hm_ hu_ => dn <| s_d (m_ 0) rfl (QF (v := .int .i64 y1.1) rfl) (by exact rfl) rfl), (fun H' m_ hH hm_ hu_ => dn <| s_d (m_ 1) rfl (QF (v := .bool y1.2.1) rfl) (by exact rfl) rfl), (by rintro H' m_ hH hm_ hu_ _ rfl; exact dn <| s_d (m_ 2) rfl (QF (v := .bool y1.2.1) rfl) (by exact rfl) rfl), (by rintro H' m_ hH hm_ hu_ _ rfl; exact dn <| s_g (g := y1.2.1) (m_ 3) rfl rfl rfl wn_t (fun g5 => QF (v := errV 104 y1.2.2) rfl) rfl (by exact fun g_ => cvt g_) (by exact fun g_ => cnt g_)), (by rintro H' m_ hH hm_ hu_ _ rfl _ rfl; exact dn <| s_g (g := y1.2.1) (m_ 4) rfl rfl rfl wn_t (fun g6 => Zt (e := y1.2.2) Tryz.underlying30 (cvt g6)) rfl (by exact fun g_ => cvt g_) (by exact fun g_ => cnt g_)), (by rintro H' m_ hH hm_ hu_ _ rfl _ rfl; exact dn <| s_d (m_ 5) rfl (d_and' (b := y1.2.1) (p := y1.2.2.isNone) rfl rfl rfl) (by exact rfl) rfl), (by rintro H' m_ hH hm_ hu_ _ rfl; exact dn <| s_d (m_ 6) rfl (J9 (v := .int .i64 y1.1) rfl) (by exact rfl) rfl), trivial⟩ ?_
 intro H7 e8
 rintro _ _ rfl _ _ rfl _ _ rfl _ _ rfl _ _ rfl _ _ rfl _ _ rfl
 refine wA (.bool (y1.2.1 && y1.2.2.isNone)) rfl rfl <| Qa ?_
 obtain rfl := sj he
 refine Qi fn_104 rs_104 (.tmp (v := .int .i64 y1.1) rfl (.tmp (v := .bool (y1.2.1 && y1.2.2.isNone)) rfl .nil)) <| ⟨⟨[], rfl⟩, hle.trans e8, rfl⟩
noncomputable def Xm.C : Code := (Tryz.f54.body).getD .skip
def Xm.out (r : (List Int) × Bool × (Option Int)) (H : Hp) (v : Value) : Prop := ∃ v0, v = .tuple ⟨[v0, .bool r.2.1, errV 104 r.2.2]⟩ ∧ Ro kI64 H v0 r.1
abbrev Xm.R (H0 : Hp) (L : Items) (r : (List Int) × Bool × (Option Int)) := fR H0 L (Xm.out r)
structure Xm.Hs where
 l0 : (List Int) → XV → (List Int) → Bool → Int → Int → Option ((List Int) × Bool × (Option Int))
noncomputable def Xm.b0 (k : Nat) (h : Xm.Hs) (v_ : List Int) (m_1 : XV) (out : List Int) (any : Bool) (t27 t28 : Int) : Option ((List Int) × Bool × (Option Int)) := if t28 < t27 then (if (0 : Int) ≤ w64 (t28 * m_1.f_Cols) ∧ (w64 (t28 * m_1.f_Cols) : Int) ≤ w64 ((w64 (t28 + 1)) * m_1.f_Cols) ∧ w64 ((w64 (t28 + 1)) * m_1.f_Cols) ≤ (36 : Int) then ((ZK.f k (cut (T73.toL m_1.f_A) (w64 (t28 * m_1.f_Cols)) (w64 ((w64 (t28 + 1)) * m_1.f_Cols))) v_).bind fun y18 => if out.length + 1 ≤ 17592186044288 then (h.l0 v_ m_1 (out ++ [y18.1]) (any || y18.2) t27 (w64 (t28 + 1))) else none) else none) else (some (out, any, none))
noncomputable def Xm.hs : Nat → Xm.Hs
 | 0 => ⟨fun _ _ _ _ _ _ => none⟩
 | k + 1 => ⟨fun x0 x1 x2 x3 x4 x5 => Xm.b0 k (Xm.hs k) x0 x1 x2 x3 x4 x5⟩
noncomputable def Xm.f (k : Nat) (m : XV) (v_ : List Int) : Option ((List Int) × Bool × (Option Int)) := (fun h : Xm.Hs => (Q6.f k m).bind fun y2 => if (y2.isSome || (!decide ((v_.length : Int) = m.f_Cols))) = true then (some ([], false, some 1)) else (if 0 ≤ 0 ∧ 0 ≤ m.f_Rows ∧ m.f_Rows ≤ 35184372088832 then (h.l0 v_ m (List.replicate (0 : Int).toNat (0 : Int)) false m.f_Rows 0) else none)) (Xm.hs k)
noncomputable def Xm.Kl0 : List Item := .code (lopB (blkB (seqR (seqL (seqR (seqR (seqR (seqR Xm.C)))))))) :: .inLoop (lopB (blkB (seqR (seqL (seqR (seqR (seqR (seqR Xm.C)))))))) :: .inBlock 0 :: .code (seqR (seqR (seqR (seqR (seqR Xm.C))))) :: []
structure Xm.OK (h : Xm.Hs) : Prop where
 l0 : ∀ {H0 H : Hp} {L : Items} {r : (List Int) × Bool × (Option Int)} {jk_ : Nat → Value} {v_ : List Int} {m_1 : XV} {out : List Int} {any : Bool} {t27 : Int} {t28 : Int} {v_v_ : Value} {v_out : Value} {i_out : Item'} {b_m : Nat} (_ : H0.le H) (_he : h.l0 v_ m_1 out any t27 t28 = some r) (_h_v_ : Src kI64 H L v_v_ v_) (_h_out : Sl kI64 H 2 i_out v_out out), Wp Tryz.prog 54 58 Xm.Kl0 (upd (upd (upd (upd (upd (upd (upd (upd (upd jk_ 1 (v_v_)) 2 (pt b_m)) 4 (.slice none 0 0)) 5 (.bool false)) 6 (errV 104 none)) 7 (v_out)) 8 (.bool any)) 27 (.int .i64 t27)) 28 (.int .i64 t28)) H (i_out :: bx b_m (.int .i64 m_1.f_Rows :: .int .i64 m_1.f_Cols :: .int .i64 m_1.f_A.e0 :: .int .i64 m_1.f_A.e1 :: .int .i64 m_1.f_A.e2 :: .int .i64 m_1.f_A.e3 :: .int .i64 m_1.f_A.e4 :: .int .i64 m_1.f_A.e5 :: .int .i64 m_1.f_A.e6 :: .int .i64 m_1.f_A.e7 :: .int .i64 m_1.f_A.e8 :: .int .i64 m_1.f_A.e9 :: .int .i64 m_1.f_A.e10 :: .int .i64 m_1.f_A.e11 :: .int .i64 m_1.f_A.e12 :: .int .i64 m_1.f_A.e13 :: .int .i64 m_1.f_A.e14 :: .int .i64 m_1.f_A.e15 :: .int .i64 m_1.f_A.e16 :: .int .i64 m_1.f_A.e17 :: .int .i64 m_1.f_A.e18 :: .int .i64 m_1.f_A.e19 :: .int .i64 m_1.f_A.e20 :: .int .i64 m_1.f_A.e21 :: .int .i64 m_1.f_A.e22 :: .int .i64 m_1.f_A.e23 :: .int .i64 m_1.f_A.e24 :: .int .i64 m_1.f_A.e25 :: .int .i64 m_1.f_A.e26 :: .int .i64 m_1.f_A.e27 :: .int .i64 m_1.f_A.e28 :: .int .i64 m_1.f_A.e29 :: .int .i64 m_1.f_A.e30 :: .int .i64 m_1.f_A.e31 :: .int .i64 m_1.f_A.e32 :: .int .i64 m_1.f_A.e33 :: .int .i64 m_1.f_A.e34 :: .int .i64 m_1.f_A.e35 :: []) 75 :: L) (Xm.R H0 L r)
theorem Xm.b0_ok {k : Nat} {h : Xm.Hs} (hh : Xm.OK h) {H0 H : Hp} {L : Items} {r : (List Int) × Bool × (Option Int)} {jk_ : Nat → Value} {v_ : List Int} {m_1 : XV} {out : List Int} {any : Bool} {t27 t28 : Int} {v_v_ v_out : Value} {i_out : Item'} {b_m : Nat} (hle : H0.le H) (he : Xm.b0 k h v_ m_1 out any t27 t28 = some r) (h_v_ : Src kI64 H L v_v_ v_) (h_out : Sl kI64 H 2 i_out v_out out) : Wp Tryz.prog 54 58 Xm.Kl0 (upd (upd (upd (upd (upd (upd (upd (upd (upd jk_ 1 (v_v_)) 2 (pt b_m)) 4 (.slice none 0 0)) 5 (.bool false)) 6 (errV 104 none)) 7 (v_out)) 8 (.bool any)) 27 (.int .i64 t27)) 28 (.int .i64 t28)) H (i_out :: bx b_m (.int .i64 m_1.f_Rows :: .int .i64 m_1.f_Cols :: .int .i64 m_1.f_A.e0 :: .int .i64 m_1.f_A.e1 :: .int .i64 m_1.f_A.e2 :: .int .i64 m_1.f_A.e3 :: .int .i64 m_1.f_A.e4 :: .int .i64 m_1.f_A.e5 :: .int .i64 m_1.f_A.e6 :: .int .i64 m_1.f_A.e7 :: .int .i64 m_1.f_A.e8 :: .int .i64 m_1.f_A.e9 :: .int .i64 m_1.f_A.e10 :: .int .i64 m_1.f_A.e11 :: .int .i64 m_1.f_A.e12 :: .int .i64 m_1.f_A.e13 :: .int .i64 m_1.f_A.e14 :: .int .i64 m_1.f_A.e15 :: .int .i64 m_1.f_A.e16 :: .int .i64 m_1.f_A.e17 :: .int .i64 m_1.f_A.e18 :: .int .i64 m_1.f_A.e19 :: .int .i64 m_1.f_A.e20 :: .int .i64 m_1.f_A.e21 :: .int .i64 m_1.f_A.e22 :: .int .i64 m_1.f_A.e23 :: .int .i64 m_1.f_A.e24 :: .int .i64 m_1.f_A.e25 :: .int .i64 m_1.f_A.e26 :: .int .i64 m_1.f_A.e27 :: .int .i64 m_1.f_A.e28 :: .int .i64 m_1.f_A.e29 :: .int .i64 m_1.f_A.e30 :: .int .i64 m_1.f_A.e31 :: .int .i64 m_1.f_A.e32 :: .int .i64 m_1.f_A.e33 :: .int .i64 m_1.f_A.e34 :: .int .i64 m_1.f_A.e35 :: []) 75 :: L) (Xm.R H0 L r) := by
 unfold Xm.b0 at he
 unfold Xm.Kl0
 refine wR rfl <| w_d rfl (XG rfl rfl) <| wE ?_
 rcases its he with ⟨c16, he⟩ | ⟨c16, he⟩
 ·
  refine Qy rfl (dt c16) <| QA <| QV <| QU <| wR rfl <| wM (.int .i64 t28) rfl rfl <| wA (.int .i64 t28) rfl rfl <| wQ rfl <| w_d rfl (Xe (o' := 2) Tryz.underlying75 rfl sz73 rfl rfl rfl) ?_
  refine wM (.int .i64 t28) rfl rfl <| w_d rfl (Xe (o' := 1) Tryz.underlying75 rfl sz3 rfl rfl rfl) <| wL (.int .i64 m_1.f_Cols) ty3 rfl rfl .h1 rfl rfl <| w_d rfl (ZA (c := w64 (t28 * m_1.f_Cols)) rfl rfl rfl) <| wM (.int .i64 t28) rfl rfl <| w_d rfl (Xt (c := w64 (t28 + 1)) rfl rfl rfl) <| w_d rfl (Xe (o' := 1) Tryz.underlying75 rfl sz3 rfl rfl rfl) <| wL (.int .i64 m_1.f_Cols) ty3 rfl rfl .h1 rfl rfl <| w_d rfl (ZA (c := w64 ((w64 (t28 + 1)) * m_1.f_Cols)) rfl rfl rfl) <| rK he fun c17 he => w_d rfl (Ml (e := 2) (sz := 1) Tryz.underlying73 sz2 rfl (.inr ⟨_, _, rfl, rfl⟩) (.inr ⟨_, _, rfl, rfl⟩) c17) <| wM v_v_ rfl rfl ?_
  refine bK he fun y18 hy19 he => w_d rfl (Xs (Qm co104 (vs := [cutv 1 (asl b_m 2 36) (w64 (t28 * m_1.f_Cols)) (w64 ((w64 (t28 + 1)) * m_1.f_Cols)), v_v_]) rfl (ZK.calls k hy19 (V2 (WE (xs := T73.toL m_1.f_A) (Vt .h1) rfl rfl) c17) h_v_.th.th))) <| wM (.tuple ⟨[.int .i64 y18.1, .bool y18.2]⟩) rfl rfl <| w_d rfl (QO rfl rfl) <| w_d rfl (QO rfl rfl) <| wA (.int .i64 y18.1) rfl rfl <| wA (.bool y18.2) rfl rfl <| wQ rfl <| wM v_out rfl rfl <| wM (.int .i64 y18.1) rfl rfl ?_
  refine w_a rfl (o_buildSlice' (kd := kI64) (css := [[.int .i64 y18.1]]) (xs := [y18.1]) (parts := [(0, .int .i64 y18.1)]) Tryz.underlying72 ti2 rfl ⟨_, _, rfl, rfl, rfl⟩ ⟨rfl, trivial⟩ rfl (by decide)) ?_
  rintro v22 _ _ ⟨i23, rfl, rfl, h24⟩
  refine rK he fun c25 he => w_a rfl (o_append' (kd := kI64) (F := fun z_ => i23 :: z_ :: bx b_m (.int .i64 m_1.f_Rows :: .int .i64 m_1.f_Cols :: .int .i64 m_1.f_A.e0 :: .int .i64 m_1.f_A.e1 :: .int .i64 m_1.f_A.e2 :: .int .i64 m_1.f_A.e3 :: .int .i64 m_1.f_A.e4 :: .int .i64 m_1.f_A.e5 :: .int .i64 m_1.f_A.e6 :: .int .i64 m_1.f_A.e7 :: .int .i64 m_1.f_A.e8 :: .int .i64 m_1.f_A.e9 :: .int .i64 m_1.f_A.e10 :: .int .i64 m_1.f_A.e11 :: .int .i64 m_1.f_A.e12 :: .int .i64 m_1.f_A.e13 :: .int .i64 m_1.f_A.e14 :: .int .i64 m_1.f_A.e15 :: .int .i64 m_1.f_A.e16 :: .int .i64 m_1.f_A.e17 :: .int .i64 m_1.f_A.e18 :: .int .i64 m_1.f_A.e19 :: .int .i64 m_1.f_A.e20 :: .int .i64 m_1.f_A.e21 :: .int .i64 m_1.f_A.e22 :: .int .i64 m_1.f_A.e23 :: .int .i64 m_1.f_A.e24 :: .int .i64 m_1.f_A.e25 :: .int .i64 m_1.f_A.e26 :: .int .i64 m_1.f_A.e27 :: .int .i64 m_1.f_A.e28 :: .int .i64 m_1.f_A.e29 :: .int .i64 m_1.f_A.e30 :: .int .i64 m_1.f_A.e31 :: .int .i64 m_1.f_A.e32 :: .int .i64 m_1.f_A.e33 :: .int .i64 m_1.f_A.e34 :: .int .i64 m_1.f_A.e35 :: []) 75 :: L) Tryz.underlying72 Tryz.underlying72 ti2 rfl (by first | omega | (simp only [List.nil_append, List.length_cons, List.length_nil]; omega)) rfl rfl h_out (h24.src .here) (fun _ => .h1)) ?_
  rintro v26 _ _ ⟨i27, rfl, rfl, h28⟩
  refine wA v26 rfl rfl <| Qa <| QD rfl <| wM (.bool any) rfl rfl <| wM (.bool any) rfl rfl <| w_g (g := !any) rfl rfl rfl wn_f (fun g29 => QF (v := .bool y18.2) rfl) <| w_d rfl (d_or' (b := any) (p := y18.2) rfl rfl rfl) <| wA (.bool (any || y18.2)) rfl rfl <| Qa <| Xk <| QD rfl <| w_d rfl (Xt (c := w64 (t28 + 1)) rfl rfl rfl) ?_
  refine wM (.int .i64 (w64 (t28 + 1))) rfl rfl <| Qa <| Xy <| YD .here <| w_sl 1 (v_v_) rfl <| w_sl 2 (pt b_m) rfl <| w_sl 4 (.slice none 0 0) rfl <| w_sl 5 (.bool false) rfl <| w_sl 6 (errV 104 none) rfl <| w_sl 7 (v26) rfl <| w_sl 8 (.bool (any || y18.2)) rfl <| w_sl 27 (.int .i64 t27) rfl ?_
  refine w_sl 28 (.int .i64 (w64 (t28 + 1))) rfl <| hh.l0 hle he h_v_ h28
 ·
  refine QB rfl (df c16) <| X1 rfl <| wR rfl <| wM v_out rfl rfl <| wM (.bool any) rfl rfl <| wA v_out rfl rfl <| wA (.bool any) rfl rfl <| wA (errV 104 none) rfl rfl <| Qa <| Yv h_out .here ?_
  intro H30 e31 h32
  obtain rfl := sj he
  refine Qi fn_54 rs_54 (.tmp (v := v_out) rfl (.tmp (v := .bool any) rfl (.tmp (v := errV 104 none) rfl .nil))) <| ⟨⟨[_, _], rfl⟩, hle.trans e31, ⟨v_out, rfl, h32⟩⟩
theorem Xm.ok : ∀ k, Xm.OK (Xm.hs k)
 | 0 => ⟨(by intros; exact nomatch (show none = some _ from by assumption))⟩
 | k + 1 => ⟨Xm.b0_ok (k := k) (Xm.ok k)⟩
theorem Xm.calls (k : Nat) {H : Hp} {L : Items} {m : XV} {v_ : List Int} {v0_v_ : Value} {r : (List Int) × Bool × (Option Int)} (he : Xm.f k m v_ = some r) (h0_v_ : Src kI64 H L v0_v_ v_) : Ct Tryz.prog 54 ⟨[.agg ⟨(.int .i64 m.f_Rows :: .int .i64 m.f_Cols :: .int .i64 m.f_A.e0 :: .int .i64 m.f_A.e1 :: .int .i64 m.f_A.e2 :: .int .i64 m.f_A.e3 :: .int .i64 m.f_A.e4 :: .int .i64 m.f_A.e5 :: .int .i64 m.f_A.e6 :: .int .i64 m.f_A.e7 :: .int .i64 m.f_A.e8 :: .int .i64 m.f_A.e9 :: .int .i64 m.f_A.e10 :: .int .i64 m.f_A.e11 :: .int .i64 m.f_A.e12 :: .int .i64 m.f_A.e13 :: .int .i64 m.f_A.e14 :: .int .i64 m.f_A.e15 :: .int .i64 m.f_A.e16 :: .int .i64 m.f_A.e17 :: .int .i64 m.f_A.e18 :: .int .i64 m.f_A.e19 :: .int .i64 m.f_A.e20 :: .int .i64 m.f_A.e21 :: .int .i64 m.f_A.e22 :: .int .i64 m.f_A.e23 :: .int .i64 m.f_A.e24 :: .int .i64 m.f_A.e25 :: .int .i64 m.f_A.e26 :: .int .i64 m.f_A.e27 :: .int .i64 m.f_A.e28 :: .int .i64 m.f_A.e29 :: .int .i64 m.f_A.e30 :: .int .i64 m.f_A.e31 :: .int .i64 m.f_A.e32 :: .int .i64 m.f_A.e33 :: .int .i64 m.f_A.e34 :: .int .i64 m.f_A.e35 :: [])⟩, v0_v_]⟩ H L (cR H L (Xm.out r)) := by
 refine XR (O := Xm.out r) ?_
 have hle : H.le H := .refl _
 have hh := Xm.ok k
 unfold Xm.f at he
 refine QP (args := [_, _]) fn_54 rfl nt_54 rfl <| wR rfl <| wB (.agg ⟨(.int .i64 m.f_Rows :: .int .i64 m.f_Cols :: .int .i64 m.f_A.e0 :: .int .i64 m.f_A.e1 :: .int .i64 m.f_A.e2 :: .int .i64 m.f_A.e3 :: .int .i64 m.f_A.e4 :: .int .i64 m.f_A.e5 :: .int .i64 m.f_A.e6 :: .int .i64 m.f_A.e7 :: .int .i64 m.f_A.e8 :: .int .i64 m.f_A.e9 :: .int .i64 m.f_A.e10 :: .int .i64 m.f_A.e11 :: .int .i64 m.f_A.e12 :: .int .i64 m.f_A.e13 :: .int .i64 m.f_A.e14 :: .int .i64 m.f_A.e15 :: .int .i64 m.f_A.e16 :: .int .i64 m.f_A.e17 :: .int .i64 m.f_A.e18 :: .int .i64 m.f_A.e19 :: .int .i64 m.f_A.e20 :: .int .i64 m.f_A.e21 :: .int .i64 m.f_A.e22 :: .int .i64 m.f_A.e23 :: .int .i64 m.f_A.e24 :: .int .i64 m.f_A.e25 :: .int .i64 m.f_A.e26 :: .int .i64 m.f_A.e27 :: .int .i64 m.f_A.e28 :: .int .i64 m.f_A.e29 :: .int .i64 m.f_A.e30 :: .int .i64 m.f_A.e31 :: .int .i64 m.f_A.e32 :: .int .i64 m.f_A.e33 :: .int .i64 m.f_A.e34 :: .int .i64 m.f_A.e35 :: [])⟩) rfl rfl rfl <| fun b1 => wA (.slice none 0 0) rfl rfl <| wA (.bool false) rfl rfl <| wA (errV 104 none) rfl rfl <| wE <| wR rfl <| wL (.agg ⟨(.int .i64 m.f_Rows :: .int .i64 m.f_Cols :: .int .i64 m.f_A.e0 :: .int .i64 m.f_A.e1 :: .int .i64 m.f_A.e2 :: .int .i64 m.f_A.e3 :: .int .i64 m.f_A.e4 :: .int .i64 m.f_A.e5 :: .int .i64 m.f_A.e6 :: .int .i64 m.f_A.e7 :: .int .i64 m.f_A.e8 :: .int .i64 m.f_A.e9 :: .int .i64 m.f_A.e10 :: .int .i64 m.f_A.e11 :: .int .i64 m.f_A.e12 :: .int .i64 m.f_A.e13 :: .int .i64 m.f_A.e14 :: .int .i64 m.f_A.e15 :: .int .i64 m.f_A.e16 :: .int .i64 m.f_A.e17 :: .int .i64 m.f_A.e18 :: .int .i64 m.f_A.e19 :: .int .i64 m.f_A.e20 :: .int .i64 m.f_A.e21 :: .int .i64 m.f_A.e22 :: .int .i64 m.f_A.e23 :: .int .i64 m.f_A.e24 :: .int .i64 m.f_A.e25 :: .int .i64 m.f_A.e26 :: .int .i64 m.f_A.e27 :: .int .i64 m.f_A.e28 :: .int .i64 m.f_A.e29 :: .int .i64 m.f_A.e30 :: .int .i64 m.f_A.e31 :: .int .i64 m.f_A.e32 :: .int .i64 m.f_A.e33 :: .int .i64 m.f_A.e34 :: .int .i64 m.f_A.e35 :: [])⟩) ty75 rfl rfl .here rfl rfl ?_
 refine bK he fun y2 hy3 he => w_d rfl (Xs (Qm co91 (vs := [.agg ⟨(.int .i64 m.f_Rows :: .int .i64 m.f_Cols :: .int .i64 m.f_A.e0 :: .int .i64 m.f_A.e1 :: .int .i64 m.f_A.e2 :: .int .i64 m.f_A.e3 :: .int .i64 m.f_A.e4 :: .int .i64 m.f_A.e5 :: .int .i64 m.f_A.e6 :: .int .i64 m.f_A.e7 :: .int .i64 m.f_A.e8 :: .int .i64 m.f_A.e9 :: .int .i64 m.f_A.e10 :: .int .i64 m.f_A.e11 :: .int .i64 m.f_A.e12 :: .int .i64 m.f_A.e13 :: .int .i64 m.f_A.e14 :: .int .i64 m.f_A.e15 :: .int .i64 m.f_A.e16 :: .int .i64 m.f_A.e17 :: .int .i64 m.f_A.e18 :: .int .i64 m.f_A.e19 :: .int .i64 m.f_A.e20 :: .int .i64 m.f_A.e21 :: .int .i64 m.f_A.e22 :: .int .i64 m.f_A.e23 :: .int .i64 m.f_A.e24 :: .int .i64 m.f_A.e25 :: .int .i64 m.f_A.e26 :: .int .i64 m.f_A.e27 :: .int .i64 m.f_A.e28 :: .int .i64 m.f_A.e29 :: .int .i64 m.f_A.e30 :: .int .i64 m.f_A.e31 :: .int .i64 m.f_A.e32 :: .int .i64 m.f_A.e33 :: .int .i64 m.f_A.e34 :: .int .i64 m.f_A.e35 :: [])⟩]) rfl (Q6.calls k (m := m) hy3))) <| w_d rfl (Ya (e := y2) Tryz.underlying30 rfl) <| wM (.bool y2.isSome) rfl rfl <| w_g (g := !y2.isSome) rfl rfl rfl wn_f (fun g6 => QF (v := v0_v_) rfl) <| w_g (g := !y2.isSome) rfl rfl rfl wn_f (fun g7 => Xq Tryz.underlying72 (cvt g7) h0_v_.th) <| w_g (g := !y2.isSome) rfl rfl rfl wn_f (fun g8 => Xe (o' := 1) Tryz.underlying75 rfl sz3 rfl rfl rfl) <| w_g (g := !y2.isSome) rfl rfl rfl wn_f (fun g9 => QS (v := .int .i64 m.f_Cols) ty3 (cvt g9) .here rfl rfl rfl rfl) <| w_g (g := !y2.isSome) rfl rfl rfl wn_f (fun g10 => Zl (cvt g10) (cvt g10)) <| w_d rfl (d_or' (b := y2.isSome) (p := (!decide ((v_.length : Int) = m.f_Cols))) rfl rfl rfl) <| Qa ?_
 rcases its he with ⟨c11, he⟩ | ⟨c11, he⟩
 ·
  refine Qy rfl c11 <| wR rfl <| w_d rfl (YU (v := .int .i64 1) Tryz.underlying104 rfl rfl) <| wA (.slice none 0 0) rfl rfl <| wA (.bool false) rfl rfl <| wA (errV 104 (some 1)) rfl rfl <| Qa ?_
  obtain rfl := sj he
  refine Qi fn_54 rs_54 (.tmp (v := .slice none 0 0) rfl (.tmp (v := .bool false) rfl (.tmp (v := errV 104 (some 1)) rfl .nil))) <| ⟨⟨[_], rfl⟩, hle, ⟨.slice none 0 0, rfl, (Q9 _ _)⟩⟩
 ·
  refine QB rfl (Bool.eq_false_iff.2 c11) <| QA <| wR rfl <| w_d rfl (Xe (o' := 0) Tryz.underlying75 rfl sz3 rfl rfl rfl) <| wL (.int .i64 m.f_Rows) ty3 rfl rfl .here rfl rfl <| rK he fun c12 he => w_a rfl (o_make' (kd := kI64) (z0 := 0) Tryz.underlying72 ti2 (zp2 _) rfl rfl (by omega) (by omega) (by omega)) ?_
  rintro v13 _ _ ⟨i14, rfl, rfl, h15⟩
  refine wA v13 rfl rfl <| wQ rfl <| wA (.bool false) rfl rfl <| wE <| wR rfl <| w_d rfl (Xe (o' := 0) Tryz.underlying75 rfl sz3 rfl rfl rfl) <| wL (.int .i64 m.f_Rows) ty3 rfl rfl .h1 rfl rfl <| wM (.int .i64 0) rfl rfl ?_
  refine Qa <| QU <| X3 <| w_sl 1 (v0_v_) rfl <| w_sl 2 (pt b1) rfl <| w_sl 4 (.slice none 0 0) rfl <| w_sl 5 (.bool false) rfl <| w_sl 6 (errV 104 none) rfl <| w_sl 7 (v13) rfl <| w_sl 8 (.bool false) rfl <| w_sl 27 (.int .i64 m.f_Rows) rfl <| w_sl 28 (.int .i64 0) rfl <| hh.l0 hle he h0_v_ h15
noncomputable def Qs.C : Code := (Tryz.f16.body).getD .skip
def Qs.out (r : Qg) (H : Hp) (v : Value) : Prop := ∃ v0, v = (Qf r v0) ∧ Ro kI64 H v0 r.f_D
theorem Qs.out_mono (r : Qg) {H H' : Hp} {v : Value} (hle : H.le H') (h : Qs.out r H v) : Qs.out r H' v := by
 obtain ⟨v0, rfl, h0⟩ := h; exact ⟨v0, rfl, h0.mono hle⟩
abbrev Qs.R (H0 : Hp) (L : Items) (r : Qg) := fR H0 L (Qs.out r)
structure Qs.Hs where
 l0 : Int → Int → (List Int) → Option Qg
noncomputable def Qs.j1 (k : Nat) (h : Qs.Hs) (n v_ : Int) : Option Qg := h.l0 n v_ []
noncomputable def Qs.b0 (k : Nat) (h : Qs.Hs) (n v_ : Int) (d : List Int) : Option Qg := if 0 < v_ then (if d.length + 1 ≤ 17592186044288 then (h.l0 n ((Int.tdiv v_ 10) % 18446744073709551616) (d ++ [w64 (Int.tmod v_ 10)])) else none) else (some (⟨decide (n < 0), d⟩))
noncomputable def Qs.hs : Nat → Qs.Hs
 | 0 => ⟨fun _ _ _ => none⟩
 | k + 1 => ⟨fun x0 x1 x2 => Qs.b0 k (Qs.hs k) x0 x1 x2⟩
noncomputable def Qs.f (k : Nat) (n : Int) : Option Qg := (fun h : Qs.Hs => if n < 0 then (Qs.j1 k h n ((0 - ((n) % 18446744073709551616)) % 18446744073709551616)) else (Qs.j1 k h n ((n) % 18446744073709551616))) (Qs.hs k)
noncomputable def Qs.Kj1 : List Item := .code (seqR (seqR (seqR Qs.C))) :: []
noncomputable def Qs.Kl0 : List Item := .code (lopB (blkB (seqL (seqR (seqR (seqR (seqR Qs.C))))))) :: .inLoop (lopB (blkB (seqL (seqR (seqR (seqR (seqR Qs.C))))))) :: .inBlock 0 :: .code (seqR (seqR (seqR (seqR (seqR Qs.C))))) :: []
structure Qs.OK (h : Qs.Hs) : Prop where
 l0 : ∀ {H0 H : Hp} {L : Items} {r : Qg} {jk_ : Nat → Value} {n : Int} {v_ : Int} {d : List Int} {v_d : Value} {i_d : Item'} {b_t2 : Nat} (_ : H0.le H) (_he : h.l0 n v_ d = some r) (_h_d : Sl kI64 H 3 i_d v_d d), Wp Tryz.prog 16 25 Qs.Kl0 (upd (upd (upd (upd jk_ 0 (.int .i64 n)) 2 (pt b_t2)) 3 (.int .u64 v_)) 4 (v_d)) H (i_d :: bx b_t2 [.bool false, .slice none 0 0] 37 :: L) (Qs.R H0 L r)
theorem Qs.j1_ok {k : Nat} {h : Qs.Hs} (hh : Qs.OK h) {H0 H : Hp} {L : Items} {r : Qg} {jk_ : Nat → Value} {n v_ : Int} {b_t2 : Nat} (hle : H0.le H) (he : Qs.j1 k h n v_ = some r) : Wp Tryz.prog 16 25 Qs.Kj1 (upd (upd (upd jk_ 0 (.int .i64 n)) 2 (pt b_t2)) 3 (.int .u64 v_)) H (bx b_t2 [.bool false, .slice none 0 0] 37 :: L) (Qs.R H0 L r) := by
 unfold Qs.j1 at he
 unfold Qs.Kj1
 refine wR rfl <| wA (.slice none 0 0) rfl rfl <| wE <| QU <| X3 <| YM <| w_sl 0 (.int .i64 n) rfl <| w_sl 2 (pt b_t2) rfl <| w_sl 3 (.int .u64 v_) rfl <| w_sl 4 (.slice none 0 0) rfl <| hh.l0 hle he (Jd _ _ _)
theorem Qs.b0_ok {k : Nat} {h : Qs.Hs} (hh : Qs.OK h) {H0 H : Hp} {L : Items} {r : Qg} {jk_ : Nat → Value} {n v_ : Int} {d : List Int} {v_d : Value} {i_d : Item'} {b_t2 : Nat} (hle : H0.le H) (he : Qs.b0 k h n v_ d = some r) (h_d : Sl kI64 H 3 i_d v_d d) : Wp Tryz.prog 16 25 Qs.Kl0 (upd (upd (upd (upd jk_ 0 (.int .i64 n)) 2 (pt b_t2)) 3 (.int .u64 v_)) 4 (v_d)) H (i_d :: bx b_t2 [.bool false, .slice none 0 0] 37 :: L) (Qs.R H0 L r) := by
 unfold Qs.b0 at he
 unfold Qs.Kl0
 refine QV <| wR rfl <| wM (.int .u64 v_) rfl rfl <| w_d rfl (YR rfl rfl) <| Qa ?_
 rcases its he with ⟨c3, he⟩ | ⟨c3, he⟩
 ·
  refine Qy rfl (dt c3) <| QA <| QU <| wR rfl <| wM v_d rfl rfl <| wM (.int .u64 v_) rfl rfl <| w_d rfl (Jk rfl rfl (by decide)) <| w_d rfl (XY (c := w64 (Int.tmod v_ 10)) Tryz.underlying113 Tryz.underlying3 rfl rfl) <| w_a rfl (o_buildSlice' (kd := kI64) (css := [[.int .i64 (w64 (Int.tmod v_ 10))]]) (xs := [w64 (Int.tmod v_ 10)]) (parts := [(0, .int .i64 (w64 (Int.tmod v_ 10)))]) Tryz.underlying35 ti3 rfl ⟨_, _, rfl, rfl, rfl⟩ ⟨rfl, trivial⟩ rfl (by decide)) ?_
  rintro v4 _ _ ⟨i5, rfl, rfl, h6⟩
  refine rK he fun c7 he => w_a rfl (o_append' (kd := kI64) (F := fun z_ => i5 :: z_ :: bx b_t2 [.bool false, .slice none 0 0] 37 :: L) Tryz.underlying35 Tryz.underlying35 ti3 rfl (by first | omega | (simp only [List.nil_append, List.length_cons, List.length_nil]; omega)) rfl rfl h_d (h6.src .here) (fun _ => .h1)) ?_
  rintro v8 _ _ ⟨i9, rfl, rfl, h10⟩
  refine wA v8 rfl rfl <| Qa <| QD rfl <| wM (.int .u64 v_) rfl rfl <| w_d rfl (Ju (c := (Int.tdiv v_ 10) % 18446744073709551616) rfl rfl (by decide) rfl) <| wA (.int .u64 ((Int.tdiv v_ 10) % 18446744073709551616)) rfl rfl <| Qa <| Xk <| Xy <| YD .here <| w_sl 0 (.int .i64 n) rfl <| w_sl 2 (pt b_t2) rfl ?_
  refine w_sl 3 (.int .u64 ((Int.tdiv v_ 10) % 18446744073709551616)) rfl <| w_sl 4 (v8) rfl <| hh.l0 hle he h10
 ·
  refine QB rfl (df c3) <| X1 rfl <| wR rfl <| wM (.int .i64 n) rfl rfl <| w_d rfl (XG rfl rfl) <| wM v_d rfl rfl <| w_d rfl (XD (cs' := [.bool (decide (n < 0)), v_d]) Tryz.underlying37 zr37 rfl (by kernel_rfl) (parts := [(0, .bool (decide (n < 0))), (1, v_d)]) rfl (.cons (YC rfl sz4 rfl) rfl rfl u1 (.cons (YC rfl sz35 rfl) h_d.cells rfl (.there u1) .nil))) <| wS (.agg ⟨[.bool (decide (n < 0)), v_d]⟩) sz37 rfl rfl rfl rfl rfl (oc rfl (oc (h_d.one) oz)) .h1 u2 <| Qa <| Yv h_d .here ?_
  intro H11 e12 h13
  obtain rfl := sj he
  refine Qi fn_16 rs_16 (.box (v := .agg ⟨[.bool (decide (n < 0)), v_d]⟩) rfl ty37 rfl rfl .h1 rfl .nil) <| ⟨⟨[_, _], rfl⟩, hle.trans e12, ⟨v_d, rfl, h13⟩⟩
theorem Qs.ok : ∀ k, Qs.OK (Qs.hs k)
 | 0 => ⟨(by intros; exact nomatch (show none = some _ from by assumption))⟩
 | k + 1 => ⟨Qs.b0_ok (k := k) (Qs.ok k)⟩
theorem Qs.calls (k : Nat) {H : Hp} {L : Items} {n : Int} {r : Qg} (he : Qs.f k n = some r) : Ct Tryz.prog 16 ⟨[.int .i64 n]⟩ H L (cR H L (Qs.out r)) := by
 refine XR (O := Qs.out r) ?_
 have hle : H.le H := .refl _
 have hh := Qs.ok k
 unfold Qs.f at he
 refine QP (args := [_]) fn_16 rfl nt_16 rfl <| wR rfl <| wN zr37 rfl rfl fun b1 => wQ rfl <| wM (.int .i64 n) rfl rfl <| w_d rfl (XY (c := (n) % 18446744073709551616) Tryz.underlying2 Tryz.underlying113 rfl rfl) <| wA (.int .u64 ((n) % 18446744073709551616)) rfl rfl <| wE ?_
 refine wR rfl <| wM (.int .i64 n) rfl rfl <| w_d rfl (XG rfl rfl) <| Qa ?_
 rcases its he with ⟨c2, he⟩ | ⟨c2, he⟩
 ·
  refine Qy rfl (dt c2) <| QD rfl <| wM (.int .u64 ((n) % 18446744073709551616)) rfl rfl <| w_d rfl (Ys (c := (0 - ((n) % 18446744073709551616)) % 18446744073709551616) rfl rfl rfl) <| wA (.int .u64 ((0 - ((n) % 18446744073709551616)) % 18446744073709551616)) rfl rfl <| Qa <| w_sl 0 (.int .i64 n) rfl <| w_sl 2 (pt b1) rfl <| w_sl 3 (.int .u64 ((0 - ((n) % 18446744073709551616)) % 18446744073709551616)) rfl <| Qs.j1_ok (k := k) hh hle he
 ·
  refine QB rfl (df c2) <| QA <| w_sl 0 (.int .i64 n) rfl <| w_sl 2 (pt b1) rfl <| w_sl 3 (.int .u64 ((n) % 18446744073709551616)) rfl <| Qs.j1_ok (k := k) hh hle he
noncomputable def QH.C : Code := (Tryz.f67.body).getD .skip
abbrev QH.out (r : (List Int)) (H : Hp) (v : Value) : Prop := Ro kI64 H v r
abbrev QH.R (H0 : Hp) (L : Items) (r : (List Int)) := fR H0 L (QH.out r)
structure QH.Hs where
 l0 : (List Int) → Option (List Int)
noncomputable def QH.b0 (k : Nat) (h : QH.Hs) (d : List Int) : Option (List Int) := if (decide (0 < (d.length : Int))) = true → (0 : Int) ≤ w64 ((d.length : Int) - 1) ∧ w64 ((d.length : Int) - 1) < (d.length : Int) then (if ((decide (0 < (d.length : Int))) && (decide ((rd d (w64 ((d.length : Int) - 1))) = 0))) = true then (if (0 : Int) ≤ 0 ∧ (0 : Int) ≤ w64 ((d.length : Int) - 1) ∧ w64 ((d.length : Int) - 1) ≤ (d.length : Int) then (h.l0 (cut d 0 (w64 ((d.length : Int) - 1)))) else none) else (some (d))) else none
noncomputable def QH.hs : Nat → QH.Hs
 | 0 => ⟨fun _ => none⟩
 | k + 1 => ⟨fun x0 => QH.b0 k (QH.hs k) x0⟩
noncomputable def QH.f (k : Nat) (d : List Int) : Option (List Int) := (fun h : QH.Hs => h.l0 d) (QH.hs k)
noncomputable def QH.Kl0 : List Item := .code (lopB (blkB (seqL (seqR QH.C)))) :: .inLoop (lopB (blkB (seqL (seqR QH.C)))) :: .inBlock 0 :: .code (seqR (seqR QH.C)) :: []
structure QH.OK (h : QH.Hs) : Prop where
 l0 : ∀ {H0 H : Hp} {L : Items} {r : (List Int)} {jk_ : Nat → Value} {d : List Int} {v_d : Value} (_ : H0.le H) (_he : h.l0 d = some r) (_h_d : Ro kI64 H v_d d), Wp Tryz.prog 67 21 QH.Kl0 (upd (upd jk_ 0 (v_d)) 2 (.slice none 0 0)) H (L) (QH.R H0 L r)
theorem QH.b0_ok {k : Nat} {h : QH.Hs} (hh : QH.OK h) {H0 H : Hp} {L : Items} {r : (List Int)} {jk_ : Nat → Value} {d : List Int} {v_d : Value} (hle : H0.le H) (he : QH.b0 k h d = some r) (h_d : Ro kI64 H v_d d) : Wp Tryz.prog 67 21 QH.Kl0 (upd (upd jk_ 0 (v_d)) 2 (.slice none 0 0)) H (L) (QH.R H0 L r) := by
 unfold QH.b0 at he
 unfold QH.Kl0
 refine QV <| wR rfl <| wM v_d rfl rfl <| w_d rfl (Xq Tryz.underlying35 rfl h_d.src) <| w_d rfl (YR rfl rfl) <| wM (.bool (decide (0 < (d.length : Int)))) rfl rfl <| w_g (g := decide (0 < (d.length : Int))) rfl rfl rfl wn_t (fun g1 => QF (v := v_d) rfl) <| w_g (g := decide (0 < (d.length : Int))) rfl rfl rfl wn_t (fun g2 => QF (v := v_d) rfl) <| w_g (g := decide (0 < (d.length : Int))) rfl rfl rfl wn_t (fun g3 => Xq Tryz.underlying35 (cvt g3) h_d.src) <| w_g (g := decide (0 < (d.length : Int))) rfl rfl rfl wn_t (fun g4 => Ys (c := w64 ((d.length : Int) - 1)) (cvt g4) rfl rfl) <| rK he fun c6 he => ?_
 refine w_g (g := decide (0 < (d.length : Int))) rfl rfl rfl wn_t (fun g5 => XM (sz := 1) Tryz.underlying35 sz3 (cvt g5) h_d.src (cvt g5) (c6 g5)) <| w_g (g := decide (0 < (d.length : Int))) rfl rfl rfl wn_t (fun g7 => XL ty3 (cvt g7) h_d.src (c6 g7)) <| w_g (g := decide (0 < (d.length : Int))) rfl rfl rfl wn_t (fun g8 => Y1 (cvt g8) rfl) <| w_d rfl (d_and' (b := (decide (0 < (d.length : Int)))) (p := (decide ((rd d (w64 ((d.length : Int) - 1))) = 0))) rfl rfl rfl) <| Qa ?_
 rcases its he with ⟨c9, he⟩ | ⟨c9, he⟩
 ·
  refine Qy rfl c9 <| QA <| QU <| QD rfl <| wM v_d rfl rfl <| wM v_d rfl rfl <| w_d rfl (Xq Tryz.underlying35 rfl h_d.src) <| w_d rfl (Ys (c := w64 ((d.length : Int) - 1)) rfl rfl rfl) <| rK he fun c10 he => w_a rfl (Ni (kd := kI64) Tryz.underlying35 sz3 rfl h_d (.inl ⟨rfl, rfl⟩) (.inr ⟨_, _, rfl, rfl⟩) c10) ?_
  rintro v11 _ _ ⟨h12, rfl, rfl⟩
  refine wA v11 rfl rfl <| Qa <| Xk <| Xy <| w_sl 0 (v11) rfl <| w_sl 2 (.slice none 0 0) rfl <| hh.l0 hle he h12
 ·
  refine QB rfl (Bool.eq_false_iff.2 c9) <| X1 rfl <| wR rfl <| wM v_d rfl rfl <| wA v_d rfl rfl <| Qa ?_
  obtain rfl := sj he
  refine Qi fn_67 rs_67 (.tmp (v := v_d) rfl .nil) <| ⟨⟨[], rfl⟩, hle, h_d⟩
theorem QH.ok : ∀ k, QH.OK (QH.hs k)
 | 0 => ⟨(by intros; exact nomatch (show none = some _ from by assumption))⟩
 | k + 1 => ⟨QH.b0_ok (k := k) (QH.ok k)⟩
theorem QH.calls (k : Nat) {H : Hp} {L : Items} {d : List Int} {v0_d : Value} {r : (List Int)} (he : QH.f k d = some r) (h0_d : Ro kI64 H v0_d d) : Ct Tryz.prog 67 ⟨[v0_d]⟩ H L (cR H L (QH.out r)) := by
 refine XR (O := QH.out r) ?_
 have hle : H.le H := .refl _
 have hh := QH.ok k
 unfold QH.f at he
 refine QP (args := [_]) fn_67 rfl nt_67 rfl <| wR rfl <| wA (.slice none 0 0) rfl rfl <| wE <| QU <| X3 <| w_sl 0 (v0_d) rfl <| w_sl 2 (.slice none 0 0) rfl <| hh.l0 hle he h0_d
noncomputable def Xp.C : Code := (Tryz.f66.body).getD .skip
def Xp.out (r : Qg) (H : Hp) (v : Value) : Prop := ∃ v0, v = (Qf r v0) ∧ Ro kI64 H v0 r.f_D
theorem Xp.out_mono (r : Qg) {H H' : Hp} {v : Value} (hle : H.le H') (h : Xp.out r H v) : Xp.out r H' v := by
 obtain ⟨v0, rfl, h0⟩ := h; exact ⟨v0, rfl, h0.mono hle⟩
noncomputable def Xp.f (k : Nat) (neg : Bool) (d : List Int) : Option Qg := some (⟨neg && (decide (0 < (d.length : Int))), d⟩)
theorem Xp.calls (k : Nat) {H : Hp} {L : Items} {neg : Bool} {d : List Int} {v0_d : Value} {r : Qg} (he : Xp.f k neg d = some r) (h0_d : Ro kI64 H v0_d d) : Ct Tryz.prog 66 ⟨[.bool neg, v0_d]⟩ H L (cR H L (Xp.out r)) := by
 refine XR (O := Xp.out r) ?_
 have hle : H.le H := .refl _
 unfold Xp.f at he
 refine QP (args := [_, _]) fn_66 rfl nt_66 rfl <| wR rfl <| wN zr37 rfl rfl fun b1 => wQ rfl <| wM (.bool neg) rfl rfl <| wM (.bool neg) rfl rfl <| w_g (g := neg) rfl rfl rfl wn_t (fun g2 => QF (v := v0_d) rfl) <| w_g (g := neg) rfl rfl rfl wn_t (fun g3 => Xq Tryz.underlying35 (cvt g3) h0_d.src) <| w_g (g := neg) rfl rfl rfl wn_t (fun g4 => YR (cvt g4) rfl) ?_
 refine w_d rfl (d_and' (b := neg) (p := (decide (0 < (d.length : Int)))) rfl rfl rfl) <| wM v0_d rfl rfl <| w_d rfl (XD (cs' := [.bool (neg && (decide (0 < (d.length : Int)))), v0_d]) Tryz.underlying37 zr37 rfl (by kernel_rfl) (parts := [(0, .bool (neg && (decide (0 < (d.length : Int))))), (1, v0_d)]) rfl (.cons (YC rfl sz4 rfl) rfl rfl u1 (.cons (YC rfl sz35 rfl) h0_d.cells rfl (.there u1) .nil))) <| wS (.agg ⟨[.bool (neg && (decide (0 < (d.length : Int)))), v0_d]⟩) sz37 rfl rfl rfl rfl rfl (oc rfl (oc (h0_d.one) oz)) .here u2 <| Qa ?_
 obtain rfl := sj he
 refine Qi fn_66 rs_66 (.box (v := .agg ⟨[.bool (neg && (decide (0 < (d.length : Int)))), v0_d]⟩) rfl ty37 rfl rfl .here rfl .nil) <| ⟨⟨[_], rfl⟩, hle, ⟨v0_d, rfl, h0_d⟩⟩
noncomputable def Qj.C : Code := (Tryz.f15.body).getD .skip
def Qj.out (r : Qg) (H : Hp) (v : Value) : Prop := ∃ v0, v = (Qf r v0) ∧ Ro kI64 H v0 r.f_D
abbrev Qj.R (H0 : Hp) (L : Items) (r : Qg) := fR H0 L (Qj.out r)
structure Qj.Hs where
 l0 : Bool → (List Int) → Bool → (List Int) → (List Int) → Int → Option Qg
 l1 : Bool → (List Int) → Bool → (List Int) → (List Int) → Int → Int → Int → Option Qg
noncomputable def Qj.b0 (k : Nat) (h : Qj.Hs) (a_0 : Bool) (a_1 : List Int) (b_0 : Bool) (b_1 out : List Int) (i : Int) : Option Qg := if i < (a_1.length : Int) then (h.l1 a_0 a_1 b_0 b_1 out i 0 0) else ((QH.f k out).bind fun y12 => (Xp.f k (!(a_0 == b_0)) y12).bind fun y20 => some (y20))
noncomputable def Qj.j3 (k : Nat) (h : Qj.Hs) (a_0 : Bool) (a_1 : List Int) (b_0 : Bool) (b_1 out : List Int) (i c_ j_ v_ : Int) : Option Qg := if (0 : Int) ≤ w64 (i + j_) ∧ w64 (i + j_) < (out.length : Int) then (h.l1 a_0 a_1 b_0 b_1 (out.set (w64 (i + j_) : Int).toNat (Int.tmod v_ 10)) i (w64 (Int.tdiv v_ 10)) (w64 (j_ + 1))) else none
noncomputable def Qj.b1 (k : Nat) (h : Qj.Hs) (a_0 : Bool) (a_1 : List Int) (b_0 : Bool) (b_1 out : List Int) (i c_ j_ : Int) : Option Qg := if j_ ≤ (b_1.length : Int) then (if (0 : Int) ≤ w64 (i + j_) ∧ w64 (i + j_) < (out.length : Int) then (if j_ < (b_1.length : Int) then (if (0 : Int) ≤ i ∧ i < (a_1.length : Int) then (if (0 : Int) ≤ j_ ∧ j_ < (b_1.length : Int) then (Qj.j3 k h a_0 a_1 b_0 b_1 out i c_ j_ (w64 ((w64 ((rd out (w64 (i + j_))) + c_)) + (w64 ((rd a_1 i) * (rd b_1 j_)))))) else none) else none) else (Qj.j3 k h a_0 a_1 b_0 b_1 out i c_ j_ (w64 ((rd out (w64 (i + j_))) + c_)))) else none) else (h.l0 a_0 a_1 b_0 b_1 out (w64 (i + 1)))
noncomputable def Qj.hs : Nat → Qj.Hs
 | 0 => ⟨fun _ _ _ _ _ _ => none, fun _ _ _ _ _ _ _ _ => none⟩
 | k + 1 => ⟨fun x0 x1 x2 x3 x4 x5 => Qj.b0 k (Qj.hs k) x0 x1 x2 x3 x4 x5, fun x0 x1 x2 x3 x4 x5 x6 x7 => Qj.b1 k (Qj.hs k) x0 x1 x2 x3 x4 x5 x6 x7⟩
noncomputable def Qj.f (k : Nat) (a b : Qg) : Option Qg := (fun h : Qj.Hs => if 0 ≤ w64 ((w64 ((a.f_D.length : Int) + (b.f_D.length : Int))) + 1) ∧ w64 ((w64 ((a.f_D.length : Int) + (b.f_D.length : Int))) + 1) ≤ 35184372088832 then (h.l0 a.f_Neg a.f_D b.f_Neg b.f_D (List.replicate (w64 ((w64 ((a.f_D.length : Int) + (b.f_D.length : Int))) + 1) : Int).toNat (0 : Int)) 0) else none) (Qj.hs k)
noncomputable def Qj.Kl0 : List Item := .code (lopB (blkB (seqR (seqL (seqR (seqR Qj.C)))))) :: .inLoop (lopB (blkB (seqR (seqL (seqR (seqR Qj.C)))))) :: .inBlock 0 :: .code (seqR (seqR (seqR Qj.C))) :: []
noncomputable def Qj.Kl1 : List Item := .code (lopB (blkB (seqR (seqR (blkB (seqL (seqR (lopB (blkB (seqR (seqL (seqR (seqR Qj.C))))))))))))) :: .inLoop (lopB (blkB (seqR (seqR (blkB (seqL (seqR (lopB (blkB (seqR (seqL (seqR (seqR Qj.C))))))))))))) :: .inBlock 2 :: .inBlock 1 :: .code (seqR (seqR (lopB (blkB (seqR (seqL (seqR (seqR Qj.C)))))))) :: .inLoop (lopB (blkB (seqR (seqL (seqR (seqR Qj.C)))))) :: .inBlock 0 :: .code (seqR (seqR (seqR Qj.C))) :: []
noncomputable def Qj.Kj3 : List Item := .code (seqR (seqR (blkB (seqL (seqR (lopB (blkB (seqR (seqR (blkB (seqL (seqR (lopB (blkB (seqR (seqL (seqR (seqR Qj.C)))))))))))))))))) :: .inBlock 3 :: .code (seqR (seqR (lopB (blkB (seqR (seqR (blkB (seqL (seqR (lopB (blkB (seqR (seqL (seqR (seqR Qj.C))))))))))))))) :: .inLoop (lopB (blkB (seqR (seqR (blkB (seqL (seqR (lopB (blkB (seqR (seqL (seqR (seqR Qj.C))))))))))))) :: .inBlock 2 :: .inBlock 1 :: .code (seqR (seqR (lopB (blkB (seqR (seqL (seqR (seqR Qj.C)))))))) :: .inLoop (lopB (blkB (seqR (seqL (seqR (seqR Qj.C)))))) :: .inBlock 0 :: .code (seqR (seqR (seqR Qj.C))) :: []
structure Qj.OK (h : Qj.Hs) : Prop where
 l0 : ∀ {H0 H : Hp} {L : Items} {r : Qg} {jk_ : Nat → Value} {a_0 : Bool} {a_1 : List Int} {b_0 : Bool} {b_1 : List Int} {out : List Int} {i : Int} {v_a_1 : Value} {v_b_1 : Value} {v_out : Value} {i_out : Item'} {b_a : Nat} {b_b : Nat} {b_t4 : Nat} (_ : H0.le H) (_he : h.l0 a_0 a_1 b_0 b_1 out i = some r) (_h_a_1 : Ro kI64 H v_a_1 a_1) (_h_b_1 : Ro kI64 H v_b_1 b_1) (_h_out : Sl kI64 H 3 i_out v_out out), Wp Tryz.prog 15 76 Qj.Kl0 (upd (upd (upd (upd (upd jk_ 2 (pt b_a)) 3 (pt b_b)) 4 (pt b_t4)) 5 (v_out)) 6 (.int .i64 i)) H (i_out :: bx b_t4 [.bool false, .slice none 0 0] 37 :: bx b_b [.bool b_0, v_b_1] 37 :: bx b_a [.bool a_0, v_a_1] 37 :: L) (Qj.R H0 L r)
 l1 : ∀ {H0 H : Hp} {L : Items} {r : Qg} {jk_ : Nat → Value} {a_0 : Bool} {a_1 : List Int} {b_0 : Bool} {b_1 : List Int} {out : List Int} {i : Int} {c_ : Int} {j_ : Int} {v_a_1 : Value} {v_b_1 : Value} {v_out : Value} {i_out : Item'} {b_a : Nat} {b_b : Nat} {b_t4 : Nat} (_ : H0.le H) (_he : h.l1 a_0 a_1 b_0 b_1 out i c_ j_ = some r) (_h_a_1 : Ro kI64 H v_a_1 a_1) (_h_b_1 : Ro kI64 H v_b_1 b_1) (_h_out : Sl kI64 H 3 i_out v_out out), Wp Tryz.prog 15 76 Qj.Kl1 (upd (upd (upd (upd (upd (upd (upd jk_ 2 (pt b_a)) 3 (pt b_b)) 4 (pt b_t4)) 5 (v_out)) 6 (.int .i64 i)) 7 (.int .i64 c_)) 8 (.int .i64 j_)) H (i_out :: bx b_t4 [.bool false, .slice none 0 0] 37 :: bx b_b [.bool b_0, v_b_1] 37 :: bx b_a [.bool a_0, v_a_1] 37 :: L) (Qj.R H0 L r)
theorem Qj.b0_ok {k : Nat} {h : Qj.Hs} (hh : Qj.OK h) {H0 H : Hp} {L : Items} {r : Qg} {jk_ : Nat → Value} {a_0 : Bool} {a_1 : List Int} {b_0 : Bool} {b_1 out : List Int} {i : Int} {v_a_1 v_b_1 v_out : Value} {i_out : Item'} {b_a b_b b_t4 : Nat} (hle : H0.le H) (he : Qj.b0 k h a_0 a_1 b_0 b_1 out i = some r) (h_a_1 : Ro kI64 H v_a_1 a_1) (h_b_1 : Ro kI64 H v_b_1 b_1) (h_out : Sl kI64 H 3 i_out v_out out) : Wp Tryz.prog 15 76 Qj.Kl0 (upd (upd (upd (upd (upd jk_ 2 (pt b_a)) 3 (pt b_b)) 4 (pt b_t4)) 5 (v_out)) 6 (.int .i64 i)) H (i_out :: bx b_t4 [.bool false, .slice none 0 0] 37 :: bx b_b [.bool b_0, v_b_1] 37 :: bx b_a [.bool a_0, v_a_1] 37 :: L) (Qj.R H0 L r) := by
 unfold Qj.b0 at he
 unfold Qj.Kl0
 refine QV <| wR rfl <| wM (.int .i64 i) rfl rfl <| w_d rfl (Xe (o' := 1) Tryz.underlying37 rfl sz35 rfl rfl rfl) <| wL v_a_1 ty35 rfl rfl .h3 rfl rfl <| w_d rfl (Xq Tryz.underlying35 rfl h_a_1.src) <| w_d rfl (XG rfl rfl) <| Qa ?_
 rcases its he with ⟨c8, he⟩ | ⟨c8, he⟩
 ·
  refine Qy rfl (dt c8) <| QA <| QV <| QU <| wR rfl <| wA (.int .i64 0) rfl rfl <| wQ rfl <| wA (.int .i64 0) rfl rfl <| Qa ?_
  refine QU <| X3 <| w_sl 2 (pt b_a) rfl <| w_sl 3 (pt b_b) rfl <| w_sl 4 (pt b_t4) rfl <| w_sl 5 (v_out) rfl <| w_sl 6 (.int .i64 i) rfl <| w_sl 7 (.int .i64 0) rfl <| w_sl 8 (.int .i64 0) rfl <| hh.l1 hle he h_a_1 h_b_1 h_out
 ·
  refine QB rfl (df c8) <| X1 rfl <| QV <| Yv h_out .here ?_
  intro H9 e10 h11
  refine bK he fun y12 hy13 he => XJ (p := 7) (tl := [7, 8]) [[], [(0, some 68)], [], [(2, some 70)], [(1, some 69), (3, some 71)], [], [(5, some 73)]] [some 68, some 69, some 70, some 71, some 72, some 73, some 74] (fctF (.is (pt b_a) :: .is (.bool a_0) :: .is (pt b_b) :: .is (.bool b_0) :: .is (.bool (!(a_0 == b_0))) :: .is (v_out) :: .ro kI64 (y12) :: [])) (fun m_ => none :: bx b_t4 [.bool false, .slice none 0 0] 37 :: bx b_b [.bool b_0, v_b_1] 37 :: bx b_a [.bool a_0, v_a_1] 37 :: L) (fun _ => none) mixed (by kernel_rfl) (by kernel_rfl) rfl (Xv (by kernel_rfl)) ⟨(fun H' m_ hH hm_ hu_ => dn <| s_d (m_ 0) rfl (Xe (o' := 0) Tryz.underlying37 rfl sz4 rfl rfl rfl) (by exact rfl) rfl), (by rintro H' m_ hH hm_ hu_ _ rfl; exact dn <| s_d (m_ 1) rfl (QS (v := .bool a_0) ty4 rfl .h3 rfl rfl rfl rfl) (by exact rfl) rfl), (fun H' m_ hH hm_ hu_ => dn <| s_d (m_ 2) rfl (Xe (o' := 0) Tryz.underlying37 rfl sz4 rfl rfl rfl) (by exact rfl) rfl), (by rintro H' m_ hH hm_ hu_ _ rfl; exact dn <| s_d (m_ 3) rfl (QS (v := .bool b_0) ty4 rfl .h2 rfl rfl rfl rfl) (by exact rfl) rfl), (by rintro H' m_ hH hm_ hu_ _ rfl _ rfl; exact dn <| s_d (m_ 4) rfl (GF (a := a_0) (b := b_0) Tryz.underlying4 rfl rfl) (by exact rfl) rfl), (fun H' m_ hH hm_ hu_ => dn <| s_d (m_ 5) rfl (QF (v := v_out) rfl) (by exact rfl) rfl), (by rintro H' m_ hH hm_ hu_ _ rfl; exact dn <| s_k (m_ 6) rfl (Qm co67 (vs := [v_out]) rfl (QH.calls k hy13 (h11.mono hH))) rfl (by rintro v_ H_ _ ⟨rfl, e_, h_⟩; exact ⟨rfl, e_, h_⟩)), trivial⟩ ?_
  intro H18 e19
  rintro _ _ rfl _ _ rfl _ _ rfl _ _ rfl _ _ rfl _ _ rfl v16 _ (h17 : Ro kI64 H18 v16 y12)
  refine bK he fun y20 hy21 he => w_a rfl (Qm co66 (vs := [.bool (!(a_0 == b_0)), v16]) rfl (Xp.calls k hy21 h17)) ?_
  rintro _ H22 _ ⟨rfl, e23, v24, rfl, h25⟩
  refine wS (Qf y20 v24) sz37 rfl rfl rfl rfl rfl (Xu h25) .h1 u2 <| Qa ?_
  obtain rfl := sj he
  refine Qi fn_15 rs_15 (.box (v := (Qf y20 v24)) rfl ty37 rfl rfl .h1 rfl .nil) <| ⟨⟨[_, _, _, _], rfl⟩, hle.trans ((e10.trans e19).trans e23), ⟨v24, rfl, h25⟩⟩
theorem Qj.j3_ok {k : Nat} {h : Qj.Hs} (hh : Qj.OK h) {H0 H : Hp} {L : Items} {r : Qg} {jk_ : Nat → Value} {a_0 : Bool} {a_1 : List Int} {b_0 : Bool} {b_1 out : List Int} {i c_ j_ v_ : Int} {v_a_1 v_b_1 v_out : Value} {i_out : Item'} {b_a b_b b_t4 : Nat} (hle : H0.le H) (he : Qj.j3 k h a_0 a_1 b_0 b_1 out i c_ j_ v_ = some r) (h_a_1 : Ro kI64 H v_a_1 a_1) (h_b_1 : Ro kI64 H v_b_1 b_1) (h_out : Sl kI64 H 3 i_out v_out out) : Wp Tryz.prog 15 76 Qj.Kj3 (upd (upd (upd (upd (upd (upd (upd (upd jk_ 2 (pt b_a)) 3 (pt b_b)) 4 (pt b_t4)) 5 (v_out)) 6 (.int .i64 i)) 7 (.int .i64 c_)) 8 (.int .i64 j_)) 9 (.int .i64 v_)) H (i_out :: bx b_t4 [.bool false, .slice none 0 0] 37 :: bx b_b [.bool b_0, v_b_1] 37 :: bx b_a [.bool a_0, v_a_1] 37 :: L) (Qj.R H0 L r) := by
 unfold Qj.j3 at he
 unfold Qj.Kj3
 refine wR rfl <| wM v_out rfl rfl <| wM (.int .i64 i) rfl rfl <| wM (.int .i64 j_) rfl rfl <| w_d rfl (Xt (c := w64 (i + j_)) rfl rfl rfl) <| wM (.int .i64 v_) rfl rfl <| w_d rfl (Jk rfl rfl (by decide)) <| rK he fun c33 he => w_d rfl (YF (sz := 1) Tryz.underlying35 sz3 rfl h_out.shp rfl c33) <| w_a0 rfl (Y4 (kd := kI64) (v := .int .i64 (Int.tmod v_ 10)) (F := fun z_ => z_ :: bx b_t4 [.bool false, .slice none 0 0] 37 :: bx b_b [.bool b_0, v_b_1] 37 :: bx b_a [.bool a_0, v_a_1] 37 :: L) sz3 rfl rfl rfl rfl h_out c33 (fun _ => .here)) ?_
 rintro _ _ _ ⟨i34, rfl, rfl, rfl, h35⟩
 refine Qa <| QD rfl <| wM (.int .i64 v_) rfl rfl <| w_d rfl (Ju (c := w64 (Int.tdiv v_ 10)) rfl rfl (by decide) rfl) <| wA (.int .i64 (w64 (Int.tdiv v_ 10))) rfl rfl <| Qa <| Xk <| QD rfl <| wM (.int .i64 j_) rfl rfl <| w_d rfl (Xt (c := w64 (j_ + 1)) rfl rfl rfl) <| wA (.int .i64 (w64 (j_ + 1))) rfl rfl <| Qa ?_
 refine Xy <| w_sl 2 (pt b_a) rfl <| w_sl 3 (pt b_b) rfl <| w_sl 4 (pt b_t4) rfl <| w_sl 5 (v_out) rfl <| w_sl 6 (.int .i64 i) rfl <| w_sl 7 (.int .i64 (w64 (Int.tdiv v_ 10))) rfl <| w_sl 8 (.int .i64 (w64 (j_ + 1))) rfl <| hh.l1 hle he h_a_1 h_b_1 h35
theorem Qj.b1_ok {k : Nat} {h : Qj.Hs} (hh : Qj.OK h) {H0 H : Hp} {L : Items} {r : Qg} {jk_ : Nat → Value} {a_0 : Bool} {a_1 : List Int} {b_0 : Bool} {b_1 out : List Int} {i c_ j_ : Int} {v_a_1 v_b_1 v_out : Value} {i_out : Item'} {b_a b_b b_t4 : Nat} (hle : H0.le H) (he : Qj.b1 k h a_0 a_1 b_0 b_1 out i c_ j_ = some r) (h_a_1 : Ro kI64 H v_a_1 a_1) (h_b_1 : Ro kI64 H v_b_1 b_1) (h_out : Sl kI64 H 3 i_out v_out out) : Wp Tryz.prog 15 76 Qj.Kl1 (upd (upd (upd (upd (upd (upd (upd jk_ 2 (pt b_a)) 3 (pt b_b)) 4 (pt b_t4)) 5 (v_out)) 6 (.int .i64 i)) 7 (.int .i64 c_)) 8 (.int .i64 j_)) H (i_out :: bx b_t4 [.bool false, .slice none 0 0] 37 :: bx b_b [.bool b_0, v_b_1] 37 :: bx b_a [.bool a_0, v_a_1] 37 :: L) (Qj.R H0 L r) := by
 unfold Qj.b1 at he
 unfold Qj.Kl1
 refine QV <| wR rfl <| wM (.int .i64 j_) rfl rfl <| w_d rfl (Xe (o' := 1) Tryz.underlying37 rfl sz35 rfl rfl rfl) <| wL v_b_1 ty35 rfl rfl .h2 rfl rfl <| w_d rfl (Xq Tryz.underlying35 rfl h_b_1.src) <| w_d rfl (Gf rfl rfl) <| Qa ?_
 rcases its he with ⟨c26, he⟩ | ⟨c26, he⟩
 ·
  refine Qy rfl (dt c26) <| QA <| QV <| QU <| wR rfl <| wM v_out rfl rfl <| wM (.int .i64 i) rfl rfl <| wM (.int .i64 j_) rfl rfl <| w_d rfl (Xt (c := w64 (i + j_)) rfl rfl rfl) <| rK he fun c27 he => w_d rfl (YF (sz := 1) Tryz.underlying35 sz3 rfl h_out.shp rfl c27) ?_
  refine w_d rfl (XL ty3 rfl (h_out.src .here) c27) <| wM (.int .i64 c_) rfl rfl <| w_d rfl (Xt (c := w64 ((rd out (w64 (i + j_))) + c_)) rfl rfl rfl) <| wA (.int .i64 (w64 ((rd out (w64 (i + j_))) + c_))) rfl rfl <| wE <| wR rfl <| wM (.int .i64 j_) rfl rfl <| w_d rfl (Xe (o' := 1) Tryz.underlying37 rfl sz35 rfl rfl rfl) <| wL v_b_1 ty35 rfl rfl .h2 rfl rfl <| w_d rfl (Xq Tryz.underlying35 rfl h_b_1.src) ?_
  refine w_d rfl (XG rfl rfl) <| Qa ?_
  rcases its he with ⟨c28, he⟩ | ⟨c28, he⟩
  ·
   refine Qy rfl (dt c28) <| rK he fun c29 he => rK he fun c30 he => XJ (p := 12) (tl := [12, 13]) [[], [], [(1, some 47)], [], [(2, some 48), (3, some 49)], [(4, some 50)], [], [(6, some 52)], [], [(7, some 53), (8, some 54)], [(9, some 55)], [(5, some 51), (10, some 56)]] [some 46, some 47, some 48, some 49, some 50, some 51, some 52, some 53, some 54, some 55, some 56, some 57] (fctF (.is (.int .i64 (w64 ((rd out (w64 (i + j_))) + c_))) :: .is (po b_a 1) :: .is (v_a_1) :: .is (.int .i64 i) :: .is (.pointer (some (pel v_a_1 i 1))) :: .is (.int .i64 (rd a_1 i)) :: .is (po b_b 1) :: .is (v_b_1) :: .is (.int .i64 j_) :: .is (.pointer (some (pel v_b_1 j_ 1))) :: .is (.int .i64 (rd b_1 j_)) :: .is (.int .i64 (w64 ((rd a_1 i) * (rd b_1 j_)))) :: [])) (fun m_ => i_out :: bx b_t4 [.bool false, .slice none 0 0] 37 :: bx b_b [.bool b_0, v_b_1] 37 :: bx b_a [.bool a_0, v_a_1] 37 :: L) (fun _ => none) mixed (by kernel_rfl) (by kernel_rfl) rfl (Xv (by kernel_rfl)) ⟨(fun H' m_ hH hm_ hu_ => dn <| s_d (m_ 0) rfl (QF (v := .int .i64 (w64 ((rd out (w64 (i + j_))) + c_))) rfl) (by exact rfl) rfl), (fun H' m_ hH hm_ hu_ => dn <| s_d (m_ 1) rfl (Xe (o' := 1) Tryz.underlying37 rfl sz35 rfl rfl rfl) (by exact rfl) rfl), (by rintro H' m_ hH hm_ hu_ _ rfl; exact dn <| s_d (m_ 2) rfl (QS (v := v_a_1) ty35 rfl .h3 rfl rfl rfl rfl) (by exact rfl) rfl), (fun H' m_ hH hm_ hu_ => dn <| s_d (m_ 3) rfl (QF (v := .int .i64 i) rfl) (by exact rfl) rfl), (by rintro H' m_ hH hm_ hu_ _ rfl _ rfl; exact dn <| s_d (m_ 4) rfl (XM (sz := 1) Tryz.underlying35 sz3 rfl (h_a_1.mono hH).src rfl c29) (by exact rfl) rfl), (by rintro H' m_ hH hm_ hu_ _ rfl; exact dn <| s_d (m_ 5) rfl (XL ty3 rfl (h_a_1.mono hH).src c29) (by exact rfl) rfl), (fun H' m_ hH hm_ hu_ => dn <| s_d (m_ 6) rfl (Xe (o' := 1) Tryz.underlying37 rfl sz35 rfl rfl rfl) (by exact rfl) rfl), (by rintro H' m_ hH hm_ hu_ _ rfl; exact dn <| s_d (m_ 7) rfl (QS (v := v_b_1) ty35 rfl .h2 rfl rfl rfl rfl) (by exact rfl) rfl), (fun H' m_ hH hm_ hu_ => dn <| s_d (m_ 8) rfl (QF (v := .int .i64 j_) rfl) (by exact rfl) rfl), (by rintro H' m_ hH hm_ hu_ _ rfl _ rfl; exact dn <| s_d (m_ 9) rfl (XM (sz := 1) Tryz.underlying35 sz3 rfl (h_b_1.mono hH).src rfl c30) (by exact rfl) rfl), (by rintro H' m_ hH hm_ hu_ _ rfl; exact dn <| s_d (m_ 10) rfl (XL ty3 rfl (h_b_1.mono hH).src c30) (by exact rfl) rfl), (by rintro H' m_ hH hm_ hu_ _ rfl _ rfl; exact dn <| s_d (m_ 11) rfl (ZA (c := w64 ((rd a_1 i) * (rd b_1 j_))) rfl rfl rfl) (by exact rfl) rfl), trivial⟩ ?_
   intro H31 e32
   rintro _ _ rfl _ _ rfl _ _ rfl _ _ rfl _ _ rfl _ _ rfl _ _ rfl _ _ rfl _ _ rfl _ _ rfl _ _ rfl _ _ rfl
   refine w_d rfl (Xt (c := w64 ((w64 ((rd out (w64 (i + j_))) + c_)) + (w64 ((rd a_1 i) * (rd b_1 j_))))) rfl rfl rfl) <| wA (.int .i64 (w64 ((w64 ((rd out (w64 (i + j_))) + c_)) + (w64 ((rd a_1 i) * (rd b_1 j_)))))) rfl rfl <| Qa <| w_sl 2 (pt b_a) rfl <| w_sl 3 (pt b_b) rfl <| w_sl 4 (pt b_t4) rfl <| w_sl 5 (v_out) rfl <| w_sl 6 (.int .i64 i) rfl <| w_sl 7 (.int .i64 c_) rfl <| w_sl 8 (.int .i64 j_) rfl <| w_sl 9 (.int .i64 (w64 ((w64 ((rd out (w64 (i + j_))) + c_)) + (w64 ((rd a_1 i) * (rd b_1 j_)))))) rfl <| Qj.j3_ok (k := k) hh (hle.trans e32) he (h_a_1.mono e32) (h_b_1.mono e32) (h_out.mono e32)
  ·
   refine QB rfl (df c28) <| QA <| w_sl 2 (pt b_a) rfl <| w_sl 3 (pt b_b) rfl <| w_sl 4 (pt b_t4) rfl <| w_sl 5 (v_out) rfl <| w_sl 6 (.int .i64 i) rfl <| w_sl 7 (.int .i64 c_) rfl <| w_sl 8 (.int .i64 j_) rfl <| w_sl 9 (.int .i64 (w64 ((rd out (w64 (i + j_))) + c_))) rfl <| Qj.j3_ok (k := k) hh hle he h_a_1 h_b_1 h_out
 ·
  refine QB rfl (df c26) <| X1 rfl <| Xk <| QD rfl <| wM (.int .i64 i) rfl rfl <| w_d rfl (Xt (c := w64 (i + 1)) rfl rfl rfl) <| wA (.int .i64 (w64 (i + 1))) rfl rfl <| Qa <| Xy <| w_sl 2 (pt b_a) rfl <| w_sl 3 (pt b_b) rfl <| w_sl 4 (pt b_t4) rfl ?_
  refine w_sl 5 (v_out) rfl <| w_sl 6 (.int .i64 (w64 (i + 1))) rfl <| hh.l0 hle he h_a_1 h_b_1 h_out
theorem Qj.ok : ∀ k, Qj.OK (Qj.hs k)
 | 0 => ⟨(by intros; exact nomatch (show none = some _ from by assumption)), (by intros; exact nomatch (show none = some _ from by assumption))⟩
 | k + 1 => ⟨Qj.b0_ok (k := k) (Qj.ok k), Qj.b1_ok (k := k) (Qj.ok k)⟩
theorem Qj.calls (k : Nat) {H : Hp} {L : Items} {a b : Qg} {v0_a v1_b : Value} {r : Qg} (he : Qj.f k a b = some r) (h0_a : Ro kI64 H v0_a a.f_D) (h1_b : Ro kI64 H v1_b b.f_D) : Ct Tryz.prog 15 ⟨[(Qf a v0_a), (Qf b v1_b)]⟩ H L (cR H L (Qj.out r)) := by
 refine XR (O := Qj.out r) ?_
 have hle : H.le H := .refl _
 have hh := Qj.ok k
 unfold Qj.f at he
 refine QP (args := [_, _]) fn_15 rfl nt_15 rfl <| wR rfl <| wB (Qf a v0_a) rfl rfl rfl <| fun b1 => wB (Qf b v1_b) rfl rfl rfl <| fun b2 => wN zr37 rfl rfl fun b3 => wQ rfl <| w_d rfl (Xe (o' := 1) Tryz.underlying37 rfl sz35 rfl rfl rfl) <| wL v0_a ty35 rfl rfl .h2 rfl rfl <| w_d rfl (Xq Tryz.underlying35 rfl h0_a.src) ?_
 refine w_d rfl (Xe (o' := 1) Tryz.underlying37 rfl sz35 rfl rfl rfl) <| wL v1_b ty35 rfl rfl .h1 rfl rfl <| w_d rfl (Xq Tryz.underlying35 rfl h1_b.src) <| w_d rfl (Xt (c := w64 ((a.f_D.length : Int) + (b.f_D.length : Int))) rfl rfl rfl) <| w_d rfl (Xt (c := w64 ((w64 ((a.f_D.length : Int) + (b.f_D.length : Int))) + 1)) rfl rfl rfl) <| rK he fun c4 he => w_a rfl (o_make' (kd := kI64) (z0 := 0) Tryz.underlying35 ti3 (zp3 _) rfl rfl (by omega) (by omega) (by omega)) ?_
 rintro v5 _ _ ⟨i6, rfl, rfl, h7⟩
 refine wA v5 rfl rfl <| wE <| wR rfl <| wA (.int .i64 0) rfl rfl <| Qa <| QU <| X3 <| w_sl 2 (pt b1) rfl <| w_sl 3 (pt b2) rfl <| w_sl 4 (pt b3) rfl ?_
 refine w_sl 5 (v5) rfl <| w_sl 6 (.int .i64 0) rfl <| hh.l0 hle he h0_a h1_b h7
noncomputable def Qk.C : Code := (Tryz.f68.body).getD .skip
abbrev Qk.out (r : (List Int)) (H : Hp) (v : Value) : Prop := Ro kI64 H v r
abbrev Qk.R (H0 : Hp) (L : Items) (r : (List Int)) := fR H0 L (Qk.out r)
structure Qk.Hs where
 l0 : (List Int) → (List Int) → (List Int) → Int → Int → Option (List Int)
noncomputable def Qk.j3 (k : Nat) (h : Qk.Hs) (a b out : List Int) (c_ i : Int) : Option (List Int) := if out.length + 1 ≤ 17592186044288 then (h.l0 a b (out ++ [Int.tmod c_ 10]) (w64 (Int.tdiv c_ 10)) (w64 (i + 1))) else none
noncomputable def Qk.j2 (k : Nat) (h : Qk.Hs) (a b out : List Int) (c_ i : Int) : Option (List Int) := if i < (b.length : Int) then (if (0 : Int) ≤ i ∧ i < (b.length : Int) then (Qk.j3 k h a b out (w64 (c_ + (rd b i))) i) else none) else (Qk.j3 k h a b out c_ i)
noncomputable def Qk.b0 (k : Nat) (h : Qk.Hs) (a b out : List Int) (c_ i : Int) : Option (List Int) := if ((decide (i < (a.length : Int))) || (decide (i < (b.length : Int)))) = true then (if i < (a.length : Int) then (if (0 : Int) ≤ i ∧ i < (a.length : Int) then (Qk.j2 k h a b out (w64 (c_ + (rd a i))) i) else none) else (Qk.j2 k h a b out c_ i)) else (if out.length + 1 ≤ 17592186044288 then ((QH.f k (out ++ [c_])).bind fun y18 => some (y18)) else none)
noncomputable def Qk.hs : Nat → Qk.Hs
 | 0 => ⟨fun _ _ _ _ _ => none⟩
 | k + 1 => ⟨fun x0 x1 x2 x3 x4 => Qk.b0 k (Qk.hs k) x0 x1 x2 x3 x4⟩
noncomputable def Qk.f (k : Nat) (a b : List Int) : Option (List Int) := (fun h : Qk.Hs => h.l0 a b [] 0 0) (Qk.hs k)
noncomputable def Qk.Kl0 : List Item := .code (lopB (blkB (seqR (seqL (seqR (seqR (seqR Qk.C))))))) :: .inLoop (lopB (blkB (seqR (seqL (seqR (seqR (seqR Qk.C))))))) :: .inBlock 0 :: .code (seqR (seqR (seqR (seqR Qk.C)))) :: []
noncomputable def Qk.Kj2 : List Item := .code (seqR (blkB (seqL (seqR (lopB (blkB (seqR (seqL (seqR (seqR (seqR Qk.C))))))))))) :: .inBlock 1 :: .code (seqR (seqR (lopB (blkB (seqR (seqL (seqR (seqR (seqR Qk.C))))))))) :: .inLoop (lopB (blkB (seqR (seqL (seqR (seqR (seqR Qk.C))))))) :: .inBlock 0 :: .code (seqR (seqR (seqR (seqR Qk.C)))) :: []
noncomputable def Qk.Kj3 : List Item := .code (seqR (seqR (blkB (seqL (seqR (lopB (blkB (seqR (seqL (seqR (seqR (seqR Qk.C)))))))))))) :: .inBlock 1 :: .code (seqR (seqR (lopB (blkB (seqR (seqL (seqR (seqR (seqR Qk.C))))))))) :: .inLoop (lopB (blkB (seqR (seqL (seqR (seqR (seqR Qk.C))))))) :: .inBlock 0 :: .code (seqR (seqR (seqR (seqR Qk.C)))) :: []
structure Qk.OK (h : Qk.Hs) : Prop where
 l0 : ∀ {H0 H : Hp} {L : Items} {r : (List Int)} {jk_ : Nat → Value} {a : List Int} {b : List Int} {out : List Int} {c_ : Int} {i : Int} {v_a : Value} {v_b : Value} {v_out : Value} {i_out : Item'} (_ : H0.le H) (_he : h.l0 a b out c_ i = some r) (_h_a : Src kI64 H L v_a a) (_h_b : Src kI64 H L v_b b) (_h_out : Sl kI64 H 3 i_out v_out out), Wp Tryz.prog 68 52 Qk.Kl0 (upd (upd (upd (upd (upd (upd jk_ 0 (v_a)) 1 (v_b)) 4 (.slice none 0 0)) 5 (v_out)) 6 (.int .i64 c_)) 7 (.int .i64 i)) H (i_out :: L) (Qk.R H0 L r)
theorem Qk.j3_ok {k : Nat} {h : Qk.Hs} (hh : Qk.OK h) {H0 H : Hp} {L : Items} {r : (List Int)} {jk_ : Nat → Value} {a b out : List Int} {c_ i : Int} {v_a v_b v_out : Value} {i_out : Item'} (hle : H0.le H) (he : Qk.j3 k h a b out c_ i = some r) (h_a : Src kI64 H L v_a a) (h_b : Src kI64 H L v_b b) (h_out : Sl kI64 H 3 i_out v_out out) : Wp Tryz.prog 68 52 Qk.Kj3 (upd (upd (upd (upd (upd (upd jk_ 0 (v_a)) 1 (v_b)) 4 (.slice none 0 0)) 5 (v_out)) 6 (.int .i64 c_)) 7 (.int .i64 i)) H (i_out :: L) (Qk.R H0 L r) := by
 unfold Qk.j3 at he
 unfold Qk.Kj3
 refine wR rfl <| wM v_out rfl rfl <| wM (.int .i64 c_) rfl rfl <| w_d rfl (Jk rfl rfl (by decide)) <| w_a rfl (o_buildSlice' (kd := kI64) (css := [[.int .i64 (Int.tmod c_ 10)]]) (xs := [Int.tmod c_ 10]) (parts := [(0, .int .i64 (Int.tmod c_ 10))]) Tryz.underlying35 ti3 rfl ⟨_, _, rfl, rfl, rfl⟩ ⟨rfl, trivial⟩ rfl (by decide)) ?_
 rintro v26 _ _ ⟨i27, rfl, rfl, h28⟩
 refine rK he fun c29 he => w_a rfl (o_append' (kd := kI64) (F := fun z_ => i27 :: z_ :: L) Tryz.underlying35 Tryz.underlying35 ti3 rfl (by first | omega | (simp only [List.nil_append, List.length_cons, List.length_nil]; omega)) rfl rfl h_out (h28.src .here) (fun _ => .h1)) ?_
 rintro v30 _ _ ⟨i31, rfl, rfl, h32⟩
 refine wA v30 rfl rfl <| Qa <| QD rfl <| wM (.int .i64 c_) rfl rfl <| w_d rfl (Ju (c := w64 (Int.tdiv c_ 10)) rfl rfl (by decide) rfl) <| wA (.int .i64 (w64 (Int.tdiv c_ 10))) rfl rfl <| Qa <| Xk <| QD rfl <| wM (.int .i64 i) rfl rfl <| w_d rfl (Xt (c := w64 (i + 1)) rfl rfl rfl) <| wA (.int .i64 (w64 (i + 1))) rfl rfl ?_
 refine Qa <| Xy <| YD .here <| w_sl 0 (v_a) rfl <| w_sl 1 (v_b) rfl <| w_sl 4 (.slice none 0 0) rfl <| w_sl 5 (v30) rfl <| w_sl 6 (.int .i64 (w64 (Int.tdiv c_ 10))) rfl <| w_sl 7 (.int .i64 (w64 (i + 1))) rfl <| hh.l0 hle he h_a h_b h32
theorem Qk.j2_ok {k : Nat} {h : Qk.Hs} (hh : Qk.OK h) {H0 H : Hp} {L : Items} {r : (List Int)} {jk_ : Nat → Value} {a b out : List Int} {c_ i : Int} {v_a v_b v_out : Value} {i_out : Item'} (hle : H0.le H) (he : Qk.j2 k h a b out c_ i = some r) (h_a : Src kI64 H L v_a a) (h_b : Src kI64 H L v_b b) (h_out : Sl kI64 H 3 i_out v_out out) : Wp Tryz.prog 68 52 Qk.Kj2 (upd (upd (upd (upd (upd (upd jk_ 0 (v_a)) 1 (v_b)) 4 (.slice none 0 0)) 5 (v_out)) 6 (.int .i64 c_)) 7 (.int .i64 i)) H (i_out :: L) (Qk.R H0 L r) := by
 unfold Qk.j2 at he
 unfold Qk.Kj2
 refine QV <| wR rfl <| wM (.int .i64 i) rfl rfl <| wM v_b rfl rfl <| w_d rfl (Xq Tryz.underlying35 rfl h_b.th) <| w_d rfl (XG rfl rfl) <| Qa ?_
 rcases its he with ⟨c24, he⟩ | ⟨c24, he⟩
 ·
  refine Qy rfl (dt c24) <| QD rfl <| wM (.int .i64 c_) rfl rfl <| wM v_b rfl rfl <| wM (.int .i64 i) rfl rfl <| rK he fun c25 he => w_d rfl (XM (sz := 1) Tryz.underlying35 sz3 rfl h_b.th rfl c25) <| w_d rfl (XL ty3 rfl h_b.th c25) <| w_d rfl (Xt (c := w64 (c_ + (rd b i))) rfl rfl rfl) <| wA (.int .i64 (w64 (c_ + (rd b i)))) rfl rfl <| Qa <| w_sl 0 (v_a) rfl ?_
  refine w_sl 1 (v_b) rfl <| w_sl 4 (.slice none 0 0) rfl <| w_sl 5 (v_out) rfl <| w_sl 6 (.int .i64 (w64 (c_ + (rd b i)))) rfl <| w_sl 7 (.int .i64 i) rfl <| Qk.j3_ok (k := k) hh hle he h_a h_b h_out
 ·
  refine QB rfl (df c24) <| QA <| w_sl 0 (v_a) rfl <| w_sl 1 (v_b) rfl <| w_sl 4 (.slice none 0 0) rfl <| w_sl 5 (v_out) rfl <| w_sl 6 (.int .i64 c_) rfl <| w_sl 7 (.int .i64 i) rfl <| Qk.j3_ok (k := k) hh hle he h_a h_b h_out
theorem Qk.b0_ok {k : Nat} {h : Qk.Hs} (hh : Qk.OK h) {H0 H : Hp} {L : Items} {r : (List Int)} {jk_ : Nat → Value} {a b out : List Int} {c_ i : Int} {v_a v_b v_out : Value} {i_out : Item'} (hle : H0.le H) (he : Qk.b0 k h a b out c_ i = some r) (h_a : Src kI64 H L v_a a) (h_b : Src kI64 H L v_b b) (h_out : Sl kI64 H 3 i_out v_out out) : Wp Tryz.prog 68 52 Qk.Kl0 (upd (upd (upd (upd (upd (upd jk_ 0 (v_a)) 1 (v_b)) 4 (.slice none 0 0)) 5 (v_out)) 6 (.int .i64 c_)) 7 (.int .i64 i)) H (i_out :: L) (Qk.R H0 L r) := by
 unfold Qk.b0 at he
 unfold Qk.Kl0
 refine QV <| wR rfl <| wM (.int .i64 i) rfl rfl <| wM v_a rfl rfl <| w_d rfl (Xq Tryz.underlying35 rfl h_a.th) <| w_d rfl (XG rfl rfl) <| wM (.bool (decide (i < (a.length : Int)))) rfl rfl <| w_g (g := !(decide (i < (a.length : Int)))) rfl rfl rfl wn_f (fun g1 => QF (v := .int .i64 i) rfl) <| w_g (g := !(decide (i < (a.length : Int)))) rfl rfl rfl wn_f (fun g2 => QF (v := v_b) rfl) <| w_g (g := !(decide (i < (a.length : Int)))) rfl rfl rfl wn_f (fun g3 => Xq Tryz.underlying35 (cvt g3) h_b.th) <| w_g (g := !(decide (i < (a.length : Int)))) rfl rfl rfl wn_f (fun g4 => XG (cvt g4) (cvt g4)) ?_
 refine w_d rfl (d_or' (b := (decide (i < (a.length : Int)))) (p := (decide (i < (b.length : Int)))) rfl rfl rfl) <| Qa ?_
 rcases its he with ⟨c5, he⟩ | ⟨c5, he⟩
 ·
  refine Qy rfl c5 <| QA <| QV <| QU <| QV <| wR rfl <| wM (.int .i64 i) rfl rfl <| wM v_a rfl rfl <| w_d rfl (Xq Tryz.underlying35 rfl h_a.th) <| w_d rfl (XG rfl rfl) <| Qa ?_
  rcases its he with ⟨c6, he⟩ | ⟨c6, he⟩
  ·
   refine Qy rfl (dt c6) <| QD rfl <| wM (.int .i64 c_) rfl rfl <| wM v_a rfl rfl <| wM (.int .i64 i) rfl rfl <| rK he fun c7 he => w_d rfl (XM (sz := 1) Tryz.underlying35 sz3 rfl h_a.th rfl c7) <| w_d rfl (XL ty3 rfl h_a.th c7) <| w_d rfl (Xt (c := w64 (c_ + (rd a i))) rfl rfl rfl) <| wA (.int .i64 (w64 (c_ + (rd a i)))) rfl rfl <| Qa <| w_sl 0 (v_a) rfl ?_
   refine w_sl 1 (v_b) rfl <| w_sl 4 (.slice none 0 0) rfl <| w_sl 5 (v_out) rfl <| w_sl 6 (.int .i64 (w64 (c_ + (rd a i)))) rfl <| w_sl 7 (.int .i64 i) rfl <| Qk.j2_ok (k := k) hh hle he h_a h_b h_out
  ·
   refine QB rfl (df c6) <| QA <| w_sl 0 (v_a) rfl <| w_sl 1 (v_b) rfl <| w_sl 4 (.slice none 0 0) rfl <| w_sl 5 (v_out) rfl <| w_sl 6 (.int .i64 c_) rfl <| w_sl 7 (.int .i64 i) rfl <| Qk.j2_ok (k := k) hh hle he h_a h_b h_out
 ·
  refine QB rfl (Bool.eq_false_iff.2 c5) <| X1 rfl <| wR rfl <| wM v_out rfl rfl <| wM (.int .i64 c_) rfl rfl <| w_a rfl (o_buildSlice' (kd := kI64) (css := [[.int .i64 c_]]) (xs := [c_]) (parts := [(0, .int .i64 c_)]) Tryz.underlying35 ti3 rfl ⟨_, _, rfl, rfl, rfl⟩ ⟨rfl, trivial⟩ rfl (by decide)) ?_
  rintro v8 _ _ ⟨i9, rfl, rfl, h10⟩
  refine rK he fun c11 he => w_a rfl (o_append' (kd := kI64) (F := fun z_ => i9 :: z_ :: L) Tryz.underlying35 Tryz.underlying35 ti3 rfl (by first | omega | (simp only [List.nil_append, List.length_cons, List.length_nil]; omega)) rfl rfl h_out (h10.src .here) (fun _ => .h1)) ?_
  rintro v12 _ _ ⟨i13, rfl, rfl, h14⟩
  refine Yv h14 .h1 ?_
  intro H15 e16 h17
  refine bK he fun y18 hy19 he => w_a rfl (Qm co67 (vs := [v12]) rfl (QH.calls k hy19 h17)) ?_
  rintro v22 H20 _ ⟨rfl, e21, h23⟩
  refine wA v22 rfl rfl <| Qa ?_
  obtain rfl := sj he
  refine Qi fn_68 rs_68 (.tmp (v := v22) rfl .nil) <| ⟨⟨[_, _], rfl⟩, hle.trans (e16.trans e21), h23⟩
theorem Qk.ok : ∀ k, Qk.OK (Qk.hs k)
 | 0 => ⟨(by intros; exact nomatch (show none = some _ from by assumption))⟩
 | k + 1 => ⟨Qk.b0_ok (k := k) (Qk.ok k)⟩
theorem Qk.calls (k : Nat) {H : Hp} {L : Items} {a b : List Int} {v0_a v1_b : Value} {r : (List Int)} (he : Qk.f k a b = some r) (h0_a : Src kI64 H L v0_a a) (h1_b : Src kI64 H L v1_b b) : Ct Tryz.prog 68 ⟨[v0_a, v1_b]⟩ H L (cR H L (Qk.out r)) := by
 refine XR (O := Qk.out r) ?_
 have hle : H.le H := .refl _
 have hh := Qk.ok k
 unfold Qk.f at he
 refine QP (args := [_, _]) fn_68 rfl nt_68 rfl <| wR rfl <| wA (.slice none 0 0) rfl rfl <| wQ rfl <| wA (.slice none 0 0) rfl rfl <| wQ rfl <| wA (.int .i64 0) rfl rfl ?_
 refine wE <| wR rfl <| wA (.int .i64 0) rfl rfl <| Qa <| QU <| X3 <| YM <| w_sl 0 (v0_a) rfl <| w_sl 1 (v1_b) rfl <| w_sl 4 (.slice none 0 0) rfl ?_
 refine w_sl 5 (.slice none 0 0) rfl <| w_sl 6 (.int .i64 0) rfl <| w_sl 7 (.int .i64 0) rfl <| hh.l0 hle he h0_a h1_b (Jd _ _ _)
noncomputable def QR.C : Code := (Tryz.f69.body).getD .skip
def QR.out (r : Bool) (H : Hp) (v : Value) : Prop := v = .bool r
abbrev QR.R (H0 : Hp) (L : Items) (r : Bool) := fR H0 L (QR.out r)
structure QR.Hs where
 l0 : (List Int) → (List Int) → Bool → Int → Option Bool
noncomputable def QR.b0 (k : Nat) (h : QR.Hs) (a b : List Int) (t4 : Bool) (i : Int) : Option Bool := if 0 ≤ i then (if (0 : Int) ≤ i ∧ i < (a.length : Int) then (if (0 : Int) ≤ i ∧ i < (b.length : Int) then (if (rd a i) = (rd b i) then (h.l0 a b t4 (w64 (i - 1))) else (if (0 : Int) ≤ i ∧ i < (a.length : Int) then (if (0 : Int) ≤ i ∧ i < (b.length : Int) then (some (decide ((rd a i) < (rd b i)))) else none) else none)) else none) else none) else (some (false))
noncomputable def QR.hs : Nat → QR.Hs
 | 0 => ⟨fun _ _ _ _ => none⟩
 | k + 1 => ⟨fun x0 x1 x2 x3 => QR.b0 k (QR.hs k) x0 x1 x2 x3⟩
noncomputable def QR.f (k : Nat) (a b : List Int) : Option Bool := (fun h : QR.Hs => if (a.length : Int) = (b.length : Int) then (h.l0 a b false (w64 ((a.length : Int) - 1))) else (some (decide ((a.length : Int) < (b.length : Int))))) (QR.hs k)
noncomputable def QR.Kl0 : List Item := .code (lopB (blkB (seqR (seqL (seqR (seqR QR.C)))))) :: .inLoop (lopB (blkB (seqR (seqL (seqR (seqR QR.C)))))) :: .inBlock 0 :: .code (seqR (seqR (seqR QR.C))) :: []
structure QR.OK (h : QR.Hs) : Prop where
 l0 : ∀ {H0 H : Hp} {L : Items} {r : Bool} {jk_ : Nat → Value} {a : List Int} {b : List Int} {t4 : Bool} {i : Int} {v_a : Value} {v_b : Value} (_ : H0.le H) (_he : h.l0 a b t4 i = some r) (_h_a : Src kI64 H L v_a a) (_h_b : Src kI64 H L v_b b), Wp Tryz.prog 69 41 QR.Kl0 (upd (upd (upd (upd jk_ 0 (v_a)) 1 (v_b)) 4 (.bool t4)) 5 (.int .i64 i)) H (L) (QR.R H0 L r)
theorem QR.b0_ok {k : Nat} {h : QR.Hs} (hh : QR.OK h) {H0 H : Hp} {L : Items} {r : Bool} {jk_ : Nat → Value} {a b : List Int} {t4 : Bool} {i : Int} {v_a v_b : Value} (hle : H0.le H) (he : QR.b0 k h a b t4 i = some r) (h_a : Src kI64 H L v_a a) (h_b : Src kI64 H L v_b b) : Wp Tryz.prog 69 41 QR.Kl0 (upd (upd (upd (upd jk_ 0 (v_a)) 1 (v_b)) 4 (.bool t4)) 5 (.int .i64 i)) H (L) (QR.R H0 L r) := by
 unfold QR.b0 at he
 unfold QR.Kl0
 refine QV <| wR rfl <| wM (.int .i64 i) rfl rfl <| w_d rfl (ZB rfl rfl) <| Qa ?_
 rcases its he with ⟨c2, he⟩ | ⟨c2, he⟩
 ·
  refine Qy rfl (dt c2) <| QA <| QV <| QU <| QV <| rK he fun c3 he => rK he fun c4 he => XJ (p := 8) (tl := [8]) [[], [], [(0, some 23), (1, some 24)], [(2, some 25)], [], [], [(4, some 27), (5, some 28)], [(6, some 29)]] [some 23, some 24, some 25, some 26, some 27, some 28, some 29, some 30] (fctF (.is (v_a) :: .is (.int .i64 i) :: .is (.pointer (some (pel v_a i 1))) :: .is (.int .i64 (rd a i)) :: .is (v_b) :: .is (.int .i64 i) :: .is (.pointer (some (pel v_b i 1))) :: .is (.int .i64 (rd b i)) :: [])) (fun m_ => L) (fun _ => none) mixed (by kernel_rfl) (by kernel_rfl) rfl (Xv (by kernel_rfl)) ⟨(fun H' m_ hH hm_ hu_ => dn <| s_d (m_ 0) rfl (QF (v := v_a) rfl) (by exact rfl) rfl), (fun H' m_ hH hm_ hu_ => dn <| s_d (m_ 1) rfl (QF (v := .int .i64 i) rfl) (by exact rfl) rfl), (by rintro H' m_ hH hm_ hu_ _ rfl _ rfl; exact dn <| s_d (m_ 2) rfl (XM (sz := 1) Tryz.underlying35 sz3 rfl (h_a.mono hH) rfl c3) (by exact rfl) rfl), (by rintro H' m_ hH hm_ hu_ _ rfl; exact dn <| s_d (m_ 3) rfl (XL ty3 rfl (h_a.mono hH) c3) (by exact rfl) rfl), (fun H' m_ hH hm_ hu_ => dn <| s_d (m_ 4) rfl (QF (v := v_b) rfl) (by exact rfl) rfl), (fun H' m_ hH hm_ hu_ => dn <| s_d (m_ 5) rfl (QF (v := .int .i64 i) rfl) (by exact rfl) rfl), (by rintro H' m_ hH hm_ hu_ _ rfl _ rfl; exact dn <| s_d (m_ 6) rfl (XM (sz := 1) Tryz.underlying35 sz3 rfl (h_b.mono hH) rfl c4) (by exact rfl) rfl), (by rintro H' m_ hH hm_ hu_ _ rfl; exact dn <| s_d (m_ 7) rfl (XL ty3 rfl (h_b.mono hH) c4) (by exact rfl) rfl), trivial⟩ ?_
  intro H5 e6
  rintro _ _ rfl _ _ rfl _ _ rfl _ _ rfl _ _ rfl _ _ rfl _ _ rfl _ _ rfl
  refine w_d rfl (Zl rfl rfl) <| Qa ?_
  rcases its he with ⟨c7, he⟩ | ⟨c7, he⟩
  ·
   refine QB rfl (nd_t c7) <| QA <| Xk <| QD rfl <| wM (.int .i64 i) rfl rfl <| w_d rfl (Ys (c := w64 (i - 1)) rfl rfl rfl) <| wA (.int .i64 (w64 (i - 1))) rfl rfl <| Qa <| Xy <| w_sl 0 (v_a) rfl <| w_sl 1 (v_b) rfl <| w_sl 4 (.bool t4) rfl ?_
   refine w_sl 5 (.int .i64 (w64 (i - 1))) rfl <| hh.l0 (hle.trans e6) he (h_a.mono e6) (h_b.mono e6)
  ·
   refine Qy rfl (nd_f c7) <| QV <| rK he fun c8 he => rK he fun c9 he => XJ (p := 8) (tl := [8, 9]) [[], [], [(0, some 32), (1, some 33)], [(2, some 34)], [], [], [(4, some 36), (5, some 37)], [(6, some 38)]] [some 32, some 33, some 34, some 35, some 36, some 37, some 38, some 39] (fctF (.is (v_a) :: .is (.int .i64 i) :: .is (.pointer (some (pel v_a i 1))) :: .is (.int .i64 (rd a i)) :: .is (v_b) :: .is (.int .i64 i) :: .is (.pointer (some (pel v_b i 1))) :: .is (.int .i64 (rd b i)) :: [])) (fun m_ => L) (fun _ => none) mixed (by kernel_rfl) (by kernel_rfl) rfl (Xv (by kernel_rfl)) ⟨(fun H' m_ hH hm_ hu_ => dn <| s_d (m_ 0) rfl (QF (v := v_a) rfl) (by exact rfl) rfl), (fun H' m_ hH hm_ hu_ => dn <| s_d (m_ 1) rfl (QF (v := .int .i64 i) rfl) (by exact rfl) rfl), (by rintro H' m_ hH hm_ hu_ _ rfl _ rfl; exact dn <| s_d (m_ 2) rfl (XM (sz := 1) Tryz.underlying35 sz3 rfl (h_a.mono (e6.trans hH)) rfl c8) (by exact rfl) rfl), (by rintro H' m_ hH hm_ hu_ _ rfl; exact dn <| s_d (m_ 3) rfl (XL ty3 rfl (h_a.mono (e6.trans hH)) c8) (by exact rfl) rfl), (fun H' m_ hH hm_ hu_ => dn <| s_d (m_ 4) rfl (QF (v := v_b) rfl) (by exact rfl) rfl), (fun H' m_ hH hm_ hu_ => dn <| s_d (m_ 5) rfl (QF (v := .int .i64 i) rfl) (by exact rfl) rfl), (by rintro H' m_ hH hm_ hu_ _ rfl _ rfl; exact dn <| s_d (m_ 6) rfl (XM (sz := 1) Tryz.underlying35 sz3 rfl (h_b.mono (e6.trans hH)) rfl c9) (by exact rfl) rfl), (by rintro H' m_ hH hm_ hu_ _ rfl; exact dn <| s_d (m_ 7) rfl (XL ty3 rfl (h_b.mono (e6.trans hH)) c9) (by exact rfl) rfl), trivial⟩ ?_
   intro H10 e11
   rintro _ _ rfl _ _ rfl _ _ rfl _ _ rfl _ _ rfl _ _ rfl _ _ rfl _ _ rfl
   refine w_d rfl (XG rfl rfl) <| wA (.bool (decide ((rd a i) < (rd b i)))) rfl rfl <| Qa ?_
   obtain rfl := sj he
   refine Qi fn_69 rs_69 (.tmp (v := .bool (decide ((rd a i) < (rd b i)))) rfl .nil) <| ⟨⟨[], rfl⟩, hle.trans (e6.trans e11), rfl⟩
 ·
  refine QB rfl (df c2) <| X1 rfl <| wR rfl <| wA (.bool false) rfl rfl <| Qa ?_
  obtain rfl := sj he
  refine Qi fn_69 rs_69 (.tmp (v := .bool false) rfl .nil) <| ⟨⟨[], rfl⟩, hle, rfl⟩
theorem QR.ok : ∀ k, QR.OK (QR.hs k)
 | 0 => ⟨(by intros; exact nomatch (show none = some _ from by assumption))⟩
 | k + 1 => ⟨QR.b0_ok (k := k) (QR.ok k)⟩
theorem QR.calls (k : Nat) {H : Hp} {L : Items} {a b : List Int} {v0_a v1_b : Value} {r : Bool} (he : QR.f k a b = some r) (h0_a : Src kI64 H L v0_a a) (h1_b : Src kI64 H L v1_b b) : Ct Tryz.prog 69 ⟨[v0_a, v1_b]⟩ H L (fun v H' L' => L = L' ∧ H = H' ∧ v = .bool r) := by
 refine X6 (O := QR.out r) (fun _ _ h => h) ?_
 have hle : H.le H := .refl _
 have hh := QR.ok k
 unfold QR.f at he
 refine QP (args := [_, _]) fn_69 rfl nt_69 rfl <| wR rfl <| wA (.bool false) rfl rfl <| wE <| wR rfl <| wM v0_a rfl rfl <| w_d rfl (Xq Tryz.underlying35 rfl h0_a) <| wM v1_b rfl rfl <| w_d rfl (Xq Tryz.underlying35 rfl h1_b) ?_
 refine w_d rfl (Zl rfl rfl) <| Qa ?_
 rcases its he with ⟨c1, he⟩ | ⟨c1, he⟩
 ·
  refine QB rfl (nd_t c1) <| QA <| QV <| wR rfl <| wM v0_a rfl rfl <| w_d rfl (Xq Tryz.underlying35 rfl h0_a) <| w_d rfl (Ys (c := w64 ((a.length : Int) - 1)) rfl rfl rfl) <| wA (.int .i64 (w64 ((a.length : Int) - 1))) rfl rfl <| Qa <| QU <| X3 ?_
  refine w_sl 0 (v0_a) rfl <| w_sl 1 (v1_b) rfl <| w_sl 4 (.bool false) rfl <| w_sl 5 (.int .i64 (w64 ((a.length : Int) - 1))) rfl <| hh.l0 hle he h0_a h1_b
 ·
  refine Qy rfl (nd_f c1) <| wR rfl <| wM v0_a rfl rfl <| w_d rfl (Xq Tryz.underlying35 rfl h0_a) <| wM v1_b rfl rfl <| w_d rfl (Xq Tryz.underlying35 rfl h1_b) <| w_d rfl (XG rfl rfl) <| wA (.bool (decide ((a.length : Int) < (b.length : Int)))) rfl rfl <| Qa ?_
  obtain rfl := sj he
  refine Qi fn_69 rs_69 (.tmp (v := .bool (decide ((a.length : Int) < (b.length : Int)))) rfl .nil) <| ⟨⟨[], rfl⟩, hle, rfl⟩
noncomputable def Qh.C : Code := (Tryz.f70.body).getD .skip
abbrev Qh.out (r : (List Int)) (H : Hp) (v : Value) : Prop := Ro kI64 H v r
abbrev Qh.R (H0 : Hp) (L : Items) (r : (List Int)) := fR H0 L (Qh.out r)
structure Qh.Hs where
 l0 : (List Int) → (List Int) → (List Int) → Int → Int → Option (List Int)
noncomputable def Qh.j3 (k : Nat) (h : Qh.Hs) (a b out : List Int) (c_ i v_ : Int) : Option (List Int) := if out.length + 1 ≤ 17592186044288 then (h.l0 a b (out ++ [v_]) c_ (w64 (i + 1))) else none
noncomputable def Qh.j2 (k : Nat) (h : Qh.Hs) (a b out : List Int) (c_ i v_ : Int) : Option (List Int) := if v_ < 0 then (Qh.j3 k h a b out 1 i (w64 (v_ + 10))) else (Qh.j3 k h a b out 0 i v_)
noncomputable def Qh.b0 (k : Nat) (h : Qh.Hs) (a b out : List Int) (c_ i : Int) : Option (List Int) := if i < (a.length : Int) then (if (0 : Int) ≤ i ∧ i < (a.length : Int) then (if i < (b.length : Int) then (if (0 : Int) ≤ i ∧ i < (b.length : Int) then (Qh.j2 k h a b out c_ i (w64 ((w64 ((rd a i) - c_)) - (rd b i)))) else none) else (Qh.j2 k h a b out c_ i (w64 ((rd a i) - c_)))) else none) else ((QH.f k out).bind fun y8 => some (y8))
noncomputable def Qh.hs : Nat → Qh.Hs
 | 0 => ⟨fun _ _ _ _ _ => none⟩
 | k + 1 => ⟨fun x0 x1 x2 x3 x4 => Qh.b0 k (Qh.hs k) x0 x1 x2 x3 x4⟩
noncomputable def Qh.f (k : Nat) (a b : List Int) : Option (List Int) := (fun h : Qh.Hs => h.l0 a b [] 0 0) (Qh.hs k)
noncomputable def Qh.Kl0 : List Item := .code (lopB (blkB (seqR (seqL (seqR (seqR (seqR Qh.C))))))) :: .inLoop (lopB (blkB (seqR (seqL (seqR (seqR (seqR Qh.C))))))) :: .inBlock 0 :: .code (seqR (seqR (seqR (seqR Qh.C)))) :: []
noncomputable def Qh.Kj2 : List Item := .code (seqR (seqR (blkB (seqL (seqR (lopB (blkB (seqR (seqL (seqR (seqR (seqR Qh.C)))))))))))) :: .inBlock 1 :: .code (seqR (seqR (lopB (blkB (seqR (seqL (seqR (seqR (seqR Qh.C))))))))) :: .inLoop (lopB (blkB (seqR (seqL (seqR (seqR (seqR Qh.C))))))) :: .inBlock 0 :: .code (seqR (seqR (seqR (seqR Qh.C)))) :: []
noncomputable def Qh.Kj3 : List Item := .code (seqR (seqR (seqR (seqR (blkB (seqL (seqR (lopB (blkB (seqR (seqL (seqR (seqR (seqR Qh.C)))))))))))))) :: .inBlock 1 :: .code (seqR (seqR (lopB (blkB (seqR (seqL (seqR (seqR (seqR Qh.C))))))))) :: .inLoop (lopB (blkB (seqR (seqL (seqR (seqR (seqR Qh.C))))))) :: .inBlock 0 :: .code (seqR (seqR (seqR (seqR Qh.C)))) :: []
structure Qh.OK (h : Qh.Hs) : Prop where
 l0 : ∀ {H0 H : Hp} {L : Items} {r : (List Int)} {jk_ : Nat → Value} {a : List Int} {b : List Int} {out : List Int} {c_ : Int} {i : Int} {v_a : Value} {v_b : Value} {v_out : Value} {i_out : Item'} (_ : H0.le H) (_he : h.l0 a b out c_ i = some r) (_h_a : Src kI64 H L v_a a) (_h_b : Src kI64 H L v_b b) (_h_out : Sl kI64 H 3 i_out v_out out), Wp Tryz.prog 70 41 Qh.Kl0 (upd (upd (upd (upd (upd (upd jk_ 0 (v_a)) 1 (v_b)) 4 (.slice none 0 0)) 5 (v_out)) 6 (.int .i64 c_)) 7 (.int .i64 i)) H (i_out :: L) (Qh.R H0 L r)
theorem Qh.j3_ok {k : Nat} {h : Qh.Hs} (hh : Qh.OK h) {H0 H : Hp} {L : Items} {r : (List Int)} {jk_ : Nat → Value} {a b out : List Int} {c_ i v_ : Int} {v_a v_b v_out : Value} {i_out : Item'} (hle : H0.le H) (he : Qh.j3 k h a b out c_ i v_ = some r) (h_a : Src kI64 H L v_a a) (h_b : Src kI64 H L v_b b) (h_out : Sl kI64 H 3 i_out v_out out) : Wp Tryz.prog 70 41 Qh.Kj3 (upd (upd (upd (upd (upd (upd (upd jk_ 0 (v_a)) 1 (v_b)) 4 (.slice none 0 0)) 5 (v_out)) 6 (.int .i64 c_)) 7 (.int .i64 i)) 8 (.int .i64 v_)) H (i_out :: L) (Qh.R H0 L r) := by
 unfold Qh.j3 at he
 unfold Qh.Kj3
 refine QD rfl <| wM v_out rfl rfl <| wM (.int .i64 v_) rfl rfl <| w_a rfl (o_buildSlice' (kd := kI64) (css := [[.int .i64 v_]]) (xs := [v_]) (parts := [(0, .int .i64 v_)]) Tryz.underlying35 ti3 rfl ⟨_, _, rfl, rfl, rfl⟩ ⟨rfl, trivial⟩ rfl (by decide)) ?_
 rintro v15 _ _ ⟨i16, rfl, rfl, h17⟩
 refine rK he fun c18 he => w_a rfl (o_append' (kd := kI64) (F := fun z_ => i16 :: z_ :: L) Tryz.underlying35 Tryz.underlying35 ti3 rfl (by first | omega | (simp only [List.nil_append, List.length_cons, List.length_nil]; omega)) rfl rfl h_out (h17.src .here) (fun _ => .h1)) ?_
 rintro v19 _ _ ⟨i20, rfl, rfl, h21⟩
 refine wA v19 rfl rfl <| Qa <| Xk <| QD rfl <| wM (.int .i64 i) rfl rfl <| w_d rfl (Xt (c := w64 (i + 1)) rfl rfl rfl) <| wA (.int .i64 (w64 (i + 1))) rfl rfl <| Qa <| Xy <| YD .here <| w_sl 0 (v_a) rfl <| w_sl 1 (v_b) rfl ?_
 refine w_sl 4 (.slice none 0 0) rfl <| w_sl 5 (v19) rfl <| w_sl 6 (.int .i64 c_) rfl <| w_sl 7 (.int .i64 (w64 (i + 1))) rfl <| hh.l0 hle he h_a h_b h21
theorem Qh.j2_ok {k : Nat} {h : Qh.Hs} (hh : Qh.OK h) {H0 H : Hp} {L : Items} {r : (List Int)} {jk_ : Nat → Value} {a b out : List Int} {c_ i v_ : Int} {v_a v_b v_out : Value} {i_out : Item'} (hle : H0.le H) (he : Qh.j2 k h a b out c_ i v_ = some r) (h_a : Src kI64 H L v_a a) (h_b : Src kI64 H L v_b b) (h_out : Sl kI64 H 3 i_out v_out out) : Wp Tryz.prog 70 41 Qh.Kj2 (upd (upd (upd (upd (upd (upd (upd jk_ 0 (v_a)) 1 (v_b)) 4 (.slice none 0 0)) 5 (v_out)) 6 (.int .i64 c_)) 7 (.int .i64 i)) 8 (.int .i64 v_)) H (i_out :: L) (Qh.R H0 L r) := by
 unfold Qh.j2 at he
 unfold Qh.Kj2
 refine wR rfl <| wA (.int .i64 0) rfl rfl <| wE <| wR rfl <| wM (.int .i64 v_) rfl rfl <| w_d rfl (XG rfl rfl) <| Qa ?_
 rcases its he with ⟨c14, he⟩ | ⟨c14, he⟩
 ·
  refine Qy rfl (dt c14) <| wR rfl <| wM (.int .i64 v_) rfl rfl <| w_d rfl (Xt (c := w64 (v_ + 10)) rfl rfl rfl) <| wA (.int .i64 (w64 (v_ + 10))) rfl rfl <| Qa <| QD rfl <| wA (.int .i64 1) rfl rfl <| Qa <| w_sl 0 (v_a) rfl <| w_sl 1 (v_b) rfl ?_
  refine w_sl 4 (.slice none 0 0) rfl <| w_sl 5 (v_out) rfl <| w_sl 6 (.int .i64 1) rfl <| w_sl 7 (.int .i64 i) rfl <| w_sl 8 (.int .i64 (w64 (v_ + 10))) rfl <| Qh.j3_ok (k := k) hh hle he h_a h_b h_out
 ·
  refine QB rfl (df c14) <| QA <| w_sl 0 (v_a) rfl <| w_sl 1 (v_b) rfl <| w_sl 4 (.slice none 0 0) rfl <| w_sl 5 (v_out) rfl <| w_sl 6 (.int .i64 0) rfl <| w_sl 7 (.int .i64 i) rfl <| w_sl 8 (.int .i64 v_) rfl <| Qh.j3_ok (k := k) hh hle he h_a h_b h_out
theorem Qh.b0_ok {k : Nat} {h : Qh.Hs} (hh : Qh.OK h) {H0 H : Hp} {L : Items} {r : (List Int)} {jk_ : Nat → Value} {a b out : List Int} {c_ i : Int} {v_a v_b v_out : Value} {i_out : Item'} (hle : H0.le H) (he : Qh.b0 k h a b out c_ i = some r) (h_a : Src kI64 H L v_a a) (h_b : Src kI64 H L v_b b) (h_out : Sl kI64 H 3 i_out v_out out) : Wp Tryz.prog 70 41 Qh.Kl0 (upd (upd (upd (upd (upd (upd jk_ 0 (v_a)) 1 (v_b)) 4 (.slice none 0 0)) 5 (v_out)) 6 (.int .i64 c_)) 7 (.int .i64 i)) H (i_out :: L) (Qh.R H0 L r) := by
 unfold Qh.b0 at he
 unfold Qh.Kl0
 refine QV <| wR rfl <| wM (.int .i64 i) rfl rfl <| wM v_a rfl rfl <| w_d rfl (Xq Tryz.underlying35 rfl h_a.th) <| w_d rfl (XG rfl rfl) <| Qa ?_
 rcases its he with ⟨c1, he⟩ | ⟨c1, he⟩
 ·
  refine Qy rfl (dt c1) <| QA <| QV <| QU <| wR rfl <| wM v_a rfl rfl <| wM (.int .i64 i) rfl rfl <| rK he fun c2 he => w_d rfl (XM (sz := 1) Tryz.underlying35 sz3 rfl h_a.th rfl c2) <| w_d rfl (XL ty3 rfl h_a.th c2) <| wM (.int .i64 c_) rfl rfl ?_
  refine w_d rfl (Ys (c := w64 ((rd a i) - c_)) rfl rfl rfl) <| wA (.int .i64 (w64 ((rd a i) - c_))) rfl rfl <| wE <| wR rfl <| wM (.int .i64 i) rfl rfl <| wM v_b rfl rfl <| w_d rfl (Xq Tryz.underlying35 rfl h_b.th) <| w_d rfl (XG rfl rfl) <| Qa ?_
  rcases its he with ⟨c3, he⟩ | ⟨c3, he⟩
  ·
   refine Qy rfl (dt c3) <| QD rfl <| wM (.int .i64 (w64 ((rd a i) - c_))) rfl rfl <| wM v_b rfl rfl <| wM (.int .i64 i) rfl rfl <| rK he fun c4 he => w_d rfl (XM (sz := 1) Tryz.underlying35 sz3 rfl h_b.th rfl c4) <| w_d rfl (XL ty3 rfl h_b.th c4) <| w_d rfl (Ys (c := w64 ((w64 ((rd a i) - c_)) - (rd b i))) rfl rfl rfl) <| wA (.int .i64 (w64 ((w64 ((rd a i) - c_)) - (rd b i)))) rfl rfl <| Qa <| w_sl 0 (v_a) rfl ?_
   refine w_sl 1 (v_b) rfl <| w_sl 4 (.slice none 0 0) rfl <| w_sl 5 (v_out) rfl <| w_sl 6 (.int .i64 c_) rfl <| w_sl 7 (.int .i64 i) rfl <| w_sl 8 (.int .i64 (w64 ((w64 ((rd a i) - c_)) - (rd b i)))) rfl <| Qh.j2_ok (k := k) hh hle he h_a h_b h_out
  ·
   refine QB rfl (df c3) <| QA <| w_sl 0 (v_a) rfl <| w_sl 1 (v_b) rfl <| w_sl 4 (.slice none 0 0) rfl <| w_sl 5 (v_out) rfl <| w_sl 6 (.int .i64 c_) rfl <| w_sl 7 (.int .i64 i) rfl <| w_sl 8 (.int .i64 (w64 ((rd a i) - c_))) rfl <| Qh.j2_ok (k := k) hh hle he h_a h_b h_out
 ·
  refine QB rfl (df c1) <| X1 rfl <| wR rfl <| wM v_out rfl rfl <| Yv h_out .here ?_
  intro H5 e6 h7
  refine bK he fun y8 hy9 he => w_a rfl (Qm co67 (vs := [v_out]) rfl (QH.calls k hy9 h7)) ?_
  rintro v12 H10 _ ⟨rfl, e11, h13⟩
  refine wA v12 rfl rfl <| Qa ?_
  obtain rfl := sj he
  refine Qi fn_70 rs_70 (.tmp (v := v12) rfl .nil) <| ⟨⟨[_], rfl⟩, hle.trans (e6.trans e11), h13⟩
theorem Qh.ok : ∀ k, Qh.OK (Qh.hs k)
 | 0 => ⟨(by intros; exact nomatch (show none = some _ from by assumption))⟩
 | k + 1 => ⟨Qh.b0_ok (k := k) (Qh.ok k)⟩
theorem Qh.calls (k : Nat) {H : Hp} {L : Items} {a b : List Int} {v0_a v1_b : Value} {r : (List Int)} (he : Qh.f k a b = some r) (h0_a : Src kI64 H L v0_a a) (h1_b : Src kI64 H L v1_b b) : Ct Tryz.prog 70 ⟨[v0_a, v1_b]⟩ H L (cR H L (Qh.out r)) := by
 refine XR (O := Qh.out r) ?_
 have hle : H.le H := .refl _
 have hh := Qh.ok k
 unfold Qh.f at he
 refine QP (args := [_, _]) fn_70 rfl nt_70 rfl <| wR rfl <| wA (.slice none 0 0) rfl rfl <| wQ rfl <| wA (.slice none 0 0) rfl rfl <| wQ rfl <| wA (.int .i64 0) rfl rfl ?_
 refine wE <| wR rfl <| wA (.int .i64 0) rfl rfl <| Qa <| QU <| X3 <| YM <| w_sl 0 (v0_a) rfl <| w_sl 1 (v1_b) rfl <| w_sl 4 (.slice none 0 0) rfl ?_
 refine w_sl 5 (.slice none 0 0) rfl <| w_sl 6 (.int .i64 0) rfl <| w_sl 7 (.int .i64 0) rfl <| hh.l0 hle he h0_a h1_b (Jd _ _ _)
end Go.Proofs.YtkccpkccdbfomaaGreatDoor.GBH

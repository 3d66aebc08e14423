/- printed by gen.py -/
import Derived.Test.YtkccpkccdbfomaaGreatDoorGSSx5
namespace Go.Proofs.YtkccpkccdbfomaaGreatDoor.GSS
open Go Go.RowKit Go.Proofs.YtkccpkccdbfomaaGreatDoorK Go.Proofs.YtkccpkccdbfomaaGreatDoor
set_option maxRecDepth 100000
set_option maxHeartbeats 2000000
set_option linter.unusedVariables false
set_option linter.unusedSimpArgs false
noncomputable def Xh.C : Code := (Tryz.f81.body).getD .skip
def Xh.out (r : QL × (Option Int)) (H : Hp) (v : Value) : Prop := ∃ v0 v1 v2 v3, v = .tuple ⟨[(Qg r.1 v0 v1 v2 v3), errV 104 r.2]⟩ ∧ Ro kU32 H v0 r.1.f_Low.f_n.f_w ∧ Ro kU32 H v1 r.1.f_Low.f_d.f_w ∧ Ro kU32 H v2 r.1.f_High.f_n.f_w ∧ Ro kU32 H v3 r.1.f_High.f_d.f_w
structure Xh.Hs where
noncomputable def Xh.hs : Nat → Xh.Hs
 | 0 => ⟨⟩
 | k + 1 => ⟨⟩
noncomputable def Xh.f (k : Nat) (a b : QL) : Option (QL × (Option Int)) := (fun h : Xh.Hs => (Ym.f k a.f_Low b.f_Low).bind fun y6 => if y6.2.isSome = true then (some (⟨⟨⟨false, []⟩, ⟨false, []⟩⟩, ⟨⟨false, []⟩, ⟨false, []⟩⟩⟩, y6.2)) else (if 0 + 1 ≤ 2199023255424 then ((Ym.f k a.f_Low b.f_High).bind fun y24 => if y24.2.isSome = true then (some (⟨⟨⟨false, []⟩, ⟨false, []⟩⟩, ⟨⟨false, []⟩, ⟨false, []⟩⟩⟩, y24.2)) else (if [y6.1].length + 1 ≤ 2199023255424 then ((Ym.f k a.f_High b.f_Low).bind fun y43 => if y43.2.isSome = true then (some (⟨⟨⟨false, []⟩, ⟨false, []⟩⟩, ⟨⟨false, []⟩, ⟨false, []⟩⟩⟩, y43.2)) else (if ([y6.1] ++ [y24.1]).length + 1 ≤ 2199023255424 then ((Ym.f k a.f_High b.f_High).bind fun y61 => if y61.2.isSome = true then (some (⟨⟨⟨false, []⟩, ⟨false, []⟩⟩, ⟨⟨false, []⟩, ⟨false, []⟩⟩⟩, y61.2)) else (if (([y6.1] ++ [y24.1]) ++ [y43.1]).length + 1 ≤ 2199023255424 then ((QC.f k ((([y6.1] ++ [y24.1]) ++ [y43.1]) ++ [y61.1])).bind fun y78 => some (y78.1, y78.2)) else none)) else none)) else none)) else none)) (Xh.hs k)
structure Xh.OK (h : Xh.Hs) : Prop where
theorem Xh.ok : ∀ k, Xh.OK (Xh.hs k)
 | 0 => ⟨⟩
 | k + 1 => ⟨⟩
theorem Xh.calls (k : Nat) {H : Hp} {L : Items} {a b : QL} {v0_a v1_a v2_a v3_a v4_b v5_b v6_b v7_b : Value} {r : QL × (Option Int)} (he : Xh.f k a b = some r) (h0_a : Ro kU32 H v0_a a.f_Low.f_n.f_w) (h1_a : Ro kU32 H v1_a a.f_Low.f_d.f_w) (h2_a : Ro kU32 H v2_a a.f_High.f_n.f_w) (h3_a : Ro kU32 H v3_a a.f_High.f_d.f_w) (h4_b : Ro kU32 H v4_b b.f_Low.f_n.f_w) (h5_b : Ro kU32 H v5_b b.f_Low.f_d.f_w) (h6_b : Ro kU32 H v6_b b.f_High.f_n.f_w) (h7_b : Ro kU32 H v7_b b.f_High.f_d.f_w) : Ct Tryz.prog 81 ⟨[(Qg a v0_a v1_a v2_a v3_a), (Qg b v4_b v5_b v6_b v7_b), .func (.func 24) #[] #[]]⟩ H L (cR H L (Xh.out r)) := by
 refine XS (O := Xh.out r) ?_
 have hle : H.le H := .refl _
 have hh := Xh.ok k
 unfold Xh.f at he
 refine QZ (args := [(Qg a v0_a v1_a v2_a v3_a), (Qg b v4_b v5_b v6_b v7_b), .func (.func 24) #[] #[]]) fn_81 rfl nt_81 rfl <| wR rfl <| wB (Qg a v0_a v1_a v2_a v3_a) rfl rfl rfl <| fun b1 => wB (Qg b v4_b v5_b v6_b v7_b) rfl rfl rfl <| fun b2 => wN zr28 rfl rfl fun b3 => wA (errV 104 none) rfl rfl <| wQ rfl <| wA (.slice none 0 0) rfl rfl <| Qc ?_
 refine QX <| wR rfl <| w_d rfl (QM (o' := 0) Tryz.underlying28 rfl sz26 rfl rfl rfl) <| wL (Qa a.f_Low v0_a v1_a) ty26 rfl rfl .h2 rfl rfl <| w_d rfl (QM (o' := 4) Tryz.underlying28 rfl sz26 rfl rfl rfl) <| wL (Qa a.f_High v2_a v3_a) ty26 rfl rfl .h2 rfl rfl <| w_d rfl (Jc (cs' := (Q5 a v0_a v1_a v2_a v3_a)) Tryz.underlying180 sz26 zr180 rfl (parts := [(0, (Qa a.f_Low v0_a v1_a)), (1, (Qa a.f_High v2_a v3_a))]) rfl (.cons rfl rfl rfl u4 (.cons rfl rfl rfl (.there (.there (.there (.there u4)))) .nil))) <| wM (.int .i64 0) rfl rfl <| Qc <| Q8 <| Ye ?_
 refine wR rfl <| w_d rfl (XO rfl rfl) <| wE <| QB rfl rfl <| QF <| QX <| Q8 <| wR rfl <| w_d rfl (Z1 (v := (Qa a.f_Low v0_a v1_a)) Tryz.underlying180 ty26 rfl rfl (by decide) rfl rfl rfl rfl) ?_
 refine wN zr26 rfl rfl fun b4 => wS (Qa a.f_Low v0_a v1_a) sz26 rfl rfl rfl rfl rfl (Xw h0_a h1_a) .here u4 <| wQ rfl <| w_d rfl (QM (o' := 0) Tryz.underlying28 rfl sz26 rfl rfl rfl) <| wL (Qa b.f_Low v4_b v5_b) ty26 rfl rfl .h2 rfl rfl <| w_d rfl (QM (o' := 4) Tryz.underlying28 rfl sz26 rfl rfl rfl) <| wL (Qa b.f_High v6_b v7_b) ty26 rfl rfl .h2 rfl rfl <| w_d rfl (Jc (cs' := (Q5 b v4_b v5_b v6_b v7_b)) Tryz.underlying180 sz26 zr180 rfl (parts := [(0, (Qa b.f_Low v4_b v5_b)), (1, (Qa b.f_High v6_b v7_b))]) rfl (.cons rfl rfl rfl u4 (.cons rfl rfl rfl (.there (.there (.there (.there u4)))) .nil))) <| wM (.int .i64 0) rfl rfl <| Qc ?_
 refine Q8 <| Ye <| wR rfl <| w_d rfl (XO rfl rfl) <| wE <| QB rfl rfl <| QF <| QX <| Q8 <| QX ?_
 refine QH rfl <| w_d rfl (Z1 (v := (Qa b.f_Low v4_b v5_b)) Tryz.underlying180 ty26 rfl rfl (by decide) rfl rfl rfl rfl) <| wN zr26 rfl rfl fun b5 => wS (Qa b.f_Low v4_b v5_b) sz26 rfl rfl rfl rfl rfl (Xw h4_b h5_b) .here u4 <| wQ rfl <| wM (.func (.func 24) #[] #[]) rfl rfl <| wL (Qa a.f_Low v0_a v1_a) ty26 rfl rfl .h1 rfl rfl <| wL (Qa b.f_Low v4_b v5_b) ty26 rfl rfl .here rfl rfl <| bK he fun y6 hy7 he => w_a rfl (Jf rfl co24 (vs := [(Qa a.f_Low v0_a v1_a), (Qa b.f_Low v4_b v5_b)]) rfl (Ym.calls k (a := a.f_Low) (b := b.f_Low) hy7 h0_a h1_a h4_b h5_b)) ?_
 rintro _ H8 _ ⟨rfl, e9, v10, v12, rfl, h11, h13⟩
 refine wM (.tuple ⟨[(Qa y6.1 v10 v12), errV 104 y6.2]⟩) rfl rfl <| w_d rfl (QS rfl rfl) <| w_d rfl (QS rfl rfl) <| wN zr26 rfl rfl fun b14 => wS (Qa y6.1 v10 v12) sz26 rfl rfl rfl rfl rfl (Xw h11 h13) .here u4 <| wA (errV 104 y6.2) rfl rfl <| wE <| wR rfl <| wM (errV 104 y6.2) rfl rfl <| w_d rfl (X1 (e := y6.2) Tryz.underlying30 rfl) ?_
 refine Qc ?_
 rcases its he with ⟨c15, he⟩ | ⟨c15, he⟩
 ·
  refine QB rfl c15 <| wR rfl <| w_d rfl (Xx (cs' := z2c) Tryz.underlying28 zr28 rfl (by kernel_rfl) (parts := []) rfl .nil) <| wM (errV 104 y6.2) rfl rfl <| wS (.agg ⟨z2c⟩) sz28 rfl rfl rfl rfl rfl (oc rfl (oc rfl (oc rfl (oc rfl (oc rfl (oc rfl (oc rfl (oc rfl oz)))))))) .h3 (.here (.here (.here (.here u4)))) <| wA (errV 104 y6.2) rfl rfl <| Qc ?_
  obtain rfl := sj he
  refine Qn fn_81 rs_81 (.box (v := .agg ⟨z2c⟩) rfl ty28 rfl rfl .h3 rfl (.tmp (v := errV 104 y6.2) rfl .nil)) <| ⟨⟨[_, _, _, _, _, _], rfl⟩, hle.trans e9, ⟨.slice none 0 0, .slice none 0 0, .slice none 0 0, .slice none 0 0, rfl, (Q2 _ _), (Q2 _ _), (Q2 _ _), (Q2 _ _)⟩⟩
 ·
  refine QI rfl (Bool.eq_false_iff.2 c15) <| QF <| QH rfl <| wM (.slice none 0 0) rfl rfl <| wL (Qa y6.1 v10 v12) ty26 rfl rfl .here rfl rfl <| w_a rfl (o_buildSlice' (kd := Xz) (css := [(Qt y6.1 v10 v12)]) (xs := [y6.1]) (parts := [(0, (Qa y6.1 v10 v12))]) Tryz.underlying81 ti26 rfl ⟨_, _, rfl, rfl, rfl⟩ ⟨(Yv (x := y6.1) h11 h13), trivial⟩ rfl (by decide)) ?_
  rintro v16 _ _ ⟨i17, rfl, rfl, h18⟩
  refine YF <| rK he fun c19 he => w_a rfl (o_append' (kd := Xz) (F := fun z_ => z_ :: i17 :: bx b14 (Qt y6.1 v10 v12) 26 :: bx b5 (Qt b.f_Low v4_b v5_b) 26 :: bx b4 (Qt a.f_Low v0_a v1_a) 26 :: bx b3 z2c 28 :: bx b2 (Q5 b v4_b v5_b v6_b v7_b) 28 :: bx b1 (Q5 a v0_a v1_a v2_a v3_a) 28 :: L) Tryz.underlying81 Tryz.underlying81 ti26 rfl (by first | omega | (simp only [List.nil_append, List.length_cons, List.length_nil]; omega)) rfl rfl (JV _ _ _) (h18.src .h1) (fun _ => .here)) ?_
  rintro v20 _ _ ⟨i21, rfl, rfl, h22⟩
  refine wA v20 rfl rfl <| Qc <| Xp <| QH rfl <| w_d rfl (XG (c := 1) rfl rfl (by decide)) <| wM (.int .i64 1) rfl rfl <| Qc <| Xy <| wR rfl <| w_d rfl (XO rfl rfl) <| Qc ?_
  refine QX <| QB rfl rfl <| QF <| QX <| Q8 <| wR rfl <| w_d rfl (Z1 (v := (Qa b.f_High v6_b v7_b)) Tryz.underlying180 ty26 rfl rfl (by decide) rfl rfl rfl rfl) <| wN zr26 rfl rfl fun b23 => wS (Qa b.f_High v6_b v7_b) sz26 rfl rfl rfl rfl rfl (Xw h6_b h7_b) .here u4 <| wE ?_
  refine QH rfl <| wM (.func (.func 24) #[] #[]) rfl rfl <| w_d rfl (Qq (v := (Qa a.f_Low v0_a v1_a)) ty26 rfl .h5 rfl rfl rfl rfl) <| wL (Qa b.f_High v6_b v7_b) ty26 rfl rfl .here rfl rfl <| bK he fun y24 hy25 he => w_a rfl (Jf rfl co24 (vs := [(Qa a.f_Low v0_a v1_a), (Qa b.f_High v6_b v7_b)]) rfl (Ym.calls k (a := a.f_Low) (b := b.f_High) hy25 (h0_a.mono e9) (h1_a.mono e9) (h6_b.mono e9) (h7_b.mono e9))) ?_
  rintro _ H26 _ ⟨rfl, e27, v28, v30, rfl, h29, h31⟩
  refine wM (.tuple ⟨[(Qa y24.1 v28 v30), errV 104 y24.2]⟩) rfl rfl <| w_d rfl (QS rfl rfl) <| w_d rfl (QS rfl rfl) <| wN zr26 rfl rfl fun b32 => wS (Qa y24.1 v28 v30) sz26 rfl rfl rfl rfl rfl (Xw h29 h31) .here u4 <| wA (errV 104 y24.2) rfl rfl <| wE <| wR rfl <| wM (errV 104 y24.2) rfl rfl <| w_d rfl (X1 (e := y24.2) Tryz.underlying30 rfl) ?_
  refine Qc ?_
  rcases its he with ⟨c33, he⟩ | ⟨c33, he⟩
  ·
   refine QB rfl c33 <| wR rfl <| w_d rfl (Xx (cs' := z2c) Tryz.underlying28 zr28 rfl (by kernel_rfl) (parts := []) rfl .nil) <| wM (errV 104 y24.2) rfl rfl <| wS (.agg ⟨z2c⟩) sz28 rfl rfl rfl rfl rfl (oc rfl (oc rfl (oc rfl (oc rfl (oc rfl (oc rfl (oc rfl (oc rfl oz)))))))) .h7 (.here (.here (.here (.here u4)))) <| wA (errV 104 y24.2) rfl rfl <| Qc ?_
   obtain rfl := sj he
   refine Qn fn_81 rs_81 (.box (v := .agg ⟨z2c⟩) rfl ty28 rfl rfl .h7 rfl (.tmp (v := errV 104 y24.2) rfl .nil)) <| ⟨⟨[_, _, _, _, _, _, _, _, _, _], rfl⟩, hle.trans (e9.trans e27), ⟨.slice none 0 0, .slice none 0 0, .slice none 0 0, .slice none 0 0, rfl, (Q2 _ _), (Q2 _ _), (Q2 _ _), (Q2 _ _)⟩⟩
  ·
   refine QI rfl (Bool.eq_false_iff.2 c33) <| QF <| QH rfl <| wM v20 rfl rfl <| wL (Qa y24.1 v28 v30) ty26 rfl rfl .here rfl rfl <| w_a rfl (o_buildSlice' (kd := Xz) (css := [(Qt y24.1 v28 v30)]) (xs := [y24.1]) (parts := [(0, (Qa y24.1 v28 v30))]) Tryz.underlying81 ti26 rfl ⟨_, _, rfl, rfl, rfl⟩ ⟨(Yv (x := y24.1) h29 h31), trivial⟩ rfl (by decide)) ?_
   rintro v34 _ _ ⟨i35, rfl, rfl, h36⟩
   refine rK he fun c37 he => w_a rfl (o_append' (kd := Xz) (F := fun z_ => i35 :: bx b32 (Qt y24.1 v28 v30) 26 :: bx b23 (Qt b.f_High v6_b v7_b) 26 :: z_ :: i17 :: bx b14 (Qt y6.1 v10 v12) 26 :: bx b5 (Qt b.f_Low v4_b v5_b) 26 :: bx b4 (Qt a.f_Low v0_a v1_a) 26 :: bx b3 z2c 28 :: bx b2 (Q5 b v4_b v5_b v6_b v7_b) 28 :: bx b1 (Q5 a v0_a v1_a v2_a v3_a) 28 :: L) Tryz.underlying81 Tryz.underlying81 ti26 rfl (by first | omega | (simp only [List.nil_append, List.length_cons, List.length_nil]; omega)) rfl rfl (h22.mono e27) (h36.src .here) (fun _ => .h3)) ?_
   rintro v38 _ _ ⟨i39, rfl, rfl, h40⟩
   refine wA v38 rfl rfl <| Qc <| Xp <| QH rfl <| w_d rfl (XG (c := 2) rfl rfl (by decide)) <| wM (.int .i64 2) rfl rfl <| Qc <| Xy <| wR rfl <| w_d rfl (XO rfl rfl) <| Qc ?_
   refine QX <| QI rfl rfl <| Ya rfl <| Xp <| QH rfl <| w_d rfl (XG (c := 1) rfl rfl (by decide)) <| wM (.int .i64 1) rfl rfl <| Qc <| Xy <| wR rfl <| w_d rfl (XO rfl rfl) ?_
   refine wE <| QB rfl rfl <| QF <| QX <| Q8 <| wR rfl <| w_d rfl (Z1 (v := (Qa a.f_High v2_a v3_a)) Tryz.underlying180 ty26 rfl rfl (by decide) rfl rfl rfl rfl) <| wN zr26 rfl rfl fun b41 => wS (Qa a.f_High v2_a v3_a) sz26 rfl rfl rfl rfl rfl (Xw h2_a h3_a) .here u4 <| Qc ?_
   refine wR rfl <| w_d rfl (QM (o' := 0) Tryz.underlying28 rfl sz26 rfl rfl rfl) <| w_d rfl (Qq (v := (Qa b.f_Low v4_b v5_b)) ty26 rfl .h10 rfl rfl rfl rfl) <| w_d rfl (QM (o' := 4) Tryz.underlying28 rfl sz26 rfl rfl rfl) <| w_d rfl (Qq (v := (Qa b.f_High v6_b v7_b)) ty26 rfl .h10 rfl rfl rfl rfl) <| w_d rfl (Jc (cs' := (Q5 b v4_b v5_b v6_b v7_b)) Tryz.underlying180 sz26 zr180 rfl (parts := [(0, (Qa b.f_Low v4_b v5_b)), (1, (Qa b.f_High v6_b v7_b))]) rfl (.cons rfl rfl rfl u4 (.cons rfl rfl rfl (.there (.there (.there (.there u4)))) .nil))) <| wM (.int .i64 0) rfl rfl <| Qc <| Q8 <| Ye <| QX ?_
   refine QH rfl <| w_d rfl (XO rfl rfl) <| wE <| QB rfl rfl <| QF <| QX <| Q8 <| wR rfl <| w_d rfl (Z1 (v := (Qa b.f_Low v4_b v5_b)) Tryz.underlying180 ty26 rfl rfl (by decide) rfl rfl rfl rfl) <| wN zr26 rfl rfl fun b42 => ?_
   refine wS (Qa b.f_Low v4_b v5_b) sz26 rfl rfl rfl rfl rfl (Xw h4_b h5_b) .here u4 <| wQ rfl <| wM (.func (.func 24) #[] #[]) rfl rfl <| wL (Qa a.f_High v2_a v3_a) ty26 rfl rfl .h1 rfl rfl <| wL (Qa b.f_Low v4_b v5_b) ty26 rfl rfl .here rfl rfl <| bK he fun y43 hy44 he => w_a rfl (Jf rfl co24 (vs := [(Qa a.f_High v2_a v3_a), (Qa b.f_Low v4_b v5_b)]) rfl (Ym.calls k (a := a.f_High) (b := b.f_Low) hy44 (h2_a.mono (e9.trans e27)) (h3_a.mono (e9.trans e27)) (h4_b.mono (e9.trans e27)) (h5_b.mono (e9.trans e27)))) ?_
   rintro _ H45 _ ⟨rfl, e46, v47, v49, rfl, h48, h50⟩
   refine wM (.tuple ⟨[(Qa y43.1 v47 v49), errV 104 y43.2]⟩) rfl rfl <| w_d rfl (QS rfl rfl) <| w_d rfl (QS rfl rfl) <| wN zr26 rfl rfl fun b51 => wS (Qa y43.1 v47 v49) sz26 rfl rfl rfl rfl rfl (Xw h48 h50) .here u4 <| wA (errV 104 y43.2) rfl rfl <| wE <| wR rfl <| wM (errV 104 y43.2) rfl rfl <| w_d rfl (X1 (e := y43.2) Tryz.underlying30 rfl) ?_
   refine Qc ?_
   rcases its he with ⟨c52, he⟩ | ⟨c52, he⟩
   ·
    refine QB rfl c52 <| wR rfl <| w_d rfl (Xx (cs' := z2c) Tryz.underlying28 zr28 rfl (by kernel_rfl) (parts := []) rfl .nil) <| wM (errV 104 y43.2) rfl rfl <| wS (.agg ⟨z2c⟩) sz28 rfl rfl rfl rfl rfl (oc rfl (oc rfl (oc rfl (oc rfl (oc rfl (oc rfl (oc rfl (oc rfl oz)))))))) .h11 (.here (.here (.here (.here u4)))) <| wA (errV 104 y43.2) rfl rfl <| Qc ?_
    obtain rfl := sj he
    refine Qn fn_81 rs_81 (.box (v := .agg ⟨z2c⟩) rfl ty28 rfl rfl .h11 rfl (.tmp (v := errV 104 y43.2) rfl .nil)) <| ⟨⟨[_, _, _, _, _, _, _, _, _, _, _, _, _, _], rfl⟩, hle.trans ((e9.trans e27).trans e46), ⟨.slice none 0 0, .slice none 0 0, .slice none 0 0, .slice none 0 0, rfl, (Q2 _ _), (Q2 _ _), (Q2 _ _), (Q2 _ _)⟩⟩
   ·
    refine QI rfl (Bool.eq_false_iff.2 c52) <| QF <| QH rfl <| wM v38 rfl rfl <| wL (Qa y43.1 v47 v49) ty26 rfl rfl .here rfl rfl <| w_a rfl (o_buildSlice' (kd := Xz) (css := [(Qt y43.1 v47 v49)]) (xs := [y43.1]) (parts := [(0, (Qa y43.1 v47 v49))]) Tryz.underlying81 ti26 rfl ⟨_, _, rfl, rfl, rfl⟩ ⟨(Yv (x := y43.1) h48 h50), trivial⟩ rfl (by decide)) ?_
    rintro v53 _ _ ⟨i54, rfl, rfl, h55⟩
    refine rK he fun c56 he => w_a rfl (o_append' (kd := Xz) (F := fun z_ => i54 :: bx b51 (Qt y43.1 v47 v49) 26 :: bx b42 (Qt b.f_Low v4_b v5_b) 26 :: bx b41 (Qt a.f_High v2_a v3_a) 26 :: i35 :: bx b32 (Qt y24.1 v28 v30) 26 :: bx b23 (Qt b.f_High v6_b v7_b) 26 :: z_ :: i17 :: bx b14 (Qt y6.1 v10 v12) 26 :: bx b5 (Qt b.f_Low v4_b v5_b) 26 :: bx b4 (Qt a.f_Low v0_a v1_a) 26 :: bx b3 z2c 28 :: bx b2 (Q5 b v4_b v5_b v6_b v7_b) 28 :: bx b1 (Q5 a v0_a v1_a v2_a v3_a) 28 :: L) Tryz.underlying81 Tryz.underlying81 ti26 rfl (by first | omega | (simp only [List.nil_append, List.length_cons, List.length_nil]; omega)) rfl rfl (h40.mono e46) (h55.src .here) (fun _ => .h7)) ?_
    rintro v57 _ _ ⟨i58, rfl, rfl, h59⟩
    refine wA v57 rfl rfl <| Qc <| Xp <| QH rfl <| w_d rfl (XG (c := 1) rfl rfl (by decide)) <| wM (.int .i64 1) rfl rfl <| Qc <| Xy <| wR rfl <| w_d rfl (XO rfl rfl) <| Qc ?_
    refine QX <| QB rfl rfl <| QF <| QX <| Q8 <| wR rfl <| w_d rfl (Z1 (v := (Qa b.f_High v6_b v7_b)) Tryz.underlying180 ty26 rfl rfl (by decide) rfl rfl rfl rfl) <| wN zr26 rfl rfl fun b60 => wS (Qa b.f_High v6_b v7_b) sz26 rfl rfl rfl rfl rfl (Xw h6_b h7_b) .here u4 <| wE ?_
    refine QH rfl <| wM (.func (.func 24) #[] #[]) rfl rfl <| wL (Qa a.f_High v2_a v3_a) ty26 rfl rfl .h4 rfl rfl <| wL (Qa b.f_High v6_b v7_b) ty26 rfl rfl .here rfl rfl <| bK he fun y61 hy62 he => w_a rfl (Jf rfl co24 (vs := [(Qa a.f_High v2_a v3_a), (Qa b.f_High v6_b v7_b)]) rfl (Ym.calls k (a := a.f_High) (b := b.f_High) hy62 (h2_a.mono ((e9.trans e27).trans e46)) (h3_a.mono ((e9.trans e27).trans e46)) (h6_b.mono ((e9.trans e27).trans e46)) (h7_b.mono ((e9.trans e27).trans e46)))) ?_
    rintro _ H63 _ ⟨rfl, e64, v65, v67, rfl, h66, h68⟩
    refine wM (.tuple ⟨[(Qa y61.1 v65 v67), errV 104 y61.2]⟩) rfl rfl <| w_d rfl (QS rfl rfl) <| w_d rfl (QS rfl rfl) <| wN zr26 rfl rfl fun b69 => wS (Qa y61.1 v65 v67) sz26 rfl rfl rfl rfl rfl (Xw h66 h68) .here u4 <| wA (errV 104 y61.2) rfl rfl <| wE <| wR rfl <| wM (errV 104 y61.2) rfl rfl <| w_d rfl (X1 (e := y61.2) Tryz.underlying30 rfl) ?_
    refine Qc ?_
    rcases its he with ⟨c70, he⟩ | ⟨c70, he⟩
    ·
     refine QB rfl c70 <| wR rfl <| w_d rfl (Xx (cs' := z2c) Tryz.underlying28 zr28 rfl (by kernel_rfl) (parts := []) rfl .nil) <| wM (errV 104 y61.2) rfl rfl <| wS (.agg ⟨z2c⟩) sz28 rfl rfl rfl rfl rfl (oc rfl (oc rfl (oc rfl (oc rfl (oc rfl (oc rfl (oc rfl (oc rfl oz)))))))) .h14 (.here (.here (.here (.here u4)))) <| wA (errV 104 y61.2) rfl rfl <| Qc ?_
     obtain rfl := sj he
     refine Qn fn_81 rs_81 (.box (v := .agg ⟨z2c⟩) rfl ty28 rfl rfl .h14 rfl (.tmp (v := errV 104 y61.2) rfl .nil)) <| ⟨⟨[_, _, _, _, _, _, _, _, _, _, _, _, _, _, _, _, _], rfl⟩, hle.trans (((e9.trans e27).trans e46).trans e64), ⟨.slice none 0 0, .slice none 0 0, .slice none 0 0, .slice none 0 0, rfl, (Q2 _ _), (Q2 _ _), (Q2 _ _), (Q2 _ _)⟩⟩
    ·
     refine QI rfl (Bool.eq_false_iff.2 c70) <| QF <| QH rfl <| wM v57 rfl rfl <| wL (Qa y61.1 v65 v67) ty26 rfl rfl .here rfl rfl <| w_a rfl (o_buildSlice' (kd := Xz) (css := [(Qt y61.1 v65 v67)]) (xs := [y61.1]) (parts := [(0, (Qa y61.1 v65 v67))]) Tryz.underlying81 ti26 rfl ⟨_, _, rfl, rfl, rfl⟩ ⟨(Yv (x := y61.1) h66 h68), trivial⟩ rfl (by decide)) ?_
     rintro v71 _ _ ⟨i72, rfl, rfl, h73⟩
     refine rK he fun c74 he => w_a rfl (o_append' (kd := Xz) (F := fun z_ => i72 :: bx b69 (Qt y61.1 v65 v67) 26 :: bx b60 (Qt b.f_High v6_b v7_b) 26 :: i54 :: bx b51 (Qt y43.1 v47 v49) 26 :: bx b42 (Qt b.f_Low v4_b v5_b) 26 :: bx b41 (Qt a.f_High v2_a v3_a) 26 :: i35 :: bx b32 (Qt y24.1 v28 v30) 26 :: bx b23 (Qt b.f_High v6_b v7_b) 26 :: z_ :: i17 :: bx b14 (Qt y6.1 v10 v12) 26 :: bx b5 (Qt b.f_Low v4_b v5_b) 26 :: bx b4 (Qt a.f_Low v0_a v1_a) 26 :: bx b3 z2c 28 :: bx b2 (Q5 b v4_b v5_b v6_b v7_b) 28 :: bx b1 (Q5 a v0_a v1_a v2_a v3_a) 28 :: L) Tryz.underlying81 Tryz.underlying81 ti26 rfl (by first | omega | (simp only [List.nil_append, List.length_cons, List.length_nil]; omega)) rfl rfl (h59.mono e64) (h73.src .here) (fun _ => .h10)) ?_
     rintro v75 _ _ ⟨i76, rfl, rfl, h77⟩
     refine wA v75 rfl rfl <| Qc <| Xp <| QH rfl <| w_d rfl (XG (c := 2) rfl rfl (by decide)) <| wM (.int .i64 2) rfl rfl <| Qc <| Xy <| wR rfl <| w_d rfl (XO rfl rfl) <| Qc ?_
     refine QX <| QI rfl rfl <| Ya rfl <| Xp <| QH rfl <| w_d rfl (XG (c := 2) rfl rfl (by decide)) <| wM (.int .i64 2) rfl rfl <| Qc <| Xy <| wR rfl <| w_d rfl (XO rfl rfl) ?_
     refine wE <| QI rfl rfl <| Ya rfl <| wR rfl <| wM v75 rfl rfl <| bK he fun y78 hy79 he => w_a rfl (Qj co82 (vs := [v75]) rfl (QC.calls k hy79 (h77.src .h10))) ?_
     rintro _ H80 _ ⟨rfl, e81, v82, v84, v86, v88, rfl, h83, h85, h87, h89⟩
     refine w_d rfl (QS rfl rfl) <| w_d rfl (QS rfl rfl) <| wS (Qg y78.1 v82 v84 v86 v88) sz28 rfl rfl rfl rfl rfl (X6 h83 h85 h87 h89) .h15 (.here (.here (.here (.here u4)))) <| wA (errV 104 y78.2) rfl rfl <| Qc ?_
     obtain rfl := sj he
     refine Qn fn_81 rs_81 (.box (v := (Qg y78.1 v82 v84 v86 v88)) rfl ty28 rfl rfl .h15 rfl (.tmp (v := errV 104 y78.2) rfl .nil)) <| ⟨⟨[_, _, _, _, _, _, _, _, _, _, _, _, _, _, _, _, _, _], rfl⟩, hle.trans ((((e9.trans e27).trans e46).trans e64).trans e81), ⟨v82, v84, v86, v88, rfl, h83, h85, h87, h89⟩⟩
noncomputable def Y3.C : Code := (Tryz.f26.body).getD .skip
def Y3.out (r : QL × (Option Int)) (H : Hp) (v : Value) : Prop := ∃ v0 v1 v2 v3, v = .tuple ⟨[(Qg r.1 v0 v1 v2 v3), errV 104 r.2]⟩ ∧ Ro kU32 H v0 r.1.f_Low.f_n.f_w ∧ Ro kU32 H v1 r.1.f_Low.f_d.f_w ∧ Ro kU32 H v2 r.1.f_High.f_n.f_w ∧ Ro kU32 H v3 r.1.f_High.f_d.f_w
noncomputable def Y3.f (k : Nat) (a b : QL) : Option (QL × (Option Int)) := (QE.f k [a, b]).bind fun y7 => if y7.isSome = true then (some (⟨⟨⟨false, []⟩, ⟨false, []⟩⟩, ⟨⟨false, []⟩, ⟨false, []⟩⟩⟩, y7)) else ((Xh.f k a b).bind fun y12 => some (y12.1, y12.2))
theorem Y3.calls (k : Nat) {H : Hp} {L : Items} {a b : QL} {v0_a v1_a v2_a v3_a v4_b v5_b v6_b v7_b : Value} {r : QL × (Option Int)} (he : Y3.f k a b = some r) (h0_a : Ro kU32 H v0_a a.f_Low.f_n.f_w) (h1_a : Ro kU32 H v1_a a.f_Low.f_d.f_w) (h2_a : Ro kU32 H v2_a a.f_High.f_n.f_w) (h3_a : Ro kU32 H v3_a a.f_High.f_d.f_w) (h4_b : Ro kU32 H v4_b b.f_Low.f_n.f_w) (h5_b : Ro kU32 H v5_b b.f_Low.f_d.f_w) (h6_b : Ro kU32 H v6_b b.f_High.f_n.f_w) (h7_b : Ro kU32 H v7_b b.f_High.f_d.f_w) : Ct Tryz.prog 26 ⟨[(Qg a v0_a v1_a v2_a v3_a), (Qg b v4_b v5_b v6_b v7_b)]⟩ H L (cR H L (Y3.out r)) := by
 refine XS (O := Y3.out r) ?_
 have hle : H.le H := .refl _
 unfold Y3.f at he
 refine QZ (args := [(Qg a v0_a v1_a v2_a v3_a), (Qg b v4_b v5_b v6_b v7_b)]) fn_26 rfl nt_26 rfl <| wR rfl <| wB (Qg a v0_a v1_a v2_a v3_a) rfl rfl rfl <| fun b1 => wB (Qg b v4_b v5_b v6_b v7_b) rfl rfl rfl <| fun b2 => wN zr28 rfl rfl fun b3 => wA (errV 104 none) rfl rfl <| wE <| wR rfl <| wL (Qg a v0_a v1_a v2_a v3_a) ty28 rfl rfl .h2 rfl rfl ?_
 refine wL (Qg b v4_b v5_b v6_b v7_b) ty28 rfl rfl .h1 rfl rfl <| w_a rfl (o_buildSlice' (kd := YP) (css := [(Q5 a v0_a v1_a v2_a v3_a), (Q5 b v4_b v5_b v6_b v7_b)]) (xs := [a, b]) (parts := [(0, (Qg a v0_a v1_a v2_a v3_a)), (1, (Qg b v4_b v5_b v6_b v7_b))]) Tryz.underlying178 ti28 rfl ⟨_, _, rfl, rfl, ⟨_, _, rfl, rfl, rfl⟩⟩ ⟨(YB (x := a) h0_a h1_a h2_a h3_a), ⟨(YB (x := b) h4_b h5_b h6_b h7_b), trivial⟩⟩ rfl (by decide)) ?_
 rintro v4 _ _ ⟨i5, rfl, rfl, h6⟩
 refine bK he fun y7 hy8 he => w_d rfl (Xi (Qj co79 (vs := [v4]) rfl (QE.calls k hy8 (h6.src .here)))) <| wA (errV 104 y7) rfl rfl <| wQ rfl <| wM (errV 104 y7) rfl rfl <| w_d rfl (X1 (e := y7) Tryz.underlying30 rfl) <| Qc ?_
 rcases its he with ⟨c11, he⟩ | ⟨c11, he⟩
 ·
  refine QB rfl c11 <| wR rfl <| w_d rfl (Xx (cs' := z2c) Tryz.underlying28 zr28 rfl (by kernel_rfl) (parts := []) rfl .nil) <| wM (errV 104 y7) rfl rfl <| wS (.agg ⟨z2c⟩) sz28 rfl rfl rfl rfl rfl (oc rfl (oc rfl (oc rfl (oc rfl (oc rfl (oc rfl (oc rfl (oc rfl oz)))))))) .h1 (.here (.here (.here (.here u4)))) <| wA (errV 104 y7) rfl rfl <| Qc ?_
  obtain rfl := sj he
  refine Qn fn_26 rs_26 (.box (v := .agg ⟨z2c⟩) rfl ty28 rfl rfl .h1 rfl (.tmp (v := errV 104 y7) rfl .nil)) <| ⟨⟨[_, _, _, _], rfl⟩, hle, ⟨.slice none 0 0, .slice none 0 0, .slice none 0 0, .slice none 0 0, rfl, (Q2 _ _), (Q2 _ _), (Q2 _ _), (Q2 _ _)⟩⟩
 ·
  refine QI rfl (Bool.eq_false_iff.2 c11) <| QF <| wR rfl <| wL (Qg a v0_a v1_a v2_a v3_a) ty28 rfl rfl .h3 rfl rfl <| wL (Qg b v4_b v5_b v6_b v7_b) ty28 rfl rfl .h2 rfl rfl <| bK he fun y12 hy13 he => w_a rfl (Qj co81 (vs := [(Qg a v0_a v1_a v2_a v3_a), (Qg b v4_b v5_b v6_b v7_b), .func (.func 24) #[] #[]]) rfl (Xh.calls k (a := a) (b := b) hy13 h0_a h1_a h2_a h3_a h4_b h5_b h6_b h7_b)) ?_
  rintro _ H14 _ ⟨rfl, e15, v16, v18, v20, v22, rfl, h17, h19, h21, h23⟩
  refine w_d rfl (QS rfl rfl) <| w_d rfl (QS rfl rfl) <| wS (Qg y12.1 v16 v18 v20 v22) sz28 rfl rfl rfl rfl rfl (X6 h17 h19 h21 h23) .h1 (.here (.here (.here (.here u4)))) <| wA (errV 104 y12.2) rfl rfl <| Qc ?_
  obtain rfl := sj he
  refine Qn fn_26 rs_26 (.box (v := (Qg y12.1 v16 v18 v20 v22)) rfl ty28 rfl rfl .h1 rfl (.tmp (v := errV 104 y12.2) rfl .nil)) <| ⟨⟨[_, _, _, _], rfl⟩, hle.trans e15, ⟨v16, v18, v20, v22, rfl, h17, h19, h21, h23⟩⟩
noncomputable def Yz.C : Code := (Tryz.f83.body).getD .skip
def Yz.out (r : Qu × Qu) (H : Hp) (v : Value) : Prop := ∃ v0 v1, v = .tuple ⟨[(Qd r.1 v0), (Qd r.2 v1)]⟩ ∧ Ro kU32 H v0 r.1.f_w ∧ Ro kU32 H v1 r.2.f_w
noncomputable def Yz.f (k : Nat) (a : QG) : Option (Qu × Qu) := (QD.f k a).bind fun y4 => some (a.f_n, y4)
theorem Yz.calls (k : Nat) {H : Hp} {L : Items} {a : QG} {v0_a v1_a : Value} {r : Qu × Qu} (he : Yz.f k a = some r) (h0_a : Ro kU32 H v0_a a.f_n.f_w) (h1_a : Ro kU32 H v1_a a.f_d.f_w) : Ct Tryz.prog 83 ⟨[(Qa a v0_a v1_a)]⟩ H L (cR H L (Yz.out r)) := by
 refine XS (O := Yz.out r) ?_
 have hle : H.le H := .refl _
 unfold Yz.f at he
 refine QZ (args := [(Qa a v0_a v1_a)]) fn_83 rfl nt_83 rfl <| wR rfl <| wB (Qa a v0_a v1_a) rfl rfl rfl <| fun b1 => wN zr24 rfl rfl fun b2 => wN zr24 rfl rfl fun b3 => wE <| bK he fun y4 hy5 he => Xv (p := 4) (tl := [4, 5]) [[], [(0, some 4)], [], [(2, some 6)]] [some 4, some 5, some 6, some 7] (fctF (.is (pt b1) :: .is (Qd a.f_n v0_a) :: .is (Qa a v0_a v1_a) :: .of (QD.out y4) (QD.out_mono _) :: [])) (fun m_ => bx b3 [.bool false, .slice none 0 0] 24 :: bx b2 [.bool false, .slice none 0 0] 24 :: bx b1 (Qt a v0_a v1_a) 26 :: L) (fun _ => none) mixed (by kernel_rfl) (by kernel_rfl) rfl (Xn (by kernel_rfl)) ⟨(fun H' m_ hH hm_ hu_ => dn <| s_d (m_ 0) rfl (QM (o' := 0) Tryz.underlying26 rfl sz24 rfl rfl rfl) (by exact rfl) rfl), (by rintro H' m_ hH hm_ hu_ _ rfl; exact dn <| s_d (m_ 1) rfl (Qq (v := (Qd a.f_n v0_a)) ty24 rfl .h2 rfl rfl rfl rfl) (by exact rfl) rfl), (fun H' m_ hH hm_ hu_ => dn <| s_d (m_ 2) rfl (Qq (v := (Qa a v0_a v1_a)) ty26 rfl .h2 rfl rfl rfl rfl) (by exact rfl) rfl), (by rintro H' m_ hH hm_ hu_ _ rfl; exact dn <| s_k (m_ 3) rfl (Qj co78 (vs := [(Qa a v0_a v1_a)]) rfl (QD.calls k (a := a) hy5 (h0_a.mono hH) (h1_a.mono hH))) rfl (by rintro v_ H_ _ ⟨rfl, e_, h_⟩; exact ⟨rfl, e_, h_⟩)), trivial⟩ ?_
 intro H10 e11
 rintro _ _ rfl _ _ rfl _ _ rfl _ _ ⟨v8, rfl, h9⟩
 refine wS (Qd a.f_n v0_a) sz24 rfl rfl rfl rfl rfl (XF h0_a) .h1 u2 <| wS (Qd y4 v8) sz24 rfl rfl rfl rfl rfl (XF h9) .here u2 <| Qc ?_
 obtain rfl := sj he
 refine Qn fn_83 rs_83 (.box (v := (Qd a.f_n v0_a)) rfl ty24 rfl rfl .h1 rfl (.box (v := (Qd y4 v8)) rfl ty24 rfl rfl .here rfl .nil)) <| ⟨⟨[_, _, _], rfl⟩, hle.trans e11, ⟨v0_a, v8, rfl, (h0_a.mono e11), h9⟩⟩
noncomputable def Yo.C : Code := (Tryz.f85.body).getD .skip
def Yo.out (r : QG × (Option Int)) (H : Hp) (v : Value) : Prop := ∃ v0 v1, v = .tuple ⟨[(Qa r.1 v0 v1), errV 104 r.2]⟩ ∧ Ro kU32 H v0 r.1.f_n.f_w ∧ Ro kU32 H v1 r.1.f_d.f_w
noncomputable def Yo.f (k : Nat) (a b : QG) : Option (QG × (Option Int)) := (Xt.f k b.f_n).bind fun y4 => if y4 = 0 then (some (⟨⟨false, []⟩, ⟨false, []⟩⟩, some 11)) else ((QD.f k b).bind fun y9 => (QD.f k a).bind fun y15 => (Yj.f k a.f_n y9 y15 b.f_n).bind fun y21 => some (y21.1, y21.2))
theorem Yo.calls (k : Nat) {H : Hp} {L : Items} {a b : QG} {v0_a v1_a v2_b v3_b : Value} {r : QG × (Option Int)} (he : Yo.f k a b = some r) (h0_a : Ro kU32 H v0_a a.f_n.f_w) (h1_a : Ro kU32 H v1_a a.f_d.f_w) (h2_b : Ro kU32 H v2_b b.f_n.f_w) (h3_b : Ro kU32 H v3_b b.f_d.f_w) : Ct Tryz.prog 85 ⟨[(Qa a v0_a v1_a), (Qa b v2_b v3_b)]⟩ H L (cR H L (Yo.out r)) := by
 refine XS (O := Yo.out r) ?_
 have hle : H.le H := .refl _
 unfold Yo.f at he
 refine QZ (args := [(Qa a v0_a v1_a), (Qa b v2_b v3_b)]) fn_85 rfl nt_85 rfl <| wR rfl <| wB (Qa a v0_a v1_a) rfl rfl rfl <| fun b1 => wB (Qa b v2_b v3_b) rfl rfl rfl <| fun b2 => wN zr26 rfl rfl fun b3 => wA (errV 104 none) rfl rfl <| wE <| wR rfl <| w_d rfl (QM (o' := 0) Tryz.underlying26 rfl sz24 rfl rfl rfl) ?_
 refine wL (Qd b.f_n v2_b) ty24 rfl rfl .h1 rfl rfl <| bK he fun y4 hy5 he => w_d rfl (Xi (Qj co84 (vs := [(Qd b.f_n v2_b)]) rfl (Xt.calls k (a := b.f_n) hy5 h2_b))) <| w_d rfl (Zb rfl rfl) <| Qc ?_
 rcases its he with ⟨c8, he⟩ | ⟨c8, he⟩
 ·
  refine QB rfl (dt c8) <| wR rfl <| w_d rfl (Xx (cs' := z0c) Tryz.underlying26 zr26 rfl (by kernel_rfl) (parts := []) rfl .nil) <| w_d rfl (Zp (v := .int .i64 11) Tryz.underlying104 rfl rfl) <| wS (.agg ⟨z0c⟩) sz26 rfl rfl rfl rfl rfl (oc rfl (oc rfl (oc rfl (oc rfl oz)))) .here u4 <| wA (errV 104 (some 11)) rfl rfl <| Qc ?_
  obtain rfl := sj he
  refine Qn fn_85 rs_85 (.box (v := .agg ⟨z0c⟩) rfl ty26 rfl rfl .here rfl (.tmp (v := errV 104 (some 11)) rfl .nil)) <| ⟨⟨[_, _, _], rfl⟩, hle, ⟨.slice none 0 0, .slice none 0 0, rfl, (Q2 _ _), (Q2 _ _)⟩⟩
 ·
  refine QI rfl (df c8) <| QF <| QX <| bK he fun y9 hy10 he => bK he fun y15 hy16 he => bK he fun y21 hy22 he => Xv (p := 11) (tl := [11, 12]) [[], [(0, some 12)], [], [(2, some 14)], [], [(4, some 16)], [], [(6, some 18)], [(1, some 13), (3, some 15), (5, some 17), (7, some 19)], [(8, some 20)], [(8, some 20)]] [some 12, some 13, some 14, some 15, some 16, some 17, some 18, some 19, some 20, some 21, some 22] (fctF (.is (pt b1) :: .is (Qd a.f_n v0_a) :: .is (Qa b v2_b v3_b) :: .of (QD.out y9) (QD.out_mono _) :: .is (Qa a v0_a v1_a) :: .of (QD.out y15) (QD.out_mono _) :: .is (pt b2) :: .is (Qd b.f_n v2_b) :: .of (Yj.out y21) (Yj.out_mono _) :: .of (fun H v => ∃ v29 v31, v = (Qa y21.1 v29 v31) ∧ Ro kU32 H v29 y21.1.f_n.f_w ∧ Ro kU32 H v31 y21.1.f_d.f_w) (by rintro _ _ _ hle ⟨v29, v31, rfl, h30, h32⟩; exact ⟨v29, v31, rfl, h30.mono hle, h32.mono hle⟩) :: .is (errV 104 y21.2) :: [])) (fun m_ => bx b3 z0c 26 :: bx b2 (Qt b v2_b v3_b) 26 :: bx b1 (Qt a v0_a v1_a) 26 :: L) (fun _ => none) mixed (by kernel_rfl) (by kernel_rfl) rfl (Xn (by kernel_rfl)) ⟨(fun H' m_ hH hm_ hu_ => dn <| s_d (m_ 0) rfl (QM (o' := 0) Tryz.underlying26 rfl sz24 rfl rfl rfl) (by exact rfl) rfl), (by rintro H' m_ hH hm_ hu_ _ rfl; exact dn <| s_d (m_ 1) rfl (Qq (v := (Qd a.f_n v0_a)) ty24 rfl .h2 rfl rfl rfl rfl) (by exact rfl) rfl), (fun H' m_ hH hm_ hu_ => dn <| s_d (m_ 2) rfl (Qq (v := (Qa b v2_b v3_b)) ty26 rfl .h1 rfl rfl rfl rfl) (by exact rfl) rfl), (by rintro H' m_ hH hm_ hu_ _ rfl; exact dn <| s_k (m_ 3) rfl (Qj co78 (vs := [(Qa b v2_b v3_b)]) rfl (QD.calls k (a := b) hy10 (h2_b.mono hH) (h3_b.mono hH))) rfl (by rintro v_ H_ _ ⟨rfl, e_, h_⟩; exact ⟨rfl, e_, h_⟩)), (fun H' m_ hH hm_ hu_ => dn <| s_d (m_ 4) rfl (Qq (v := (Qa a v0_a v1_a)) ty26 rfl .h2 rfl rfl rfl rfl) (by exact rfl) rfl), (by rintro H' m_ hH hm_ hu_ _ rfl; exact dn <| s_k (m_ 5) rfl (Qj co78 (vs := [(Qa a v0_a v1_a)]) rfl (QD.calls k (a := a) hy16 (h0_a.mono hH) (h1_a.mono hH))) rfl (by rintro v_ H_ _ ⟨rfl, e_, h_⟩; exact ⟨rfl, e_, h_⟩)), (fun H' m_ hH hm_ hu_ => dn <| s_d (m_ 6) rfl (QM (o' := 0) Tryz.underlying26 rfl sz24 rfl rfl rfl) (by exact rfl) rfl), (by rintro H' m_ hH hm_ hu_ _ rfl; exact dn <| s_d (m_ 7) rfl (Qq (v := (Qd b.f_n v2_b)) ty24 rfl .h1 rfl rfl rfl rfl) (by exact rfl) rfl), (by rintro H' m_ hH hm_ hu_ _ rfl _ ⟨v13, rfl, h14⟩ _ ⟨v19, rfl, h20⟩ _ rfl; exact dn <| s_k (m_ 8) rfl (Qj co77 (vs := [(Qd a.f_n v0_a), (Qd y9 v13), (Qd y15 v19), (Qd b.f_n v2_b)]) rfl (Yj.calls k (n := a.f_n) (m := y9) (d := y15) (e_ := b.f_n) hy22 (h0_a.mono hH) h14 h20 (h2_b.mono hH))) rfl (by rintro v_ H_ _ ⟨rfl, e_, h_⟩; exact ⟨rfl, e_, h_⟩)), (by rintro H' m_ hH hm_ hu_ _ ⟨v25, v27, rfl, h26, h28⟩; exact dn <| s_d (m_ 9) rfl (QS rfl rfl) (by exact ⟨v25, v27, rfl, h26, h28⟩) rfl), (by rintro H' m_ hH hm_ hu_ _ ⟨v25, v27, rfl, h26, h28⟩; exact dn <| s_d (m_ 10) rfl (QS rfl rfl) (by exact rfl) rfl), trivial⟩ ?_
  intro H33 e34
  rintro _ _ rfl _ _ rfl _ _ rfl _ _ ⟨v13, rfl, h14⟩ _ _ rfl _ _ ⟨v19, rfl, h20⟩ _ _ rfl _ _ rfl _ _ ⟨v25, v27, rfl, h26, h28⟩ _ _ ⟨v29, v31, rfl, h30, h32⟩ _ _ rfl
  refine wS (Qa y21.1 v29 v31) sz26 rfl rfl rfl rfl rfl (Xw h30 h32) .here u4 <| wA (errV 104 y21.2) rfl rfl <| Qc ?_
  obtain rfl := sj he
  refine Qn fn_85 rs_85 (.box (v := (Qa y21.1 v29 v31)) rfl ty26 rfl rfl .here rfl (.tmp (v := errV 104 y21.2) rfl .nil)) <| ⟨⟨[_, _, _], rfl⟩, hle.trans e34, ⟨v29, v31, rfl, h30, h32⟩⟩
noncomputable def Xe.C : Code := (Tryz.f81.body).getD .skip
def Xe.out (r : QL × (Option Int)) (H : Hp) (v : Value) : Prop := ∃ v0 v1 v2 v3, v = .tuple ⟨[(Qg r.1 v0 v1 v2 v3), errV 104 r.2]⟩ ∧ Ro kU32 H v0 r.1.f_Low.f_n.f_w ∧ Ro kU32 H v1 r.1.f_Low.f_d.f_w ∧ Ro kU32 H v2 r.1.f_High.f_n.f_w ∧ Ro kU32 H v3 r.1.f_High.f_d.f_w
structure Xe.Hs where
noncomputable def Xe.hs : Nat → Xe.Hs
 | 0 => ⟨⟩
 | k + 1 => ⟨⟩
noncomputable def Xe.f (k : Nat) (a b : QL) : Option (QL × (Option Int)) := (fun h : Xe.Hs => (Yo.f k a.f_Low b.f_Low).bind fun y6 => if y6.2.isSome = true then (some (⟨⟨⟨false, []⟩, ⟨false, []⟩⟩, ⟨⟨false, []⟩, ⟨false, []⟩⟩⟩, y6.2)) else (if 0 + 1 ≤ 2199023255424 then ((Yo.f k a.f_Low b.f_High).bind fun y24 => if y24.2.isSome = true then (some (⟨⟨⟨false, []⟩, ⟨false, []⟩⟩, ⟨⟨false, []⟩, ⟨false, []⟩⟩⟩, y24.2)) else (if [y6.1].length + 1 ≤ 2199023255424 then ((Yo.f k a.f_High b.f_Low).bind fun y43 => if y43.2.isSome = true then (some (⟨⟨⟨false, []⟩, ⟨false, []⟩⟩, ⟨⟨false, []⟩, ⟨false, []⟩⟩⟩, y43.2)) else (if ([y6.1] ++ [y24.1]).length + 1 ≤ 2199023255424 then ((Yo.f k a.f_High b.f_High).bind fun y61 => if y61.2.isSome = true then (some (⟨⟨⟨false, []⟩, ⟨false, []⟩⟩, ⟨⟨false, []⟩, ⟨false, []⟩⟩⟩, y61.2)) else (if (([y6.1] ++ [y24.1]) ++ [y43.1]).length + 1 ≤ 2199023255424 then ((QC.f k ((([y6.1] ++ [y24.1]) ++ [y43.1]) ++ [y61.1])).bind fun y78 => some (y78.1, y78.2)) else none)) else none)) else none)) else none)) (Xe.hs k)
structure Xe.OK (h : Xe.Hs) : Prop where
theorem Xe.ok : ∀ k, Xe.OK (Xe.hs k)
 | 0 => ⟨⟩
 | k + 1 => ⟨⟩
theorem Xe.calls (k : Nat) {H : Hp} {L : Items} {a b : QL} {v0_a v1_a v2_a v3_a v4_b v5_b v6_b v7_b : Value} {r : QL × (Option Int)} (he : Xe.f k a b = some r) (h0_a : Ro kU32 H v0_a a.f_Low.f_n.f_w) (h1_a : Ro kU32 H v1_a a.f_Low.f_d.f_w) (h2_a : Ro kU32 H v2_a a.f_High.f_n.f_w) (h3_a : Ro kU32 H v3_a a.f_High.f_d.f_w) (h4_b : Ro kU32 H v4_b b.f_Low.f_n.f_w) (h5_b : Ro kU32 H v5_b b.f_Low.f_d.f_w) (h6_b : Ro kU32 H v6_b b.f_High.f_n.f_w) (h7_b : Ro kU32 H v7_b b.f_High.f_d.f_w) : Ct Tryz.prog 81 ⟨[(Qg a v0_a v1_a v2_a v3_a), (Qg b v4_b v5_b v6_b v7_b), .func (.func 85) #[] #[]]⟩ H L (cR H L (Xe.out r)) := by
 refine XS (O := Xe.out r) ?_
 have hle : H.le H := .refl _
 have hh := Xe.ok k
 unfold Xe.f at he
 refine QZ (args := [(Qg a v0_a v1_a v2_a v3_a), (Qg b v4_b v5_b v6_b v7_b), .func (.func 85) #[] #[]]) fn_81 rfl nt_81 rfl <| wR rfl <| wB (Qg a v0_a v1_a v2_a v3_a) rfl rfl rfl <| fun b1 => wB (Qg b v4_b v5_b v6_b v7_b) rfl rfl rfl <| fun b2 => wN zr28 rfl rfl fun b3 => wA (errV 104 none) rfl rfl <| wQ rfl <| wA (.slice none 0 0) rfl rfl <| Qc ?_
 refine QX <| wR rfl <| w_d rfl (QM (o' := 0) Tryz.underlying28 rfl sz26 rfl rfl rfl) <| wL (Qa a.f_Low v0_a v1_a) ty26 rfl rfl .h2 rfl rfl <| w_d rfl (QM (o' := 4) Tryz.underlying28 rfl sz26 rfl rfl rfl) <| wL (Qa a.f_High v2_a v3_a) ty26 rfl rfl .h2 rfl rfl <| w_d rfl (Jc (cs' := (Q5 a v0_a v1_a v2_a v3_a)) Tryz.underlying180 sz26 zr180 rfl (parts := [(0, (Qa a.f_Low v0_a v1_a)), (1, (Qa a.f_High v2_a v3_a))]) rfl (.cons rfl rfl rfl u4 (.cons rfl rfl rfl (.there (.there (.there (.there u4)))) .nil))) <| wM (.int .i64 0) rfl rfl <| Qc <| Q8 <| Ye ?_
 refine wR rfl <| w_d rfl (XO rfl rfl) <| wE <| QB rfl rfl <| QF <| QX <| Q8 <| wR rfl <| w_d rfl (Z1 (v := (Qa a.f_Low v0_a v1_a)) Tryz.underlying180 ty26 rfl rfl (by decide) rfl rfl rfl rfl) ?_
 refine wN zr26 rfl rfl fun b4 => wS (Qa a.f_Low v0_a v1_a) sz26 rfl rfl rfl rfl rfl (Xw h0_a h1_a) .here u4 <| wQ rfl <| w_d rfl (QM (o' := 0) Tryz.underlying28 rfl sz26 rfl rfl rfl) <| wL (Qa b.f_Low v4_b v5_b) ty26 rfl rfl .h2 rfl rfl <| w_d rfl (QM (o' := 4) Tryz.underlying28 rfl sz26 rfl rfl rfl) <| wL (Qa b.f_High v6_b v7_b) ty26 rfl rfl .h2 rfl rfl <| w_d rfl (Jc (cs' := (Q5 b v4_b v5_b v6_b v7_b)) Tryz.underlying180 sz26 zr180 rfl (parts := [(0, (Qa b.f_Low v4_b v5_b)), (1, (Qa b.f_High v6_b v7_b))]) rfl (.cons rfl rfl rfl u4 (.cons rfl rfl rfl (.there (.there (.there (.there u4)))) .nil))) <| wM (.int .i64 0) rfl rfl <| Qc ?_
 refine Q8 <| Ye <| wR rfl <| w_d rfl (XO rfl rfl) <| wE <| QB rfl rfl <| QF <| QX <| Q8 <| QX ?_
 refine QH rfl <| w_d rfl (Z1 (v := (Qa b.f_Low v4_b v5_b)) Tryz.underlying180 ty26 rfl rfl (by decide) rfl rfl rfl rfl) <| wN zr26 rfl rfl fun b5 => wS (Qa b.f_Low v4_b v5_b) sz26 rfl rfl rfl rfl rfl (Xw h4_b h5_b) .here u4 <| wQ rfl <| wM (.func (.func 85) #[] #[]) rfl rfl <| wL (Qa a.f_Low v0_a v1_a) ty26 rfl rfl .h1 rfl rfl <| wL (Qa b.f_Low v4_b v5_b) ty26 rfl rfl .here rfl rfl <| bK he fun y6 hy7 he => w_a rfl (Jf rfl co85 (vs := [(Qa a.f_Low v0_a v1_a), (Qa b.f_Low v4_b v5_b)]) rfl (Yo.calls k (a := a.f_Low) (b := b.f_Low) hy7 h0_a h1_a h4_b h5_b)) ?_
 rintro _ H8 _ ⟨rfl, e9, v10, v12, rfl, h11, h13⟩
 refine wM (.tuple ⟨[(Qa y6.1 v10 v12), errV 104 y6.2]⟩) rfl rfl <| w_d rfl (QS rfl rfl) <| w_d rfl (QS rfl rfl) <| wN zr26 rfl rfl fun b14 => wS (Qa y6.1 v10 v12) sz26 rfl rfl rfl rfl rfl (Xw h11 h13) .here u4 <| wA (errV 104 y6.2) rfl rfl <| wE <| wR rfl <| wM (errV 104 y6.2) rfl rfl <| w_d rfl (X1 (e := y6.2) Tryz.underlying30 rfl) ?_
 refine Qc ?_
 rcases its he with ⟨c15, he⟩ | ⟨c15, he⟩
 ·
  refine QB rfl c15 <| wR rfl <| w_d rfl (Xx (cs' := z2c) Tryz.underlying28 zr28 rfl (by kernel_rfl) (parts := []) rfl .nil) <| wM (errV 104 y6.2) rfl rfl <| wS (.agg ⟨z2c⟩) sz28 rfl rfl rfl rfl rfl (oc rfl (oc rfl (oc rfl (oc rfl (oc rfl (oc rfl (oc rfl (oc rfl oz)))))))) .h3 (.here (.here (.here (.here u4)))) <| wA (errV 104 y6.2) rfl rfl <| Qc ?_
  obtain rfl := sj he
  refine Qn fn_81 rs_81 (.box (v := .agg ⟨z2c⟩) rfl ty28 rfl rfl .h3 rfl (.tmp (v := errV 104 y6.2) rfl .nil)) <| ⟨⟨[_, _, _, _, _, _], rfl⟩, hle.trans e9, ⟨.slice none 0 0, .slice none 0 0, .slice none 0 0, .slice none 0 0, rfl, (Q2 _ _), (Q2 _ _), (Q2 _ _), (Q2 _ _)⟩⟩
 ·
  refine QI rfl (Bool.eq_false_iff.2 c15) <| QF <| QH rfl <| wM (.slice none 0 0) rfl rfl <| wL (Qa y6.1 v10 v12) ty26 rfl rfl .here rfl rfl <| w_a rfl (o_buildSlice' (kd := Xz) (css := [(Qt y6.1 v10 v12)]) (xs := [y6.1]) (parts := [(0, (Qa y6.1 v10 v12))]) Tryz.underlying81 ti26 rfl ⟨_, _, rfl, rfl, rfl⟩ ⟨(Yv (x := y6.1) h11 h13), trivial⟩ rfl (by decide)) ?_
  rintro v16 _ _ ⟨i17, rfl, rfl, h18⟩
  refine YF <| rK he fun c19 he => w_a rfl (o_append' (kd := Xz) (F := fun z_ => z_ :: i17 :: bx b14 (Qt y6.1 v10 v12) 26 :: bx b5 (Qt b.f_Low v4_b v5_b) 26 :: bx b4 (Qt a.f_Low v0_a v1_a) 26 :: bx b3 z2c 28 :: bx b2 (Q5 b v4_b v5_b v6_b v7_b) 28 :: bx b1 (Q5 a v0_a v1_a v2_a v3_a) 28 :: L) Tryz.underlying81 Tryz.underlying81 ti26 rfl (by first | omega | (simp only [List.nil_append, List.length_cons, List.length_nil]; omega)) rfl rfl (JV _ _ _) (h18.src .h1) (fun _ => .here)) ?_
  rintro v20 _ _ ⟨i21, rfl, rfl, h22⟩
  refine wA v20 rfl rfl <| Qc <| Xp <| QH rfl <| w_d rfl (XG (c := 1) rfl rfl (by decide)) <| wM (.int .i64 1) rfl rfl <| Qc <| Xy <| wR rfl <| w_d rfl (XO rfl rfl) <| Qc ?_
  refine QX <| QB rfl rfl <| QF <| QX <| Q8 <| wR rfl <| w_d rfl (Z1 (v := (Qa b.f_High v6_b v7_b)) Tryz.underlying180 ty26 rfl rfl (by decide) rfl rfl rfl rfl) <| wN zr26 rfl rfl fun b23 => wS (Qa b.f_High v6_b v7_b) sz26 rfl rfl rfl rfl rfl (Xw h6_b h7_b) .here u4 <| wE ?_
  refine QH rfl <| wM (.func (.func 85) #[] #[]) rfl rfl <| w_d rfl (Qq (v := (Qa a.f_Low v0_a v1_a)) ty26 rfl .h5 rfl rfl rfl rfl) <| wL (Qa b.f_High v6_b v7_b) ty26 rfl rfl .here rfl rfl <| bK he fun y24 hy25 he => w_a rfl (Jf rfl co85 (vs := [(Qa a.f_Low v0_a v1_a), (Qa b.f_High v6_b v7_b)]) rfl (Yo.calls k (a := a.f_Low) (b := b.f_High) hy25 (h0_a.mono e9) (h1_a.mono e9) (h6_b.mono e9) (h7_b.mono e9))) ?_
  rintro _ H26 _ ⟨rfl, e27, v28, v30, rfl, h29, h31⟩
  refine wM (.tuple ⟨[(Qa y24.1 v28 v30), errV 104 y24.2]⟩) rfl rfl <| w_d rfl (QS rfl rfl) <| w_d rfl (QS rfl rfl) <| wN zr26 rfl rfl fun b32 => wS (Qa y24.1 v28 v30) sz26 rfl rfl rfl rfl rfl (Xw h29 h31) .here u4 <| wA (errV 104 y24.2) rfl rfl <| wE <| wR rfl <| wM (errV 104 y24.2) rfl rfl <| w_d rfl (X1 (e := y24.2) Tryz.underlying30 rfl) ?_
  refine Qc ?_
  rcases its he with ⟨c33, he⟩ | ⟨c33, he⟩
  ·
   refine QB rfl c33 <| wR rfl <| w_d rfl (Xx (cs' := z2c) Tryz.underlying28 zr28 rfl (by kernel_rfl) (parts := []) rfl .nil) <| wM (errV 104 y24.2) rfl rfl <| wS (.agg ⟨z2c⟩) sz28 rfl rfl rfl rfl rfl (oc rfl (oc rfl (oc rfl (oc rfl (oc rfl (oc rfl (oc rfl (oc rfl oz)))))))) .h7 (.here (.here (.here (.here u4)))) <| wA (errV 104 y24.2) rfl rfl <| Qc ?_
   obtain rfl := sj he
   refine Qn fn_81 rs_81 (.box (v := .agg ⟨z2c⟩) rfl ty28 rfl rfl .h7 rfl (.tmp (v := errV 104 y24.2) rfl .nil)) <| ⟨⟨[_, _, _, _, _, _, _, _, _, _], rfl⟩, hle.trans (e9.trans e27), ⟨.slice none 0 0, .slice none 0 0, .slice none 0 0, .slice none 0 0, rfl, (Q2 _ _), (Q2 _ _), (Q2 _ _), (Q2 _ _)⟩⟩
  ·
   refine QI rfl (Bool.eq_false_iff.2 c33) <| QF <| QH rfl <| wM v20 rfl rfl <| wL (Qa y24.1 v28 v30) ty26 rfl rfl .here rfl rfl <| w_a rfl (o_buildSlice' (kd := Xz) (css := [(Qt y24.1 v28 v30)]) (xs := [y24.1]) (parts := [(0, (Qa y24.1 v28 v30))]) Tryz.underlying81 ti26 rfl ⟨_, _, rfl, rfl, rfl⟩ ⟨(Yv (x := y24.1) h29 h31), trivial⟩ rfl (by decide)) ?_
   rintro v34 _ _ ⟨i35, rfl, rfl, h36⟩
   refine rK he fun c37 he => w_a rfl (o_append' (kd := Xz) (F := fun z_ => i35 :: bx b32 (Qt y24.1 v28 v30) 26 :: bx b23 (Qt b.f_High v6_b v7_b) 26 :: z_ :: i17 :: bx b14 (Qt y6.1 v10 v12) 26 :: bx b5 (Qt b.f_Low v4_b v5_b) 26 :: bx b4 (Qt a.f_Low v0_a v1_a) 26 :: bx b3 z2c 28 :: bx b2 (Q5 b v4_b v5_b v6_b v7_b) 28 :: bx b1 (Q5 a v0_a v1_a v2_a v3_a) 28 :: L) Tryz.underlying81 Tryz.underlying81 ti26 rfl (by first | omega | (simp only [List.nil_append, List.length_cons, List.length_nil]; omega)) rfl rfl (h22.mono e27) (h36.src .here) (fun _ => .h3)) ?_
   rintro v38 _ _ ⟨i39, rfl, rfl, h40⟩
   refine wA v38 rfl rfl <| Qc <| Xp <| QH rfl <| w_d rfl (XG (c := 2) rfl rfl (by decide)) <| wM (.int .i64 2) rfl rfl <| Qc <| Xy <| wR rfl <| w_d rfl (XO rfl rfl) <| Qc ?_
   refine QX <| QI rfl rfl <| Ya rfl <| Xp <| QH rfl <| w_d rfl (XG (c := 1) rfl rfl (by decide)) <| wM (.int .i64 1) rfl rfl <| Qc <| Xy <| wR rfl <| w_d rfl (XO rfl rfl) ?_
   refine wE <| QB rfl rfl <| QF <| QX <| Q8 <| wR rfl <| w_d rfl (Z1 (v := (Qa a.f_High v2_a v3_a)) Tryz.underlying180 ty26 rfl rfl (by decide) rfl rfl rfl rfl) <| wN zr26 rfl rfl fun b41 => wS (Qa a.f_High v2_a v3_a) sz26 rfl rfl rfl rfl rfl (Xw h2_a h3_a) .here u4 <| Qc ?_
   refine wR rfl <| w_d rfl (QM (o' := 0) Tryz.underlying28 rfl sz26 rfl rfl rfl) <| w_d rfl (Qq (v := (Qa b.f_Low v4_b v5_b)) ty26 rfl .h10 rfl rfl rfl rfl) <| w_d rfl (QM (o' := 4) Tryz.underlying28 rfl sz26 rfl rfl rfl) <| w_d rfl (Qq (v := (Qa b.f_High v6_b v7_b)) ty26 rfl .h10 rfl rfl rfl rfl) <| w_d rfl (Jc (cs' := (Q5 b v4_b v5_b v6_b v7_b)) Tryz.underlying180 sz26 zr180 rfl (parts := [(0, (Qa b.f_Low v4_b v5_b)), (1, (Qa b.f_High v6_b v7_b))]) rfl (.cons rfl rfl rfl u4 (.cons rfl rfl rfl (.there (.there (.there (.there u4)))) .nil))) <| wM (.int .i64 0) rfl rfl <| Qc <| Q8 <| Ye <| QX ?_
   refine QH rfl <| w_d rfl (XO rfl rfl) <| wE <| QB rfl rfl <| QF <| QX <| Q8 <| wR rfl <| w_d rfl (Z1 (v := (Qa b.f_Low v4_b v5_b)) Tryz.underlying180 ty26 rfl rfl (by decide) rfl rfl rfl rfl) <| wN zr26 rfl rfl fun b42 => ?_
   refine wS (Qa b.f_Low v4_b v5_b) sz26 rfl rfl rfl rfl rfl (Xw h4_b h5_b) .here u4 <| wQ rfl <| wM (.func (.func 85) #[] #[]) rfl rfl <| wL (Qa a.f_High v2_a v3_a) ty26 rfl rfl .h1 rfl rfl <| wL (Qa b.f_Low v4_b v5_b) ty26 rfl rfl .here rfl rfl <| bK he fun y43 hy44 he => w_a rfl (Jf rfl co85 (vs := [(Qa a.f_High v2_a v3_a), (Qa b.f_Low v4_b v5_b)]) rfl (Yo.calls k (a := a.f_High) (b := b.f_Low) hy44 (h2_a.mono (e9.trans e27)) (h3_a.mono (e9.trans e27)) (h4_b.mono (e9.trans e27)) (h5_b.mono (e9.trans e27)))) ?_
   rintro _ H45 _ ⟨rfl, e46, v47, v49, rfl, h48, h50⟩
   refine wM (.tuple ⟨[(Qa y43.1 v47 v49), errV 104 y43.2]⟩) rfl rfl <| w_d rfl (QS rfl rfl) <| w_d rfl (QS rfl rfl) <| wN zr26 rfl rfl fun b51 => wS (Qa y43.1 v47 v49) sz26 rfl rfl rfl rfl rfl (Xw h48 h50) .here u4 <| wA (errV 104 y43.2) rfl rfl <| wE <| wR rfl <| wM (errV 104 y43.2) rfl rfl <| w_d rfl (X1 (e := y43.2) Tryz.underlying30 rfl) ?_
   refine Qc ?_
   rcases its he with ⟨c52, he⟩ | ⟨c52, he⟩
   ·
    refine QB rfl c52 <| wR rfl <| w_d rfl (Xx (cs' := z2c) Tryz.underlying28 zr28 rfl (by kernel_rfl) (parts := []) rfl .nil) <| wM (errV 104 y43.2) rfl rfl <| wS (.agg ⟨z2c⟩) sz28 rfl rfl rfl rfl rfl (oc rfl (oc rfl (oc rfl (oc rfl (oc rfl (oc rfl (oc rfl (oc rfl oz)))))))) .h11 (.here (.here (.here (.here u4)))) <| wA (errV 104 y43.2) rfl rfl <| Qc ?_
    obtain rfl := sj he
    refine Qn fn_81 rs_81 (.box (v := .agg ⟨z2c⟩) rfl ty28 rfl rfl .h11 rfl (.tmp (v := errV 104 y43.2) rfl .nil)) <| ⟨⟨[_, _, _, _, _, _, _, _, _, _, _, _, _, _], rfl⟩, hle.trans ((e9.trans e27).trans e46), ⟨.slice none 0 0, .slice none 0 0, .slice none 0 0, .slice none 0 0, rfl, (Q2 _ _), (Q2 _ _), (Q2 _ _), (Q2 _ _)⟩⟩
   ·
    refine QI rfl (Bool.eq_false_iff.2 c52) <| QF <| QH rfl <| wM v38 rfl rfl <| wL (Qa y43.1 v47 v49) ty26 rfl rfl .here rfl rfl <| w_a rfl (o_buildSlice' (kd := Xz) (css := [(Qt y43.1 v47 v49)]) (xs := [y43.1]) (parts := [(0, (Qa y43.1 v47 v49))]) Tryz.underlying81 ti26 rfl ⟨_, _, rfl, rfl, rfl⟩ ⟨(Yv (x := y43.1) h48 h50), trivial⟩ rfl (by decide)) ?_
    rintro v53 _ _ ⟨i54, rfl, rfl, h55⟩
    refine rK he fun c56 he => w_a rfl (o_append' (kd := Xz) (F := fun z_ => i54 :: bx b51 (Qt y43.1 v47 v49) 26 :: bx b42 (Qt b.f_Low v4_b v5_b) 26 :: bx b41 (Qt a.f_High v2_a v3_a) 26 :: i35 :: bx b32 (Qt y24.1 v28 v30) 26 :: bx b23 (Qt b.f_High v6_b v7_b) 26 :: z_ :: i17 :: bx b14 (Qt y6.1 v10 v12) 26 :: bx b5 (Qt b.f_Low v4_b v5_b) 26 :: bx b4 (Qt a.f_Low v0_a v1_a) 26 :: bx b3 z2c 28 :: bx b2 (Q5 b v4_b v5_b v6_b v7_b) 28 :: bx b1 (Q5 a v0_a v1_a v2_a v3_a) 28 :: L) Tryz.underlying81 Tryz.underlying81 ti26 rfl (by first | omega | (simp only [List.nil_append, List.length_cons, List.length_nil]; omega)) rfl rfl (h40.mono e46) (h55.src .here) (fun _ => .h7)) ?_
    rintro v57 _ _ ⟨i58, rfl, rfl, h59⟩
    refine wA v57 rfl rfl <| Qc <| Xp <| QH rfl <| w_d rfl (XG (c := 1) rfl rfl (by decide)) <| wM (.int .i64 1) rfl rfl <| Qc <| Xy <| wR rfl <| w_d rfl (XO rfl rfl) <| Qc ?_
    refine QX <| QB rfl rfl <| QF <| QX <| Q8 <| wR rfl <| w_d rfl (Z1 (v := (Qa b.f_High v6_b v7_b)) Tryz.underlying180 ty26 rfl rfl (by decide) rfl rfl rfl rfl) <| wN zr26 rfl rfl fun b60 => wS (Qa b.f_High v6_b v7_b) sz26 rfl rfl rfl rfl rfl (Xw h6_b h7_b) .here u4 <| wE ?_
    refine QH rfl <| wM (.func (.func 85) #[] #[]) rfl rfl <| wL (Qa a.f_High v2_a v3_a) ty26 rfl rfl .h4 rfl rfl <| wL (Qa b.f_High v6_b v7_b) ty26 rfl rfl .here rfl rfl <| bK he fun y61 hy62 he => w_a rfl (Jf rfl co85 (vs := [(Qa a.f_High v2_a v3_a), (Qa b.f_High v6_b v7_b)]) rfl (Yo.calls k (a := a.f_High) (b := b.f_High) hy62 (h2_a.mono ((e9.trans e27).trans e46)) (h3_a.mono ((e9.trans e27).trans e46)) (h6_b.mono ((e9.trans e27).trans e46)) (h7_b.mono ((e9.trans e27).trans e46)))) ?_
    rintro _ H63 _ ⟨rfl, e64, v65, v67, rfl, h66, h68⟩
    refine wM (.tuple ⟨[(Qa y61.1 v65 v67), errV 104 y61.2]⟩) rfl rfl <| w_d rfl (QS rfl rfl) <| w_d rfl (QS rfl rfl) <| wN zr26 rfl rfl fun b69 => wS (Qa y61.1 v65 v67) sz26 rfl rfl rfl rfl rfl (Xw h66 h68) .here u4 <| wA (errV 104 y61.2) rfl rfl <| wE <| wR rfl <| wM (errV 104 y61.2) rfl rfl <| w_d rfl (X1 (e := y61.2) Tryz.underlying30 rfl) ?_
    refine Qc ?_
    rcases its he with ⟨c70, he⟩ | ⟨c70, he⟩
    ·
     refine QB rfl c70 <| wR rfl <| w_d rfl (Xx (cs' := z2c) Tryz.underlying28 zr28 rfl (by kernel_rfl) (parts := []) rfl .nil) <| wM (errV 104 y61.2) rfl rfl <| wS (.agg ⟨z2c⟩) sz28 rfl rfl rfl rfl rfl (oc rfl (oc rfl (oc rfl (oc rfl (oc rfl (oc rfl (oc rfl (oc rfl oz)))))))) .h14 (.here (.here (.here (.here u4)))) <| wA (errV 104 y61.2) rfl rfl <| Qc ?_
     obtain rfl := sj he
     refine Qn fn_81 rs_81 (.box (v := .agg ⟨z2c⟩) rfl ty28 rfl rfl .h14 rfl (.tmp (v := errV 104 y61.2) rfl .nil)) <| ⟨⟨[_, _, _, _, _, _, _, _, _, _, _, _, _, _, _, _, _], rfl⟩, hle.trans (((e9.trans e27).trans e46).trans e64), ⟨.slice none 0 0, .slice none 0 0, .slice none 0 0, .slice none 0 0, rfl, (Q2 _ _), (Q2 _ _), (Q2 _ _), (Q2 _ _)⟩⟩
    ·
     refine QI rfl (Bool.eq_false_iff.2 c70) <| QF <| QH rfl <| wM v57 rfl rfl <| wL (Qa y61.1 v65 v67) ty26 rfl rfl .here rfl rfl <| w_a rfl (o_buildSlice' (kd := Xz) (css := [(Qt y61.1 v65 v67)]) (xs := [y61.1]) (parts := [(0, (Qa y61.1 v65 v67))]) Tryz.underlying81 ti26 rfl ⟨_, _, rfl, rfl, rfl⟩ ⟨(Yv (x := y61.1) h66 h68), trivial⟩ rfl (by decide)) ?_
     rintro v71 _ _ ⟨i72, rfl, rfl, h73⟩
     refine rK he fun c74 he => w_a rfl (o_append' (kd := Xz) (F := fun z_ => i72 :: bx b69 (Qt y61.1 v65 v67) 26 :: bx b60 (Qt b.f_High v6_b v7_b) 26 :: i54 :: bx b51 (Qt y43.1 v47 v49) 26 :: bx b42 (Qt b.f_Low v4_b v5_b) 26 :: bx b41 (Qt a.f_High v2_a v3_a) 26 :: i35 :: bx b32 (Qt y24.1 v28 v30) 26 :: bx b23 (Qt b.f_High v6_b v7_b) 26 :: z_ :: i17 :: bx b14 (Qt y6.1 v10 v12) 26 :: bx b5 (Qt b.f_Low v4_b v5_b) 26 :: bx b4 (Qt a.f_Low v0_a v1_a) 26 :: bx b3 z2c 28 :: bx b2 (Q5 b v4_b v5_b v6_b v7_b) 28 :: bx b1 (Q5 a v0_a v1_a v2_a v3_a) 28 :: L) Tryz.underlying81 Tryz.underlying81 ti26 rfl (by first | omega | (simp only [List.nil_append, List.length_cons, List.length_nil]; omega)) rfl rfl (h59.mono e64) (h73.src .here) (fun _ => .h10)) ?_
     rintro v75 _ _ ⟨i76, rfl, rfl, h77⟩
     refine wA v75 rfl rfl <| Qc <| Xp <| QH rfl <| w_d rfl (XG (c := 2) rfl rfl (by decide)) <| wM (.int .i64 2) rfl rfl <| Qc <| Xy <| wR rfl <| w_d rfl (XO rfl rfl) <| Qc ?_
     refine QX <| QI rfl rfl <| Ya rfl <| Xp <| QH rfl <| w_d rfl (XG (c := 2) rfl rfl (by decide)) <| wM (.int .i64 2) rfl rfl <| Qc <| Xy <| wR rfl <| w_d rfl (XO rfl rfl) ?_
     refine wE <| QI rfl rfl <| Ya rfl <| wR rfl <| wM v75 rfl rfl <| bK he fun y78 hy79 he => w_a rfl (Qj co82 (vs := [v75]) rfl (QC.calls k hy79 (h77.src .h10))) ?_
     rintro _ H80 _ ⟨rfl, e81, v82, v84, v86, v88, rfl, h83, h85, h87, h89⟩
     refine w_d rfl (QS rfl rfl) <| w_d rfl (QS rfl rfl) <| wS (Qg y78.1 v82 v84 v86 v88) sz28 rfl rfl rfl rfl rfl (X6 h83 h85 h87 h89) .h15 (.here (.here (.here (.here u4)))) <| wA (errV 104 y78.2) rfl rfl <| Qc ?_
     obtain rfl := sj he
     refine Qn fn_81 rs_81 (.box (v := (Qg y78.1 v82 v84 v86 v88)) rfl ty28 rfl rfl .h15 rfl (.tmp (v := errV 104 y78.2) rfl .nil)) <| ⟨⟨[_, _, _, _, _, _, _, _, _, _, _, _, _, _, _, _, _, _], rfl⟩, hle.trans ((((e9.trans e27).trans e46).trans e64).trans e81), ⟨v82, v84, v86, v88, rfl, h83, h85, h87, h89⟩⟩
noncomputable def Y1.C : Code := (Tryz.f30.body).getD .skip
def Y1.out (r : QL × (Option Int)) (H : Hp) (v : Value) : Prop := ∃ v0 v1 v2 v3, v = .tuple ⟨[(Qg r.1 v0 v1 v2 v3), errV 104 r.2]⟩ ∧ Ro kU32 H v0 r.1.f_Low.f_n.f_w ∧ Ro kU32 H v1 r.1.f_Low.f_d.f_w ∧ Ro kU32 H v2 r.1.f_High.f_n.f_w ∧ Ro kU32 H v3 r.1.f_High.f_d.f_w
noncomputable def Y1.f (k : Nat) (a b : QL) : Option (QL × (Option Int)) := (QE.f k [a, b]).bind fun y7 => if y7.isSome = true then (some (⟨⟨⟨false, []⟩, ⟨false, []⟩⟩, ⟨⟨false, []⟩, ⟨false, []⟩⟩⟩, y7)) else ((Yz.f k b.f_Low).bind fun y12 => (Yz.f k b.f_High).bind fun y22 => (Xt.f k y12.1).bind fun y32 => (gd (decide (y32 ≤ 0)) (Xt.f k y22.1) (0)).bind fun y38 => if ((decide (y32 ≤ 0)) && (decide (0 ≤ y38))) = true then (some (⟨⟨⟨false, []⟩, ⟨false, []⟩⟩, ⟨⟨false, []⟩, ⟨false, []⟩⟩⟩, some 11)) else ((Xe.f k a b).bind fun y44 => some (y44.1, y44.2)))
theorem Y1.calls (k : Nat) {H : Hp} {L : Items} {a b : QL} {v0_a v1_a v2_a v3_a v4_b v5_b v6_b v7_b : Value} {r : QL × (Option Int)} (he : Y1.f k a b = some r) (h0_a : Ro kU32 H v0_a a.f_Low.f_n.f_w) (h1_a : Ro kU32 H v1_a a.f_Low.f_d.f_w) (h2_a : Ro kU32 H v2_a a.f_High.f_n.f_w) (h3_a : Ro kU32 H v3_a a.f_High.f_d.f_w) (h4_b : Ro kU32 H v4_b b.f_Low.f_n.f_w) (h5_b : Ro kU32 H v5_b b.f_Low.f_d.f_w) (h6_b : Ro kU32 H v6_b b.f_High.f_n.f_w) (h7_b : Ro kU32 H v7_b b.f_High.f_d.f_w) : Ct Tryz.prog 30 ⟨[(Qg a v0_a v1_a v2_a v3_a), (Qg b v4_b v5_b v6_b v7_b)]⟩ H L (cR H L (Y1.out r)) := by
 refine XS (O := Y1.out r) ?_
 have hle : H.le H := .refl _
 unfold Y1.f at he
 refine QZ (args := [(Qg a v0_a v1_a v2_a v3_a), (Qg b v4_b v5_b v6_b v7_b)]) fn_30 rfl nt_30 rfl <| wR rfl <| wB (Qg a v0_a v1_a v2_a v3_a) rfl rfl rfl <| fun b1 => wB (Qg b v4_b v5_b v6_b v7_b) rfl rfl rfl <| fun b2 => wN zr28 rfl rfl fun b3 => wA (errV 104 none) rfl rfl <| wE <| wR rfl <| wL (Qg a v0_a v1_a v2_a v3_a) ty28 rfl rfl .h2 rfl rfl ?_
 refine wL (Qg b v4_b v5_b v6_b v7_b) ty28 rfl rfl .h1 rfl rfl <| w_a rfl (o_buildSlice' (kd := YP) (css := [(Q5 a v0_a v1_a v2_a v3_a), (Q5 b v4_b v5_b v6_b v7_b)]) (xs := [a, b]) (parts := [(0, (Qg a v0_a v1_a v2_a v3_a)), (1, (Qg b v4_b v5_b v6_b v7_b))]) Tryz.underlying178 ti28 rfl ⟨_, _, rfl, rfl, ⟨_, _, rfl, rfl, rfl⟩⟩ ⟨(YB (x := a) h0_a h1_a h2_a h3_a), ⟨(YB (x := b) h4_b h5_b h6_b h7_b), trivial⟩⟩ rfl (by decide)) ?_
 rintro v4 _ _ ⟨i5, rfl, rfl, h6⟩
 refine bK he fun y7 hy8 he => w_d rfl (Xi (Qj co79 (vs := [v4]) rfl (QE.calls k hy8 (h6.src .here)))) <| wA (errV 104 y7) rfl rfl <| wQ rfl <| wM (errV 104 y7) rfl rfl <| w_d rfl (X1 (e := y7) Tryz.underlying30 rfl) <| Qc ?_
 rcases its he with ⟨c11, he⟩ | ⟨c11, he⟩
 ·
  refine QB rfl c11 <| wR rfl <| w_d rfl (Xx (cs' := z2c) Tryz.underlying28 zr28 rfl (by kernel_rfl) (parts := []) rfl .nil) <| wM (errV 104 y7) rfl rfl <| wS (.agg ⟨z2c⟩) sz28 rfl rfl rfl rfl rfl (oc rfl (oc rfl (oc rfl (oc rfl (oc rfl (oc rfl (oc rfl (oc rfl oz)))))))) .h1 (.here (.here (.here (.here u4)))) <| wA (errV 104 y7) rfl rfl <| Qc ?_
  obtain rfl := sj he
  refine Qn fn_30 rs_30 (.box (v := .agg ⟨z2c⟩) rfl ty28 rfl rfl .h1 rfl (.tmp (v := errV 104 y7) rfl .nil)) <| ⟨⟨[_, _, _, _], rfl⟩, hle, ⟨.slice none 0 0, .slice none 0 0, .slice none 0 0, .slice none 0 0, rfl, (Q2 _ _), (Q2 _ _), (Q2 _ _), (Q2 _ _)⟩⟩
 ·
  refine QI rfl (Bool.eq_false_iff.2 c11) <| QF <| wR rfl <| w_d rfl (QM (o' := 0) Tryz.underlying28 rfl sz26 rfl rfl rfl) <| wL (Qa b.f_Low v4_b v5_b) ty26 rfl rfl .h2 rfl rfl <| bK he fun y12 hy13 he => w_a rfl (Qj co83 (vs := [(Qa b.f_Low v4_b v5_b)]) rfl (Yz.calls k (a := b.f_Low) hy13 h4_b h5_b)) ?_
  rintro _ H14 _ ⟨rfl, e15, v16, v18, rfl, h17, h19⟩
  refine wM (.tuple ⟨[(Qd y12.1 v16), (Qd y12.2 v18)]⟩) rfl rfl <| w_d rfl (QS rfl rfl) <| w_d rfl (QS rfl rfl) <| wN zr24 rfl rfl fun b20 => wN zr24 rfl rfl fun b21 => wS (Qd y12.1 v16) sz24 rfl rfl rfl rfl rfl (XF h17) .h1 u2 <| wS (Qd y12.2 v18) sz24 rfl rfl rfl rfl rfl (XF h19) .here u2 <| wQ rfl <| w_d rfl (QM (o' := 4) Tryz.underlying28 rfl sz26 rfl rfl rfl) <| wL (Qa b.f_High v6_b v7_b) ty26 rfl rfl .h4 rfl rfl ?_
  refine bK he fun y22 hy23 he => w_a rfl (Qj co83 (vs := [(Qa b.f_High v6_b v7_b)]) rfl (Yz.calls k (a := b.f_High) hy23 (h6_b.mono e15) (h7_b.mono e15))) ?_
  rintro _ H24 _ ⟨rfl, e25, v26, v28, rfl, h27, h29⟩
  refine wM (.tuple ⟨[(Qd y22.1 v26), (Qd y22.2 v28)]⟩) rfl rfl <| w_d rfl (QS rfl rfl) <| w_d rfl (QS rfl rfl) <| wN zr24 rfl rfl fun b30 => wN zr24 rfl rfl fun b31 => wS (Qd y22.1 v26) sz24 rfl rfl rfl rfl rfl (XF h27) .h1 u2 <| wS (Qd y22.2 v28) sz24 rfl rfl rfl rfl rfl (XF h29) .here u2 <| wE <| wR rfl <| wL (Qd y12.1 v16) ty24 rfl rfl .h3 rfl rfl ?_
  refine bK he fun y32 hy33 he => w_d rfl (Xi (Qj co84 (vs := [(Qd y12.1 v16)]) rfl (Xt.calls k (a := y12.1) hy33 (h17.mono e25)))) <| w_d rfl (Gt rfl rfl) <| wM (.bool (decide (y32 ≤ 0))) rfl rfl <| w_g (g := decide (y32 ≤ 0)) rfl rfl rfl wn_t (fun g36 => Qq (v := (Qd y22.1 v26)) ty24 rfl .h1 rfl rfl rfl rfl) <| bK he fun y38 hy39 he => w_g (g := decide (y32 ≤ 0)) rfl rfl rfl wn_t (fun g37 => Xi (Qj co84 (vs := [(Qd y22.1 v26)]) (acons (cvt g37) (anil)) (Xt.calls k (a := y22.1) (gd_t g37 hy39) h27))) <| w_g (g := decide (y32 ≤ 0)) rfl rfl rfl wn_t (fun g42 => ZU (cvt g42) rfl) <| w_d rfl (d_and' (b := (decide (y32 ≤ 0))) (p := (decide (0 ≤ y38))) rfl rfl rfl) <| Qc ?_
  rcases its he with ⟨c43, he⟩ | ⟨c43, he⟩
  ·
   refine QB rfl c43 <| wR rfl <| w_d rfl (Xx (cs' := z2c) Tryz.underlying28 zr28 rfl (by kernel_rfl) (parts := []) rfl .nil) <| w_d rfl (Zp (v := .int .i64 11) Tryz.underlying104 rfl rfl) <| wS (.agg ⟨z2c⟩) sz28 rfl rfl rfl rfl rfl (oc rfl (oc rfl (oc rfl (oc rfl (oc rfl (oc rfl (oc rfl (oc rfl oz)))))))) .h5 (.here (.here (.here (.here u4)))) <| wA (errV 104 (some 11)) rfl rfl <| Qc ?_
   obtain rfl := sj he
   refine Qn fn_30 rs_30 (.box (v := .agg ⟨z2c⟩) rfl ty28 rfl rfl .h5 rfl (.tmp (v := errV 104 (some 11)) rfl .nil)) <| ⟨⟨[_, _, _, _, _, _, _, _], rfl⟩, hle.trans (e15.trans e25), ⟨.slice none 0 0, .slice none 0 0, .slice none 0 0, .slice none 0 0, rfl, (Q2 _ _), (Q2 _ _), (Q2 _ _), (Q2 _ _)⟩⟩
  ·
   refine QI rfl (Bool.eq_false_iff.2 c43) <| QF <| wR rfl <| w_d rfl (Qq (v := (Qg a v0_a v1_a v2_a v3_a)) ty28 rfl .h7 rfl rfl rfl rfl) <| w_d rfl (Qq (v := (Qg b v4_b v5_b v6_b v7_b)) ty28 rfl .h6 rfl rfl rfl rfl) <| bK he fun y44 hy45 he => w_a rfl (Qj co81 (vs := [(Qg a v0_a v1_a v2_a v3_a), (Qg b v4_b v5_b v6_b v7_b), .func (.func 85) #[] #[]]) rfl (Xe.calls k (a := a) (b := b) hy45 (h0_a.mono (e15.trans e25)) (h1_a.mono (e15.trans e25)) (h2_a.mono (e15.trans e25)) (h3_a.mono (e15.trans e25)) (h4_b.mono (e15.trans e25)) (h5_b.mono (e15.trans e25)) (h6_b.mono (e15.trans e25)) (h7_b.mono (e15.trans e25)))) ?_
   rintro _ H46 _ ⟨rfl, e47, v48, v50, v52, v54, rfl, h49, h51, h53, h55⟩
   refine w_d rfl (QS rfl rfl) <| w_d rfl (QS rfl rfl) <| wS (Qg y44.1 v48 v50 v52 v54) sz28 rfl rfl rfl rfl rfl (X6 h49 h51 h53 h55) .h5 (.here (.here (.here (.here u4)))) <| wA (errV 104 y44.2) rfl rfl <| Qc ?_
   obtain rfl := sj he
   refine Qn fn_30 rs_30 (.box (v := (Qg y44.1 v48 v50 v52 v54)) rfl ty28 rfl rfl .h5 rfl (.tmp (v := errV 104 y44.2) rfl .nil)) <| ⟨⟨[_, _, _, _, _, _, _, _], rfl⟩, hle.trans ((e15.trans e25).trans e47), ⟨v48, v50, v52, v54, rfl, h49, h51, h53, h55⟩⟩
noncomputable def YV.C : Code := (Tryz.f27.body).getD .skip
def YV.out (r : QL × (Option Int)) (H : Hp) (v : Value) : Prop := ∃ v0 v1 v2 v3, v = .tuple ⟨[(Qg r.1 v0 v1 v2 v3), errV 104 r.2]⟩ ∧ Ro kU32 H v0 r.1.f_Low.f_n.f_w ∧ Ro kU32 H v1 r.1.f_Low.f_d.f_w ∧ Ro kU32 H v2 r.1.f_High.f_n.f_w ∧ Ro kU32 H v3 r.1.f_High.f_d.f_w
noncomputable def YV.f (k : Nat) (a b : QL) : Option (QL × (Option Int)) := (QE.f k [a, b]).bind fun y7 => if y7.isSome = true then (some (⟨⟨⟨false, []⟩, ⟨false, []⟩⟩, ⟨⟨false, []⟩, ⟨false, []⟩⟩⟩, y7)) else ((QC.f k [a.f_Low, a.f_High, b.f_Low, b.f_High]).bind fun y15 => some (y15.1, y15.2))
theorem YV.calls (k : Nat) {H : Hp} {L : Items} {a b : QL} {v0_a v1_a v2_a v3_a v4_b v5_b v6_b v7_b : Value} {r : QL × (Option Int)} (he : YV.f k a b = some r) (h0_a : Ro kU32 H v0_a a.f_Low.f_n.f_w) (h1_a : Ro kU32 H v1_a a.f_Low.f_d.f_w) (h2_a : Ro kU32 H v2_a a.f_High.f_n.f_w) (h3_a : Ro kU32 H v3_a a.f_High.f_d.f_w) (h4_b : Ro kU32 H v4_b b.f_Low.f_n.f_w) (h5_b : Ro kU32 H v5_b b.f_Low.f_d.f_w) (h6_b : Ro kU32 H v6_b b.f_High.f_n.f_w) (h7_b : Ro kU32 H v7_b b.f_High.f_d.f_w) : Ct Tryz.prog 27 ⟨[(Qg a v0_a v1_a v2_a v3_a), (Qg b v4_b v5_b v6_b v7_b)]⟩ H L (cR H L (YV.out r)) := by
 refine XS (O := YV.out r) ?_
 have hle : H.le H := .refl _
 unfold YV.f at he
 refine QZ (args := [(Qg a v0_a v1_a v2_a v3_a), (Qg b v4_b v5_b v6_b v7_b)]) fn_27 rfl nt_27 rfl <| wR rfl <| wB (Qg a v0_a v1_a v2_a v3_a) rfl rfl rfl <| fun b1 => wB (Qg b v4_b v5_b v6_b v7_b) rfl rfl rfl <| fun b2 => wN zr28 rfl rfl fun b3 => wA (errV 104 none) rfl rfl <| wE <| wR rfl <| wL (Qg a v0_a v1_a v2_a v3_a) ty28 rfl rfl .h2 rfl rfl ?_
 refine wL (Qg b v4_b v5_b v6_b v7_b) ty28 rfl rfl .h1 rfl rfl <| w_a rfl (o_buildSlice' (kd := YP) (css := [(Q5 a v0_a v1_a v2_a v3_a), (Q5 b v4_b v5_b v6_b v7_b)]) (xs := [a, b]) (parts := [(0, (Qg a v0_a v1_a v2_a v3_a)), (1, (Qg b v4_b v5_b v6_b v7_b))]) Tryz.underlying178 ti28 rfl ⟨_, _, rfl, rfl, ⟨_, _, rfl, rfl, rfl⟩⟩ ⟨(YB (x := a) h0_a h1_a h2_a h3_a), ⟨(YB (x := b) h4_b h5_b h6_b h7_b), trivial⟩⟩ rfl (by decide)) ?_
 rintro v4 _ _ ⟨i5, rfl, rfl, h6⟩
 refine bK he fun y7 hy8 he => w_d rfl (Xi (Qj co79 (vs := [v4]) rfl (QE.calls k hy8 (h6.src .here)))) <| wA (errV 104 y7) rfl rfl <| wQ rfl <| wM (errV 104 y7) rfl rfl <| w_d rfl (X1 (e := y7) Tryz.underlying30 rfl) <| Qc ?_
 rcases its he with ⟨c11, he⟩ | ⟨c11, he⟩
 ·
  refine QB rfl c11 <| wR rfl <| w_d rfl (Xx (cs' := z2c) Tryz.underlying28 zr28 rfl (by kernel_rfl) (parts := []) rfl .nil) <| wM (errV 104 y7) rfl rfl <| wS (.agg ⟨z2c⟩) sz28 rfl rfl rfl rfl rfl (oc rfl (oc rfl (oc rfl (oc rfl (oc rfl (oc rfl (oc rfl (oc rfl oz)))))))) .h1 (.here (.here (.here (.here u4)))) <| wA (errV 104 y7) rfl rfl <| Qc ?_
  obtain rfl := sj he
  refine Qn fn_27 rs_27 (.box (v := .agg ⟨z2c⟩) rfl ty28 rfl rfl .h1 rfl (.tmp (v := errV 104 y7) rfl .nil)) <| ⟨⟨[_, _, _, _], rfl⟩, hle, ⟨.slice none 0 0, .slice none 0 0, .slice none 0 0, .slice none 0 0, rfl, (Q2 _ _), (Q2 _ _), (Q2 _ _), (Q2 _ _)⟩⟩
 ·
  refine QI rfl (Bool.eq_false_iff.2 c11) <| QF <| wR rfl <| w_d rfl (QM (o' := 0) Tryz.underlying28 rfl sz26 rfl rfl rfl) <| wL (Qa a.f_Low v0_a v1_a) ty26 rfl rfl .h3 rfl rfl <| w_d rfl (QM (o' := 4) Tryz.underlying28 rfl sz26 rfl rfl rfl) <| wL (Qa a.f_High v2_a v3_a) ty26 rfl rfl .h3 rfl rfl <| w_d rfl (QM (o' := 0) Tryz.underlying28 rfl sz26 rfl rfl rfl) <| wL (Qa b.f_Low v4_b v5_b) ty26 rfl rfl .h2 rfl rfl <| w_d rfl (QM (o' := 4) Tryz.underlying28 rfl sz26 rfl rfl rfl) <| wL (Qa b.f_High v6_b v7_b) ty26 rfl rfl .h2 rfl rfl ?_
  refine w_a rfl (o_buildSlice' (kd := Xz) (css := [(Qt a.f_Low v0_a v1_a), (Qt a.f_High v2_a v3_a), (Qt b.f_Low v4_b v5_b), (Qt b.f_High v6_b v7_b)]) (xs := [a.f_Low, a.f_High, b.f_Low, b.f_High]) (parts := [(0, (Qa a.f_Low v0_a v1_a)), (1, (Qa a.f_High v2_a v3_a)), (2, (Qa b.f_Low v4_b v5_b)), (3, (Qa b.f_High v6_b v7_b))]) Tryz.underlying81 ti26 rfl ⟨_, _, rfl, rfl, ⟨_, _, rfl, rfl, ⟨_, _, rfl, rfl, ⟨_, _, rfl, rfl, rfl⟩⟩⟩⟩ ⟨(Yv (x := a.f_Low) h0_a h1_a), ⟨(Yv (x := a.f_High) h2_a h3_a), ⟨(Yv (x := b.f_Low) h4_b h5_b), ⟨(Yv (x := b.f_High) h6_b h7_b), trivial⟩⟩⟩⟩ rfl (by decide)) ?_
  rintro v12 _ _ ⟨i13, rfl, rfl, h14⟩
  refine bK he fun y15 hy16 he => w_a rfl (Qj co82 (vs := [v12]) rfl (QC.calls k hy16 (h14.src .here))) ?_
  rintro _ H17 _ ⟨rfl, e18, v19, v21, v23, v25, rfl, h20, h22, h24, h26⟩
  refine w_d rfl (QS rfl rfl) <| w_d rfl (QS rfl rfl) <| wS (Qg y15.1 v19 v21 v23 v25) sz28 rfl rfl rfl rfl rfl (X6 h20 h22 h24 h26) .h2 (.here (.here (.here (.here u4)))) <| wA (errV 104 y15.2) rfl rfl <| Qc ?_
  obtain rfl := sj he
  refine Qn fn_27 rs_27 (.box (v := (Qg y15.1 v19 v21 v23 v25)) rfl ty28 rfl rfl .h2 rfl (.tmp (v := errV 104 y15.2) rfl .nil)) <| ⟨⟨[_, _, _, _, _], rfl⟩, hle.trans e18, ⟨v19, v21, v23, v25, rfl, h20, h22, h24, h26⟩⟩
noncomputable def YR.C : Code := (Tryz.f28.body).getD .skip
def YR.out (r : Bool × (Option Int)) (H : Hp) (v : Value) : Prop := v = .tuple ⟨[.bool r.1, errV 104 r.2]⟩
noncomputable def YR.f (k : Nat) (a b : QL) : Option (Bool × (Option Int)) := (QE.f k [a, b]).bind fun y6 => if y6.isSome = true then (some (false, y6)) else ((XW.f k a.f_Low b.f_Low).bind fun y11 => (XW.f k a.f_High b.f_High).bind fun y15 => if (y11.2.isSome || y15.2.isSome) = true then (some (false, some 12)) else (some ((decide (0 ≤ y11.1)) && (decide (y15.1 ≤ 0)), none)))
theorem YR.calls (k : Nat) {H : Hp} {L : Items} {a b : QL} {v0_a v1_a v2_a v3_a v4_b v5_b v6_b v7_b : Value} {r : Bool × (Option Int)} (he : YR.f k a b = some r) (h0_a : Ro kU32 H v0_a a.f_Low.f_n.f_w) (h1_a : Ro kU32 H v1_a a.f_Low.f_d.f_w) (h2_a : Ro kU32 H v2_a a.f_High.f_n.f_w) (h3_a : Ro kU32 H v3_a a.f_High.f_d.f_w) (h4_b : Ro kU32 H v4_b b.f_Low.f_n.f_w) (h5_b : Ro kU32 H v5_b b.f_Low.f_d.f_w) (h6_b : Ro kU32 H v6_b b.f_High.f_n.f_w) (h7_b : Ro kU32 H v7_b b.f_High.f_d.f_w) : Ct Tryz.prog 28 ⟨[(Qg a v0_a v1_a v2_a v3_a), (Qg b v4_b v5_b v6_b v7_b)]⟩ H L (fun v H' L' => L = L' ∧ H = H' ∧ v = .tuple ⟨[.bool r.1, errV 104 r.2]⟩) := by
 refine Yr (O := YR.out r) (fun _ _ h => h) ?_
 have hle : H.le H := .refl _
 unfold YR.f at he
 refine QZ (args := [(Qg a v0_a v1_a v2_a v3_a), (Qg b v4_b v5_b v6_b v7_b)]) fn_28 rfl nt_28 rfl <| wR rfl <| wB (Qg a v0_a v1_a v2_a v3_a) rfl rfl rfl <| fun b1 => wB (Qg b v4_b v5_b v6_b v7_b) rfl rfl rfl <| fun b2 => wA (.bool false) rfl rfl <| wA (errV 104 none) rfl rfl <| wE <| wR rfl <| wL (Qg a v0_a v1_a v2_a v3_a) ty28 rfl rfl .h1 rfl rfl ?_
 refine wL (Qg b v4_b v5_b v6_b v7_b) ty28 rfl rfl .here rfl rfl <| w_a rfl (o_buildSlice' (kd := YP) (css := [(Q5 a v0_a v1_a v2_a v3_a), (Q5 b v4_b v5_b v6_b v7_b)]) (xs := [a, b]) (parts := [(0, (Qg a v0_a v1_a v2_a v3_a)), (1, (Qg b v4_b v5_b v6_b v7_b))]) Tryz.underlying178 ti28 rfl ⟨_, _, rfl, rfl, ⟨_, _, rfl, rfl, rfl⟩⟩ ⟨(YB (x := a) h0_a h1_a h2_a h3_a), ⟨(YB (x := b) h4_b h5_b h6_b h7_b), trivial⟩⟩ rfl (by decide)) ?_
 rintro v3 _ _ ⟨i4, rfl, rfl, h5⟩
 refine bK he fun y6 hy7 he => w_d rfl (Xi (Qj co79 (vs := [v3]) rfl (QE.calls k hy7 (h5.src .here)))) <| wA (errV 104 y6) rfl rfl <| wQ rfl <| wM (errV 104 y6) rfl rfl <| w_d rfl (X1 (e := y6) Tryz.underlying30 rfl) <| Qc ?_
 rcases its he with ⟨c10, he⟩ | ⟨c10, he⟩
 ·
  refine QB rfl c10 <| wR rfl <| wM (errV 104 y6) rfl rfl <| wA (.bool false) rfl rfl <| wA (errV 104 y6) rfl rfl <| Qc ?_
  obtain rfl := sj he
  refine Qn fn_28 rs_28 (.tmp (v := .bool false) rfl (.tmp (v := errV 104 y6) rfl .nil)) <| ⟨⟨[_, _, _], rfl⟩, hle, rfl⟩
 ·
  refine QI rfl (Bool.eq_false_iff.2 c10) <| QF <| wR rfl <| w_d rfl (QM (o' := 0) Tryz.underlying28 rfl sz26 rfl rfl rfl) <| wL (Qa a.f_Low v0_a v1_a) ty26 rfl rfl .h2 rfl rfl <| w_d rfl (QM (o' := 0) Tryz.underlying28 rfl sz26 rfl rfl rfl) <| wL (Qa b.f_Low v4_b v5_b) ty26 rfl rfl .h1 rfl rfl <| bK he fun y11 hy12 he => w_d rfl (Xi (Qj co56 (vs := [(Qa a.f_Low v0_a v1_a), (Qa b.f_Low v4_b v5_b)]) rfl (XW.calls k (a := a.f_Low) (b := b.f_Low) hy12 h0_a h1_a h4_b h5_b))) <| wM (.tuple ⟨[.int .i64 y11.1, errV 104 y11.2]⟩) rfl rfl <| w_d rfl (QS rfl rfl) ?_
  refine w_d rfl (QS rfl rfl) <| wA (.int .i64 y11.1) rfl rfl <| wA (errV 104 y11.2) rfl rfl <| wQ rfl <| w_d rfl (QM (o' := 4) Tryz.underlying28 rfl sz26 rfl rfl rfl) <| wL (Qa a.f_High v2_a v3_a) ty26 rfl rfl .h2 rfl rfl <| w_d rfl (QM (o' := 4) Tryz.underlying28 rfl sz26 rfl rfl rfl) <| wL (Qa b.f_High v6_b v7_b) ty26 rfl rfl .h1 rfl rfl <| bK he fun y15 hy16 he => w_d rfl (Xi (Qj co56 (vs := [(Qa a.f_High v2_a v3_a), (Qa b.f_High v6_b v7_b)]) rfl (XW.calls k (a := a.f_High) (b := b.f_High) hy16 h2_a h3_a h6_b h7_b))) ?_
  refine wM (.tuple ⟨[.int .i64 y15.1, errV 104 y15.2]⟩) rfl rfl <| w_d rfl (QS rfl rfl) <| w_d rfl (QS rfl rfl) <| wA (.int .i64 y15.1) rfl rfl <| wA (errV 104 y15.2) rfl rfl <| wE <| wR rfl <| wM (errV 104 y11.2) rfl rfl <| w_d rfl (X1 (e := y11.2) Tryz.underlying30 rfl) <| wM (.bool y11.2.isSome) rfl rfl ?_
  refine w_g (g := !y11.2.isSome) rfl rfl rfl wn_f (fun g19 => QR (v := errV 104 y15.2) rfl) <| w_g (g := !y11.2.isSome) rfl rfl rfl wn_f (fun g20 => X1 (e := y15.2) Tryz.underlying30 (cvt g20)) <| w_d rfl (d_or' (b := y11.2.isSome) (p := y15.2.isSome) rfl rfl rfl) <| Qc ?_
  rcases its he with ⟨c21, he⟩ | ⟨c21, he⟩
  ·
   refine QB rfl c21 <| wR rfl <| w_d rfl (Zp (v := .int .i64 12) Tryz.underlying104 rfl rfl) <| wA (.bool false) rfl rfl <| wA (errV 104 (some 12)) rfl rfl <| Qc ?_
   obtain rfl := sj he
   refine Qn fn_28 rs_28 (.tmp (v := .bool false) rfl (.tmp (v := errV 104 (some 12)) rfl .nil)) <| ⟨⟨[_, _, _], rfl⟩, hle, rfl⟩
  ·
   refine QI rfl (Bool.eq_false_iff.2 c21) <| QF <| wR rfl <| wM (.int .i64 y11.1) rfl rfl <| w_d rfl (ZU rfl rfl) <| wM (.bool (decide (0 ≤ y11.1))) rfl rfl <| w_g (g := decide (0 ≤ y11.1)) rfl rfl rfl wn_t (fun g22 => QR (v := .int .i64 y15.1) rfl) <| w_g (g := decide (0 ≤ y11.1)) rfl rfl rfl wn_t (fun g23 => Gt (cvt g23) rfl) <| w_d rfl (d_and' (b := (decide (0 ≤ y11.1))) (p := (decide (y15.1 ≤ 0))) rfl rfl rfl) <| wA (.bool ((decide (0 ≤ y11.1)) && (decide (y15.1 ≤ 0)))) rfl rfl <| wA (errV 104 none) rfl rfl ?_
   refine Qc ?_
   obtain rfl := sj he
   refine Qn fn_28 rs_28 (.tmp (v := .bool ((decide (0 ≤ y11.1)) && (decide (y15.1 ≤ 0)))) rfl (.tmp (v := errV 104 none) rfl .nil)) <| ⟨⟨[_, _, _], rfl⟩, hle, rfl⟩
end Go.Proofs.YtkccpkccdbfomaaGreatDoor.GSS

/- printed by gen.py -/
import Derived.Test.YtkccpkccdbfomaaGreatDoorGBPx5
namespace Go.Proofs.YtkccpkccdbfomaaGreatDoor.GBP
open Go Go.RowKit Go.Proofs.YtkccpkccdbfomaaGreatDoorK Go.Proofs.YtkccpkccdbfomaaGreatDoor
set_option maxRecDepth 100000
set_option maxHeartbeats 2000000
set_option linter.unusedVariables false
set_option linter.unusedSimpArgs false
noncomputable def YF.C : Code := (Tryz.f41.body).getD .skip
def YF.out (r : Qf × (Option Int)) (H : Hp) (v : Value) : Prop := ∃ v0 v1, v = .tuple ⟨[(Qc r.1 v0 v1), errV 104 r.2]⟩ ∧ Ro kU32 H v0 r.1.f_n.f_w ∧ Ro kU32 H v1 r.1.f_d.f_w
theorem YF.out_mono (r : Qf × (Option Int)) {H H' : Hp} {v : Value} (hle : H.le H') (h : YF.out r H v) : YF.out r H' v := by
 obtain ⟨v0, v1, rfl, h0, h1⟩ := h; exact ⟨v0, v1, rfl, h0.mono hle, h1.mono hle⟩
noncomputable def YF.f (k : Nat) (m : X9) (off : Qf) : Option (Qf × (Option Int)) := (QZ.f k m).bind fun y4 => if y4.2.isSome = true then (some (⟨⟨false, []⟩, ⟨false, []⟩⟩, y4.2)) else ((Yh.f k off).bind fun y14 => if y14 = true then (some (⟨⟨false, []⟩, ⟨false, []⟩⟩, some 1)) else ((Yg.f k 1 21).bind fun y19 => if y19.2.isSome = true then (some (⟨⟨false, []⟩, ⟨false, []⟩⟩, y19.2)) else ((Yw.f k off y4.1 y19.1).bind fun y29 => some (y29.1, y29.2))))
theorem YF.calls (k : Nat) {H : Hp} {L : Items} {m : X9} {off : Qf} {v0_off v1_off : Value} {r : Qf × (Option Int)} (he : YF.f k m off = some r) (h0_off : Ro kU32 H v0_off off.f_n.f_w) (h1_off : Ro kU32 H v1_off off.f_d.f_w) : Ct Tryz.prog 41 ⟨[.agg ⟨(.int .i64 m.f_Rows :: .int .i64 m.f_Cols :: .int .i64 m.f_A.e0 :: .int .i64 m.f_A.e1 :: .int .i64 m.f_A.e2 :: .int .i64 m.f_A.e3 :: .int .i64 m.f_A.e4 :: .int .i64 m.f_A.e5 :: .int .i64 m.f_A.e6 :: .int .i64 m.f_A.e7 :: .int .i64 m.f_A.e8 :: .int .i64 m.f_A.e9 :: .int .i64 m.f_A.e10 :: .int .i64 m.f_A.e11 :: .int .i64 m.f_A.e12 :: .int .i64 m.f_A.e13 :: .int .i64 m.f_A.e14 :: .int .i64 m.f_A.e15 :: .int .i64 m.f_A.e16 :: .int .i64 m.f_A.e17 :: .int .i64 m.f_A.e18 :: .int .i64 m.f_A.e19 :: .int .i64 m.f_A.e20 :: .int .i64 m.f_A.e21 :: .int .i64 m.f_A.e22 :: .int .i64 m.f_A.e23 :: .int .i64 m.f_A.e24 :: .int .i64 m.f_A.e25 :: .int .i64 m.f_A.e26 :: .int .i64 m.f_A.e27 :: .int .i64 m.f_A.e28 :: .int .i64 m.f_A.e29 :: .int .i64 m.f_A.e30 :: .int .i64 m.f_A.e31 :: .int .i64 m.f_A.e32 :: .int .i64 m.f_A.e33 :: .int .i64 m.f_A.e34 :: .int .i64 m.f_A.e35 :: [])⟩, (Qc off v0_off v1_off)]⟩ H L (cR H L (YF.out r)) := by
 refine XN (O := YF.out r) ?_
 have hle : H.le H := .refl _
 unfold YF.f at he
 refine QV (args := [_, _]) fn_41 rfl nt_41 rfl <| wR rfl <| wB (.agg ⟨(.int .i64 m.f_Rows :: .int .i64 m.f_Cols :: .int .i64 m.f_A.e0 :: .int .i64 m.f_A.e1 :: .int .i64 m.f_A.e2 :: .int .i64 m.f_A.e3 :: .int .i64 m.f_A.e4 :: .int .i64 m.f_A.e5 :: .int .i64 m.f_A.e6 :: .int .i64 m.f_A.e7 :: .int .i64 m.f_A.e8 :: .int .i64 m.f_A.e9 :: .int .i64 m.f_A.e10 :: .int .i64 m.f_A.e11 :: .int .i64 m.f_A.e12 :: .int .i64 m.f_A.e13 :: .int .i64 m.f_A.e14 :: .int .i64 m.f_A.e15 :: .int .i64 m.f_A.e16 :: .int .i64 m.f_A.e17 :: .int .i64 m.f_A.e18 :: .int .i64 m.f_A.e19 :: .int .i64 m.f_A.e20 :: .int .i64 m.f_A.e21 :: .int .i64 m.f_A.e22 :: .int .i64 m.f_A.e23 :: .int .i64 m.f_A.e24 :: .int .i64 m.f_A.e25 :: .int .i64 m.f_A.e26 :: .int .i64 m.f_A.e27 :: .int .i64 m.f_A.e28 :: .int .i64 m.f_A.e29 :: .int .i64 m.f_A.e30 :: .int .i64 m.f_A.e31 :: .int .i64 m.f_A.e32 :: .int .i64 m.f_A.e33 :: .int .i64 m.f_A.e34 :: .int .i64 m.f_A.e35 :: [])⟩) rfl rfl rfl <| fun b1 => wB (Qc off v0_off v1_off) rfl rfl rfl <| fun b2 => wN zr26 rfl rfl fun b3 => wA (errV 104 none) rfl rfl <| wQ rfl <| wL (.agg ⟨(.int .i64 m.f_Rows :: .int .i64 m.f_Cols :: .int .i64 m.f_A.e0 :: .int .i64 m.f_A.e1 :: .int .i64 m.f_A.e2 :: .int .i64 m.f_A.e3 :: .int .i64 m.f_A.e4 :: .int .i64 m.f_A.e5 :: .int .i64 m.f_A.e6 :: .int .i64 m.f_A.e7 :: .int .i64 m.f_A.e8 :: .int .i64 m.f_A.e9 :: .int .i64 m.f_A.e10 :: .int .i64 m.f_A.e11 :: .int .i64 m.f_A.e12 :: .int .i64 m.f_A.e13 :: .int .i64 m.f_A.e14 :: .int .i64 m.f_A.e15 :: .int .i64 m.f_A.e16 :: .int .i64 m.f_A.e17 :: .int .i64 m.f_A.e18 :: .int .i64 m.f_A.e19 :: .int .i64 m.f_A.e20 :: .int .i64 m.f_A.e21 :: .int .i64 m.f_A.e22 :: .int .i64 m.f_A.e23 :: .int .i64 m.f_A.e24 :: .int .i64 m.f_A.e25 :: .int .i64 m.f_A.e26 :: .int .i64 m.f_A.e27 :: .int .i64 m.f_A.e28 :: .int .i64 m.f_A.e29 :: .int .i64 m.f_A.e30 :: .int .i64 m.f_A.e31 :: .int .i64 m.f_A.e32 :: .int .i64 m.f_A.e33 :: .int .i64 m.f_A.e34 :: .int .i64 m.f_A.e35 :: [])⟩) ty75 rfl rfl .h2 rfl rfl <| bK he fun y4 hy5 he => ?_
 refine w_a rfl (Qm co40 (vs := [.agg ⟨(.int .i64 m.f_Rows :: .int .i64 m.f_Cols :: .int .i64 m.f_A.e0 :: .int .i64 m.f_A.e1 :: .int .i64 m.f_A.e2 :: .int .i64 m.f_A.e3 :: .int .i64 m.f_A.e4 :: .int .i64 m.f_A.e5 :: .int .i64 m.f_A.e6 :: .int .i64 m.f_A.e7 :: .int .i64 m.f_A.e8 :: .int .i64 m.f_A.e9 :: .int .i64 m.f_A.e10 :: .int .i64 m.f_A.e11 :: .int .i64 m.f_A.e12 :: .int .i64 m.f_A.e13 :: .int .i64 m.f_A.e14 :: .int .i64 m.f_A.e15 :: .int .i64 m.f_A.e16 :: .int .i64 m.f_A.e17 :: .int .i64 m.f_A.e18 :: .int .i64 m.f_A.e19 :: .int .i64 m.f_A.e20 :: .int .i64 m.f_A.e21 :: .int .i64 m.f_A.e22 :: .int .i64 m.f_A.e23 :: .int .i64 m.f_A.e24 :: .int .i64 m.f_A.e25 :: .int .i64 m.f_A.e26 :: .int .i64 m.f_A.e27 :: .int .i64 m.f_A.e28 :: .int .i64 m.f_A.e29 :: .int .i64 m.f_A.e30 :: .int .i64 m.f_A.e31 :: .int .i64 m.f_A.e32 :: .int .i64 m.f_A.e33 :: .int .i64 m.f_A.e34 :: .int .i64 m.f_A.e35 :: [])⟩]) rfl (QZ.calls k (m := m) hy5)) ?_
 rintro _ H6 _ ⟨rfl, e7, v8, v10, rfl, h9, h11⟩
 refine wM (.tuple ⟨[(Qc y4.1 v8 v10), errV 104 y4.2]⟩) rfl rfl <| w_d rfl (Q5 rfl rfl) <| w_d rfl (Q5 rfl rfl) <| wN zr26 rfl rfl fun b12 => wS (Qc y4.1 v8 v10) sz26 rfl rfl rfl rfl rfl (XP h9 h11) .here u4 <| wA (errV 104 y4.2) rfl rfl <| wE <| wR rfl <| wM (errV 104 y4.2) rfl rfl <| w_d rfl (Yj (e := y4.2) Tryz.underlying30 rfl) ?_
 refine Qb ?_
 rcases its he with ⟨c13, he⟩ | ⟨c13, he⟩
 ·
  refine QD rfl c13 <| wR rfl <| w_d rfl (XE (cs' := z0c) Tryz.underlying26 zr26 rfl (by kernel_rfl) (parts := []) rfl .nil) <| wM (errV 104 y4.2) rfl rfl <| wS (.agg ⟨z0c⟩) sz26 rfl rfl rfl rfl rfl (oc rfl (oc rfl (oc rfl (oc rfl oz)))) .h1 u4 <| wA (errV 104 y4.2) rfl rfl <| Qb ?_
  obtain rfl := sj he
  refine Ql fn_41 rs_41 (.box (v := .agg ⟨z0c⟩) rfl ty26 rfl rfl .h1 rfl (.tmp (v := errV 104 y4.2) rfl .nil)) <| ⟨⟨[_, _, _, _], rfl⟩, hle.trans e7, ⟨.slice none 0 0, .slice none 0 0, rfl, (Xj _ _), (Xj _ _)⟩⟩
 ·
  refine QE rfl (Bool.eq_false_iff.2 c13) <| QF <| QX <| wR rfl <| wL (Qc off v0_off v1_off) ty26 rfl rfl .h2 rfl rfl <| bK he fun y14 hy15 he => w_d rfl (Xx (Qm co95 (vs := [(Qc off v0_off v1_off)]) rfl (Yh.calls k (a := off) hy15 (h0_off.mono e7) (h1_off.mono e7)))) <| Qb ?_
  rcases its he with ⟨c18, he⟩ | ⟨c18, he⟩
  ·
   refine QD rfl c18 <| wR rfl <| w_d rfl (XE (cs' := z0c) Tryz.underlying26 zr26 rfl (by kernel_rfl) (parts := []) rfl .nil) <| w_d rfl (Zf (v := .int .i64 1) Tryz.underlying104 rfl rfl) <| wS (.agg ⟨z0c⟩) sz26 rfl rfl rfl rfl rfl (oc rfl (oc rfl (oc rfl (oc rfl oz)))) .h1 u4 <| wA (errV 104 (some 1)) rfl rfl <| Qb ?_
   obtain rfl := sj he
   refine Ql fn_41 rs_41 (.box (v := .agg ⟨z0c⟩) rfl ty26 rfl rfl .h1 rfl (.tmp (v := errV 104 (some 1)) rfl .nil)) <| ⟨⟨[_, _, _, _], rfl⟩, hle.trans e7, ⟨.slice none 0 0, .slice none 0 0, rfl, (Xj _ _), (Xj _ _)⟩⟩
  ·
   refine QE rfl (Bool.eq_false_iff.2 c18) <| QF <| wR rfl <| bK he fun y19 hy20 he => w_a rfl (Qm co18 (vs := [.int .i64 1, .int .i64 21]) rfl (Yg.calls k hy20)) ?_
   rintro _ H21 _ ⟨rfl, e22, v23, v25, rfl, h24, h26⟩
   refine wM (.tuple ⟨[(Qc y19.1 v23 v25), errV 104 y19.2]⟩) rfl rfl <| w_d rfl (Q5 rfl rfl) <| w_d rfl (Q5 rfl rfl) <| wN zr26 rfl rfl fun b27 => wS (Qc y19.1 v23 v25) sz26 rfl rfl rfl rfl rfl (XP h24 h26) .here u4 <| wA (errV 104 y19.2) rfl rfl <| wE <| wR rfl <| wM (errV 104 y19.2) rfl rfl <| w_d rfl (Yj (e := y19.2) Tryz.underlying30 rfl) ?_
   refine Qb ?_
   rcases its he with ⟨c28, he⟩ | ⟨c28, he⟩
   ·
    refine QD rfl c28 <| wR rfl <| w_d rfl (XE (cs' := z0c) Tryz.underlying26 zr26 rfl (by kernel_rfl) (parts := []) rfl .nil) <| wM (errV 104 y19.2) rfl rfl <| wS (.agg ⟨z0c⟩) sz26 rfl rfl rfl rfl rfl (oc rfl (oc rfl (oc rfl (oc rfl oz)))) .h2 u4 <| wA (errV 104 y19.2) rfl rfl <| Qb ?_
    obtain rfl := sj he
    refine Ql fn_41 rs_41 (.box (v := .agg ⟨z0c⟩) rfl ty26 rfl rfl .h2 rfl (.tmp (v := errV 104 y19.2) rfl .nil)) <| ⟨⟨[_, _, _, _, _], rfl⟩, hle.trans (e7.trans e22), ⟨.slice none 0 0, .slice none 0 0, rfl, (Xj _ _), (Xj _ _)⟩⟩
   ·
    refine QE rfl (Bool.eq_false_iff.2 c28) <| QF <| wR rfl <| wL (Qc off v0_off v1_off) ty26 rfl rfl .h3 rfl rfl <| wL (Qc y4.1 v8 v10) ty26 rfl rfl .h1 rfl rfl <| wL (Qc y19.1 v23 v25) ty26 rfl rfl .here rfl rfl <| bK he fun y29 hy30 he => w_a rfl (Qm co96 (vs := [(Qc off v0_off v1_off), (Qc y4.1 v8 v10), (Qc y19.1 v23 v25)]) rfl (Yw.calls k (a := off) (times := y4.1) (more := y19.1) hy30 (h0_off.mono (e7.trans e22)) (h1_off.mono (e7.trans e22)) (h9.mono e22) (h11.mono e22) h24 h26)) ?_
    rintro _ H31 _ ⟨rfl, e32, v33, v35, rfl, h34, h36⟩
    refine w_d rfl (Q5 rfl rfl) <| w_d rfl (Q5 rfl rfl) <| wS (Qc y29.1 v33 v35) sz26 rfl rfl rfl rfl rfl (XP h34 h36) .h2 u4 <| wA (errV 104 y29.2) rfl rfl <| Qb ?_
    obtain rfl := sj he
    refine Ql fn_41 rs_41 (.box (v := (Qc y29.1 v33 v35)) rfl ty26 rfl rfl .h2 rfl (.tmp (v := errV 104 y29.2) rfl .nil)) <| ⟨⟨[_, _, _, _, _], rfl⟩, hle.trans ((e7.trans e22).trans e32), ⟨v33, v35, rfl, h34, h36⟩⟩
noncomputable def QP.C : Code := (Tryz.f46.body).getD .skip
abbrev QP.out (r : (List Qh)) (H : Hp) (v : Value) : Prop := Ro Xk H v r
abbrev QP.R (H0 : Hp) (L : Items) (r : (List Qh)) := fR H0 L (QP.out r)
structure QP.Hs where
 l0 : (List Int) → (List Qh) → Int → Option (List Qh)
noncomputable def QP.b0 (k : Nat) (h : QP.Hs) (l : List Int) (out : List Qh) (i : Int) : Option (List Qh) := if i < (l.length : Int) then (if (0 : Int) ≤ i ∧ i < (l.length : Int) then ((XJ.f k (rd l i)).bind fun y3 => if out.length + 1 ≤ 2199023255424 then (h.l0 l (out ++ [y3]) (w64 (i + 1))) else none) else none) else (some (out))
noncomputable def QP.hs : Nat → QP.Hs
 | 0 => ⟨fun _ _ _ => none⟩
 | k + 1 => ⟨fun x0 x1 x2 => QP.b0 k (QP.hs k) x0 x1 x2⟩
noncomputable def QP.f (k : Nat) (l : List Int) : Option (List Qh) := (fun h : QP.Hs => h.l0 l [] 0) (QP.hs k)
noncomputable def QP.Kl0 : List Item := .code (lopB (blkB (seqR (seqL (seqR (seqR QP.C)))))) :: .inLoop (lopB (blkB (seqR (seqL (seqR (seqR QP.C)))))) :: .inBlock 0 :: .code (seqR (seqR (seqR QP.C))) :: []
structure QP.OK (h : QP.Hs) : Prop where
 l0 : ∀ {H0 H : Hp} {L : Items} {r : (List Qh)} {jk_ : Nat → Value} {l : List Int} {out : List Qh} {i : Int} {v_l : Value} {v_out : Value} {i_out : Item'} (_ : H0.le H) (_he : h.l0 l out i = some r) (_h_l : Src kI64 H L v_l l) (_h_out : Sl Xk H 40 i_out v_out out), Wp Tryz.prog 46 20 QP.Kl0 (upd (upd (upd (upd jk_ 0 (v_l)) 2 (.slice none 0 0)) 3 (v_out)) 4 (.int .i64 i)) H (i_out :: L) (QP.R H0 L r)
theorem QP.b0_ok {k : Nat} {h : QP.Hs} (hh : QP.OK h) {H0 H : Hp} {L : Items} {r : (List Qh)} {jk_ : Nat → Value} {l : List Int} {out : List Qh} {i : Int} {v_l v_out : Value} {i_out : Item'} (hle : H0.le H) (he : QP.b0 k h l out i = some r) (h_l : Src kI64 H L v_l l) (h_out : Sl Xk H 40 i_out v_out out) : Wp Tryz.prog 46 20 QP.Kl0 (upd (upd (upd (upd jk_ 0 (v_l)) 2 (.slice none 0 0)) 3 (v_out)) 4 (.int .i64 i)) H (i_out :: L) (QP.R H0 L r) := by
 unfold QP.b0 at he
 unfold QP.Kl0
 refine QX <| wR rfl <| wM (.int .i64 i) rfl rfl <| wM v_l rfl rfl <| w_d rfl (Xo Tryz.underlying72 rfl h_l.th) <| w_d rfl (XW rfl rfl) <| Qb ?_
 rcases its he with ⟨c1, he⟩ | ⟨c1, he⟩
 ·
  refine QD rfl (dt c1) <| QF <| QX <| Q2 <| QL rfl <| wM v_out rfl rfl <| wM v_l rfl rfl <| wM (.int .i64 i) rfl rfl <| rK he fun c2 he => w_d rfl (XA (sz := 1) Tryz.underlying72 sz2 rfl h_l.th rfl c2) <| w_d rfl (XR ty2 rfl h_l.th c2) <| bK he fun y3 hy4 he => ?_
  refine w_a rfl (Qm co43 (vs := [.int .i64 (rd l i)]) rfl (XJ.calls k hy4)) ?_
  rintro _ H5 _ ⟨rfl, e6, v7, v9, rfl, h8, h10⟩
  refine w_a rfl (o_buildSlice' (kd := Xk) (css := [(XZ y3 v7 v9)]) (xs := [y3]) (parts := [(0, (Qn y3 v7 v9))]) Tryz.underlying68 ti40 rfl ⟨_, _, rfl, rfl, rfl⟩ ⟨(Z1 (x := y3) h8 h10), trivial⟩ rfl (by decide)) ?_
  rintro v11 _ _ ⟨i12, rfl, rfl, h13⟩
  refine rK he fun c14 he => w_a rfl (o_append' (kd := Xk) (F := fun z_ => i12 :: z_ :: L) Tryz.underlying68 Tryz.underlying68 ti40 rfl (by first | omega | (simp only [List.nil_append, List.length_cons, List.length_nil]; omega)) rfl rfl (h_out.mono e6) (h13.src .here) (fun _ => .h1)) ?_
  rintro v15 _ _ ⟨i16, rfl, rfl, h17⟩
  refine wA v15 rfl rfl <| Qb <| Xw <| QL rfl <| wM (.int .i64 i) rfl rfl <| w_d rfl (XQ (c := w64 (i + 1)) rfl rfl rfl) <| wA (.int .i64 (w64 (i + 1))) rfl rfl <| Qb <| XG <| Yu .here <| w_sl 0 (v_l) rfl <| w_sl 2 (.slice none 0 0) rfl ?_
  refine w_sl 3 (v15) rfl <| w_sl 4 (.int .i64 (w64 (i + 1))) rfl <| hh.l0 (hle.trans e6) he (h_l.mono e6) h17
 ·
  refine QE rfl (df c1) <| X3 rfl <| wR rfl <| wM v_out rfl rfl <| wA v_out rfl rfl <| Qb <| Yx h_out .here ?_
  intro H18 e19 h20
  obtain rfl := sj he
  refine Ql fn_46 rs_46 (.tmp (v := v_out) rfl .nil) <| ⟨⟨[_], rfl⟩, hle.trans e19, h20⟩
theorem QP.ok : ∀ k, QP.OK (QP.hs k)
 | 0 => ⟨(by intros; exact nomatch (show none = some _ from by assumption))⟩
 | k + 1 => ⟨QP.b0_ok (k := k) (QP.ok k)⟩
theorem QP.calls (k : Nat) {H : Hp} {L : Items} {l : List Int} {v0_l : Value} {r : (List Qh)} (he : QP.f k l = some r) (h0_l : Src kI64 H L v0_l l) : Ct Tryz.prog 46 ⟨[v0_l]⟩ H L (cR H L (QP.out r)) := by
 refine XN (O := QP.out r) ?_
 have hle : H.le H := .refl _
 have hh := QP.ok k
 unfold QP.f at he
 refine QV (args := [_]) fn_46 rfl nt_46 rfl <| wR rfl <| wA (.slice none 0 0) rfl rfl <| wQ rfl <| wA (.slice none 0 0) rfl rfl <| wE <| wR rfl ?_
 refine wA (.int .i64 0) rfl rfl <| Qb <| Q2 <| X5 <| YG <| w_sl 0 (v0_l) rfl <| w_sl 2 (.slice none 0 0) rfl <| w_sl 3 (.slice none 0 0) rfl <| w_sl 4 (.int .i64 0) rfl <| hh.l0 hle he h0_l (ZW _ _ _)
noncomputable def QG.C : Code := (Tryz.f45.body).getD .skip
abbrev QG.out (r : (List Qf)) (H : Hp) (v : Value) : Prop := Ro Xc H v r
abbrev QG.R (H0 : Hp) (L : Items) (r : (List Qf)) := fR H0 L (QG.out r)
structure QG.Hs where
 l0 : (List Qh) → (List Qf) → Int → Option (List Qf)
noncomputable def QG.b0 (k : Nat) (h : QG.Hs) (l : List Qh) (out : List Qf) (i : Int) : Option (List Qf) := if i < (l.length : Int) then (if (0 : Int) ≤ i ∧ i < (l.length : Int) then ((XM.f k (rd l i)).bind fun y9 => if out.length + 1 ≤ 2199023255424 then (h.l0 l (out ++ [y9]) (w64 (i + 1))) else none) else none) else (some (out))
noncomputable def QG.hs : Nat → QG.Hs
 | 0 => ⟨fun _ _ _ => none⟩
 | k + 1 => ⟨fun x0 x1 x2 => QG.b0 k (QG.hs k) x0 x1 x2⟩
noncomputable def QG.f (k : Nat) (l : List Qh) : Option (List Qf) := (fun h : QG.Hs => h.l0 l [] 0) (QG.hs k)
noncomputable def QG.Kl0 : List Item := .code (lopB (blkB (seqR (seqL (seqR (seqR QG.C)))))) :: .inLoop (lopB (blkB (seqR (seqL (seqR (seqR QG.C)))))) :: .inBlock 0 :: .code (seqR (seqR (seqR QG.C))) :: []
structure QG.OK (h : QG.Hs) : Prop where
 l0 : ∀ {H0 H : Hp} {L : Items} {r : (List Qf)} {jk_ : Nat → Value} {l : List Qh} {out : List Qf} {i : Int} {v_l : Value} {v_out : Value} {i_out : Item'} (_ : H0.le H) (_he : h.l0 l out i = some r) (_h_l : Src Xk H L v_l l) (_h_out : Sl Xc H 26 i_out v_out out), Wp Tryz.prog 45 20 QG.Kl0 (upd (upd (upd (upd jk_ 0 (v_l)) 2 (.slice none 0 0)) 3 (v_out)) 4 (.int .i64 i)) H (i_out :: L) (QG.R H0 L r)
theorem QG.b0_ok {k : Nat} {h : QG.Hs} (hh : QG.OK h) {H0 H : Hp} {L : Items} {r : (List Qf)} {jk_ : Nat → Value} {l : List Qh} {out : List Qf} {i : Int} {v_l v_out : Value} {i_out : Item'} (hle : H0.le H) (he : QG.b0 k h l out i = some r) (h_l : Src Xk H L v_l l) (h_out : Sl Xc H 26 i_out v_out out) : Wp Tryz.prog 45 20 QG.Kl0 (upd (upd (upd (upd jk_ 0 (v_l)) 2 (.slice none 0 0)) 3 (v_out)) 4 (.int .i64 i)) H (i_out :: L) (QG.R H0 L r) := by
 unfold QG.b0 at he
 unfold QG.Kl0
 refine QX <| wR rfl <| wM (.int .i64 i) rfl rfl <| wM v_l rfl rfl <| w_d rfl (Xo Tryz.underlying68 rfl h_l.th) <| w_d rfl (XW rfl rfl) <| Qb ?_
 rcases its he with ⟨c1, he⟩ | ⟨c1, he⟩
 ·
  refine QD rfl (dt c1) <| QF <| QX <| Q2 <| QL rfl <| wM v_out rfl rfl <| wM v_l rfl rfl <| wM (.int .i64 i) rfl rfl <| rK he fun c2 he => w_d rfl (XA (sz := 4) Tryz.underlying68 sz40 rfl h_l.th rfl c2) ?_
  obtain ⟨_, l3, r4⟩ := Zp (kd := Xk) h_l.th c2
  obtain ⟨v5, v7, rfl, h6, h8⟩ := Zm r4
  refine w_d rfl (YU (v := .agg ⟨[.bool (((rd l i).f_N).f_Neg), v5, .bool (((rd l i).f_D).f_Neg), v7]⟩) (cs := [.bool (((rd l i).f_N).f_Neg), v5, .bool (((rd l i).f_D).f_Neg), v7]) ty40 rfl rfl (by decide) l3 rfl) <| bK he fun y9 hy10 he => w_a rfl (Qm co42 (vs := [.agg ⟨[.bool (((rd l i).f_N).f_Neg), v5, .bool (((rd l i).f_D).f_Neg), v7]⟩]) rfl (XM.calls k (a := (rd l i)) hy10 h6 h8)) ?_
  rintro _ H11 _ ⟨rfl, e12, v13, v15, rfl, h14, h16⟩
  refine w_a rfl (o_buildSlice' (kd := Xc) (css := [(Xa y9 v13 v15)]) (xs := [y9]) (parts := [(0, (Qc y9 v13 v15))]) Tryz.underlying81 ti26 rfl ⟨_, _, rfl, rfl, rfl⟩ ⟨(Z4 (x := y9) h14 h16), trivial⟩ rfl (by decide)) ?_
  rintro v17 _ _ ⟨i18, rfl, rfl, h19⟩
  refine rK he fun c20 he => w_a rfl (o_append' (kd := Xc) (F := fun z_ => i18 :: z_ :: L) Tryz.underlying81 Tryz.underlying81 ti26 rfl (by first | omega | (simp only [List.nil_append, List.length_cons, List.length_nil]; omega)) rfl rfl (h_out.mono e12) (h19.src .here) (fun _ => .h1)) ?_
  rintro v21 _ _ ⟨i22, rfl, rfl, h23⟩
  refine wA v21 rfl rfl <| Qb <| Xw <| QL rfl <| wM (.int .i64 i) rfl rfl <| w_d rfl (XQ (c := w64 (i + 1)) rfl rfl rfl) <| wA (.int .i64 (w64 (i + 1))) rfl rfl <| Qb <| XG <| Yu .here <| w_sl 0 (v_l) rfl <| w_sl 2 (.slice none 0 0) rfl ?_
  refine w_sl 3 (v21) rfl <| w_sl 4 (.int .i64 (w64 (i + 1))) rfl <| hh.l0 (hle.trans e12) he (h_l.mono e12) h23
 ·
  refine QE rfl (df c1) <| X3 rfl <| wR rfl <| wM v_out rfl rfl <| wA v_out rfl rfl <| Qb <| Yx h_out .here ?_
  intro H24 e25 h26
  obtain rfl := sj he
  refine Ql fn_45 rs_45 (.tmp (v := v_out) rfl .nil) <| ⟨⟨[_], rfl⟩, hle.trans e25, h26⟩
theorem QG.ok : ∀ k, QG.OK (QG.hs k)
 | 0 => ⟨(by intros; exact nomatch (show none = some _ from by assumption))⟩
 | k + 1 => ⟨QG.b0_ok (k := k) (QG.ok k)⟩
theorem QG.calls (k : Nat) {H : Hp} {L : Items} {l : List Qh} {v0_l : Value} {r : (List Qf)} (he : QG.f k l = some r) (h0_l : Src Xk H L v0_l l) : Ct Tryz.prog 45 ⟨[v0_l]⟩ H L (cR H L (QG.out r)) := by
 refine XN (O := QG.out r) ?_
 have hle : H.le H := .refl _
 have hh := QG.ok k
 unfold QG.f at he
 refine QV (args := [_]) fn_45 rfl nt_45 rfl <| wR rfl <| wA (.slice none 0 0) rfl rfl <| wQ rfl <| wA (.slice none 0 0) rfl rfl <| wE <| wR rfl ?_
 refine wA (.int .i64 0) rfl rfl <| Qb <| Q2 <| X5 <| YG <| w_sl 0 (v0_l) rfl <| w_sl 2 (.slice none 0 0) rfl <| w_sl 3 (.slice none 0 0) rfl <| w_sl 4 (.int .i64 0) rfl <| hh.l0 hle he h0_l (ZW _ _ _)
noncomputable def XB.C : Code := (Tryz.f98.body).getD .skip
def XB.out (r : Qf × (Option Int)) (H : Hp) (v : Value) : Prop := ∃ v0 v1, v = .tuple ⟨[(Qc r.1 v0 v1), errV 104 r.2]⟩ ∧ Ro kU32 H v0 r.1.f_n.f_w ∧ Ro kU32 H v1 r.1.f_d.f_w
abbrev XB.R (H0 : Hp) (L : Items) (r : Qf × (Option Int)) := fR H0 L (XB.out r)
structure XB.Hs where
 l0 : (List Qf) → Bool → (List Int) → Bool → (List Int) → (Option Int) → Bool → (List Int) → Bool → (List Int) → (List Qf) → Int → Int → Option (Qf × (Option Int))
noncomputable def XB.b0 (k : Nat) (h : XB.Hs) (b : List Qf) (t4_0 : Bool) (t4_1 : List Int) (t4_2 : Bool) (t4_3 : List Int) (t5 : Option Int) (sum_0 : Bool) (sum_1 : List Int) (sum_2 : Bool) (sum_3 : List Int) (t12 : List Qf) (t13 t14 : Int) : Option (Qf × (Option Int)) := if t14 < t13 then (if (0 : Int) ≤ t14 ∧ t14 < (t12.length : Int) then (if (0 : Int) ≤ t14 ∧ t14 < (b.length : Int) then ((XO.f k (rd t12 t14) (rd b t14)).bind fun y19 => if y19.2.isSome = true then (some (⟨⟨false, []⟩, ⟨false, []⟩⟩, y19.2)) else ((XV.f k ⟨⟨sum_0, sum_1⟩, ⟨sum_2, sum_3⟩⟩ y19.1).bind fun y45 => if y45.2.isSome = true then (some (⟨⟨false, []⟩, ⟨false, []⟩⟩, y45.2)) else (h.l0 b t4_0 t4_1 t4_2 t4_3 t5 y45.1.f_n.f_neg y45.1.f_n.f_w y45.1.f_d.f_neg y45.1.f_d.f_w t12 t13 (w64 (t14 + 1))))) else none) else none) else (some (⟨⟨sum_0, sum_1⟩, ⟨sum_2, sum_3⟩⟩, none))
noncomputable def XB.hs : Nat → XB.Hs
 | 0 => ⟨fun _ _ _ _ _ _ _ _ _ _ _ _ _ => none⟩
 | k + 1 => ⟨fun x0 x1 x2 x3 x4 x5 x6 x7 x8 x9 x10 x11 x12 => XB.b0 k (XB.hs k) x0 x1 x2 x3 x4 x5 x6 x7 x8 x9 x10 x11 x12⟩
noncomputable def XB.f (k : Nat) (a b : List Qf) : Option (Qf × (Option Int)) := (fun h : XB.Hs => h.l0 b false [] false [] none false [] false [] a (a.length : Int) 0) (XB.hs k)
noncomputable def XB.Kl0 : List Item := .code (lopB (blkB (seqR (seqL (seqR (seqR XB.C)))))) :: .inLoop (lopB (blkB (seqR (seqL (seqR (seqR XB.C)))))) :: .inBlock 0 :: .code (seqR (seqR (seqR XB.C))) :: []
structure XB.OK (h : XB.Hs) : Prop where
 l0 : ∀ {H0 H : Hp} {L : Items} {r : Qf × (Option Int)} {jk_ : Nat → Value} {b : List Qf} {t4_0 : Bool} {t4_1 : List Int} {t4_2 : Bool} {t4_3 : List Int} {t5 : Option Int} {sum_0 : Bool} {sum_1 : List Int} {sum_2 : Bool} {sum_3 : List Int} {t12 : List Qf} {t13 : Int} {t14 : Int} {v_b : Value} {v_t4_1 : Value} {v_t4_3 : Value} {v_sum_1 : Value} {v_sum_3 : Value} {v_t12 : Value} {b_t4 : Nat} {b_sum : Nat} (_ : H0.le H) (_he : h.l0 b t4_0 t4_1 t4_2 t4_3 t5 sum_0 sum_1 sum_2 sum_3 t12 t13 t14 = some r) (_h_b : Src Xc H L v_b b) (_h_t4_1 : Ro kU32 H v_t4_1 t4_1) (_h_t4_3 : Ro kU32 H v_t4_3 t4_3) (_h_sum_1 : Ro kU32 H v_sum_1 sum_1) (_h_sum_3 : Ro kU32 H v_sum_3 sum_3) (_h_t12 : Src Xc H L v_t12 t12), Wp Tryz.prog 98 44 XB.Kl0 (upd (upd (upd (upd (upd (upd (upd jk_ 1 (v_b)) 4 (pt b_t4)) 5 (errV 104 t5)) 6 (pt b_sum)) 12 (v_t12)) 13 (.int .i64 t13)) 14 (.int .i64 t14)) H (bx b_sum [.bool sum_0, v_sum_1, .bool sum_2, v_sum_3] 26 :: bx b_t4 [.bool t4_0, v_t4_1, .bool t4_2, v_t4_3] 26 :: L) (XB.R H0 L r)
theorem XB.b0_ok {k : Nat} {h : XB.Hs} (hh : XB.OK h) {H0 H : Hp} {L : Items} {r : Qf × (Option Int)} {jk_ : Nat → Value} {b : List Qf} {t4_0 : Bool} {t4_1 : List Int} {t4_2 : Bool} {t4_3 : List Int} {t5 : Option Int} {sum_0 : Bool} {sum_1 : List Int} {sum_2 : Bool} {sum_3 : List Int} {t12 : List Qf} {t13 t14 : Int} {v_b v_t4_1 v_t4_3 v_sum_1 v_sum_3 v_t12 : Value} {b_t4 b_sum : Nat} (hle : H0.le H) (he : XB.b0 k h b t4_0 t4_1 t4_2 t4_3 t5 sum_0 sum_1 sum_2 sum_3 t12 t13 t14 = some r) (h_b : Src Xc H L v_b b) (h_t4_1 : Ro kU32 H v_t4_1 t4_1) (h_t4_3 : Ro kU32 H v_t4_3 t4_3) (h_sum_1 : Ro kU32 H v_sum_1 sum_1) (h_sum_3 : Ro kU32 H v_sum_3 sum_3) (h_t12 : Src Xc H L v_t12 t12) : Wp Tryz.prog 98 44 XB.Kl0 (upd (upd (upd (upd (upd (upd (upd jk_ 1 (v_b)) 4 (pt b_t4)) 5 (errV 104 t5)) 6 (pt b_sum)) 12 (v_t12)) 13 (.int .i64 t13)) 14 (.int .i64 t14)) H (bx b_sum [.bool sum_0, v_sum_1, .bool sum_2, v_sum_3] 26 :: bx b_t4 [.bool t4_0, v_t4_1, .bool t4_2, v_t4_3] 26 :: L) (XB.R H0 L r) := by
 unfold XB.b0 at he
 unfold XB.Kl0
 refine wR rfl <| w_d rfl (XW rfl rfl) <| wE ?_
 rcases its he with ⟨c3, he⟩ | ⟨c3, he⟩
 ·
  refine QD rfl (dt c3) <| QF <| QX <| Q2 <| wR rfl <| wM (.int .i64 t14) rfl rfl <| rK he fun c4 he => w_d rfl (XA (sz := 4) Tryz.underlying81 sz26 rfl h_t12.th.th rfl c4) ?_
  obtain ⟨_, l5, r6⟩ := Zp (kd := Xc) h_t12.th.th c4
  obtain ⟨v7, v9, rfl, h8, h10⟩ := Zy r6
  refine w_d rfl (YU (v := .agg ⟨[.bool (((rd t12 t14).f_n).f_neg), v7, .bool (((rd t12 t14).f_d).f_neg), v9]⟩) (cs := [.bool (((rd t12 t14).f_n).f_neg), v7, .bool (((rd t12 t14).f_d).f_neg), v9]) ty26 rfl rfl (by decide) l5 rfl) <| wN zr26 rfl rfl fun b11 => wA (.int .i64 t14) rfl rfl <| wS (.agg ⟨[.bool (((rd t12 t14).f_n).f_neg), v7, .bool (((rd t12 t14).f_d).f_neg), v9]⟩) sz26 rfl rfl rfl rfl rfl (oc rfl (oc (h8.one) (oc rfl (oc (h10.one) oz)))) .here u4 <| wE <| rK he fun c12 he => ?_
  obtain ⟨_, l13, r14⟩ := Zp (kd := Xc) h_b.th.th.th c12
  obtain ⟨v15, v17, rfl, h16, h18⟩ := Zy r14
  refine bK he fun y19 hy20 he => ?_
  refine YG (?_)
  refine XC (p := 11) (tl := [11]) [[], [], [], [(1, some 21), (2, some 22)], [(3, some 23)], [(0, some 20), (4, some 24)], [(5, some 25)], [(6, some 19)], [(6, some 19)], [], [(7, some 26), (9, some 9)]] [some 20, some 21, some 22, some 23, some 24, some 25, some 19, some 26, some 27, some 9, none] (fctF (.is (.agg ⟨[.bool (((rd t12 t14).f_n).f_neg), v7, .bool (((rd t12 t14).f_d).f_neg), v9]⟩) :: .is (v_b) :: .is (.int .i64 t14) :: .is (.pointer (some (pel v_b t14 4))) :: .is (.agg ⟨[.bool (((rd b t14).f_n).f_neg), v15, .bool (((rd b t14).f_d).f_neg), v17]⟩) :: .of (XO.out y19) (XO.out_mono _) :: .of (fun H v => ∃ v27 v29, v = .tuple ⟨[(Qc y19.1 v27 v29), errV 104 y19.2]⟩ ∧ Ro kU32 H v27 y19.1.f_n.f_w ∧ Ro kU32 H v29 y19.1.f_d.f_w) (by rintro _ _ _ hle ⟨v27, v29, rfl, h28, h30⟩; exact ⟨v27, v29, rfl, h28.mono hle, h30.mono hle⟩) :: .of (fun H v => ∃ v31 v33, v = (Qc y19.1 v31 v33) ∧ Ro kU32 H v31 y19.1.f_n.f_w ∧ Ro kU32 H v33 y19.1.f_d.f_w) (by rintro _ _ _ hle ⟨v31, v33, rfl, h32, h34⟩; exact ⟨v31, v33, rfl, h32.mono hle, h34.mono hle⟩) :: .is (errV 104 y19.2) :: .box 26 z0c :: .st 9 (fun H bq_ itq_ => ∃ v36 v38, itq_ = bx bq_ (Xa y19.1 v36 v38) 26 ∧ Ro kU32 H v36 y19.1.f_n.f_w ∧ Ro kU32 H v38 y19.1.f_d.f_w) (by rintro _ _ _ _ hle ⟨v36, v38, rfl, h37, h39⟩; exact ⟨v36, v38, rfl, h37.mono hle, h39.mono hle⟩) :: [])) (fun m_ => pk (m_ 10) (m_ 9) :: bx b11 [.bool (((rd t12 t14).f_n).f_neg), v7, .bool (((rd t12 t14).f_d).f_neg), v9] 26 :: bx b_sum [.bool sum_0, v_sum_1, .bool sum_2, v_sum_3] 26 :: bx b_t4 [.bool t4_0, v_t4_1, .bool t4_2, v_t4_3] 26 :: L) (fun _ => none) mixed (by kernel_rfl) (by kernel_rfl) rfl (Xq (by kernel_rfl)) ⟨(fun H' m_ hH hm_ hu_ => dn <| s_d (m_ 0) rfl (QN (v := .agg ⟨[.bool (((rd t12 t14).f_n).f_neg), v7, .bool (((rd t12 t14).f_d).f_neg), v9]⟩) ty26 rfl .h1 rfl rfl rfl rfl) (by exact rfl) rfl), (fun H' m_ hH hm_ hu_ => dn <| s_d (m_ 1) rfl (QT (v := v_b) rfl) (by exact rfl) rfl), (fun H' m_ hH hm_ hu_ => dn <| s_d (m_ 2) rfl (QT (v := .int .i64 t14) rfl) (by exact rfl) rfl), (by rintro H' m_ hH hm_ hu_ _ rfl _ rfl; exact dn <| s_d (m_ 3) rfl (XA (sz := 4) Tryz.underlying81 sz26 rfl (h_b.mono hH).th.th.th.th rfl c12) (by exact rfl) rfl), (by rintro H' m_ hH hm_ hu_ _ rfl; exact dn <| s_d (m_ 4) rfl (YU (v := .agg ⟨[.bool (((rd b t14).f_n).f_neg), v15, .bool (((rd b t14).f_d).f_neg), v17]⟩) (cs := [.bool (((rd b t14).f_n).f_neg), v15, .bool (((rd b t14).f_d).f_neg), v17]) ty26 rfl rfl (by decide) (l13.mono hH).th rfl) (by exact rfl) rfl), (by rintro H' m_ hH hm_ hu_ _ rfl _ rfl; exact dn <| s_k (m_ 5) rfl (Qm co24 (vs := [.agg ⟨[.bool (((rd t12 t14).f_n).f_neg), v7, .bool (((rd t12 t14).f_d).f_neg), v9]⟩, .agg ⟨[.bool (((rd b t14).f_n).f_neg), v15, .bool (((rd b t14).f_d).f_neg), v17]⟩]) rfl (XO.calls k (a := (rd t12 t14)) (b := (rd b t14)) hy20 (h8.mono hH) (h10.mono hH) (h16.mono hH) (h18.mono hH))) rfl (by rintro v_ H_ _ ⟨rfl, e_, h_⟩; exact ⟨rfl, e_, h_⟩)), (by rintro H' m_ hH hm_ hu_ _ ⟨v23, v25, rfl, h24, h26⟩; exact dn <| s_d (m_ 6) rfl (QT (v := .tuple ⟨[(Qc y19.1 v23 v25), errV 104 y19.2]⟩) rfl) (by exact ⟨v23, v25, rfl, h24, h26⟩) rfl), (by rintro H' m_ hH hm_ hu_ _ ⟨v27, v29, rfl, h28, h30⟩; exact dn <| s_d (m_ 7) rfl (Q5 rfl rfl) (by exact ⟨v27, v29, rfl, h28, h30⟩) rfl), (by rintro H' m_ hH hm_ hu_ _ ⟨v27, v29, rfl, h28, h30⟩; exact dn <| s_d (m_ 8) rfl (Q5 rfl rfl) (by exact rfl) rfl), (fun H' m_ hH hm_ hu_ => dn <| Y8 hm_ rfl rfl (YT zr26 rfl) rfl (fun _ => (ZZ (hu_ 10 (by kernel_rfl)))) (by exact fun b_ => ⟨b_, rfl, rfl⟩)), (by rintro H' m_ hH hm_ hu_ _ ⟨v31, v33, rfl, h32, h34⟩ _ ⟨b35, rfl, hb35_⟩; exact dn <| Zv (Λ' := fun z_ => z_ :: bx b11 [.bool (((rd t12 t14).f_n).f_neg), v7, .bool (((rd t12 t14).f_d).f_neg), v9] 26 :: bx b_sum [.bool sum_0, v_sum_1, .bool sum_2, v_sum_3] 26 :: bx b_t4 [.bool t4_0, v_t4_1, .bool t4_2, v_t4_3] 26 :: L) (bx b35 (Xa y19.1 v31 v33) 26) hm_ rfl hb35_ rfl (YO (v := (Qc y19.1 v31 v33)) sz26 rfl rfl rfl rfl (oc rfl (oc (h32.one) (oc rfl (oc (h34.one) oz)))) .here u4) rfl rfl (by exact ⟨rfl, v31, v33, congrArg (fun b_ => (some (b_, Obj.cells ⟨(Xa y19.1 v31 v33)⟩ 26 (0, 0)) : Item')) (Z2 hb35_).symm, h32, h34⟩)), trivial⟩ ?_
  intro H42 e43
  rintro _ _ rfl _ _ rfl _ _ rfl _ _ rfl _ _ rfl _ _ ⟨v23, v25, rfl, h24, h26⟩ _ _ ⟨v27, v29, rfl, h28, h30⟩ _ _ ⟨v31, v33, rfl, h32, h34⟩ _ _ rfl _ _ ⟨b35, rfl, rfl⟩ _ i40 ⟨rfl, v36, v38, h41, h37, h39⟩
  replace h41 : i40 = bx b35 (Xa y19.1 v36 v38) 26 := h41
  subst h41
  refine w_it (L' := bx b35 (Xa y19.1 v36 v38) 26 :: bx b11 [.bool (((rd t12 t14).f_n).f_neg), v7, .bool (((rd t12 t14).f_d).f_neg), v9] 26 :: bx b_sum [.bool sum_0, v_sum_1, .bool sum_2, v_sum_3] 26 :: bx b_t4 [.bool t4_0, v_t4_1, .bool t4_2, v_t4_3] 26 :: L) rfl <| wA (errV 104 y19.2) rfl rfl <| wE <| wR rfl <| wM (errV 104 y19.2) rfl rfl <| w_d rfl (Yj (e := y19.2) Tryz.underlying30 rfl) <| Qb ?_
  rcases its he with ⟨c44, he⟩ | ⟨c44, he⟩
  ·
   refine QD rfl c44 <| wR rfl <| w_d rfl (XE (cs' := z0c) Tryz.underlying26 zr26 rfl (by kernel_rfl) (parts := []) rfl .nil) <| wM (errV 104 y19.2) rfl rfl <| wS (.agg ⟨z0c⟩) sz26 rfl rfl rfl rfl rfl (oc rfl (oc rfl (oc rfl (oc rfl oz)))) .h3 u4 <| wA (errV 104 y19.2) rfl rfl <| Qb ?_
   obtain rfl := sj he
   refine Ql fn_98 rs_98 (.box (v := .agg ⟨z0c⟩) rfl ty26 rfl rfl .h3 rfl (.tmp (v := errV 104 y19.2) rfl .nil)) <| ⟨⟨[_, _, _, _], rfl⟩, hle.trans e43, ⟨.slice none 0 0, .slice none 0 0, rfl, (Xj _ _), (Xj _ _)⟩⟩
  ·
   refine QE rfl (Bool.eq_false_iff.2 c44) <| QF <| wR rfl <| wL (.agg ⟨[.bool sum_0, v_sum_1, .bool sum_2, v_sum_3]⟩) ty26 rfl rfl .h2 rfl rfl <| wL (Qc y19.1 v36 v38) ty26 rfl rfl .here rfl rfl <| bK he fun y45 hy46 he => w_a rfl (Qm co23 (vs := [.agg ⟨[.bool sum_0, v_sum_1, .bool sum_2, v_sum_3]⟩, (Qc y19.1 v36 v38)]) rfl (XV.calls k (a := ⟨⟨sum_0, sum_1⟩, ⟨sum_2, sum_3⟩⟩) (b := y19.1) hy46 (h_sum_1.mono e43) (h_sum_3.mono e43) h37 h39)) ?_
   rintro _ H47 _ ⟨rfl, e48, v49, v51, rfl, h50, h52⟩
   refine wM (.tuple ⟨[(Qc y45.1 v49 v51), errV 104 y45.2]⟩) rfl rfl <| w_d rfl (Q5 rfl rfl) <| w_d rfl (Q5 rfl rfl) <| wS (Qc y45.1 v49 v51) sz26 rfl rfl rfl rfl rfl (XP h50 h52) .h2 u4 <| wA (errV 104 y45.2) rfl rfl <| wQ rfl <| wM (errV 104 y45.2) rfl rfl <| w_d rfl (Yj (e := y45.2) Tryz.underlying30 rfl) <| Qb ?_
   rcases its he with ⟨c53, he⟩ | ⟨c53, he⟩
   ·
    refine QD rfl c53 <| wR rfl <| w_d rfl (XE (cs' := z0c) Tryz.underlying26 zr26 rfl (by kernel_rfl) (parts := []) rfl .nil) <| wM (errV 104 y45.2) rfl rfl <| wS (.agg ⟨z0c⟩) sz26 rfl rfl rfl rfl rfl (oc rfl (oc rfl (oc rfl (oc rfl oz)))) .h3 u4 <| wA (errV 104 y45.2) rfl rfl <| Qb ?_
    obtain rfl := sj he
    refine Ql fn_98 rs_98 (.box (v := .agg ⟨z0c⟩) rfl ty26 rfl rfl .h3 rfl (.tmp (v := errV 104 y45.2) rfl .nil)) <| ⟨⟨[_, _, _, _], rfl⟩, hle.trans (e43.trans e48), ⟨.slice none 0 0, .slice none 0 0, rfl, (Xj _ _), (Xj _ _)⟩⟩
   ·
    refine QE rfl (Bool.eq_false_iff.2 c53) <| QF <| Xw <| QL rfl <| w_d rfl (XQ (c := w64 (t14 + 1)) rfl rfl rfl) <| wM (.int .i64 (w64 (t14 + 1))) rfl rfl <| Qb <| XG <| Yu .h1 <| Yu .here <| w_sl 1 (v_b) rfl <| w_sl 4 (pt b_t4) rfl ?_
    refine w_sl 5 (errV 104 t5) rfl <| w_sl 6 (pt b_sum) rfl <| w_sl 12 (v_t12) rfl <| w_sl 13 (.int .i64 t13) rfl <| w_sl 14 (.int .i64 (w64 (t14 + 1))) rfl <| hh.l0 (hle.trans (e43.trans e48)) he (h_b.mono (e43.trans e48)) (h_t4_1.mono (e43.trans e48)) (h_t4_3.mono (e43.trans e48)) h50 h52 (h_t12.mono (e43.trans e48))
 ·
  refine QE rfl (df c3) <| X3 rfl <| wR rfl <| wL (.agg ⟨[.bool sum_0, v_sum_1, .bool sum_2, v_sum_3]⟩) ty26 rfl rfl .here rfl rfl <| wS (.agg ⟨[.bool sum_0, v_sum_1, .bool sum_2, v_sum_3]⟩) sz26 rfl rfl rfl rfl rfl (oc rfl (oc (h_sum_1.one) (oc rfl (oc (h_sum_3.one) oz)))) .h1 u4 <| wA (errV 104 none) rfl rfl <| Qb ?_
  obtain rfl := sj he
  refine Ql fn_98 rs_98 (.box (v := .agg ⟨[.bool sum_0, v_sum_1, .bool sum_2, v_sum_3]⟩) rfl ty26 rfl rfl .h1 rfl (.tmp (v := errV 104 none) rfl .nil)) <| ⟨⟨[_, _], rfl⟩, hle, ⟨v_sum_1, v_sum_3, rfl, h_sum_1, h_sum_3⟩⟩
theorem XB.ok : ∀ k, XB.OK (XB.hs k)
 | 0 => ⟨(by intros; exact nomatch (show none = some _ from by assumption))⟩
 | k + 1 => ⟨XB.b0_ok (k := k) (XB.ok k)⟩
theorem XB.calls (k : Nat) {H : Hp} {L : Items} {a b : List Qf} {v0_a v1_b : Value} {r : Qf × (Option Int)} (he : XB.f k a b = some r) (h0_a : Src Xc H L v0_a a) (h1_b : Src Xc H L v1_b b) : Ct Tryz.prog 98 ⟨[v0_a, v1_b]⟩ H L (cR H L (XB.out r)) := by
 refine XN (O := XB.out r) ?_
 have hle : H.le H := .refl _
 have hh := XB.ok k
 unfold XB.f at he
 refine QV (args := [_, _]) fn_98 rfl nt_98 rfl <| wR rfl <| wN zr26 rfl rfl fun b1 => wA (errV 104 none) rfl rfl <| wQ rfl <| w_d rfl (XE (cs' := z0c) Tryz.underlying26 zr26 rfl (by kernel_rfl) (parts := []) rfl .nil) <| wN zr26 rfl rfl fun b2 => wS (.agg ⟨z0c⟩) sz26 rfl rfl rfl rfl rfl (oc rfl (oc rfl (oc rfl (oc rfl oz)))) .here u4 <| Qb ?_
 refine QX <| wR rfl <| wM v0_a rfl rfl <| w_d rfl (Xo Tryz.underlying81 rfl h0_a.th.th) <| wM (.int .i64 0) rfl rfl <| Qb <| Q2 <| X5 <| w_sl 1 (v1_b) rfl <| w_sl 4 (pt b1) rfl <| w_sl 5 (errV 104 none) rfl ?_
 refine w_sl 6 (pt b2) rfl <| w_sl 12 (v0_a) rfl <| w_sl 13 (.int .i64 (a.length : Int)) rfl <| w_sl 14 (.int .i64 0) rfl <| hh.l0 hle he h1_b (Xj _ _) (Xj _ _) (Xj _ _) (Xj _ _) h0_a
noncomputable def Q7.C : Code := (Tryz.f44.body).getD .skip
def Q7.out (r : (List Qf) × (Option Int)) (H : Hp) (v : Value) : Prop := ∃ v0, v = .tuple ⟨[v0, errV 104 r.2]⟩ ∧ Ro Xc H v0 r.1
theorem Q7.out_mono (r : (List Qf) × (Option Int)) {H H' : Hp} {v : Value} (hle : H.le H') (h : Q7.out r H v) : Q7.out r H' v := by
 obtain ⟨v0, rfl, h0⟩ := h; exact ⟨v0, rfl, h0.mono hle⟩
abbrev Q7.R (H0 : Hp) (L : Items) (r : (List Qf) × (Option Int)) := fR H0 L (Q7.out r)
structure Q7.Hs where
 l0 : (List Qf) → X9 → (List Qf) → (Option Int) → (List Qf) → Int → Int → Option ((List Qf) × (Option Int))
noncomputable def Q7.b0 (k : Nat) (h : Q7.Hs) (v_ : List Qf) (m_1 : X9) (t4 : List Qf) (t5 : Option Int) (out : List Qf) (t23 t24 : Int) : Option ((List Qf) × (Option Int)) := if t24 < t23 then ((Xf.f k m_1 t24).bind fun y13 => if y13.2.isSome = true then (some ([], y13.2)) else ((XB.f k y13.1 v_).bind fun y20 => if y20.2.isSome = true then (some ([], y20.2)) else (if out.length + 1 ≤ 2199023255424 then (h.l0 v_ m_1 t4 t5 (out ++ [y20.1]) t23 (w64 (t24 + 1))) else none))) else (some (out, none))
noncomputable def Q7.hs : Nat → Q7.Hs
 | 0 => ⟨fun _ _ _ _ _ _ _ => none⟩
 | k + 1 => ⟨fun x0 x1 x2 x3 x4 x5 x6 => Q7.b0 k (Q7.hs k) x0 x1 x2 x3 x4 x5 x6⟩
noncomputable def Q7.f (k : Nat) (m : X9) (v_ : List Qf) : Option ((List Qf) × (Option Int)) := (fun h : Q7.Hs => (Xd.f k m).bind fun y2 => if (y2.isSome || (!decide ((v_.length : Int) = m.f_Cols))) = true then (some ([], some 1)) else (h.l0 v_ m [] none [] m.f_Rows 0)) (Q7.hs k)
noncomputable def Q7.Kl0 : List Item := .code (lopB (blkB (seqR (seqL (seqR (seqR (seqR Q7.C))))))) :: .inLoop (lopB (blkB (seqR (seqL (seqR (seqR (seqR Q7.C))))))) :: .inBlock 0 :: .code (seqR (seqR (seqR (seqR Q7.C)))) :: []
structure Q7.OK (h : Q7.Hs) : Prop where
 l0 : ∀ {H0 H : Hp} {L : Items} {r : (List Qf) × (Option Int)} {jk_ : Nat → Value} {v_ : List Qf} {m_1 : X9} {t4 : List Qf} {t5 : Option Int} {out : List Qf} {t23 : Int} {t24 : Int} {v_v_ : Value} {v_t4 : Value} {v_out : Value} {i_out : Item'} {b_m : Nat} (_ : H0.le H) (_he : h.l0 v_ m_1 t4 t5 out t23 t24 = some r) (_h_v_ : Src Xc H L v_v_ v_) (_h_t4 : Ro Xc H v_t4 t4) (_h_out : Sl Xc H 26 i_out v_out out), Wp Tryz.prog 44 51 Q7.Kl0 (upd (upd (upd (upd (upd (upd (upd jk_ 1 (v_v_)) 2 (pt b_m)) 4 (v_t4)) 5 (errV 104 t5)) 6 (v_out)) 23 (.int .i64 t23)) 24 (.int .i64 t24)) H (i_out :: bx b_m (.int .i64 m_1.f_Rows :: .int .i64 m_1.f_Cols :: .int .i64 m_1.f_A.e0 :: .int .i64 m_1.f_A.e1 :: .int .i64 m_1.f_A.e2 :: .int .i64 m_1.f_A.e3 :: .int .i64 m_1.f_A.e4 :: .int .i64 m_1.f_A.e5 :: .int .i64 m_1.f_A.e6 :: .int .i64 m_1.f_A.e7 :: .int .i64 m_1.f_A.e8 :: .int .i64 m_1.f_A.e9 :: .int .i64 m_1.f_A.e10 :: .int .i64 m_1.f_A.e11 :: .int .i64 m_1.f_A.e12 :: .int .i64 m_1.f_A.e13 :: .int .i64 m_1.f_A.e14 :: .int .i64 m_1.f_A.e15 :: .int .i64 m_1.f_A.e16 :: .int .i64 m_1.f_A.e17 :: .int .i64 m_1.f_A.e18 :: .int .i64 m_1.f_A.e19 :: .int .i64 m_1.f_A.e20 :: .int .i64 m_1.f_A.e21 :: .int .i64 m_1.f_A.e22 :: .int .i64 m_1.f_A.e23 :: .int .i64 m_1.f_A.e24 :: .int .i64 m_1.f_A.e25 :: .int .i64 m_1.f_A.e26 :: .int .i64 m_1.f_A.e27 :: .int .i64 m_1.f_A.e28 :: .int .i64 m_1.f_A.e29 :: .int .i64 m_1.f_A.e30 :: .int .i64 m_1.f_A.e31 :: .int .i64 m_1.f_A.e32 :: .int .i64 m_1.f_A.e33 :: .int .i64 m_1.f_A.e34 :: .int .i64 m_1.f_A.e35 :: []) 75 :: L) (Q7.R H0 L r)
theorem Q7.b0_ok {k : Nat} {h : Q7.Hs} (hh : Q7.OK h) {H0 H : Hp} {L : Items} {r : (List Qf) × (Option Int)} {jk_ : Nat → Value} {v_ : List Qf} {m_1 : X9} {t4 : List Qf} {t5 : Option Int} {out : List Qf} {t23 t24 : Int} {v_v_ v_t4 v_out : Value} {i_out : Item'} {b_m : Nat} (hle : H0.le H) (he : Q7.b0 k h v_ m_1 t4 t5 out t23 t24 = some r) (h_v_ : Src Xc H L v_v_ v_) (h_t4 : Ro Xc H v_t4 t4) (h_out : Sl Xc H 26 i_out v_out out) : Wp Tryz.prog 44 51 Q7.Kl0 (upd (upd (upd (upd (upd (upd (upd jk_ 1 (v_v_)) 2 (pt b_m)) 4 (v_t4)) 5 (errV 104 t5)) 6 (v_out)) 23 (.int .i64 t23)) 24 (.int .i64 t24)) H (i_out :: bx b_m (.int .i64 m_1.f_Rows :: .int .i64 m_1.f_Cols :: .int .i64 m_1.f_A.e0 :: .int .i64 m_1.f_A.e1 :: .int .i64 m_1.f_A.e2 :: .int .i64 m_1.f_A.e3 :: .int .i64 m_1.f_A.e4 :: .int .i64 m_1.f_A.e5 :: .int .i64 m_1.f_A.e6 :: .int .i64 m_1.f_A.e7 :: .int .i64 m_1.f_A.e8 :: .int .i64 m_1.f_A.e9 :: .int .i64 m_1.f_A.e10 :: .int .i64 m_1.f_A.e11 :: .int .i64 m_1.f_A.e12 :: .int .i64 m_1.f_A.e13 :: .int .i64 m_1.f_A.e14 :: .int .i64 m_1.f_A.e15 :: .int .i64 m_1.f_A.e16 :: .int .i64 m_1.f_A.e17 :: .int .i64 m_1.f_A.e18 :: .int .i64 m_1.f_A.e19 :: .int .i64 m_1.f_A.e20 :: .int .i64 m_1.f_A.e21 :: .int .i64 m_1.f_A.e22 :: .int .i64 m_1.f_A.e23 :: .int .i64 m_1.f_A.e24 :: .int .i64 m_1.f_A.e25 :: .int .i64 m_1.f_A.e26 :: .int .i64 m_1.f_A.e27 :: .int .i64 m_1.f_A.e28 :: .int .i64 m_1.f_A.e29 :: .int .i64 m_1.f_A.e30 :: .int .i64 m_1.f_A.e31 :: .int .i64 m_1.f_A.e32 :: .int .i64 m_1.f_A.e33 :: .int .i64 m_1.f_A.e34 :: .int .i64 m_1.f_A.e35 :: []) 75 :: L) (Q7.R H0 L r) := by
 unfold Q7.b0 at he
 unfold Q7.Kl0
 refine wR rfl <| w_d rfl (XW rfl rfl) <| wE ?_
 rcases its he with ⟨c12, he⟩ | ⟨c12, he⟩
 ·
  refine QD rfl (dt c12) <| QF <| QX <| Q2 <| wR rfl <| wM (.int .i64 t24) rfl rfl <| wA (.int .i64 t24) rfl rfl <| wQ rfl <| wL (.agg ⟨(.int .i64 m_1.f_Rows :: .int .i64 m_1.f_Cols :: .int .i64 m_1.f_A.e0 :: .int .i64 m_1.f_A.e1 :: .int .i64 m_1.f_A.e2 :: .int .i64 m_1.f_A.e3 :: .int .i64 m_1.f_A.e4 :: .int .i64 m_1.f_A.e5 :: .int .i64 m_1.f_A.e6 :: .int .i64 m_1.f_A.e7 :: .int .i64 m_1.f_A.e8 :: .int .i64 m_1.f_A.e9 :: .int .i64 m_1.f_A.e10 :: .int .i64 m_1.f_A.e11 :: .int .i64 m_1.f_A.e12 :: .int .i64 m_1.f_A.e13 :: .int .i64 m_1.f_A.e14 :: .int .i64 m_1.f_A.e15 :: .int .i64 m_1.f_A.e16 :: .int .i64 m_1.f_A.e17 :: .int .i64 m_1.f_A.e18 :: .int .i64 m_1.f_A.e19 :: .int .i64 m_1.f_A.e20 :: .int .i64 m_1.f_A.e21 :: .int .i64 m_1.f_A.e22 :: .int .i64 m_1.f_A.e23 :: .int .i64 m_1.f_A.e24 :: .int .i64 m_1.f_A.e25 :: .int .i64 m_1.f_A.e26 :: .int .i64 m_1.f_A.e27 :: .int .i64 m_1.f_A.e28 :: .int .i64 m_1.f_A.e29 :: .int .i64 m_1.f_A.e30 :: .int .i64 m_1.f_A.e31 :: .int .i64 m_1.f_A.e32 :: .int .i64 m_1.f_A.e33 :: .int .i64 m_1.f_A.e34 :: .int .i64 m_1.f_A.e35 :: [])⟩) ty75 rfl rfl .h1 rfl rfl ?_
  refine wM (.int .i64 t24) rfl rfl <| bK he fun y13 hy14 he => w_a rfl (Qm co92 (vs := [.agg ⟨(.int .i64 m_1.f_Rows :: .int .i64 m_1.f_Cols :: .int .i64 m_1.f_A.e0 :: .int .i64 m_1.f_A.e1 :: .int .i64 m_1.f_A.e2 :: .int .i64 m_1.f_A.e3 :: .int .i64 m_1.f_A.e4 :: .int .i64 m_1.f_A.e5 :: .int .i64 m_1.f_A.e6 :: .int .i64 m_1.f_A.e7 :: .int .i64 m_1.f_A.e8 :: .int .i64 m_1.f_A.e9 :: .int .i64 m_1.f_A.e10 :: .int .i64 m_1.f_A.e11 :: .int .i64 m_1.f_A.e12 :: .int .i64 m_1.f_A.e13 :: .int .i64 m_1.f_A.e14 :: .int .i64 m_1.f_A.e15 :: .int .i64 m_1.f_A.e16 :: .int .i64 m_1.f_A.e17 :: .int .i64 m_1.f_A.e18 :: .int .i64 m_1.f_A.e19 :: .int .i64 m_1.f_A.e20 :: .int .i64 m_1.f_A.e21 :: .int .i64 m_1.f_A.e22 :: .int .i64 m_1.f_A.e23 :: .int .i64 m_1.f_A.e24 :: .int .i64 m_1.f_A.e25 :: .int .i64 m_1.f_A.e26 :: .int .i64 m_1.f_A.e27 :: .int .i64 m_1.f_A.e28 :: .int .i64 m_1.f_A.e29 :: .int .i64 m_1.f_A.e30 :: .int .i64 m_1.f_A.e31 :: .int .i64 m_1.f_A.e32 :: .int .i64 m_1.f_A.e33 :: .int .i64 m_1.f_A.e34 :: .int .i64 m_1.f_A.e35 :: [])⟩, .int .i64 t24]) rfl (Xf.calls k (m := m_1) hy14)) ?_
  rintro _ H15 _ ⟨rfl, e16, v17, rfl, h18⟩
  refine wM (.tuple ⟨[v17, errV 104 y13.2]⟩) rfl rfl <| w_d rfl (Q5 rfl rfl) <| w_d rfl (Q5 rfl rfl) <| wA v17 rfl rfl <| wA (errV 104 y13.2) rfl rfl <| wE <| wR rfl <| wM (errV 104 y13.2) rfl rfl <| w_d rfl (Yj (e := y13.2) Tryz.underlying30 rfl) <| Qb ?_
  rcases its he with ⟨c19, he⟩ | ⟨c19, he⟩
  ·
   refine QD rfl c19 <| wR rfl <| wM (errV 104 y13.2) rfl rfl <| wA (.slice none 0 0) rfl rfl <| wA (errV 104 y13.2) rfl rfl <| Qb ?_
   obtain rfl := sj he
   refine Ql fn_44 rs_44 (.tmp (v := .slice none 0 0) rfl (.tmp (v := errV 104 y13.2) rfl .nil)) <| ⟨⟨[_, _], rfl⟩, hle.trans e16, ⟨.slice none 0 0, rfl, (Xj _ _)⟩⟩
  ·
   refine QE rfl (Bool.eq_false_iff.2 c19) <| QF <| wR rfl <| wM v17 rfl rfl <| wM v_v_ rfl rfl <| bK he fun y20 hy21 he => w_a rfl (Qm co98 (vs := [v17, v_v_]) rfl (XB.calls k hy21 h18.src ((h_v_.mono e16).th.th))) ?_
   rintro _ H22 _ ⟨rfl, e23, v24, v26, rfl, h25, h27⟩
   refine wM (.tuple ⟨[(Qc y20.1 v24 v26), errV 104 y20.2]⟩) rfl rfl <| w_d rfl (Q5 rfl rfl) <| w_d rfl (Q5 rfl rfl) <| wN zr26 rfl rfl fun b28 => wS (Qc y20.1 v24 v26) sz26 rfl rfl rfl rfl rfl (XP h25 h27) .here u4 <| wA (errV 104 y20.2) rfl rfl <| wE <| wR rfl <| wM (errV 104 y20.2) rfl rfl <| w_d rfl (Yj (e := y20.2) Tryz.underlying30 rfl) ?_
   refine Qb ?_
   rcases its he with ⟨c29, he⟩ | ⟨c29, he⟩
   ·
    refine QD rfl c29 <| wR rfl <| wM (errV 104 y20.2) rfl rfl <| wA (.slice none 0 0) rfl rfl <| wA (errV 104 y20.2) rfl rfl <| Qb ?_
    obtain rfl := sj he
    refine Ql fn_44 rs_44 (.tmp (v := .slice none 0 0) rfl (.tmp (v := errV 104 y20.2) rfl .nil)) <| ⟨⟨[_, _, _], rfl⟩, hle.trans (e16.trans e23), ⟨.slice none 0 0, rfl, (Xj _ _)⟩⟩
   ·
    refine QE rfl (Bool.eq_false_iff.2 c29) <| QF <| QL rfl <| wM v_out rfl rfl <| wL (Qc y20.1 v24 v26) ty26 rfl rfl .here rfl rfl <| w_a rfl (o_buildSlice' (kd := Xc) (css := [(Xa y20.1 v24 v26)]) (xs := [y20.1]) (parts := [(0, (Qc y20.1 v24 v26))]) Tryz.underlying81 ti26 rfl ⟨_, _, rfl, rfl, rfl⟩ ⟨(Z4 (x := y20.1) h25 h27), trivial⟩ rfl (by decide)) ?_
    rintro v30 _ _ ⟨i31, rfl, rfl, h32⟩
    refine rK he fun c33 he => w_a rfl (o_append' (kd := Xc) (F := fun z_ => i31 :: bx b28 (Xa y20.1 v24 v26) 26 :: z_ :: bx b_m (.int .i64 m_1.f_Rows :: .int .i64 m_1.f_Cols :: .int .i64 m_1.f_A.e0 :: .int .i64 m_1.f_A.e1 :: .int .i64 m_1.f_A.e2 :: .int .i64 m_1.f_A.e3 :: .int .i64 m_1.f_A.e4 :: .int .i64 m_1.f_A.e5 :: .int .i64 m_1.f_A.e6 :: .int .i64 m_1.f_A.e7 :: .int .i64 m_1.f_A.e8 :: .int .i64 m_1.f_A.e9 :: .int .i64 m_1.f_A.e10 :: .int .i64 m_1.f_A.e11 :: .int .i64 m_1.f_A.e12 :: .int .i64 m_1.f_A.e13 :: .int .i64 m_1.f_A.e14 :: .int .i64 m_1.f_A.e15 :: .int .i64 m_1.f_A.e16 :: .int .i64 m_1.f_A.e17 :: .int .i64 m_1.f_A.e18 :: .int .i64 m_1.f_A.e19 :: .int .i64 m_1.f_A.e20 :: .int .i64 m_1.f_A.e21 :: .int .i64 m_1.f_A.e22 :: .int .i64 m_1.f_A.e23 :: .int .i64 m_1.f_A.e24 :: .int .i64 m_1.f_A.e25 :: .int .i64 m_1.f_A.e26 :: .int .i64 m_1.f_A.e27 :: .int .i64 m_1.f_A.e28 :: .int .i64 m_1.f_A.e29 :: .int .i64 m_1.f_A.e30 :: .int .i64 m_1.f_A.e31 :: .int .i64 m_1.f_A.e32 :: .int .i64 m_1.f_A.e33 :: .int .i64 m_1.f_A.e34 :: .int .i64 m_1.f_A.e35 :: []) 75 :: L) Tryz.underlying81 Tryz.underlying81 ti26 rfl (by first | omega | (simp only [List.nil_append, List.length_cons, List.length_nil]; omega)) rfl rfl (h_out.mono (e16.trans e23)) (h32.src .here) (fun _ => .h2)) ?_
    rintro v34 _ _ ⟨i35, rfl, rfl, h36⟩
    refine wA v34 rfl rfl <| Qb <| Xw <| QL rfl <| w_d rfl (XQ (c := w64 (t24 + 1)) rfl rfl rfl) <| wM (.int .i64 (w64 (t24 + 1))) rfl rfl <| Qb <| XG <| Yu .h1 <| Yu .here <| w_sl 1 (v_v_) rfl <| w_sl 2 (pt b_m) rfl ?_
    refine w_sl 4 (v_t4) rfl <| w_sl 5 (errV 104 t5) rfl <| w_sl 6 (v34) rfl <| w_sl 23 (.int .i64 t23) rfl <| w_sl 24 (.int .i64 (w64 (t24 + 1))) rfl <| hh.l0 (hle.trans (e16.trans e23)) he (h_v_.mono (e16.trans e23)) (h_t4.mono (e16.trans e23)) h36
 ·
  refine QE rfl (df c12) <| X3 rfl <| wR rfl <| wM v_out rfl rfl <| wA v_out rfl rfl <| wA (errV 104 none) rfl rfl <| Qb <| Yx h_out .here ?_
  intro H37 e38 h39
  obtain rfl := sj he
  refine Ql fn_44 rs_44 (.tmp (v := v_out) rfl (.tmp (v := errV 104 none) rfl .nil)) <| ⟨⟨[_, _], rfl⟩, hle.trans e38, ⟨v_out, rfl, h39⟩⟩
theorem Q7.ok : ∀ k, Q7.OK (Q7.hs k)
 | 0 => ⟨(by intros; exact nomatch (show none = some _ from by assumption))⟩
 | k + 1 => ⟨Q7.b0_ok (k := k) (Q7.ok k)⟩
theorem Q7.calls (k : Nat) {H : Hp} {L : Items} {m : X9} {v_ : List Qf} {v0_v_ : Value} {r : (List Qf) × (Option Int)} (he : Q7.f k m v_ = some r) (h0_v_ : Src Xc H L v0_v_ v_) : Ct Tryz.prog 44 ⟨[.agg ⟨(.int .i64 m.f_Rows :: .int .i64 m.f_Cols :: .int .i64 m.f_A.e0 :: .int .i64 m.f_A.e1 :: .int .i64 m.f_A.e2 :: .int .i64 m.f_A.e3 :: .int .i64 m.f_A.e4 :: .int .i64 m.f_A.e5 :: .int .i64 m.f_A.e6 :: .int .i64 m.f_A.e7 :: .int .i64 m.f_A.e8 :: .int .i64 m.f_A.e9 :: .int .i64 m.f_A.e10 :: .int .i64 m.f_A.e11 :: .int .i64 m.f_A.e12 :: .int .i64 m.f_A.e13 :: .int .i64 m.f_A.e14 :: .int .i64 m.f_A.e15 :: .int .i64 m.f_A.e16 :: .int .i64 m.f_A.e17 :: .int .i64 m.f_A.e18 :: .int .i64 m.f_A.e19 :: .int .i64 m.f_A.e20 :: .int .i64 m.f_A.e21 :: .int .i64 m.f_A.e22 :: .int .i64 m.f_A.e23 :: .int .i64 m.f_A.e24 :: .int .i64 m.f_A.e25 :: .int .i64 m.f_A.e26 :: .int .i64 m.f_A.e27 :: .int .i64 m.f_A.e28 :: .int .i64 m.f_A.e29 :: .int .i64 m.f_A.e30 :: .int .i64 m.f_A.e31 :: .int .i64 m.f_A.e32 :: .int .i64 m.f_A.e33 :: .int .i64 m.f_A.e34 :: .int .i64 m.f_A.e35 :: [])⟩, v0_v_]⟩ H L (cR H L (Q7.out r)) := by
 refine XN (O := Q7.out r) ?_
 have hle : H.le H := .refl _
 have hh := Q7.ok k
 unfold Q7.f at he
 refine QV (args := [_, _]) fn_44 rfl nt_44 rfl <| wR rfl <| wB (.agg ⟨(.int .i64 m.f_Rows :: .int .i64 m.f_Cols :: .int .i64 m.f_A.e0 :: .int .i64 m.f_A.e1 :: .int .i64 m.f_A.e2 :: .int .i64 m.f_A.e3 :: .int .i64 m.f_A.e4 :: .int .i64 m.f_A.e5 :: .int .i64 m.f_A.e6 :: .int .i64 m.f_A.e7 :: .int .i64 m.f_A.e8 :: .int .i64 m.f_A.e9 :: .int .i64 m.f_A.e10 :: .int .i64 m.f_A.e11 :: .int .i64 m.f_A.e12 :: .int .i64 m.f_A.e13 :: .int .i64 m.f_A.e14 :: .int .i64 m.f_A.e15 :: .int .i64 m.f_A.e16 :: .int .i64 m.f_A.e17 :: .int .i64 m.f_A.e18 :: .int .i64 m.f_A.e19 :: .int .i64 m.f_A.e20 :: .int .i64 m.f_A.e21 :: .int .i64 m.f_A.e22 :: .int .i64 m.f_A.e23 :: .int .i64 m.f_A.e24 :: .int .i64 m.f_A.e25 :: .int .i64 m.f_A.e26 :: .int .i64 m.f_A.e27 :: .int .i64 m.f_A.e28 :: .int .i64 m.f_A.e29 :: .int .i64 m.f_A.e30 :: .int .i64 m.f_A.e31 :: .int .i64 m.f_A.e32 :: .int .i64 m.f_A.e33 :: .int .i64 m.f_A.e34 :: .int .i64 m.f_A.e35 :: [])⟩) rfl rfl rfl <| fun b1 => wA (.slice none 0 0) rfl rfl <| wA (errV 104 none) rfl rfl <| wE <| wR rfl <| wL (.agg ⟨(.int .i64 m.f_Rows :: .int .i64 m.f_Cols :: .int .i64 m.f_A.e0 :: .int .i64 m.f_A.e1 :: .int .i64 m.f_A.e2 :: .int .i64 m.f_A.e3 :: .int .i64 m.f_A.e4 :: .int .i64 m.f_A.e5 :: .int .i64 m.f_A.e6 :: .int .i64 m.f_A.e7 :: .int .i64 m.f_A.e8 :: .int .i64 m.f_A.e9 :: .int .i64 m.f_A.e10 :: .int .i64 m.f_A.e11 :: .int .i64 m.f_A.e12 :: .int .i64 m.f_A.e13 :: .int .i64 m.f_A.e14 :: .int .i64 m.f_A.e15 :: .int .i64 m.f_A.e16 :: .int .i64 m.f_A.e17 :: .int .i64 m.f_A.e18 :: .int .i64 m.f_A.e19 :: .int .i64 m.f_A.e20 :: .int .i64 m.f_A.e21 :: .int .i64 m.f_A.e22 :: .int .i64 m.f_A.e23 :: .int .i64 m.f_A.e24 :: .int .i64 m.f_A.e25 :: .int .i64 m.f_A.e26 :: .int .i64 m.f_A.e27 :: .int .i64 m.f_A.e28 :: .int .i64 m.f_A.e29 :: .int .i64 m.f_A.e30 :: .int .i64 m.f_A.e31 :: .int .i64 m.f_A.e32 :: .int .i64 m.f_A.e33 :: .int .i64 m.f_A.e34 :: .int .i64 m.f_A.e35 :: [])⟩) ty75 rfl rfl .here rfl rfl <| bK he fun y2 hy3 he => ?_
 refine w_d rfl (Xx (Qm co91 (vs := [.agg ⟨(.int .i64 m.f_Rows :: .int .i64 m.f_Cols :: .int .i64 m.f_A.e0 :: .int .i64 m.f_A.e1 :: .int .i64 m.f_A.e2 :: .int .i64 m.f_A.e3 :: .int .i64 m.f_A.e4 :: .int .i64 m.f_A.e5 :: .int .i64 m.f_A.e6 :: .int .i64 m.f_A.e7 :: .int .i64 m.f_A.e8 :: .int .i64 m.f_A.e9 :: .int .i64 m.f_A.e10 :: .int .i64 m.f_A.e11 :: .int .i64 m.f_A.e12 :: .int .i64 m.f_A.e13 :: .int .i64 m.f_A.e14 :: .int .i64 m.f_A.e15 :: .int .i64 m.f_A.e16 :: .int .i64 m.f_A.e17 :: .int .i64 m.f_A.e18 :: .int .i64 m.f_A.e19 :: .int .i64 m.f_A.e20 :: .int .i64 m.f_A.e21 :: .int .i64 m.f_A.e22 :: .int .i64 m.f_A.e23 :: .int .i64 m.f_A.e24 :: .int .i64 m.f_A.e25 :: .int .i64 m.f_A.e26 :: .int .i64 m.f_A.e27 :: .int .i64 m.f_A.e28 :: .int .i64 m.f_A.e29 :: .int .i64 m.f_A.e30 :: .int .i64 m.f_A.e31 :: .int .i64 m.f_A.e32 :: .int .i64 m.f_A.e33 :: .int .i64 m.f_A.e34 :: .int .i64 m.f_A.e35 :: [])⟩]) rfl (Xd.calls k (m := m) hy3))) <| w_d rfl (Yj (e := y2) Tryz.underlying30 rfl) <| wM (.bool y2.isSome) rfl rfl <| w_g (g := !y2.isSome) rfl rfl rfl wn_f (fun g6 => QT (v := v0_v_) rfl) <| w_g (g := !y2.isSome) rfl rfl rfl wn_f (fun g7 => Xo Tryz.underlying81 (cvt g7) h0_v_.th) <| w_g (g := !y2.isSome) rfl rfl rfl wn_f (fun g8 => Xi (o' := 1) Tryz.underlying75 rfl sz3 rfl rfl rfl) <| w_g (g := !y2.isSome) rfl rfl rfl wn_f (fun g9 => QN (v := .int .i64 m.f_Cols) ty3 (cvt g9) .here rfl rfl rfl rfl) <| w_g (g := !y2.isSome) rfl rfl rfl wn_f (fun g10 => Zl (cvt g10) (cvt g10)) <| w_d rfl (d_or' (b := y2.isSome) (p := (!decide ((v_.length : Int) = m.f_Cols))) rfl rfl rfl) <| Qb ?_
 rcases its he with ⟨c11, he⟩ | ⟨c11, he⟩
 ·
  refine QD rfl c11 <| wR rfl <| w_d rfl (Zf (v := .int .i64 1) Tryz.underlying104 rfl rfl) <| wA (.slice none 0 0) rfl rfl <| wA (errV 104 (some 1)) rfl rfl <| Qb ?_
  obtain rfl := sj he
  refine Ql fn_44 rs_44 (.tmp (v := .slice none 0 0) rfl (.tmp (v := errV 104 (some 1)) rfl .nil)) <| ⟨⟨[_], rfl⟩, hle, ⟨.slice none 0 0, rfl, (Xj _ _)⟩⟩
 ·
  refine QE rfl (Bool.eq_false_iff.2 c11) <| QF <| wR rfl <| wA (.slice none 0 0) rfl rfl <| wE <| wR rfl <| w_d rfl (Xi (o' := 0) Tryz.underlying75 rfl sz3 rfl rfl rfl) <| wL (.int .i64 m.f_Rows) ty3 rfl rfl .here rfl rfl <| wM (.int .i64 0) rfl rfl ?_
  refine Qb <| Q2 <| X5 <| YG <| w_sl 1 (v0_v_) rfl <| w_sl 2 (pt b1) rfl <| w_sl 4 (.slice none 0 0) rfl <| w_sl 5 (errV 104 none) rfl <| w_sl 6 (.slice none 0 0) rfl <| w_sl 23 (.int .i64 m.f_Rows) rfl <| w_sl 24 (.int .i64 0) rfl <| hh.l0 hle he h0_v_ (Xj _ _) (ZW _ _ _)
noncomputable def Q0.C : Code := (Tryz.f47.body).getD .skip
def Q0.out (r : Bool) (H : Hp) (v : Value) : Prop := v = .bool r
abbrev Q0.R (H0 : Hp) (L : Items) (r : Bool) := fR H0 L (Q0.out r)
structure Q0.Hs where
 l0 : (List (List Int)) → Bool → Int → Option Bool
noncomputable def Q0.b0 (k : Nat) (h : Q0.Hs) (m : List (List Int)) (t2 : Bool) (i : Int) : Option Bool := if i < (m.length : Int) then (if (0 : Int) ≤ i ∧ i < (m.length : Int) then (if (0 : Int) ≤ 0 ∧ 0 < (m.length : Int) then (if ((rd m i).length : Int) = ((rd m 0).length : Int) then (h.l0 m t2 (w64 (i + 1))) else (some (false))) else none) else none) else (some (true))
noncomputable def Q0.hs : Nat → Q0.Hs
 | 0 => ⟨fun _ _ _ => none⟩
 | k + 1 => ⟨fun x0 x1 x2 => Q0.b0 k (Q0.hs k) x0 x1 x2⟩
noncomputable def Q0.f (k : Nat) (m : List (List Int)) : Option Bool := (fun h : Q0.Hs => if (!((decide ((m.length : Int) < 1)) || (decide (6 < (m.length : Int))))) = true → (0 : Int) ≤ 0 ∧ 0 < (m.length : Int) then (if (!(((decide ((m.length : Int) < 1)) || (decide (6 < (m.length : Int)))) || (decide (((rd m 0).length : Int) < 1)))) = true → (0 : Int) ≤ 0 ∧ 0 < (m.length : Int) then (if ((((decide ((m.length : Int) < 1)) || (decide (6 < (m.length : Int)))) || (decide (((rd m 0).length : Int) < 1))) || (decide (6 < ((rd m 0).length : Int)))) = true then (some (false)) else (h.l0 m false 0)) else none) else none) (Q0.hs k)
noncomputable def Q0.Kl0 : List Item := .code (lopB (blkB (seqR (seqL (seqR (seqR Q0.C)))))) :: .inLoop (lopB (blkB (seqR (seqL (seqR (seqR Q0.C)))))) :: .inBlock 0 :: .code (seqR (seqR (seqR Q0.C))) :: []
structure Q0.OK (h : Q0.Hs) : Prop where
 l0 : ∀ {H0 H : Hp} {L : Items} {r : Bool} {jk_ : Nat → Value} {m : List (List Int)} {t2 : Bool} {i : Int} {v_m : Value} (_ : H0.le H) (_he : h.l0 m t2 i = some r) (_h_m : Src (Kd.slice kI64) H L v_m m), Wp Tryz.prog 47 42 Q0.Kl0 (upd (upd (upd jk_ 0 (v_m)) 2 (.bool t2)) 3 (.int .i64 i)) H (L) (Q0.R H0 L r)
theorem Q0.b0_ok {k : Nat} {h : Q0.Hs} (hh : Q0.OK h) {H0 H : Hp} {L : Items} {r : Bool} {jk_ : Nat → Value} {m : List (List Int)} {t2 : Bool} {i : Int} {v_m : Value} (hle : H0.le H) (he : Q0.b0 k h m t2 i = some r) (h_m : Src (Kd.slice kI64) H L v_m m) : Wp Tryz.prog 47 42 Q0.Kl0 (upd (upd (upd jk_ 0 (v_m)) 2 (.bool t2)) 3 (.int .i64 i)) H (L) (Q0.R H0 L r) := by
 unfold Q0.b0 at he
 unfold Q0.Kl0
 refine QX <| wR rfl <| wM (.int .i64 i) rfl rfl <| wM v_m rfl rfl <| w_d rfl (Xo Tryz.underlying71 rfl h_m) <| w_d rfl (XW rfl rfl) <| Qb ?_
 rcases its he with ⟨c23, he⟩ | ⟨c23, he⟩
 ·
  refine QD rfl (dt c23) <| QF <| QX <| Q2 <| QX <| rK he fun c24 he => ?_
  obtain ⟨_, l25, r26⟩ := Zp (kd := (Kd.slice kI64)) h_m c24
  obtain ⟨v27, rfl, h28⟩ := r26
  refine rK he fun c29 he => ?_
  obtain ⟨_, l30, r31⟩ := Zp (kd := (Kd.slice kI64)) h_m c29
  obtain ⟨v32, rfl, h33⟩ := r31
  refine XC (p := 9) (tl := [9]) [[], [], [(0, some 32), (1, some 33)], [(2, some 34)], [(3, some 35)], [], [(5, some 37)], [(6, some 38)], [(7, some 39)]] [some 32, some 33, some 34, some 35, some 36, some 37, some 38, some 39, some 40] (fctF (.is (v_m) :: .is (.int .i64 i) :: .is (.pointer (some (pel v_m i 1))) :: .is (v27) :: .is (.int .i64 ((rd m i).length : Int)) :: .is (v_m) :: .is (.pointer (some (pel v_m 0 1))) :: .is (v32) :: .is (.int .i64 ((rd m 0).length : Int)) :: [])) (fun m_ => L) (fun _ => none) mixed (by kernel_rfl) (by kernel_rfl) rfl (Xq (by kernel_rfl)) ⟨(fun H' m_ hH hm_ hu_ => dn <| s_d (m_ 0) rfl (QT (v := v_m) rfl) (by exact rfl) rfl), (fun H' m_ hH hm_ hu_ => dn <| s_d (m_ 1) rfl (QT (v := .int .i64 i) rfl) (by exact rfl) rfl), (by rintro H' m_ hH hm_ hu_ _ rfl _ rfl; exact dn <| s_d (m_ 2) rfl (XA (sz := 1) Tryz.underlying71 sz72 rfl (h_m.mono hH) rfl c24) (by exact rfl) rfl), (by rintro H' m_ hH hm_ hu_ _ rfl; exact dn <| s_d (m_ 3) rfl (YU (v := v27) (cs := [v27]) ty72 rfl rfl (by decide) (l25.mono hH) rfl) (by exact rfl) rfl), (by rintro H' m_ hH hm_ hu_ _ rfl; exact dn <| s_d (m_ 4) rfl (Xo Tryz.underlying72 rfl (h28.mono hH).src) (by exact rfl) rfl), (fun H' m_ hH hm_ hu_ => dn <| s_d (m_ 5) rfl (QT (v := v_m) rfl) (by exact rfl) rfl), (by rintro H' m_ hH hm_ hu_ _ rfl; exact dn <| s_d (m_ 6) rfl (XA (sz := 1) Tryz.underlying71 sz72 rfl (h_m.mono hH) rfl c29) (by exact rfl) rfl), (by rintro H' m_ hH hm_ hu_ _ rfl; exact dn <| s_d (m_ 7) rfl (YU (v := v32) (cs := [v32]) ty72 rfl rfl (by decide) (l30.mono hH) rfl) (by exact rfl) rfl), (by rintro H' m_ hH hm_ hu_ _ rfl; exact dn <| s_d (m_ 8) rfl (Xo Tryz.underlying72 rfl (h33.mono hH).src) (by exact rfl) rfl), trivial⟩ ?_
  intro H34 e35
  rintro _ _ rfl _ _ rfl _ _ rfl _ _ rfl _ _ rfl _ _ rfl _ _ rfl _ _ rfl _ _ rfl
  refine w_d rfl (Zl rfl rfl) <| Qb ?_
  rcases its he with ⟨c36, he⟩ | ⟨c36, he⟩
  ·
   refine QE rfl (nd_t c36) <| QF <| Xw <| QL rfl <| wM (.int .i64 i) rfl rfl <| w_d rfl (XQ (c := w64 (i + 1)) rfl rfl rfl) <| wA (.int .i64 (w64 (i + 1))) rfl rfl <| Qb <| XG <| w_sl 0 (v_m) rfl <| w_sl 2 (.bool t2) rfl <| w_sl 3 (.int .i64 (w64 (i + 1))) rfl <| hh.l0 (hle.trans e35) he (h_m.mono e35)
  ·
   refine QD rfl (nd_f c36) <| wR rfl <| wA (.bool false) rfl rfl <| Qb ?_
   obtain rfl := sj he
   refine Ql fn_47 rs_47 (.tmp (v := .bool false) rfl .nil) <| ⟨⟨[], rfl⟩, hle.trans e35, rfl⟩
 ·
  refine QE rfl (df c23) <| X3 rfl <| wR rfl <| wA (.bool true) rfl rfl <| Qb ?_
  obtain rfl := sj he
  refine Ql fn_47 rs_47 (.tmp (v := .bool true) rfl .nil) <| ⟨⟨[], rfl⟩, hle, rfl⟩
theorem Q0.ok : ∀ k, Q0.OK (Q0.hs k)
 | 0 => ⟨(by intros; exact nomatch (show none = some _ from by assumption))⟩
 | k + 1 => ⟨Q0.b0_ok (k := k) (Q0.ok k)⟩
theorem Q0.calls (k : Nat) {H : Hp} {L : Items} {m : List (List Int)} {v0_m : Value} {r : Bool} (he : Q0.f k m = some r) (h0_m : Src (Kd.slice kI64) H L v0_m m) : Ct Tryz.prog 47 ⟨[v0_m]⟩ H L (fun v H' L' => L = L' ∧ H = H' ∧ v = .bool r) := by
 refine Yp (O := Q0.out r) (fun _ _ h => h) ?_
 have hle : H.le H := .refl _
 have hh := Q0.ok k
 unfold Q0.f at he
 refine QV (args := [_]) fn_47 rfl nt_47 rfl <| wR rfl <| wA (.bool false) rfl rfl <| wE <| wR rfl <| wM v0_m rfl rfl <| w_d rfl (Xo Tryz.underlying71 rfl h0_m) <| w_d rfl (XW rfl rfl) <| wM (.bool (decide ((m.length : Int) < 1))) rfl rfl ?_
 refine w_g (g := !(decide ((m.length : Int) < 1))) rfl rfl rfl wn_f (fun g1 => QT (v := v0_m) rfl) <| w_g (g := !(decide ((m.length : Int) < 1))) rfl rfl rfl wn_f (fun g2 => Xo Tryz.underlying71 (cvt g2) h0_m) <| w_g (g := !(decide ((m.length : Int) < 1))) rfl rfl rfl wn_f (fun g3 => YV (cvt g3) rfl) <| w_d rfl (d_or' (b := (decide ((m.length : Int) < 1))) (p := (decide (6 < (m.length : Int)))) rfl rfl rfl) <| wM (.bool ((decide ((m.length : Int) < 1)) || (decide (6 < (m.length : Int))))) rfl rfl <| w_g (g := !((decide ((m.length : Int) < 1)) || (decide (6 < (m.length : Int))))) rfl rfl rfl wn_f (fun g4 => QT (v := v0_m) rfl) <| rK he fun c6 he => w_g (g := !((decide ((m.length : Int) < 1)) || (decide (6 < (m.length : Int))))) rfl rfl rfl wn_f (fun g5 => XA (sz := 1) Tryz.underlying71 sz72 (cvt g5) h0_m rfl (c6 g5)) ?_
 obtain ⟨v9, l8, h10⟩ : ∃ v9 : Value, ((!((decide ((m.length : Int) < 1)) || (decide (6 < (m.length : Int))))) = true → Lies H L (pel v0_m 0 1) [v9]) ∧ ((!((decide ((m.length : Int) < 1)) || (decide (6 < (m.length : Int))))) = true → Ro kI64 H v9 (rd m 0)) := if g_ : (!((decide ((m.length : Int) < 1)) || (decide (6 < (m.length : Int))))) = true then (by obtain ⟨_, l_, r_⟩ := Zp (kd := (Kd.slice kI64)) h0_m (c6 g_); obtain ⟨v9, rfl, h10⟩ := r_; exact ⟨v9, fun _ => l_, fun _ => h10⟩) else ⟨undef, fun h_ => absurd h_ g_, fun h_ => absurd h_ g_⟩
 refine w_g (g := !((decide ((m.length : Int) < 1)) || (decide (6 < (m.length : Int))))) rfl rfl rfl wn_f (fun g7 => YU (v := v9) (cs := [v9]) ty72 (cvt g7) rfl (by decide) ((l8 g7)) rfl) <| w_g (g := !((decide ((m.length : Int) < 1)) || (decide (6 < (m.length : Int))))) rfl rfl rfl wn_f (fun g11 => Xo Tryz.underlying72 (cvt g11) (h10 g11).src) <| w_g (g := !((decide ((m.length : Int) < 1)) || (decide (6 < (m.length : Int))))) rfl rfl rfl wn_f (fun g12 => XW (cvt g12) rfl) <| w_d rfl (d_or' (b := ((decide ((m.length : Int) < 1)) || (decide (6 < (m.length : Int))))) (p := (decide (((rd m 0).length : Int) < 1))) rfl rfl rfl) <| wM (.bool (((decide ((m.length : Int) < 1)) || (decide (6 < (m.length : Int)))) || (decide (((rd m 0).length : Int) < 1)))) rfl rfl <| w_g (g := !(((decide ((m.length : Int) < 1)) || (decide (6 < (m.length : Int)))) || (decide (((rd m 0).length : Int) < 1)))) rfl rfl rfl wn_f (fun g13 => QT (v := v0_m) rfl) <| rK he fun c15 he => w_g (g := !(((decide ((m.length : Int) < 1)) || (decide (6 < (m.length : Int)))) || (decide (((rd m 0).length : Int) < 1)))) rfl rfl rfl wn_f (fun g14 => XA (sz := 1) Tryz.underlying71 sz72 (cvt g14) h0_m rfl (c15 g14)) ?_
 obtain ⟨v18, l17, h19⟩ : ∃ v18 : Value, ((!(((decide ((m.length : Int) < 1)) || (decide (6 < (m.length : Int)))) || (decide (((rd m 0).length : Int) < 1)))) = true → Lies H L (pel v0_m 0 1) [v18]) ∧ ((!(((decide ((m.length : Int) < 1)) || (decide (6 < (m.length : Int)))) || (decide (((rd m 0).length : Int) < 1)))) = true → Ro kI64 H v18 (rd m 0)) := if g_ : (!(((decide ((m.length : Int) < 1)) || (decide (6 < (m.length : Int)))) || (decide (((rd m 0).length : Int) < 1)))) = true then (by obtain ⟨_, l_, r_⟩ := Zp (kd := (Kd.slice kI64)) h0_m (c15 g_); obtain ⟨v18, rfl, h19⟩ := r_; exact ⟨v18, fun _ => l_, fun _ => h19⟩) else ⟨undef, fun h_ => absurd h_ g_, fun h_ => absurd h_ g_⟩
 refine w_g (g := !(((decide ((m.length : Int) < 1)) || (decide (6 < (m.length : Int)))) || (decide (((rd m 0).length : Int) < 1)))) rfl rfl rfl wn_f (fun g16 => YU (v := v18) (cs := [v18]) ty72 (cvt g16) rfl (by decide) ((l17 g16)) rfl) <| w_g (g := !(((decide ((m.length : Int) < 1)) || (decide (6 < (m.length : Int)))) || (decide (((rd m 0).length : Int) < 1)))) rfl rfl rfl wn_f (fun g20 => Xo Tryz.underlying72 (cvt g20) (h19 g20).src) <| w_g (g := !(((decide ((m.length : Int) < 1)) || (decide (6 < (m.length : Int)))) || (decide (((rd m 0).length : Int) < 1)))) rfl rfl rfl wn_f (fun g21 => YV (cvt g21) rfl) <| w_d rfl (d_or' (b := (((decide ((m.length : Int) < 1)) || (decide (6 < (m.length : Int)))) || (decide (((rd m 0).length : Int) < 1)))) (p := (decide (6 < ((rd m 0).length : Int)))) rfl rfl rfl) <| Qb ?_
 rcases its he with ⟨c22, he⟩ | ⟨c22, he⟩
 ·
  refine QD rfl c22 <| wR rfl <| wA (.bool false) rfl rfl <| Qb ?_
  obtain rfl := sj he
  refine Ql fn_47 rs_47 (.tmp (v := .bool false) rfl .nil) <| ⟨⟨[], rfl⟩, hle, rfl⟩
 ·
  refine QE rfl (Bool.eq_false_iff.2 c22) <| QF <| QX <| wR rfl <| wA (.int .i64 0) rfl rfl <| Qb <| Q2 <| X5 <| w_sl 0 (v0_m) rfl <| w_sl 2 (.bool false) rfl <| w_sl 3 (.int .i64 0) rfl <| hh.l0 hle he h0_m
noncomputable def Qk.C : Code := (Tryz.f131.body).getD .skip
def Qk.out (r : (List Int)) (H : Hp) (v : Value) : Prop := v = .tuple ⟨[]⟩
abbrev Qk.R (vr_ : Value) (H0 : Hp) (L : Items) (r : (List Int)) : Value → Hp → Items → Prop := fun v H' L' => (∃ p it', L' = p ++ it' :: L ∧ Sl kU8 H' 5 it' vr_ r) ∧ H0.le H' ∧ v = .tuple ⟨[]⟩
structure Qk.Hs where
 l0 : (List Int) → Int → Int → Option (List Int)
noncomputable def Qk.b0 (k : Nat) (h : Qk.Hs) (s : List Int) (i j_ : Int) : Option (List Int) := if i < j_ then (if (0 : Int) ≤ j_ ∧ j_ < (s.length : Int) then (if (0 : Int) ≤ i ∧ i < (s.length : Int) then (if (0 : Int) ≤ i ∧ i < (s.length : Int) then (if (0 : Int) ≤ j_ ∧ j_ < ((s.set (i : Int).toNat (rd s j_)).length : Int) then (h.l0 ((s.set (i : Int).toNat (rd s j_)).set (j_ : Int).toNat (rd s i)) (w64 (i + 1)) (w64 (j_ - 1))) else none) else none) else none) else none) else (some (s))
noncomputable def Qk.hs : Nat → Qk.Hs
 | 0 => ⟨fun _ _ _ => none⟩
 | k + 1 => ⟨fun x0 x1 x2 => Qk.b0 k (Qk.hs k) x0 x1 x2⟩
noncomputable def Qk.f (k : Nat) (s : List Int) : Option (List Int) := (fun h : Qk.Hs => h.l0 s 0 (w64 ((s.length : Int) - 1))) (Qk.hs k)
structure Qk.LE (h h' : Qk.Hs) : Prop where
 l0 : ∀ y0 y1 y2, LeO (h.l0 y0 y1 y2) (h'.l0 y0 y1 y2)
theorem Qk.b0_mono {k : Nat} {h h' : Qk.Hs} (hl : Qk.LE h h') : ∀ y0 y1 y2, LeO (Qk.b0 k h y0 y1 y2) (Qk.b0 (k + 1) h' y0 y1 y2) := fun _ _ _ => (LeO.ite (LeO.ite (LeO.ite (LeO.ite (LeO.ite (hl.l0 _ _ _) (LeO.refl _)) (LeO.refl _)) (LeO.refl _)) (LeO.refl _)) (LeO.refl _))
theorem Qk.hs_mono : ∀ k, Qk.LE (Qk.hs k) (Qk.hs (k + 1))
 | 0 => ⟨fun _ _ _ => LeO.none _⟩
 | k + 1 => ⟨Qk.b0_mono (k := k) (Qk.hs_mono k)⟩
theorem Qk.mono : ∀ k y0, LeO (Qk.f k y0) (Qk.f (k + 1) y0) := fun k _ => have hl := Qk.hs_mono k; by unfold Qk.f; exact (hl.l0 _ _ _)
noncomputable def Qk.Kl0 : List Item := .code (lopB (blkB (seqR Qk.C))) :: .inLoop (lopB (blkB (seqR Qk.C))) :: .inBlock 0 :: []
structure Qk.OK (h : Qk.Hs) : Prop where
 l0 : ∀ {H0 H : Hp} {L : Items} {r : (List Int)} {jk_ : Nat → Value} {s : List Int} {i : Int} {j_ : Int} {vr_ : Value} {i_s : Item'} (_ : H0.le H) (_he : h.l0 s i j_ = some r) (_h_s : Sl kU8 H 5 i_s vr_ s), Wp Tryz.prog 131 28 Qk.Kl0 (upd (upd (upd jk_ 0 (vr_)) 2 (.int .i64 i)) 3 (.int .i64 j_)) H (i_s :: L) (Qk.R vr_ H0 L r)
theorem Qk.b0_ok {k : Nat} {h : Qk.Hs} (hh : Qk.OK h) {H0 H : Hp} {L : Items} {r : (List Int)} {jk_ : Nat → Value} {s : List Int} {i j_ : Int} {vr_ : Value} {i_s : Item'} (hle : H0.le H) (he : Qk.b0 k h s i j_ = some r) (h_s : Sl kU8 H 5 i_s vr_ s) : Wp Tryz.prog 131 28 Qk.Kl0 (upd (upd (upd jk_ 0 (vr_)) 2 (.int .i64 i)) 3 (.int .i64 j_)) H (i_s :: L) (Qk.R vr_ H0 L r) := by
 unfold Qk.b0 at he
 unfold Qk.Kl0
 refine QX <| wR rfl <| wM (.int .i64 i) rfl rfl <| wM (.int .i64 j_) rfl rfl <| w_d rfl (XW rfl rfl) <| Qb ?_
 rcases its he with ⟨c1, he⟩ | ⟨c1, he⟩
 ·
  refine QD rfl (dt c1) <| QF <| QX <| Q2 <| rK he fun c2 he => rK he fun c3 he => rK he fun c4 he => XC (p := 14) (tl := [14, 15]) [[], [], [], [], [], [], [(4, some 18), (5, some 19)], [(6, some 20)], [], [], [(8, some 22), (9, some 23)], [(10, some 24)], [(0, some 14), (1, some 15)], [(7, some 21), (12, some 26)]] [some 14, some 15, some 16, some 17, some 18, some 19, some 20, some 21, some 22, some 23, some 24, some 25, some 26, none] (fctF (.is (vr_) :: .is (.int .i64 i) :: .is (vr_) :: .is (.int .i64 j_) :: .is (vr_) :: .is (.int .i64 j_) :: .is (.pointer (some (pel vr_ j_ 1))) :: .is (.int .u8 (rd s j_)) :: .is (vr_) :: .is (.int .i64 i) :: .is (.pointer (some (pel vr_ i 1))) :: .is (.int .u8 (rd s i)) :: .is (.pointer (some (pel vr_ i 1))) :: .itm (fun H it_ => Sl kU8 H 5 it_ vr_ (s.set (i : Int).toNat (rd s j_))) (fun hle_ h_ => h_.mono hle_) :: [])) (fun m_ => m_ 13 :: L) (fun i_ => if i_ = 13 then i_s else none) mixed (by kernel_rfl) (by kernel_rfl) rfl (Xq (by kernel_rfl)) ⟨(fun H' m_ hH hm_ hu_ => dn <| s_d (m_ 0) rfl (QT (v := vr_) rfl) (by exact rfl) rfl), (fun H' m_ hH hm_ hu_ => dn <| s_d (m_ 1) rfl (QT (v := .int .i64 i) rfl) (by exact rfl) rfl), (fun H' m_ hH hm_ hu_ => dn <| s_d (m_ 2) rfl (QT (v := vr_) rfl) (by exact rfl) rfl), (fun H' m_ hH hm_ hu_ => dn <| s_d (m_ 3) rfl (QT (v := .int .i64 j_) rfl) (by exact rfl) rfl), (fun H' m_ hH hm_ hu_ => dn <| s_d (m_ 4) rfl (QT (v := vr_) rfl) (by exact rfl) rfl), (fun H' m_ hH hm_ hu_ => dn <| s_d (m_ 5) rfl (QT (v := .int .i64 j_) rfl) (by exact rfl) rfl), (by rintro H' m_ hH hm_ hu_ _ rfl _ rfl; exact dn <| s_d (m_ 6) rfl (YM (sz := 1) Tryz.underlying52 sz5 rfl (h_s.mono hH).shp rfl c2) (by exact rfl) rfl), (by rintro H' m_ hH hm_ hu_ _ rfl; exact dn <| s_d (m_ 7) rfl (XR ty5 rfl ((h_s.mono hH).src (UH (hu_ 13 (by kernel_rfl)))) c2) (by exact rfl) rfl), (fun H' m_ hH hm_ hu_ => dn <| s_d (m_ 8) rfl (QT (v := vr_) rfl) (by exact rfl) rfl), (fun H' m_ hH hm_ hu_ => dn <| s_d (m_ 9) rfl (QT (v := .int .i64 i) rfl) (by exact rfl) rfl), (by rintro H' m_ hH hm_ hu_ _ rfl _ rfl; exact dn <| s_d (m_ 10) rfl (YM (sz := 1) Tryz.underlying52 sz5 rfl (h_s.mono hH).shp rfl c3) (by exact rfl) rfl), (by rintro H' m_ hH hm_ hu_ _ rfl; exact dn <| s_d (m_ 11) rfl (XR ty5 rfl ((h_s.mono hH).src (UH (hu_ 13 (by kernel_rfl)))) c3) (by exact rfl) rfl), (by rintro H' m_ hH hm_ hu_ _ rfl _ rfl; exact dn <| s_d (m_ 12) rfl (YM (sz := 1) Tryz.underlying52 sz5 rfl (h_s.mono hH).shp rfl c4) (by exact rfl) rfl), (by rintro H' m_ hH hm_ hu_ _ rfl _ rfl; exact dn <| Qaq (i_s) hm_ rfl (Y1 (kd := kU8) (v := .int .u8 (rd s j_)) sz5 rfl rfl rfl rfl (h_s.mono hH) c4 (fun _ => .here)) rfl (by exact fun _ h_ => ⟨rfl, h_⟩)), trivial⟩ ?_
  intro H7 e8
  rintro _ _ rfl _ _ rfl _ _ rfl _ _ rfl _ _ rfl _ _ rfl _ _ rfl _ _ rfl _ _ rfl _ _ rfl _ _ rfl _ _ rfl _ _ rfl _ i5 ⟨rfl, h6⟩
  refine w_it (L' := i5 :: L) rfl <| rK he fun c9 he => w_d rfl (YM (sz := 1) Tryz.underlying52 sz5 rfl h6.shp rfl c9) <| w_a0 rfl (Y1 (kd := kU8) (v := .int .u8 (rd s i)) (F := fun z_ => z_ :: L) sz5 rfl rfl rfl rfl h6 c9 (fun _ => .here)) ?_
  rintro _ _ _ ⟨i10, rfl, rfl, rfl, h11⟩
  refine Qb <| Xw <| QL rfl <| wM (.int .i64 i) rfl rfl <| w_d rfl (XQ (c := w64 (i + 1)) rfl rfl rfl) <| wM (.int .i64 j_) rfl rfl <| w_d rfl (YE (c := w64 (j_ - 1)) rfl rfl rfl) <| wA (.int .i64 (w64 (i + 1))) rfl rfl <| wA (.int .i64 (w64 (j_ - 1))) rfl rfl <| Qb <| XG <| w_sl 0 (vr_) rfl ?_
  refine w_sl 2 (.int .i64 (w64 (i + 1))) rfl <| w_sl 3 (.int .i64 (w64 (j_ - 1))) rfl <| hh.l0 (hle.trans e8) he h11
 ·
  refine QE rfl (df c1) <| X3 rfl ?_
  obtain rfl := sj he
  refine N8 fn_131 rs_131 .nil <| ⟨⟨[], _, rfl, h_s⟩, hle, rfl⟩
theorem Qk.ok : ∀ k, Qk.OK (Qk.hs k)
 | 0 => ⟨(by intros; exact nomatch (show none = some _ from by assumption))⟩
 | k + 1 => ⟨Qk.b0_ok (k := k) (Qk.ok k)⟩
theorem Qk.calls (k : Nat) {H : Hp} {L : Items} {s : List Int} {vr_ : Value} {it_ : Item'} {r : (List Int)} (he : Qk.f k s = some r) (hr_ : Sl kU8 H 5 it_ vr_ s) : Ct Tryz.prog 131 ⟨[vr_]⟩ H (it_ :: L) (fun v H' L' => ∃ it', L' = it' :: L ∧ H.le H' ∧ Sl kU8 H' 5 it' vr_ r ∧ v = .tuple ⟨[]⟩) := by
 refine NJ (Q := fun v => v = .tuple ⟨[]⟩) ?_
 have hle : H.le H := .refl _
 have hh := Qk.ok k
 unfold Qk.f at he
 refine QV (args := [_]) fn_131 rfl nt_131 rfl <| wR rfl <| wM vr_ rfl rfl <| w_d rfl (Gd Tryz.underlying52 rfl hr_.shp) <| w_d rfl (YE (c := w64 ((s.length : Int) - 1)) rfl rfl rfl) <| wA (.int .i64 0) rfl rfl <| wA (.int .i64 (w64 ((s.length : Int) - 1))) rfl rfl <| Qb <| Q2 <| X5 <| w_sl 0 (vr_) rfl ?_
 refine w_sl 2 (.int .i64 0) rfl <| w_sl 3 (.int .i64 (w64 ((s.length : Int) - 1))) rfl <| hh.l0 hle he hr_
noncomputable def Qp.C : Code := (Tryz.f87.body).getD .skip
def Qp.out (r : ByteArray) (H : Hp) (v : Value) : Prop := v = .string r
abbrev Qp.R (H0 : Hp) (L : Items) (r : ByteArray) := fR H0 L (Qp.out r)
structure Qp.Hs where
 l0 : Bool → (List Int) → ByteArray → (List Int) → (List Int) → Option ByteArray
 l1 : Bool → (List Int) → ByteArray → (List Int) → (List Int) → Int → Int → Option ByteArray
noncomputable def Qp.b0 (k : Nat) (h : Qp.Hs) (a_0 : Bool) (a_1 : List Int) (t2 : ByteArray) (out w : List Int) : Option ByteArray := if 0 < (w.length : Int) then ((Q1.f k w 1000000000).bind fun y4 => h.l1 a_0 a_1 t2 out y4.1 y4.2 0) else (if a_0 = true then (if out.length + 1 ≤ 140737488355200 then ((Qk.f k (out ++ [45])).bind fun y18 => some (strOf y18)) else none) else ((Qk.f k out).bind fun y24 => some (strOf y24)))
noncomputable def Qp.b1 (k : Nat) (h : Qp.Hs) (a_0 : Bool) (a_1 : List Int) (t2 : ByteArray) (out w : List Int) (r_ k_ : Int) : Option ByteArray := if ((decide (k_ < 9)) && ((decide (0 < (w.length : Int))) || (decide (0 < r_)))) = true then (if out.length + 1 ≤ 140737488355200 then (h.l1 a_0 a_1 t2 (out ++ [(48 + ((Int.tmod r_ 10) % 256)) % 256]) w ((Int.tdiv r_ 10) % 4294967296) (w64 (k_ + 1))) else none) else (h.l0 a_0 a_1 t2 out w)
noncomputable def Qp.hs : Nat → Qp.Hs
 | 0 => ⟨fun _ _ _ _ _ => none, fun _ _ _ _ _ _ _ => none⟩
 | k + 1 => ⟨fun x0 x1 x2 x3 x4 => Qp.b0 k (Qp.hs k) x0 x1 x2 x3 x4, fun x0 x1 x2 x3 x4 x5 x6 => Qp.b1 k (Qp.hs k) x0 x1 x2 x3 x4 x5 x6⟩
noncomputable def Qp.f (k : Nat) (a : Qv) : Option ByteArray := (fun h : Qp.Hs => if (a.f_w.length : Int) = 0 then (some (str_3)) else (h.l0 a.f_neg a.f_w str_1 [] a.f_w)) (Qp.hs k)
structure Qp.LE (h h' : Qp.Hs) : Prop where
 l0 : ∀ y0 y1 y2 y3 y4, LeO (h.l0 y0 y1 y2 y3 y4) (h'.l0 y0 y1 y2 y3 y4)
 l1 : ∀ y0 y1 y2 y3 y4 y5 y6, LeO (h.l1 y0 y1 y2 y3 y4 y5 y6) (h'.l1 y0 y1 y2 y3 y4 y5 y6)
theorem Qp.b0_mono {k : Nat} {h h' : Qp.Hs} (hl : Qp.LE h h') : ∀ y0 y1 y2 y3 y4, LeO (Qp.b0 k h y0 y1 y2 y3 y4) (Qp.b0 (k + 1) h' y0 y1 y2 y3 y4) := fun _ _ _ _ _ => (LeO.ite (LeO.bind (Q1.mono k _ _) fun _ => hl.l1 _ _ _ _ _ _ _) (LeO.ite (LeO.ite (LeO.bind (Qk.mono k _) fun _ => LeO.refl _) (LeO.refl _)) (LeO.bind (Qk.mono k _) fun _ => LeO.refl _)))
theorem Qp.b1_mono {k : Nat} {h h' : Qp.Hs} (hl : Qp.LE h h') : ∀ y0 y1 y2 y3 y4 y5 y6, LeO (Qp.b1 k h y0 y1 y2 y3 y4 y5 y6) (Qp.b1 (k + 1) h' y0 y1 y2 y3 y4 y5 y6) := fun _ _ _ _ _ _ _ => (LeO.ite (LeO.ite (hl.l1 _ _ _ _ _ _ _) (LeO.refl _)) (hl.l0 _ _ _ _ _))
theorem Qp.hs_mono : ∀ k, Qp.LE (Qp.hs k) (Qp.hs (k + 1))
 | 0 => ⟨fun _ _ _ _ _ => LeO.none _, fun _ _ _ _ _ _ _ => LeO.none _⟩
 | k + 1 => ⟨Qp.b0_mono (k := k) (Qp.hs_mono k), Qp.b1_mono (k := k) (Qp.hs_mono k)⟩
theorem Qp.mono : ∀ k y0, LeO (Qp.f k y0) (Qp.f (k + 1) y0) := fun k _ => have hl := Qp.hs_mono k; by unfold Qp.f; exact (LeO.ite (LeO.refl _) (hl.l0 _ _ _ _ _))
noncomputable def Qp.Kl0 : List Item := .code (lopB (blkB (seqR (seqL (seqR (seqR (seqR Qp.C))))))) :: .inLoop (lopB (blkB (seqR (seqL (seqR (seqR (seqR Qp.C))))))) :: .inBlock 0 :: .code (seqR (seqR (seqR (seqR Qp.C)))) :: []
noncomputable def Qp.Kl1 : List Item := .code (lopB (blkB (seqR (seqR (seqR (blkB (seqR (lopB (blkB (seqR (seqL (seqR (seqR (seqR Qp.C)))))))))))))) :: .inLoop (lopB (blkB (seqR (seqR (seqR (blkB (seqR (lopB (blkB (seqR (seqL (seqR (seqR (seqR Qp.C)))))))))))))) :: .inBlock 2 :: .inBlock 1 :: .inLoop (lopB (blkB (seqR (seqL (seqR (seqR (seqR Qp.C))))))) :: .inBlock 0 :: .code (seqR (seqR (seqR (seqR Qp.C)))) :: []
structure Qp.OK (h : Qp.Hs) : Prop where
 l0 : ∀ {H0 H : Hp} {L : Items} {r : ByteArray} {jk_ : Nat → Value} {a_0 : Bool} {a_1 : List Int} {t2 : ByteArray} {out : List Int} {w : List Int} {v_a_1 : Value} {v_out : Value} {v_w : Value} {i_out : Item'} {b_a : Nat} (_ : H0.le H) (_he : h.l0 a_0 a_1 t2 out w = some r) (_h_a_1 : Ro kU32 H v_a_1 a_1) (_h_out : Sl kU8 H 5 i_out v_out out) (_h_w : Ro kU32 H v_w w), Wp Tryz.prog 87 52 Qp.Kl0 (upd (upd (upd (upd jk_ 1 (pt b_a)) 2 (.string t2)) 3 (v_out)) 4 (v_w)) H (i_out :: bx b_a [.bool a_0, v_a_1] 24 :: L) (Qp.R H0 L r)
 l1 : ∀ {H0 H : Hp} {L : Items} {r : ByteArray} {jk_ : Nat → Value} {a_0 : Bool} {a_1 : List Int} {t2 : ByteArray} {out : List Int} {w : List Int} {r_ : Int} {k_ : Int} {v_a_1 : Value} {v_out : Value} {v_w : Value} {i_out : Item'} {b_a : Nat} (_ : H0.le H) (_he : h.l1 a_0 a_1 t2 out w r_ k_ = some r) (_h_a_1 : Ro kU32 H v_a_1 a_1) (_h_out : Sl kU8 H 5 i_out v_out out) (_h_w : Ro kU32 H v_w w), Wp Tryz.prog 87 52 Qp.Kl1 (upd (upd (upd (upd (upd (upd jk_ 1 (pt b_a)) 2 (.string t2)) 3 (v_out)) 4 (v_w)) 5 (.int .u32 r_)) 6 (.int .i64 k_)) H (i_out :: bx b_a [.bool a_0, v_a_1] 24 :: L) (Qp.R H0 L r)
theorem Qp.b0_ok {k : Nat} {h : Qp.Hs} (hh : Qp.OK h) {H0 H : Hp} {L : Items} {r : ByteArray} {jk_ : Nat → Value} {a_0 : Bool} {a_1 : List Int} {t2 : ByteArray} {out w : List Int} {v_a_1 v_out v_w : Value} {i_out : Item'} {b_a : Nat} (hle : H0.le H) (he : Qp.b0 k h a_0 a_1 t2 out w = some r) (h_a_1 : Ro kU32 H v_a_1 a_1) (h_out : Sl kU8 H 5 i_out v_out out) (h_w : Ro kU32 H v_w w) : Wp Tryz.prog 87 52 Qp.Kl0 (upd (upd (upd (upd jk_ 1 (pt b_a)) 2 (.string t2)) 3 (v_out)) 4 (v_w)) H (i_out :: bx b_a [.bool a_0, v_a_1] 24 :: L) (Qp.R H0 L r) := by
 unfold Qp.b0 at he
 unfold Qp.Kl0
 refine QX <| wR rfl <| wM v_w rfl rfl <| w_d rfl (Xo Tryz.underlying22 rfl h_w.src) <| w_d rfl (YV rfl rfl) <| Qb ?_
 rcases its he with ⟨c3, he⟩ | ⟨c3, he⟩
 ·
  refine QD rfl (dt c3) <| QF <| Q2 <| wR rfl <| wA (.int .u32 0) rfl rfl <| wQ rfl <| wM v_w rfl rfl <| bK he fun y4 hy5 he => w_a rfl (Qm co130 (vs := [v_w, .int .u32 1000000000]) rfl (Q1.calls k hy5 h_w.src)) ?_
  rintro _ H6 _ ⟨rfl, e7, v8, rfl, h9⟩
  refine wM (.tuple ⟨[v8, .int .u32 y4.2]⟩) rfl rfl <| w_d rfl (Q5 rfl rfl) <| w_d rfl (Q5 rfl rfl) <| wA v8 rfl rfl <| wA (.int .u32 y4.2) rfl rfl <| wQ rfl <| wA (.int .i64 0) rfl rfl <| Qb <| Q2 <| X5 ?_
  refine w_sl 1 (pt b_a) rfl <| w_sl 2 (.string t2) rfl <| w_sl 3 (v_out) rfl <| w_sl 4 (v8) rfl <| w_sl 5 (.int .u32 y4.2) rfl <| w_sl 6 (.int .i64 0) rfl <| hh.l1 (hle.trans e7) he (h_a_1.mono e7) (h_out.mono e7) h9
 ·
  refine QE rfl (df c3) <| X3 rfl <| QX <| wR rfl <| w_d rfl (Xi (o' := 0) Tryz.underlying24 rfl sz4 rfl rfl rfl) <| wL (.bool a_0) ty4 rfl rfl .h1 rfl rfl <| Qb ?_
  rcases its he with ⟨c10, he⟩ | ⟨c10, he⟩
  ·
   refine QD rfl c10 <| QL rfl <| wM v_out rfl rfl <| w_a rfl (o_buildSlice' (kd := kU8) (css := [[.int .u8 45]]) (xs := [45]) (parts := [(0, .int .u8 45)]) Tryz.underlying52 ti5 rfl ⟨_, _, rfl, rfl, rfl⟩ ⟨rfl, trivial⟩ rfl (by decide)) ?_
   rintro v11 _ _ ⟨i12, rfl, rfl, h13⟩
   refine rK he fun c14 he => w_a rfl (o_append' (kd := kU8) (F := fun z_ => i12 :: z_ :: bx b_a [.bool a_0, v_a_1] 24 :: L) Tryz.underlying52 Tryz.underlying52 ti5 rfl (by first | omega | (simp only [List.nil_append, List.length_cons, List.length_nil]; omega)) rfl rfl h_out (h13.src .here) (fun _ => .h1)) ?_
   rintro v15 _ _ ⟨i16, rfl, rfl, h17⟩
   refine wA v15 rfl rfl <| wQ rfl <| wM v15 rfl rfl <| bK he fun y18 hy19 he => w_a rfl (Qm co131 (vs := [v15]) rfl (Nd (F := fun z_ => i12 :: z_ :: bx b_a [.bool a_0, v_a_1] 24 :: L) (Qk.calls k hy19 h17) .h1 (fun _ => .h1))) ?_
   rintro _ H20 _ ⟨i22, rfl, e21, h23, rfl⟩
   refine wQ rfl <| wM v15 rfl rfl <| w_d rfl (Ov Tryz.underlying52 Tryz.underlying5 Tryz.underlying9 rfl (h23.src .h1)) <| wA (.string (strOf y18)) rfl rfl <| Qb ?_
   obtain rfl := sj he
   refine Ql fn_87 rs_87 (.tmp (v := .string (strOf y18)) rfl .nil) <| ⟨⟨[_, _, _], rfl⟩, hle.trans e21, rfl⟩
  ·
   refine QE rfl (Bool.eq_false_iff.2 c10) <| QF <| wR rfl <| wM v_out rfl rfl <| bK he fun y24 hy25 he => w_a rfl (Qm co131 (vs := [v_out]) rfl (Nd (F := fun z_ => z_ :: bx b_a [.bool a_0, v_a_1] 24 :: L) (Qk.calls k hy25 h_out) .here (fun _ => .here))) ?_
   rintro _ H26 _ ⟨i28, rfl, e27, h29, rfl⟩
   refine wQ rfl <| wM v_out rfl rfl <| w_d rfl (Ov Tryz.underlying52 Tryz.underlying5 Tryz.underlying9 rfl (h29.src .here)) <| wA (.string (strOf y24)) rfl rfl <| Qb ?_
   obtain rfl := sj he
   refine Ql fn_87 rs_87 (.tmp (v := .string (strOf y24)) rfl .nil) <| ⟨⟨[_, _], rfl⟩, hle.trans e27, rfl⟩
theorem Qp.b1_ok {k : Nat} {h : Qp.Hs} (hh : Qp.OK h) {H0 H : Hp} {L : Items} {r : ByteArray} {jk_ : Nat → Value} {a_0 : Bool} {a_1 : List Int} {t2 : ByteArray} {out w : List Int} {r_ k_ : Int} {v_a_1 v_out v_w : Value} {i_out : Item'} {b_a : Nat} (hle : H0.le H) (he : Qp.b1 k h a_0 a_1 t2 out w r_ k_ = some r) (h_a_1 : Ro kU32 H v_a_1 a_1) (h_out : Sl kU8 H 5 i_out v_out out) (h_w : Ro kU32 H v_w w) : Wp Tryz.prog 87 52 Qp.Kl1 (upd (upd (upd (upd (upd (upd jk_ 1 (pt b_a)) 2 (.string t2)) 3 (v_out)) 4 (v_w)) 5 (.int .u32 r_)) 6 (.int .i64 k_)) H (i_out :: bx b_a [.bool a_0, v_a_1] 24 :: L) (Qp.R H0 L r) := by
 unfold Qp.b1 at he
 unfold Qp.Kl1
 refine QX <| wR rfl <| wM (.int .i64 k_) rfl rfl <| w_d rfl (XW rfl rfl) <| wM (.bool (decide (k_ < 9))) rfl rfl <| w_g (g := decide (k_ < 9)) rfl rfl rfl wn_t (fun g30 => QT (v := v_w) rfl) <| w_g (g := decide (k_ < 9)) rfl rfl rfl wn_t (fun g31 => Xo Tryz.underlying22 (cvt g31) h_w.src) <| w_g (g := decide (k_ < 9)) rfl rfl rfl wn_t (fun g32 => YV (cvt g32) rfl) <| w_g (g := decide (k_ < 9)) rfl rfl rfl wn_t (fun g33 => QT (v := .bool (decide (0 < (w.length : Int)))) (cvt g33)) <| w_g (g := (decide (k_ < 9)) && (!(decide (0 < (w.length : Int))))) rfl rfl rfl Wk (fun g34 => QT (v := .int .u32 r_) rfl) <| w_g (g := (decide (k_ < 9)) && (!(decide (0 < (w.length : Int))))) rfl rfl rfl Wk (fun g35 => YV (cvt g35) rfl) ?_
 refine w_g (g := decide (k_ < 9)) rfl rfl rfl wn_t (fun g36 => d_or' (b := (decide (0 < (w.length : Int)))) (p := (decide (0 < r_))) (cvt g36) rfl (cva g36)) <| w_d rfl (d_and' (b := (decide (k_ < 9))) (p := ((decide (0 < (w.length : Int))) || (decide (0 < r_)))) rfl rfl rfl) <| Qb ?_
 rcases its he with ⟨c37, he⟩ | ⟨c37, he⟩
 ·
  refine QD rfl c37 <| QF <| QX <| Q2 <| wR rfl <| wM v_out rfl rfl <| wM (.int .u32 r_) rfl rfl <| w_d rfl (Jj rfl rfl (by decide)) <| w_d rfl (Yd (c := (Int.tmod r_ 10) % 256) Tryz.underlying167 Tryz.underlying5 rfl rfl) <| w_d rfl (XQ (c := (48 + ((Int.tmod r_ 10) % 256)) % 256) rfl rfl rfl) <| w_a rfl (o_buildSlice' (kd := kU8) (css := [[.int .u8 ((48 + ((Int.tmod r_ 10) % 256)) % 256)]]) (xs := [(48 + ((Int.tmod r_ 10) % 256)) % 256]) (parts := [(0, .int .u8 ((48 + ((Int.tmod r_ 10) % 256)) % 256))]) Tryz.underlying52 ti5 rfl ⟨_, _, rfl, rfl, rfl⟩ ⟨rfl, trivial⟩ rfl (by decide)) ?_
  rintro v38 _ _ ⟨i39, rfl, rfl, h40⟩
  refine rK he fun c41 he => w_a rfl (o_append' (kd := kU8) (F := fun z_ => i39 :: z_ :: bx b_a [.bool a_0, v_a_1] 24 :: L) Tryz.underlying52 Tryz.underlying52 ti5 rfl (by first | omega | (simp only [List.nil_append, List.length_cons, List.length_nil]; omega)) rfl rfl h_out (h40.src .here) (fun _ => .h1)) ?_
  rintro v42 _ _ ⟨i43, rfl, rfl, h44⟩
  refine wA v42 rfl rfl <| Qb <| QL rfl <| wM (.int .u32 r_) rfl rfl <| w_d rfl (Jn (c := (Int.tdiv r_ 10) % 4294967296) rfl rfl (by decide) rfl) <| wA (.int .u32 ((Int.tdiv r_ 10) % 4294967296)) rfl rfl <| Qb <| Xw <| QL rfl <| wM (.int .i64 k_) rfl rfl <| w_d rfl (XQ (c := w64 (k_ + 1)) rfl rfl rfl) <| wA (.int .i64 (w64 (k_ + 1))) rfl rfl ?_
  refine Qb <| XG <| Yu .here <| w_sl 1 (pt b_a) rfl <| w_sl 2 (.string t2) rfl <| w_sl 3 (v42) rfl <| w_sl 4 (v_w) rfl <| w_sl 5 (.int .u32 ((Int.tdiv r_ 10) % 4294967296)) rfl <| w_sl 6 (.int .i64 (w64 (k_ + 1))) rfl <| hh.l1 hle he h_a_1 h44 h_w
 ·
  refine QE rfl (Bool.eq_false_iff.2 c37) <| X3 rfl <| Xw <| XG <| w_sl 1 (pt b_a) rfl <| w_sl 2 (.string t2) rfl <| w_sl 3 (v_out) rfl <| w_sl 4 (v_w) rfl <| hh.l0 hle he h_a_1 h_out h_w
theorem Qp.ok : ∀ k, Qp.OK (Qp.hs k)
 | 0 => ⟨(by intros; exact nomatch (show none = some _ from by assumption)), (by intros; exact nomatch (show none = some _ from by assumption))⟩
 | k + 1 => ⟨Qp.b0_ok (k := k) (Qp.ok k), Qp.b1_ok (k := k) (Qp.ok k)⟩
theorem Qp.calls (k : Nat) {H : Hp} {L : Items} {a : Qv} {v0_a : Value} {r : ByteArray} (he : Qp.f k a = some r) (h0_a : Ro kU32 H v0_a a.f_w) : Ct Tryz.prog 87 ⟨[(Qd a v0_a)]⟩ H L (fun v H' L' => L = L' ∧ H = H' ∧ v = .string r) := by
 refine Yp (O := Qp.out r) (fun _ _ h => h) ?_
 have hle : H.le H := .refl _
 have hh := Qp.ok k
 unfold Qp.f at he
 refine QV (args := [_]) fn_87 rfl nt_87 rfl <| wR rfl <| wB (Qd a v0_a) rfl rfl rfl <| fun b1 => wA (.string str_1) rfl rfl <| wE <| wR rfl <| w_d rfl (Xi (o' := 1) Tryz.underlying24 rfl sz22 rfl rfl rfl) <| wL v0_a ty22 rfl rfl .here rfl rfl <| w_d rfl (Xo Tryz.underlying22 rfl h0_a.src) ?_
 refine w_d rfl (YY rfl rfl) <| Qb ?_
 rcases its he with ⟨c2, he⟩ | ⟨c2, he⟩
 ·
  refine QD rfl (dt c2) <| wR rfl <| wA (.string str_3) rfl rfl <| Qb ?_
  obtain rfl := sj he
  refine Ql fn_87 rs_87 (.tmp (v := .string str_3) rfl .nil) <| ⟨⟨[_], rfl⟩, hle, rfl⟩
 ·
  refine QE rfl (df c2) <| QF <| wR rfl <| wA (.slice none 0 0) rfl rfl <| wE <| wR rfl <| w_d rfl (Xi (o' := 1) Tryz.underlying24 rfl sz22 rfl rfl rfl) <| wL v0_a ty22 rfl rfl .here rfl rfl <| wA v0_a rfl rfl ?_
  refine Qb <| Q2 <| X5 <| YG <| w_sl 1 (pt b1) rfl <| w_sl 2 (.string str_1) rfl <| w_sl 3 (.slice none 0 0) rfl <| w_sl 4 (v0_a) rfl <| hh.l0 hle he h0_a (ZW _ _ _) h0_a
noncomputable def Xp.C : Code := (Tryz.f33.body).getD .skip
def Xp.out (r : ByteArray) (H : Hp) (v : Value) : Prop := v = .string r
noncomputable def Xp.f (k : Nat) (a : Qf) : Option ByteArray := (Qp.f k a.f_n).bind fun y2 => if (y2.size + str_5.size : Int) ≤ 9223372036854775807 then ((QA.f k a).bind fun y7 => (Qp.f k y7).bind fun y13 => if ((y2 ++ str_5).size + y13.size : Int) ≤ 9223372036854775807 then (some ((y2 ++ str_5) ++ y13)) else none) else none
theorem Xp.mono : ∀ k y0, LeO (Xp.f k y0) (Xp.f (k + 1) y0) := fun k _ => by unfold Xp.f; exact (LeO.bind (Qp.mono k _) fun _ => LeO.ite (LeO.bind (QA.mono k _) fun _ => LeO.bind (Qp.mono k _) fun _ => LeO.ite (LeO.refl _) (LeO.refl _)) (LeO.refl _))
theorem Xp.calls (k : Nat) {H : Hp} {L : Items} {a : Qf} {v0_a v1_a : Value} {r : ByteArray} (he : Xp.f k a = some r) (h0_a : Ro kU32 H v0_a a.f_n.f_w) (h1_a : Ro kU32 H v1_a a.f_d.f_w) : Ct Tryz.prog 33 ⟨[(Qc a v0_a v1_a)]⟩ H L (fun v H' L' => L = L' ∧ H = H' ∧ v = .string r) := by
 refine Yp (O := Xp.out r) (fun _ _ h => h) ?_
 have hle : H.le H := .refl _
 unfold Xp.f at he
 refine QV (args := [_]) fn_33 rfl nt_33 rfl <| wR rfl <| wB (Qc a v0_a v1_a) rfl rfl rfl <| fun b1 => wA (.string str_1) rfl rfl <| wE <| bK he fun y2 hy3 he => rK he fun c6 he => bK he fun y7 hy8 he => bK he fun y13 hy14 he => XC (p := 7) (tl := [7, 8]) [[], [(0, some 3)], [(1, some 4)], [(2, some 5)], [], [(4, some 7)], [(5, some 8)]] [some 3, some 4, some 5, some 6, some 7, some 8, some 9] (fctF (.is (pt b1) :: .is (Qd a.f_n v0_a) :: .is (.string y2) :: .is (.string (y2 ++ str_5)) :: .is (Qc a v0_a v1_a) :: .of (QA.out y7) (QA.out_mono _) :: .is (.string y13) :: [])) (fun m_ => bx b1 (Xa a v0_a v1_a) 26 :: L) (fun _ => none) mixed (by kernel_rfl) (by kernel_rfl) rfl (Xq (by kernel_rfl)) ⟨(fun H' m_ hH hm_ hu_ => dn <| s_d (m_ 0) rfl (Xi (o' := 0) Tryz.underlying26 rfl sz24 rfl rfl rfl) (by exact rfl) rfl), (by rintro H' m_ hH hm_ hu_ _ rfl; exact dn <| s_d (m_ 1) rfl (QN (v := (Qd a.f_n v0_a)) ty24 rfl .here rfl rfl rfl rfl) (by exact rfl) rfl), (by rintro H' m_ hH hm_ hu_ _ rfl; exact dn <| s_d (m_ 2) rfl (Xx (Qm co87 (vs := [(Qd a.f_n v0_a)]) rfl (Qp.calls k (a := a.f_n) hy3 (h0_a.mono hH)))) (by exact rfl) rfl), (by rintro H' m_ hH hm_ hu_ _ rfl; exact dn <| s_d (m_ 3) rfl (Mn rfl rfl c6) (by exact rfl) rfl), (fun H' m_ hH hm_ hu_ => dn <| s_d (m_ 4) rfl (QN (v := (Qc a v0_a v1_a)) ty26 rfl .here rfl rfl rfl rfl) (by exact rfl) rfl), (by rintro H' m_ hH hm_ hu_ _ rfl; exact dn <| s_k (m_ 5) rfl (Qm co78 (vs := [(Qc a v0_a v1_a)]) rfl (QA.calls k (a := a) hy8 (h0_a.mono hH) (h1_a.mono hH))) rfl (by rintro v_ H_ _ ⟨rfl, e_, h_⟩; exact ⟨rfl, e_, h_⟩)), (by rintro H' m_ hH hm_ hu_ _ ⟨v11, rfl, h12⟩; exact dn <| s_d (m_ 6) rfl (Xx (Qm co87 (vs := [(Qd y7 v11)]) rfl (Qp.calls k (a := y7) hy14 h12))) (by exact rfl) rfl), trivial⟩ ?_
 intro H17 e18
 rintro _ _ rfl _ _ rfl _ _ rfl _ _ rfl _ _ rfl _ _ ⟨v11, rfl, h12⟩ _ _ rfl
 refine rK he fun c19 he => w_d rfl (Mn rfl rfl c19) <| wA (.string ((y2 ++ str_5) ++ y13)) rfl rfl <| Qb ?_
 obtain rfl := sj he
 refine Ql fn_33 rs_33 (.tmp (v := .string ((y2 ++ str_5) ++ y13)) rfl .nil) <| ⟨⟨[_], rfl⟩, hle.trans e18, rfl⟩
noncomputable def Q9.C : Code := (Tryz.f57.body).getD .skip
def Q9.out (r : Qf × (Option Int)) (H : Hp) (v : Value) : Prop := ∃ v0 v1, v = .tuple ⟨[(Qc r.1 v0 v1), errV 104 r.2]⟩ ∧ Ro kU32 H v0 r.1.f_n.f_w ∧ Ro kU32 H v1 r.1.f_d.f_w
abbrev Q9.R (H0 : Hp) (L : Items) (r : Qf × (Option Int)) := fR H0 L (Q9.out r)
structure Q9.Hs where
 l0 : Bool → (List Int) → Bool → (List Int) → Bool → (List Int) → Bool → (List Int) → Bool → (List Int) → Bool → (List Int) → (Option Int) → Bool → (List Int) → Bool → (List Int) → Int → Int → Option (Qf × (Option Int))
noncomputable def Q9.b0 (k : Nat) (h : Q9.Hs) (times_0 : Bool) (times_1 : List Int) (times_2 : Bool) (times_3 : List Int) (more_0 : Bool) (more_1 : List Int) (more_2 : Bool) (more_3 : List Int) (t6_0 : Bool) (t6_1 : List Int) (t6_2 : Bool) (t6_3 : List Int) (t7 : Option Int) (out_0 : Bool) (out_1 : List Int) (out_2 : Bool) (out_3 : List Int) (t27 t28 : Int) : Option (Qf × (Option Int)) := if t28 < t27 then ((Yw.f k ⟨⟨out_0, out_1⟩, ⟨out_2, out_3⟩⟩ ⟨⟨times_0, times_1⟩, ⟨times_2, times_3⟩⟩ ⟨⟨more_0, more_1⟩, ⟨more_2, more_3⟩⟩).bind fun y21 => if y21.2.isSome = true then (some (⟨⟨false, []⟩, ⟨false, []⟩⟩, y21.2)) else (h.l0 times_0 times_1 times_2 times_3 more_0 more_1 more_2 more_3 t6_0 t6_1 t6_2 t6_3 t7 y21.1.f_n.f_neg y21.1.f_n.f_w y21.1.f_d.f_neg y21.1.f_d.f_w t27 (w64 (t28 + 1)))) else (some (⟨⟨out_0, out_1⟩, ⟨out_2, out_3⟩⟩, none))
noncomputable def Q9.hs : Nat → Q9.Hs
 | 0 => ⟨fun _ _ _ _ _ _ _ _ _ _ _ _ _ _ _ _ _ _ _ => none⟩
 | k + 1 => ⟨fun x0 x1 x2 x3 x4 x5 x6 x7 x8 x9 x10 x11 x12 x13 x14 x15 x16 x17 x18 => Q9.b0 k (Q9.hs k) x0 x1 x2 x3 x4 x5 x6 x7 x8 x9 x10 x11 x12 x13 x14 x15 x16 x17 x18⟩
noncomputable def Q9.f (k : Nat) (times more : Qf) (n : Int) : Option (Qf × (Option Int)) := (fun h : Q9.Hs => (Yh.f k times).bind fun y4 => (gd (!y4) (Yh.f k more) (false)).bind fun y10 => if (((y4 || y10) || (decide (n < 0))) || (decide (32 < n))) = true then (some (⟨⟨false, []⟩, ⟨false, []⟩⟩, some 1)) else (h.l0 times.f_n.f_neg times.f_n.f_w times.f_d.f_neg times.f_d.f_w more.f_n.f_neg more.f_n.f_w more.f_d.f_neg more.f_d.f_w false [] false [] none false [] false [] n 0)) (Q9.hs k)
structure Q9.LE (h h' : Q9.Hs) : Prop where
 l0 : ∀ y0 y1 y2 y3 y4 y5 y6 y7 y8 y9 y10 y11 y12 y13 y14 y15 y16 y17 y18, LeO (h.l0 y0 y1 y2 y3 y4 y5 y6 y7 y8 y9 y10 y11 y12 y13 y14 y15 y16 y17 y18) (h'.l0 y0 y1 y2 y3 y4 y5 y6 y7 y8 y9 y10 y11 y12 y13 y14 y15 y16 y17 y18)
theorem Q9.b0_mono {k : Nat} {h h' : Q9.Hs} (hl : Q9.LE h h') : ∀ y0 y1 y2 y3 y4 y5 y6 y7 y8 y9 y10 y11 y12 y13 y14 y15 y16 y17 y18, LeO (Q9.b0 k h y0 y1 y2 y3 y4 y5 y6 y7 y8 y9 y10 y11 y12 y13 y14 y15 y16 y17 y18) (Q9.b0 (k + 1) h' y0 y1 y2 y3 y4 y5 y6 y7 y8 y9 y10 y11 y12 y13 y14 y15 y16 y17 y18) := fun _ _ _ _ _ _ _ _ _ _ _ _ _ _ _ _ _ _ _ => (LeO.ite (LeO.bind (Yw.mono k _ _ _) fun _ => LeO.ite (LeO.refl _) (hl.l0 _ _ _ _ _ _ _ _ _ _ _ _ _ _ _ _ _ _ _)) (LeO.refl _))
theorem Q9.hs_mono : ∀ k, Q9.LE (Q9.hs k) (Q9.hs (k + 1))
 | 0 => ⟨fun _ _ _ _ _ _ _ _ _ _ _ _ _ _ _ _ _ _ _ => LeO.none _⟩
 | k + 1 => ⟨Q9.b0_mono (k := k) (Q9.hs_mono k)⟩
theorem Q9.mono : ∀ k y0 y1 y2, LeO (Q9.f k y0 y1 y2) (Q9.f (k + 1) y0 y1 y2) := fun k _ _ _ => have hl := Q9.hs_mono k; by unfold Q9.f; exact (LeO.bind (Yh.mono k _) fun _ => LeO.bind (LeO.gd (Yh.mono k _)) fun _ => LeO.ite (LeO.refl _) (hl.l0 _ _ _ _ _ _ _ _ _ _ _ _ _ _ _ _ _ _ _))
noncomputable def Q9.Kl0 : List Item := .code (lopB (blkB (seqR (seqL (seqR (seqR (seqR Q9.C))))))) :: .inLoop (lopB (blkB (seqR (seqL (seqR (seqR (seqR Q9.C))))))) :: .inBlock 0 :: .code (seqR (seqR (seqR (seqR Q9.C)))) :: []
structure Q9.OK (h : Q9.Hs) : Prop where
 l0 : ∀ {H0 H : Hp} {L : Items} {r : Qf × (Option Int)} {jk_ : Nat → Value} {times_0 : Bool} {times_1 : List Int} {times_2 : Bool} {times_3 : List Int} {more_0 : Bool} {more_1 : List Int} {more_2 : Bool} {more_3 : List Int} {t6_0 : Bool} {t6_1 : List Int} {t6_2 : Bool} {t6_3 : List Int} {t7 : Option Int} {out_0 : Bool} {out_1 : List Int} {out_2 : Bool} {out_3 : List Int} {t27 : Int} {t28 : Int} {v_times_1 : Value} {v_times_3 : Value} {v_more_1 : Value} {v_more_3 : Value} {v_t6_1 : Value} {v_t6_3 : Value} {v_out_1 : Value} {v_out_3 : Value} {b_times : Nat} {b_more : Nat} {b_t6 : Nat} {b_out : Nat} (_ : H0.le H) (_he : h.l0 times_0 times_1 times_2 times_3 more_0 more_1 more_2 more_3 t6_0 t6_1 t6_2 t6_3 t7 out_0 out_1 out_2 out_3 t27 t28 = some r) (_h_times_1 : Ro kU32 H v_times_1 times_1) (_h_times_3 : Ro kU32 H v_times_3 times_3) (_h_more_1 : Ro kU32 H v_more_1 more_1) (_h_more_3 : Ro kU32 H v_more_3 more_3) (_h_t6_1 : Ro kU32 H v_t6_1 t6_1) (_h_t6_3 : Ro kU32 H v_t6_3 t6_3) (_h_out_1 : Ro kU32 H v_out_1 out_1) (_h_out_3 : Ro kU32 H v_out_3 out_3), Wp Tryz.prog 57 43 Q9.Kl0 (upd (upd (upd (upd (upd (upd (upd jk_ 3 (pt b_times)) 4 (pt b_more)) 6 (pt b_t6)) 7 (errV 104 t7)) 8 (pt b_out)) 27 (.int .i64 t27)) 28 (.int .i64 t28)) H (bx b_out [.bool out_0, v_out_1, .bool out_2, v_out_3] 26 :: bx b_t6 [.bool t6_0, v_t6_1, .bool t6_2, v_t6_3] 26 :: bx b_more [.bool more_0, v_more_1, .bool more_2, v_more_3] 26 :: bx b_times [.bool times_0, v_times_1, .bool times_2, v_times_3] 26 :: L) (Q9.R H0 L r)
theorem Q9.b0_ok {k : Nat} {h : Q9.Hs} (hh : Q9.OK h) {H0 H : Hp} {L : Items} {r : Qf × (Option Int)} {jk_ : Nat → Value} {times_0 : Bool} {times_1 : List Int} {times_2 : Bool} {times_3 : List Int} {more_0 : Bool} {more_1 : List Int} {more_2 : Bool} {more_3 : List Int} {t6_0 : Bool} {t6_1 : List Int} {t6_2 : Bool} {t6_3 : List Int} {t7 : Option Int} {out_0 : Bool} {out_1 : List Int} {out_2 : Bool} {out_3 : List Int} {t27 t28 : Int} {v_times_1 v_times_3 v_more_1 v_more_3 v_t6_1 v_t6_3 v_out_1 v_out_3 : Value} {b_times b_more b_t6 b_out : Nat} (hle : H0.le H) (he : Q9.b0 k h times_0 times_1 times_2 times_3 more_0 more_1 more_2 more_3 t6_0 t6_1 t6_2 t6_3 t7 out_0 out_1 out_2 out_3 t27 t28 = some r) (h_times_1 : Ro kU32 H v_times_1 times_1) (h_times_3 : Ro kU32 H v_times_3 times_3) (h_more_1 : Ro kU32 H v_more_1 more_1) (h_more_3 : Ro kU32 H v_more_3 more_3) (h_t6_1 : Ro kU32 H v_t6_1 t6_1) (h_t6_3 : Ro kU32 H v_t6_3 t6_3) (h_out_1 : Ro kU32 H v_out_1 out_1) (h_out_3 : Ro kU32 H v_out_3 out_3) : Wp Tryz.prog 57 43 Q9.Kl0 (upd (upd (upd (upd (upd (upd (upd jk_ 3 (pt b_times)) 4 (pt b_more)) 6 (pt b_t6)) 7 (errV 104 t7)) 8 (pt b_out)) 27 (.int .i64 t27)) 28 (.int .i64 t28)) H (bx b_out [.bool out_0, v_out_1, .bool out_2, v_out_3] 26 :: bx b_t6 [.bool t6_0, v_t6_1, .bool t6_2, v_t6_3] 26 :: bx b_more [.bool more_0, v_more_1, .bool more_2, v_more_3] 26 :: bx b_times [.bool times_0, v_times_1, .bool times_2, v_times_3] 26 :: L) (Q9.R H0 L r) := by
 unfold Q9.b0 at he
 unfold Q9.Kl0
 refine wR rfl <| w_d rfl (XW rfl rfl) <| wE ?_
 rcases its he with ⟨c20, he⟩ | ⟨c20, he⟩
 ·
  refine QD rfl (dt c20) <| QF <| QX <| Q2 <| wR rfl <| wA (errV 104 none) rfl rfl <| wQ rfl <| wL (.agg ⟨[.bool out_0, v_out_1, .bool out_2, v_out_3]⟩) ty26 rfl rfl .here rfl rfl <| wL (.agg ⟨[.bool times_0, v_times_1, .bool times_2, v_times_3]⟩) ty26 rfl rfl .h3 rfl rfl ?_
  refine wL (.agg ⟨[.bool more_0, v_more_1, .bool more_2, v_more_3]⟩) ty26 rfl rfl .h2 rfl rfl <| bK he fun y21 hy22 he => w_a rfl (Qm co96 (vs := [.agg ⟨[.bool out_0, v_out_1, .bool out_2, v_out_3]⟩, .agg ⟨[.bool times_0, v_times_1, .bool times_2, v_times_3]⟩, .agg ⟨[.bool more_0, v_more_1, .bool more_2, v_more_3]⟩]) rfl (Yw.calls k (a := ⟨⟨out_0, out_1⟩, ⟨out_2, out_3⟩⟩) (times := ⟨⟨times_0, times_1⟩, ⟨times_2, times_3⟩⟩) (more := ⟨⟨more_0, more_1⟩, ⟨more_2, more_3⟩⟩) hy22 h_out_1 h_out_3 h_times_1 h_times_3 h_more_1 h_more_3)) ?_
  rintro _ H23 _ ⟨rfl, e24, v25, v27, rfl, h26, h28⟩
  refine wM (.tuple ⟨[(Qc y21.1 v25 v27), errV 104 y21.2]⟩) rfl rfl <| w_d rfl (Q5 rfl rfl) <| w_d rfl (Q5 rfl rfl) <| wS (Qc y21.1 v25 v27) sz26 rfl rfl rfl rfl rfl (XP h26 h28) .here u4 <| wA (errV 104 y21.2) rfl rfl <| wQ rfl <| wM (errV 104 y21.2) rfl rfl <| w_d rfl (Yj (e := y21.2) Tryz.underlying30 rfl) <| Qb ?_
  rcases its he with ⟨c29, he⟩ | ⟨c29, he⟩
  ·
   refine QD rfl c29 <| wR rfl <| w_d rfl (XE (cs' := z0c) Tryz.underlying26 zr26 rfl (by kernel_rfl) (parts := []) rfl .nil) <| wM (errV 104 y21.2) rfl rfl <| wS (.agg ⟨z0c⟩) sz26 rfl rfl rfl rfl rfl (oc rfl (oc rfl (oc rfl (oc rfl oz)))) .h1 u4 <| wA (errV 104 y21.2) rfl rfl <| Qb ?_
   obtain rfl := sj he
   refine Ql fn_57 rs_57 (.box (v := .agg ⟨z0c⟩) rfl ty26 rfl rfl .h1 rfl (.tmp (v := errV 104 y21.2) rfl .nil)) <| ⟨⟨[_, _, _, _], rfl⟩, hle.trans e24, ⟨.slice none 0 0, .slice none 0 0, rfl, (Xj _ _), (Xj _ _)⟩⟩
  ·
   refine QE rfl (Bool.eq_false_iff.2 c29) <| QF <| Xw <| QL rfl <| w_d rfl (XQ (c := w64 (t28 + 1)) rfl rfl rfl) <| wM (.int .i64 (w64 (t28 + 1))) rfl rfl <| Qb <| XG <| w_sl 3 (pt b_times) rfl <| w_sl 4 (pt b_more) rfl <| w_sl 6 (pt b_t6) rfl <| w_sl 7 (errV 104 t7) rfl ?_
   refine w_sl 8 (pt b_out) rfl <| w_sl 27 (.int .i64 t27) rfl <| w_sl 28 (.int .i64 (w64 (t28 + 1))) rfl <| hh.l0 (hle.trans e24) he (h_times_1.mono e24) (h_times_3.mono e24) (h_more_1.mono e24) (h_more_3.mono e24) (h_t6_1.mono e24) (h_t6_3.mono e24) h26 h28
 ·
  refine QE rfl (df c20) <| X3 rfl <| wR rfl <| wL (.agg ⟨[.bool out_0, v_out_1, .bool out_2, v_out_3]⟩) ty26 rfl rfl .here rfl rfl <| wS (.agg ⟨[.bool out_0, v_out_1, .bool out_2, v_out_3]⟩) sz26 rfl rfl rfl rfl rfl (oc rfl (oc (h_out_1.one) (oc rfl (oc (h_out_3.one) oz)))) .h1 u4 <| wA (errV 104 none) rfl rfl <| Qb ?_
  obtain rfl := sj he
  refine Ql fn_57 rs_57 (.box (v := .agg ⟨[.bool out_0, v_out_1, .bool out_2, v_out_3]⟩) rfl ty26 rfl rfl .h1 rfl (.tmp (v := errV 104 none) rfl .nil)) <| ⟨⟨[_, _, _, _], rfl⟩, hle, ⟨v_out_1, v_out_3, rfl, h_out_1, h_out_3⟩⟩
theorem Q9.ok : ∀ k, Q9.OK (Q9.hs k)
 | 0 => ⟨(by intros; exact nomatch (show none = some _ from by assumption))⟩
 | k + 1 => ⟨Q9.b0_ok (k := k) (Q9.ok k)⟩
theorem Q9.calls (k : Nat) {H : Hp} {L : Items} {times more : Qf} {n : Int} {v0_times v1_times v2_more v3_more : Value} {r : Qf × (Option Int)} (he : Q9.f k times more n = some r) (h0_times : Ro kU32 H v0_times times.f_n.f_w) (h1_times : Ro kU32 H v1_times times.f_d.f_w) (h2_more : Ro kU32 H v2_more more.f_n.f_w) (h3_more : Ro kU32 H v3_more more.f_d.f_w) : Ct Tryz.prog 57 ⟨[(Qc times v0_times v1_times), (Qc more v2_more v3_more), .int .i64 n]⟩ H L (cR H L (Q9.out r)) := by
 refine XN (O := Q9.out r) ?_
 have hle : H.le H := .refl _
 have hh := Q9.ok k
 unfold Q9.f at he
 refine QV (args := [_, _, _]) fn_57 rfl nt_57 rfl <| wR rfl <| wB (Qc times v0_times v1_times) rfl rfl rfl <| fun b1 => wB (Qc more v2_more v3_more) rfl rfl rfl <| fun b2 => wN zr26 rfl rfl fun b3 => wA (errV 104 none) rfl rfl <| wE <| wR rfl <| wL (Qc times v0_times v1_times) ty26 rfl rfl .h2 rfl rfl ?_
 refine bK he fun y4 hy5 he => w_d rfl (Xx (Qm co95 (vs := [(Qc times v0_times v1_times)]) rfl (Yh.calls k (a := times) hy5 h0_times h1_times))) <| wM (.bool y4) rfl rfl <| w_g (g := !y4) rfl rfl rfl wn_f (fun g8 => QN (v := (Qc more v2_more v3_more)) ty26 rfl .h1 rfl rfl rfl rfl) <| bK he fun y10 hy11 he => w_g (g := !y4) rfl rfl rfl wn_f (fun g9 => Xx (Qm co95 (vs := [(Qc more v2_more v3_more)]) (acons (cvt g9) (anil)) (Yh.calls k (a := more) (gd_t g9 hy11) h2_more h3_more))) <| w_d rfl (d_or' (b := y4) (p := y10) rfl rfl rfl) <| wM (.bool (y4 || y10)) rfl rfl <| w_g (g := !(y4 || y10)) rfl rfl rfl wn_f (fun g14 => QT (v := .int .i64 n) rfl) <| w_g (g := !(y4 || y10)) rfl rfl rfl wn_f (fun g15 => XW (cvt g15) rfl) <| w_d rfl (d_or' (b := (y4 || y10)) (p := (decide (n < 0))) rfl rfl rfl) <| wM (.bool ((y4 || y10) || (decide (n < 0)))) rfl rfl ?_
 refine w_g (g := !((y4 || y10) || (decide (n < 0)))) rfl rfl rfl wn_f (fun g16 => QT (v := .int .i64 n) rfl) <| w_g (g := !((y4 || y10) || (decide (n < 0)))) rfl rfl rfl wn_f (fun g17 => YV (cvt g17) rfl) <| w_d rfl (d_or' (b := ((y4 || y10) || (decide (n < 0)))) (p := (decide (32 < n))) rfl rfl rfl) <| Qb ?_
 rcases its he with ⟨c18, he⟩ | ⟨c18, he⟩
 ·
  refine QD rfl c18 <| wR rfl <| w_d rfl (XE (cs' := z0c) Tryz.underlying26 zr26 rfl (by kernel_rfl) (parts := []) rfl .nil) <| w_d rfl (Zf (v := .int .i64 1) Tryz.underlying104 rfl rfl) <| wS (.agg ⟨z0c⟩) sz26 rfl rfl rfl rfl rfl (oc rfl (oc rfl (oc rfl (oc rfl oz)))) .here u4 <| wA (errV 104 (some 1)) rfl rfl <| Qb ?_
  obtain rfl := sj he
  refine Ql fn_57 rs_57 (.box (v := .agg ⟨z0c⟩) rfl ty26 rfl rfl .here rfl (.tmp (v := errV 104 (some 1)) rfl .nil)) <| ⟨⟨[_, _, _], rfl⟩, hle, ⟨.slice none 0 0, .slice none 0 0, rfl, (Xj _ _), (Xj _ _)⟩⟩
 ·
  refine QE rfl (Bool.eq_false_iff.2 c18) <| QF <| wR rfl <| w_d rfl (XE (cs' := z0c) Tryz.underlying26 zr26 rfl (by kernel_rfl) (parts := []) rfl .nil) <| wN zr26 rfl rfl fun b19 => wS (.agg ⟨z0c⟩) sz26 rfl rfl rfl rfl rfl (oc rfl (oc rfl (oc rfl (oc rfl oz)))) .here u4 <| wE <| wR rfl <| wM (.int .i64 n) rfl rfl ?_
  refine wM (.int .i64 0) rfl rfl <| Qb <| Q2 <| X5 <| w_sl 3 (pt b1) rfl <| w_sl 4 (pt b2) rfl <| w_sl 6 (pt b3) rfl <| w_sl 7 (errV 104 none) rfl <| w_sl 8 (pt b19) rfl <| w_sl 27 (.int .i64 n) rfl <| w_sl 28 (.int .i64 0) rfl <| hh.l0 hle he h0_times h1_times h2_more h3_more (Xj _ _) (Xj _ _) (Xj _ _) (Xj _ _)
end Go.Proofs.YtkccpkccdbfomaaGreatDoor.GBP

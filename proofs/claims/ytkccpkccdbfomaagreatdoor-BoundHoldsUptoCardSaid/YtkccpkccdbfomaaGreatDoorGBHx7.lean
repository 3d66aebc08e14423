/- printed by gen.py -/
import Derived.Test.YtkccpkccdbfomaaGreatDoorGBHx6
namespace Go.Proofs.YtkccpkccdbfomaaGreatDoor.GBH
open Go Go.RowKit Go.Proofs.YtkccpkccdbfomaaGreatDoorK Go.Proofs.YtkccpkccdbfomaaGreatDoor
set_option maxRecDepth 100000
set_option maxHeartbeats 2000000
set_option linter.unusedVariables false
set_option linter.unusedSimpArgs false
noncomputable def Q4.C : Code := (Tryz.f57.body).getD .skip
def Q4.out (r : Qe × (Option Int)) (H : Hp) (v : Value) : Prop := ∃ v0 v1, v = .tuple ⟨[(Qb r.1 v0 v1), errV 104 r.2]⟩ ∧ Ro kU32 H v0 r.1.f_n.f_w ∧ Ro kU32 H v1 r.1.f_d.f_w
abbrev Q4.R (H0 : Hp) (L : Items) (r : Qe × (Option Int)) := fR H0 L (Q4.out r)
structure Q4.Hs where
 l0 : Bool → (List Int) → Bool → (List Int) → Bool → (List Int) → Bool → (List Int) → Bool → (List Int) → Bool → (List Int) → (Option Int) → Bool → (List Int) → Bool → (List Int) → Int → Int → Option (Qe × (Option Int))
noncomputable def Q4.b0 (k : Nat) (h : Q4.Hs) (times_0 : Bool) (times_1 : List Int) (times_2 : Bool) (times_3 : List Int) (more_0 : Bool) (more_1 : List Int) (more_2 : Bool) (more_3 : List Int) (t6_0 : Bool) (t6_1 : List Int) (t6_2 : Bool) (t6_3 : List Int) (t7 : Option Int) (out_0 : Bool) (out_1 : List Int) (out_2 : Bool) (out_3 : List Int) (t27 t28 : Int) : Option (Qe × (Option Int)) := if t28 < t27 then ((Yu.f k ⟨⟨out_0, out_1⟩, ⟨out_2, out_3⟩⟩ ⟨⟨times_0, times_1⟩, ⟨times_2, times_3⟩⟩ ⟨⟨more_0, more_1⟩, ⟨more_2, more_3⟩⟩).bind fun y21 => if y21.2.isSome = true then (some (⟨⟨false, []⟩, ⟨false, []⟩⟩, y21.2)) else (h.l0 times_0 times_1 times_2 times_3 more_0 more_1 more_2 more_3 t6_0 t6_1 t6_2 t6_3 t7 y21.1.f_n.f_neg y21.1.f_n.f_w y21.1.f_d.f_neg y21.1.f_d.f_w t27 (w64 (t28 + 1)))) else (some (⟨⟨out_0, out_1⟩, ⟨out_2, out_3⟩⟩, none))
noncomputable def Q4.hs : Nat → Q4.Hs
 | 0 => ⟨fun _ _ _ _ _ _ _ _ _ _ _ _ _ _ _ _ _ _ _ => none⟩
 | k + 1 => ⟨fun x0 x1 x2 x3 x4 x5 x6 x7 x8 x9 x10 x11 x12 x13 x14 x15 x16 x17 x18 => Q4.b0 k (Q4.hs k) x0 x1 x2 x3 x4 x5 x6 x7 x8 x9 x10 x11 x12 x13 x14 x15 x16 x17 x18⟩
noncomputable def Q4.f (k : Nat) (times more : Qe) (n : Int) : Option (Qe × (Option Int)) := (fun h : Q4.Hs => (Yf.f k times).bind fun y4 => (gd (!y4) (Yf.f k more) (false)).bind fun y10 => if (((y4 || y10) || (decide (n < 0))) || (decide (32 < n))) = true then (some (⟨⟨false, []⟩, ⟨false, []⟩⟩, some 1)) else (h.l0 times.f_n.f_neg times.f_n.f_w times.f_d.f_neg times.f_d.f_w more.f_n.f_neg more.f_n.f_w more.f_d.f_neg more.f_d.f_w false [] false [] none false [] false [] n 0)) (Q4.hs k)
structure Q4.LE (h h' : Q4.Hs) : Prop where
 l0 : ∀ y0 y1 y2 y3 y4 y5 y6 y7 y8 y9 y10 y11 y12 y13 y14 y15 y16 y17 y18, LeO (h.l0 y0 y1 y2 y3 y4 y5 y6 y7 y8 y9 y10 y11 y12 y13 y14 y15 y16 y17 y18) (h'.l0 y0 y1 y2 y3 y4 y5 y6 y7 y8 y9 y10 y11 y12 y13 y14 y15 y16 y17 y18)
theorem Q4.b0_mono {k : Nat} {h h' : Q4.Hs} (hl : Q4.LE h h') : ∀ y0 y1 y2 y3 y4 y5 y6 y7 y8 y9 y10 y11 y12 y13 y14 y15 y16 y17 y18, LeO (Q4.b0 k h y0 y1 y2 y3 y4 y5 y6 y7 y8 y9 y10 y11 y12 y13 y14 y15 y16 y17 y18) (Q4.b0 (k + 1) h' y0 y1 y2 y3 y4 y5 y6 y7 y8 y9 y10 y11 y12 y13 y14 y15 y16 y17 y18) := fun _ _ _ _ _ _ _ _ _ _ _ _ _ _ _ _ _ _ _ => (LeO.ite (LeO.bind (Yu.mono k _ _ _) fun _ => LeO.ite (LeO.refl _) (hl.l0 _ _ _ _ _ _ _ _ _ _ _ _ _ _ _ _ _ _ _)) (LeO.refl _))
theorem Q4.hs_mono : ∀ k, Q4.LE (Q4.hs k) (Q4.hs (k + 1))
 | 0 => ⟨fun _ _ _ _ _ _ _ _ _ _ _ _ _ _ _ _ _ _ _ => LeO.none _⟩
 | k + 1 => ⟨Q4.b0_mono (k := k) (Q4.hs_mono k)⟩
theorem Q4.mono : ∀ k y0 y1 y2, LeO (Q4.f k y0 y1 y2) (Q4.f (k + 1) y0 y1 y2) := fun k _ _ _ => have hl := Q4.hs_mono k; by unfold Q4.f; exact (LeO.bind (Yf.mono k _) fun _ => LeO.bind (LeO.gd (Yf.mono k _)) fun _ => LeO.ite (LeO.refl _) (hl.l0 _ _ _ _ _ _ _ _ _ _ _ _ _ _ _ _ _ _ _))
noncomputable def Q4.Kl0 : List Item := .code (lopB (blkB (seqR (seqL (seqR (seqR (seqR Q4.C))))))) :: .inLoop (lopB (blkB (seqR (seqL (seqR (seqR (seqR Q4.C))))))) :: .inBlock 0 :: .code (seqR (seqR (seqR (seqR Q4.C)))) :: []
structure Q4.OK (h : Q4.Hs) : Prop where
 l0 : ∀ {H0 H : Hp} {L : Items} {r : Qe × (Option Int)} {jk_ : Nat → Value} {times_0 : Bool} {times_1 : List Int} {times_2 : Bool} {times_3 : List Int} {more_0 : Bool} {more_1 : List Int} {more_2 : Bool} {more_3 : List Int} {t6_0 : Bool} {t6_1 : List Int} {t6_2 : Bool} {t6_3 : List Int} {t7 : Option Int} {out_0 : Bool} {out_1 : List Int} {out_2 : Bool} {out_3 : List Int} {t27 : Int} {t28 : Int} {v_times_1 : Value} {v_times_3 : Value} {v_more_1 : Value} {v_more_3 : Value} {v_t6_1 : Value} {v_t6_3 : Value} {v_out_1 : Value} {v_out_3 : Value} {b_times : Nat} {b_more : Nat} {b_t6 : Nat} {b_out : Nat} (_ : H0.le H) (_he : h.l0 times_0 times_1 times_2 times_3 more_0 more_1 more_2 more_3 t6_0 t6_1 t6_2 t6_3 t7 out_0 out_1 out_2 out_3 t27 t28 = some r) (_h_times_1 : Ro kU32 H v_times_1 times_1) (_h_times_3 : Ro kU32 H v_times_3 times_3) (_h_more_1 : Ro kU32 H v_more_1 more_1) (_h_more_3 : Ro kU32 H v_more_3 more_3) (_h_t6_1 : Ro kU32 H v_t6_1 t6_1) (_h_t6_3 : Ro kU32 H v_t6_3 t6_3) (_h_out_1 : Ro kU32 H v_out_1 out_1) (_h_out_3 : Ro kU32 H v_out_3 out_3), Wp Tryz.prog 57 43 Q4.Kl0 (upd (upd (upd (upd (upd (upd (upd jk_ 3 (pt b_times)) 4 (pt b_more)) 6 (pt b_t6)) 7 (errV 104 t7)) 8 (pt b_out)) 27 (.int .i64 t27)) 28 (.int .i64 t28)) H (bx b_out [.bool out_0, v_out_1, .bool out_2, v_out_3] 26 :: bx b_t6 [.bool t6_0, v_t6_1, .bool t6_2, v_t6_3] 26 :: bx b_more [.bool more_0, v_more_1, .bool more_2, v_more_3] 26 :: bx b_times [.bool times_0, v_times_1, .bool times_2, v_times_3] 26 :: L) (Q4.R H0 L r)
theorem Q4.b0_ok {k : Nat} {h : Q4.Hs} (hh : Q4.OK h) {H0 H : Hp} {L : Items} {r : Qe × (Option Int)} {jk_ : Nat → Value} {times_0 : Bool} {times_1 : List Int} {times_2 : Bool} {times_3 : List Int} {more_0 : Bool} {more_1 : List Int} {more_2 : Bool} {more_3 : List Int} {t6_0 : Bool} {t6_1 : List Int} {t6_2 : Bool} {t6_3 : List Int} {t7 : Option Int} {out_0 : Bool} {out_1 : List Int} {out_2 : Bool} {out_3 : List Int} {t27 t28 : Int} {v_times_1 v_times_3 v_more_1 v_more_3 v_t6_1 v_t6_3 v_out_1 v_out_3 : Value} {b_times b_more b_t6 b_out : Nat} (hle : H0.le H) (he : Q4.b0 k h times_0 times_1 times_2 times_3 more_0 more_1 more_2 more_3 t6_0 t6_1 t6_2 t6_3 t7 out_0 out_1 out_2 out_3 t27 t28 = some r) (h_times_1 : Ro kU32 H v_times_1 times_1) (h_times_3 : Ro kU32 H v_times_3 times_3) (h_more_1 : Ro kU32 H v_more_1 more_1) (h_more_3 : Ro kU32 H v_more_3 more_3) (h_t6_1 : Ro kU32 H v_t6_1 t6_1) (h_t6_3 : Ro kU32 H v_t6_3 t6_3) (h_out_1 : Ro kU32 H v_out_1 out_1) (h_out_3 : Ro kU32 H v_out_3 out_3) : Wp Tryz.prog 57 43 Q4.Kl0 (upd (upd (upd (upd (upd (upd (upd jk_ 3 (pt b_times)) 4 (pt b_more)) 6 (pt b_t6)) 7 (errV 104 t7)) 8 (pt b_out)) 27 (.int .i64 t27)) 28 (.int .i64 t28)) H (bx b_out [.bool out_0, v_out_1, .bool out_2, v_out_3] 26 :: bx b_t6 [.bool t6_0, v_t6_1, .bool t6_2, v_t6_3] 26 :: bx b_more [.bool more_0, v_more_1, .bool more_2, v_more_3] 26 :: bx b_times [.bool times_0, v_times_1, .bool times_2, v_times_3] 26 :: L) (Q4.R H0 L r) := by
 unfold Q4.b0 at he
 unfold Q4.Kl0
 refine wR rfl <| w_d rfl (XG rfl rfl) <| wE ?_
 rcases its he with ⟨c20, he⟩ | ⟨c20, he⟩
 ·
  refine Qy rfl (dt c20) <| QA <| QV <| QU <| wR rfl <| wA (errV 104 none) rfl rfl <| wQ rfl <| wL (.agg ⟨[.bool out_0, v_out_1, .bool out_2, v_out_3]⟩) ty26 rfl rfl .here rfl rfl <| wL (.agg ⟨[.bool times_0, v_times_1, .bool times_2, v_times_3]⟩) ty26 rfl rfl .h3 rfl rfl ?_
  refine wL (.agg ⟨[.bool more_0, v_more_1, .bool more_2, v_more_3]⟩) ty26 rfl rfl .h2 rfl rfl <| bK he fun y21 hy22 he => w_a rfl (Qm co96 (vs := [.agg ⟨[.bool out_0, v_out_1, .bool out_2, v_out_3]⟩, .agg ⟨[.bool times_0, v_times_1, .bool times_2, v_times_3]⟩, .agg ⟨[.bool more_0, v_more_1, .bool more_2, v_more_3]⟩]) rfl (Yu.calls k (a := ⟨⟨out_0, out_1⟩, ⟨out_2, out_3⟩⟩) (times := ⟨⟨times_0, times_1⟩, ⟨times_2, times_3⟩⟩) (more := ⟨⟨more_0, more_1⟩, ⟨more_2, more_3⟩⟩) hy22 h_out_1 h_out_3 h_times_1 h_times_3 h_more_1 h_more_3)) ?_
  rintro _ H23 _ ⟨rfl, e24, v25, v27, rfl, h26, h28⟩
  refine wM (.tuple ⟨[(Qb y21.1 v25 v27), errV 104 y21.2]⟩) rfl rfl <| w_d rfl (QO rfl rfl) <| w_d rfl (QO rfl rfl) <| wS (Qb y21.1 v25 v27) sz26 rfl rfl rfl rfl rfl (Xz h26 h28) .here u4 <| wA (errV 104 y21.2) rfl rfl <| wQ rfl <| wM (errV 104 y21.2) rfl rfl <| w_d rfl (Ya (e := y21.2) Tryz.underlying30 rfl) <| Qa ?_
  rcases its he with ⟨c29, he⟩ | ⟨c29, he⟩
  ·
   refine Qy rfl c29 <| wR rfl <| w_d rfl (XD (cs' := z0c) Tryz.underlying26 zr26 rfl (by kernel_rfl) (parts := []) rfl .nil) <| wM (errV 104 y21.2) rfl rfl <| wS (.agg ⟨z0c⟩) sz26 rfl rfl rfl rfl rfl (oc rfl (oc rfl (oc rfl (oc rfl oz)))) .h1 u4 <| wA (errV 104 y21.2) rfl rfl <| Qa ?_
   obtain rfl := sj he
   refine Qi fn_57 rs_57 (.box (v := .agg ⟨z0c⟩) rfl ty26 rfl rfl .h1 rfl (.tmp (v := errV 104 y21.2) rfl .nil)) <| ⟨⟨[_, _, _, _], rfl⟩, hle.trans e24, ⟨.slice none 0 0, .slice none 0 0, rfl, (Q9 _ _), (Q9 _ _)⟩⟩
  ·
   refine QB rfl (Bool.eq_false_iff.2 c29) <| QA <| Xk <| QD rfl <| w_d rfl (Xt (c := w64 (t28 + 1)) rfl rfl rfl) <| wM (.int .i64 (w64 (t28 + 1))) rfl rfl <| Qa <| Xy <| w_sl 3 (pt b_times) rfl <| w_sl 4 (pt b_more) rfl <| w_sl 6 (pt b_t6) rfl <| w_sl 7 (errV 104 t7) rfl ?_
   refine w_sl 8 (pt b_out) rfl <| w_sl 27 (.int .i64 t27) rfl <| w_sl 28 (.int .i64 (w64 (t28 + 1))) rfl <| hh.l0 (hle.trans e24) he (h_times_1.mono e24) (h_times_3.mono e24) (h_more_1.mono e24) (h_more_3.mono e24) (h_t6_1.mono e24) (h_t6_3.mono e24) h26 h28
 ·
  refine QB rfl (df c20) <| X1 rfl <| wR rfl <| wL (.agg ⟨[.bool out_0, v_out_1, .bool out_2, v_out_3]⟩) ty26 rfl rfl .here rfl rfl <| wS (.agg ⟨[.bool out_0, v_out_1, .bool out_2, v_out_3]⟩) sz26 rfl rfl rfl rfl rfl (oc rfl (oc (h_out_1.one) (oc rfl (oc (h_out_3.one) oz)))) .h1 u4 <| wA (errV 104 none) rfl rfl <| Qa ?_
  obtain rfl := sj he
  refine Qi fn_57 rs_57 (.box (v := .agg ⟨[.bool out_0, v_out_1, .bool out_2, v_out_3]⟩) rfl ty26 rfl rfl .h1 rfl (.tmp (v := errV 104 none) rfl .nil)) <| ⟨⟨[_, _, _, _], rfl⟩, hle, ⟨v_out_1, v_out_3, rfl, h_out_1, h_out_3⟩⟩
theorem Q4.ok : ∀ k, Q4.OK (Q4.hs k)
 | 0 => ⟨(by intros; exact nomatch (show none = some _ from by assumption))⟩
 | k + 1 => ⟨Q4.b0_ok (k := k) (Q4.ok k)⟩
theorem Q4.calls (k : Nat) {H : Hp} {L : Items} {times more : Qe} {n : Int} {v0_times v1_times v2_more v3_more : Value} {r : Qe × (Option Int)} (he : Q4.f k times more n = some r) (h0_times : Ro kU32 H v0_times times.f_n.f_w) (h1_times : Ro kU32 H v1_times times.f_d.f_w) (h2_more : Ro kU32 H v2_more more.f_n.f_w) (h3_more : Ro kU32 H v3_more more.f_d.f_w) : Ct Tryz.prog 57 ⟨[(Qb times v0_times v1_times), (Qb more v2_more v3_more), .int .i64 n]⟩ H L (cR H L (Q4.out r)) := by
 refine XR (O := Q4.out r) ?_
 have hle : H.le H := .refl _
 have hh := Q4.ok k
 unfold Q4.f at he
 refine QP (args := [_, _, _]) fn_57 rfl nt_57 rfl <| wR rfl <| wB (Qb times v0_times v1_times) rfl rfl rfl <| fun b1 => wB (Qb more v2_more v3_more) rfl rfl rfl <| fun b2 => wN zr26 rfl rfl fun b3 => wA (errV 104 none) rfl rfl <| wE <| wR rfl <| wL (Qb times v0_times v1_times) ty26 rfl rfl .h2 rfl rfl ?_
 refine bK he fun y4 hy5 he => w_d rfl (Xs (Qm co95 (vs := [(Qb times v0_times v1_times)]) rfl (Yf.calls k (a := times) hy5 h0_times h1_times))) <| wM (.bool y4) rfl rfl <| w_g (g := !y4) rfl rfl rfl wn_f (fun g8 => QS (v := (Qb more v2_more v3_more)) ty26 rfl .h1 rfl rfl rfl rfl) <| bK he fun y10 hy11 he => w_g (g := !y4) rfl rfl rfl wn_f (fun g9 => Xs (Qm co95 (vs := [(Qb more v2_more v3_more)]) (acons (cvt g9) (anil)) (Yf.calls k (a := more) (gd_t g9 hy11) h2_more h3_more))) <| w_d rfl (d_or' (b := y4) (p := y10) rfl rfl rfl) <| wM (.bool (y4 || y10)) rfl rfl <| w_g (g := !(y4 || y10)) rfl rfl rfl wn_f (fun g14 => QF (v := .int .i64 n) rfl) <| w_g (g := !(y4 || y10)) rfl rfl rfl wn_f (fun g15 => XG (cvt g15) rfl) <| w_d rfl (d_or' (b := (y4 || y10)) (p := (decide (n < 0))) rfl rfl rfl) <| wM (.bool ((y4 || y10) || (decide (n < 0)))) rfl rfl ?_
 refine w_g (g := !((y4 || y10) || (decide (n < 0)))) rfl rfl rfl wn_f (fun g16 => QF (v := .int .i64 n) rfl) <| w_g (g := !((y4 || y10) || (decide (n < 0)))) rfl rfl rfl wn_f (fun g17 => YR (cvt g17) rfl) <| w_d rfl (d_or' (b := ((y4 || y10) || (decide (n < 0)))) (p := (decide (32 < n))) rfl rfl rfl) <| Qa ?_
 rcases its he with ⟨c18, he⟩ | ⟨c18, he⟩
 ·
  refine Qy rfl c18 <| wR rfl <| w_d rfl (XD (cs' := z0c) Tryz.underlying26 zr26 rfl (by kernel_rfl) (parts := []) rfl .nil) <| w_d rfl (YU (v := .int .i64 1) Tryz.underlying104 rfl rfl) <| wS (.agg ⟨z0c⟩) sz26 rfl rfl rfl rfl rfl (oc rfl (oc rfl (oc rfl (oc rfl oz)))) .here u4 <| wA (errV 104 (some 1)) rfl rfl <| Qa ?_
  obtain rfl := sj he
  refine Qi fn_57 rs_57 (.box (v := .agg ⟨z0c⟩) rfl ty26 rfl rfl .here rfl (.tmp (v := errV 104 (some 1)) rfl .nil)) <| ⟨⟨[_, _, _], rfl⟩, hle, ⟨.slice none 0 0, .slice none 0 0, rfl, (Q9 _ _), (Q9 _ _)⟩⟩
 ·
  refine QB rfl (Bool.eq_false_iff.2 c18) <| QA <| wR rfl <| w_d rfl (XD (cs' := z0c) Tryz.underlying26 zr26 rfl (by kernel_rfl) (parts := []) rfl .nil) <| wN zr26 rfl rfl fun b19 => wS (.agg ⟨z0c⟩) sz26 rfl rfl rfl rfl rfl (oc rfl (oc rfl (oc rfl (oc rfl oz)))) .here u4 <| wE <| wR rfl <| wM (.int .i64 n) rfl rfl ?_
  refine wM (.int .i64 0) rfl rfl <| Qa <| QU <| X3 <| w_sl 3 (pt b1) rfl <| w_sl 4 (pt b2) rfl <| w_sl 6 (pt b3) rfl <| w_sl 7 (errV 104 none) rfl <| w_sl 8 (pt b19) rfl <| w_sl 27 (.int .i64 n) rfl <| w_sl 28 (.int .i64 0) rfl <| hh.l0 hle he h0_times h1_times h2_more h3_more (Q9 _ _) (Q9 _ _) (Q9 _ _) (Q9 _ _)
noncomputable def XK.C : Code := (Tryz.f60.body).getD .skip
def XK.out (r : Qe × (Option Int)) (H : Hp) (v : Value) : Prop := ∃ v0 v1, v = .tuple ⟨[(Qb r.1 v0 v1), errV 104 r.2]⟩ ∧ Ro kU32 H v0 r.1.f_n.f_w ∧ Ro kU32 H v1 r.1.f_d.f_w
theorem XK.out_mono (r : Qe × (Option Int)) {H H' : Hp} {v : Value} (hle : H.le H') (h : XK.out r H v) : XK.out r H' v := by
 obtain ⟨v0, v1, rfl, h0, h1⟩ := h; exact ⟨v0, v1, rfl, h0.mono hle, h1.mono hle⟩
noncomputable def XK.f (k : Nat) (a b : Qe) : Option (Qe × (Option Int)) := (QL.f k a b true).bind fun y4 => some (y4.1, y4.2)
theorem XK.mono : ∀ k y0 y1, LeO (XK.f k y0 y1) (XK.f (k + 1) y0 y1) := fun k _ _ => by unfold XK.f; exact (LeO.bind (QL.mono k _ _ _) fun _ => LeO.refl _)
theorem XK.calls (k : Nat) {H : Hp} {L : Items} {a b : Qe} {v0_a v1_a v2_b v3_b : Value} {r : Qe × (Option Int)} (he : XK.f k a b = some r) (h0_a : Ro kU32 H v0_a a.f_n.f_w) (h1_a : Ro kU32 H v1_a a.f_d.f_w) (h2_b : Ro kU32 H v2_b b.f_n.f_w) (h3_b : Ro kU32 H v3_b b.f_d.f_w) : Ct Tryz.prog 60 ⟨[(Qb a v0_a v1_a), (Qb b v2_b v3_b)]⟩ H L (cR H L (XK.out r)) := by
 refine XR (O := XK.out r) ?_
 have hle : H.le H := .refl _
 unfold XK.f at he
 refine QP (args := [_, _]) fn_60 rfl nt_60 rfl <| wR rfl <| wB (Qb a v0_a v1_a) rfl rfl rfl <| fun b1 => wB (Qb b v2_b v3_b) rfl rfl rfl <| fun b2 => wN zr26 rfl rfl fun b3 => wA (errV 104 none) rfl rfl <| wQ rfl <| wL (Qb a v0_a v1_a) ty26 rfl rfl .h2 rfl rfl <| wL (Qb b v2_b v3_b) ty26 rfl rfl .h1 rfl rfl ?_
 refine bK he fun y4 hy5 he => w_a rfl (Qm co76 (vs := [(Qb a v0_a v1_a), (Qb b v2_b v3_b), .bool true]) rfl (QL.calls k (a := a) (b := b) hy5 h0_a h1_a h2_b h3_b)) ?_
 rintro _ H6 _ ⟨rfl, e7, v8, v10, rfl, h9, h11⟩
 refine w_d rfl (QO rfl rfl) <| w_d rfl (QO rfl rfl) <| wS (Qb y4.1 v8 v10) sz26 rfl rfl rfl rfl rfl (Xz h9 h11) .here u4 <| wA (errV 104 y4.2) rfl rfl <| Qa ?_
 obtain rfl := sj he
 refine Qi fn_60 rs_60 (.box (v := (Qb y4.1 v8 v10)) rfl ty26 rfl rfl .here rfl (.tmp (v := errV 104 y4.2) rfl .nil)) <| ⟨⟨[_, _, _], rfl⟩, hle.trans e7, ⟨v8, v10, rfl, h9, h11⟩⟩
noncomputable def YA.C : Code := (Tryz.f105.body).getD .skip
def YA.out (r : Qe × (Option Int)) (H : Hp) (v : Value) : Prop := ∃ v0 v1, v = .tuple ⟨[(Qb r.1 v0 v1), errV 104 r.2]⟩ ∧ Ro kU32 H v0 r.1.f_n.f_w ∧ Ro kU32 H v1 r.1.f_d.f_w
noncomputable def YA.f (k : Nat) (a : Qe) : Option (Qe × (Option Int)) := (Yf.f k a).bind fun y3 => if (!y3) = true then (some (a, none)) else ((XK.f k ⟨⟨false, []⟩, ⟨false, []⟩⟩ a).bind fun y8 => some (y8.1, y8.2))
theorem YA.mono : ∀ k y0, LeO (YA.f k y0) (YA.f (k + 1) y0) := fun k _ => by unfold YA.f; exact (LeO.bind (Yf.mono k _) fun _ => LeO.ite (LeO.refl _) (LeO.bind (XK.mono k _ _) fun _ => LeO.refl _))
theorem YA.calls (k : Nat) {H : Hp} {L : Items} {a : Qe} {v0_a v1_a : Value} {r : Qe × (Option Int)} (he : YA.f k a = some r) (h0_a : Ro kU32 H v0_a a.f_n.f_w) (h1_a : Ro kU32 H v1_a a.f_d.f_w) : Ct Tryz.prog 105 ⟨[(Qb a v0_a v1_a)]⟩ H L (cR H L (YA.out r)) := by
 refine XR (O := YA.out r) ?_
 have hle : H.le H := .refl _
 unfold YA.f at he
 refine QP (args := [_]) fn_105 rfl nt_105 rfl <| wR rfl <| wB (Qb a v0_a v1_a) rfl rfl rfl <| fun b1 => wN zr26 rfl rfl fun b2 => wA (errV 104 none) rfl rfl <| wE <| wR rfl <| wL (Qb a v0_a v1_a) ty26 rfl rfl .h1 rfl rfl <| bK he fun y3 hy4 he => ?_
 refine w_d rfl (Xs (Qm co95 (vs := [(Qb a v0_a v1_a)]) rfl (Yf.calls k (a := a) hy4 h0_a h1_a))) <| w_d rfl (Zz (b := y3) rfl) <| Qa ?_
 rcases its he with ⟨c7, he⟩ | ⟨c7, he⟩
 ·
  refine Qy rfl c7 <| wR rfl <| wL (Qb a v0_a v1_a) ty26 rfl rfl .h1 rfl rfl <| wS (Qb a v0_a v1_a) sz26 rfl rfl rfl rfl rfl (Xz h0_a h1_a) .here u4 <| wA (errV 104 none) rfl rfl <| Qa ?_
  obtain rfl := sj he
  refine Qi fn_105 rs_105 (.box (v := (Qb a v0_a v1_a)) rfl ty26 rfl rfl .here rfl (.tmp (v := errV 104 none) rfl .nil)) <| ⟨⟨[_, _], rfl⟩, hle, ⟨v0_a, v1_a, rfl, h0_a, h1_a⟩⟩
 ·
  refine QB rfl (Bool.eq_false_iff.2 c7) <| QA <| wR rfl <| w_d rfl (XD (cs' := z0c) Tryz.underlying26 zr26 rfl (by kernel_rfl) (parts := []) rfl .nil) <| wL (Qb a v0_a v1_a) ty26 rfl rfl .h1 rfl rfl <| bK he fun y8 hy9 he => w_a rfl (Qm co60 (vs := [.agg ⟨z0c⟩, (Qb a v0_a v1_a)]) rfl (XK.calls k (a := ⟨⟨false, []⟩, ⟨false, []⟩⟩) (b := a) hy9 (Q9 _ _) (Q9 _ _) h0_a h1_a)) ?_
  rintro _ H10 _ ⟨rfl, e11, v12, v14, rfl, h13, h15⟩
  refine w_d rfl (QO rfl rfl) <| w_d rfl (QO rfl rfl) <| wS (Qb y8.1 v12 v14) sz26 rfl rfl rfl rfl rfl (Xz h13 h15) .here u4 <| wA (errV 104 y8.2) rfl rfl <| Qa ?_
  obtain rfl := sj he
  refine Qi fn_105 rs_105 (.box (v := (Qb y8.1 v12 v14)) rfl ty26 rfl rfl .here rfl (.tmp (v := errV 104 y8.2) rfl .nil)) <| ⟨⟨[_, _], rfl⟩, hle.trans e11, ⟨v12, v14, rfl, h13, h15⟩⟩
noncomputable def QT.C : Code := (Tryz.f93.body).getD .skip
def QT.out (r : Qe × (Option Int)) (H : Hp) (v : Value) : Prop := ∃ v0 v1, v = .tuple ⟨[(Qb r.1 v0 v1), errV 104 r.2]⟩ ∧ Ro kU32 H v0 r.1.f_n.f_w ∧ Ro kU32 H v1 r.1.f_d.f_w
abbrev QT.R (H0 : Hp) (L : Items) (r : Qe × (Option Int)) := fR H0 L (QT.out r)
structure QT.Hs where
 l0 : Bool → (List Int) → Bool → (List Int) → (Option Int) → Bool → (List Int) → Bool → (List Int) → (List Qe) → Int → Int → Option (Qe × (Option Int))
noncomputable def QT.b0 (k : Nat) (h : QT.Hs) (t2_0 : Bool) (t2_1 : List Int) (t2_2 : Bool) (t2_3 : List Int) (t3 : Option Int) (sum_0 : Bool) (sum_1 : List Int) (sum_2 : Bool) (sum_3 : List Int) (t10 : List Qe) (t11 t12 : Int) : Option (Qe × (Option Int)) := if t12 < t11 then (if (0 : Int) ≤ t12 ∧ t12 < (t10.length : Int) then ((YA.f k (rd t10 t12)).bind fun y12 => if y12.2.isSome = true then (some (⟨⟨false, []⟩, ⟨false, []⟩⟩, y12.2)) else ((XQ.f k ⟨⟨sum_0, sum_1⟩, ⟨sum_2, sum_3⟩⟩ y12.1).bind fun y22 => if y22.2.isSome = true then (some (⟨⟨false, []⟩, ⟨false, []⟩⟩, y22.2)) else (h.l0 t2_0 t2_1 t2_2 t2_3 t3 y22.1.f_n.f_neg y22.1.f_n.f_w y22.1.f_d.f_neg y22.1.f_d.f_w t10 t11 (w64 (t12 + 1))))) else none) else (some (⟨⟨sum_0, sum_1⟩, ⟨sum_2, sum_3⟩⟩, none))
noncomputable def QT.hs : Nat → QT.Hs
 | 0 => ⟨fun _ _ _ _ _ _ _ _ _ _ _ _ => none⟩
 | k + 1 => ⟨fun x0 x1 x2 x3 x4 x5 x6 x7 x8 x9 x10 x11 => QT.b0 k (QT.hs k) x0 x1 x2 x3 x4 x5 x6 x7 x8 x9 x10 x11⟩
noncomputable def QT.f (k : Nat) (l : List Qe) : Option (Qe × (Option Int)) := (fun h : QT.Hs => h.l0 false [] false [] none false [] false [] l (l.length : Int) 0) (QT.hs k)
structure QT.LE (h h' : QT.Hs) : Prop where
 l0 : ∀ y0 y1 y2 y3 y4 y5 y6 y7 y8 y9 y10 y11, LeO (h.l0 y0 y1 y2 y3 y4 y5 y6 y7 y8 y9 y10 y11) (h'.l0 y0 y1 y2 y3 y4 y5 y6 y7 y8 y9 y10 y11)
theorem QT.b0_mono {k : Nat} {h h' : QT.Hs} (hl : QT.LE h h') : ∀ y0 y1 y2 y3 y4 y5 y6 y7 y8 y9 y10 y11, LeO (QT.b0 k h y0 y1 y2 y3 y4 y5 y6 y7 y8 y9 y10 y11) (QT.b0 (k + 1) h' y0 y1 y2 y3 y4 y5 y6 y7 y8 y9 y10 y11) := fun _ _ _ _ _ _ _ _ _ _ _ _ => (LeO.ite (LeO.ite (LeO.bind (YA.mono k _) fun _ => LeO.ite (LeO.refl _) (LeO.bind (XQ.mono k _ _) fun _ => LeO.ite (LeO.refl _) (hl.l0 _ _ _ _ _ _ _ _ _ _ _ _))) (LeO.refl _)) (LeO.refl _))
theorem QT.hs_mono : ∀ k, QT.LE (QT.hs k) (QT.hs (k + 1))
 | 0 => ⟨fun _ _ _ _ _ _ _ _ _ _ _ _ => LeO.none _⟩
 | k + 1 => ⟨QT.b0_mono (k := k) (QT.hs_mono k)⟩
theorem QT.mono : ∀ k y0, LeO (QT.f k y0) (QT.f (k + 1) y0) := fun k _ => have hl := QT.hs_mono k; by unfold QT.f; exact (hl.l0 _ _ _ _ _ _ _ _ _ _ _ _)
noncomputable def QT.Kl0 : List Item := .code (lopB (blkB (seqR (seqL (seqR (seqR QT.C)))))) :: .inLoop (lopB (blkB (seqR (seqL (seqR (seqR QT.C)))))) :: .inBlock 0 :: .code (seqR (seqR (seqR QT.C))) :: []
structure QT.OK (h : QT.Hs) : Prop where
 l0 : ∀ {H0 H : Hp} {L : Items} {r : Qe × (Option Int)} {jk_ : Nat → Value} {t2_0 : Bool} {t2_1 : List Int} {t2_2 : Bool} {t2_3 : List Int} {t3 : Option Int} {sum_0 : Bool} {sum_1 : List Int} {sum_2 : Bool} {sum_3 : List Int} {t10 : List Qe} {t11 : Int} {t12 : Int} {v_t2_1 : Value} {v_t2_3 : Value} {v_sum_1 : Value} {v_sum_3 : Value} {v_t10 : Value} {b_t2 : Nat} {b_sum : Nat} (_ : H0.le H) (_he : h.l0 t2_0 t2_1 t2_2 t2_3 t3 sum_0 sum_1 sum_2 sum_3 t10 t11 t12 = some r) (_h_t2_1 : Ro kU32 H v_t2_1 t2_1) (_h_t2_3 : Ro kU32 H v_t2_3 t2_3) (_h_sum_1 : Ro kU32 H v_sum_1 sum_1) (_h_sum_3 : Ro kU32 H v_sum_3 sum_3) (_h_t10 : Src Q1 H L v_t10 t10), Wp Tryz.prog 93 37 QT.Kl0 (upd (upd (upd (upd (upd (upd jk_ 2 (pt b_t2)) 3 (errV 104 t3)) 4 (pt b_sum)) 10 (v_t10)) 11 (.int .i64 t11)) 12 (.int .i64 t12)) H (bx b_sum [.bool sum_0, v_sum_1, .bool sum_2, v_sum_3] 26 :: bx b_t2 [.bool t2_0, v_t2_1, .bool t2_2, v_t2_3] 26 :: L) (QT.R H0 L r)
theorem QT.b0_ok {k : Nat} {h : QT.Hs} (hh : QT.OK h) {H0 H : Hp} {L : Items} {r : Qe × (Option Int)} {jk_ : Nat → Value} {t2_0 : Bool} {t2_1 : List Int} {t2_2 : Bool} {t2_3 : List Int} {t3 : Option Int} {sum_0 : Bool} {sum_1 : List Int} {sum_2 : Bool} {sum_3 : List Int} {t10 : List Qe} {t11 t12 : Int} {v_t2_1 v_t2_3 v_sum_1 v_sum_3 v_t10 : Value} {b_t2 b_sum : Nat} (hle : H0.le H) (he : QT.b0 k h t2_0 t2_1 t2_2 t2_3 t3 sum_0 sum_1 sum_2 sum_3 t10 t11 t12 = some r) (h_t2_1 : Ro kU32 H v_t2_1 t2_1) (h_t2_3 : Ro kU32 H v_t2_3 t2_3) (h_sum_1 : Ro kU32 H v_sum_1 sum_1) (h_sum_3 : Ro kU32 H v_sum_3 sum_3) (h_t10 : Src Q1 H L v_t10 t10) : Wp Tryz.prog 93 37 QT.Kl0 (upd (upd (upd (upd (upd (upd jk_ 2 (pt b_t2)) 3 (errV 104 t3)) 4 (pt b_sum)) 10 (v_t10)) 11 (.int .i64 t11)) 12 (.int .i64 t12)) H (bx b_sum [.bool sum_0, v_sum_1, .bool sum_2, v_sum_3] 26 :: bx b_t2 [.bool t2_0, v_t2_1, .bool t2_2, v_t2_3] 26 :: L) (QT.R H0 L r) := by
 unfold QT.b0 at he
 unfold QT.Kl0
 refine wR rfl <| w_d rfl (XG rfl rfl) <| wE ?_
 rcases its he with ⟨c3, he⟩ | ⟨c3, he⟩
 ·
  refine Qy rfl (dt c3) <| QA <| QV <| QU <| wR rfl <| rK he fun c4 he => w_d rfl (XM (sz := 4) Tryz.underlying81 sz26 rfl h_t10.th.th rfl c4) ?_
  obtain ⟨_, l5, r6⟩ := Jm (kd := Q1) h_t10.th.th c4
  obtain ⟨v7, v9, rfl, h8, h10⟩ := Za r6
  refine w_d rfl (ZM (v := .agg ⟨[.bool (((rd t10 t12).f_n).f_neg), v7, .bool (((rd t10 t12).f_d).f_neg), v9]⟩) (cs := [.bool (((rd t10 t12).f_n).f_neg), v7, .bool (((rd t10 t12).f_d).f_neg), v9]) ty26 rfl rfl (by decide) l5 rfl) <| wN zr26 rfl rfl fun b11 => wS (.agg ⟨[.bool (((rd t10 t12).f_n).f_neg), v7, .bool (((rd t10 t12).f_d).f_neg), v9]⟩) sz26 rfl rfl rfl rfl rfl (oc rfl (oc (h8.one) (oc rfl (oc (h10.one) oz)))) .here u4 <| wQ rfl <| w_d rfl (QS (v := .agg ⟨[.bool (((rd t10 t12).f_n).f_neg), v7, .bool (((rd t10 t12).f_d).f_neg), v9]⟩) ty26 rfl .here rfl rfl rfl rfl) <| bK he fun y12 hy13 he => w_a rfl (Qm co105 (vs := [.agg ⟨[.bool (((rd t10 t12).f_n).f_neg), v7, .bool (((rd t10 t12).f_d).f_neg), v9]⟩]) rfl (YA.calls k (a := (rd t10 t12)) hy13 h8 h10)) ?_
  rintro _ H14 _ ⟨rfl, e15, v16, v18, rfl, h17, h19⟩
  refine wM (.tuple ⟨[(Qb y12.1 v16 v18), errV 104 y12.2]⟩) rfl rfl <| w_d rfl (QO rfl rfl) <| w_d rfl (QO rfl rfl) <| wN zr26 rfl rfl fun b20 => wS (Qb y12.1 v16 v18) sz26 rfl rfl rfl rfl rfl (Xz h17 h19) .here u4 <| wA (errV 104 y12.2) rfl rfl <| wE <| wR rfl <| wM (errV 104 y12.2) rfl rfl <| w_d rfl (Ya (e := y12.2) Tryz.underlying30 rfl) ?_
  refine Qa ?_
  rcases its he with ⟨c21, he⟩ | ⟨c21, he⟩
  ·
   refine Qy rfl c21 <| wR rfl <| w_d rfl (XD (cs' := z0c) Tryz.underlying26 zr26 rfl (by kernel_rfl) (parts := []) rfl .nil) <| wM (errV 104 y12.2) rfl rfl <| wS (.agg ⟨z0c⟩) sz26 rfl rfl rfl rfl rfl (oc rfl (oc rfl (oc rfl (oc rfl oz)))) .h3 u4 <| wA (errV 104 y12.2) rfl rfl <| Qa ?_
   obtain rfl := sj he
   refine Qi fn_93 rs_93 (.box (v := .agg ⟨z0c⟩) rfl ty26 rfl rfl .h3 rfl (.tmp (v := errV 104 y12.2) rfl .nil)) <| ⟨⟨[_, _, _, _], rfl⟩, hle.trans e15, ⟨.slice none 0 0, .slice none 0 0, rfl, (Q9 _ _), (Q9 _ _)⟩⟩
  ·
   refine QB rfl (Bool.eq_false_iff.2 c21) <| QA <| wR rfl <| wL (.agg ⟨[.bool sum_0, v_sum_1, .bool sum_2, v_sum_3]⟩) ty26 rfl rfl .h2 rfl rfl <| wL (Qb y12.1 v16 v18) ty26 rfl rfl .here rfl rfl <| bK he fun y22 hy23 he => w_a rfl (Qm co23 (vs := [.agg ⟨[.bool sum_0, v_sum_1, .bool sum_2, v_sum_3]⟩, (Qb y12.1 v16 v18)]) rfl (XQ.calls k (a := ⟨⟨sum_0, sum_1⟩, ⟨sum_2, sum_3⟩⟩) (b := y12.1) hy23 (h_sum_1.mono e15) (h_sum_3.mono e15) h17 h19)) ?_
   rintro _ H24 _ ⟨rfl, e25, v26, v28, rfl, h27, h29⟩
   refine wM (.tuple ⟨[(Qb y22.1 v26 v28), errV 104 y22.2]⟩) rfl rfl <| w_d rfl (QO rfl rfl) <| w_d rfl (QO rfl rfl) <| wS (Qb y22.1 v26 v28) sz26 rfl rfl rfl rfl rfl (Xz h27 h29) .h2 u4 <| wA (errV 104 y22.2) rfl rfl <| wQ rfl <| wM (errV 104 y22.2) rfl rfl <| w_d rfl (Ya (e := y22.2) Tryz.underlying30 rfl) <| Qa ?_
   rcases its he with ⟨c30, he⟩ | ⟨c30, he⟩
   ·
    refine Qy rfl c30 <| wR rfl <| w_d rfl (XD (cs' := z0c) Tryz.underlying26 zr26 rfl (by kernel_rfl) (parts := []) rfl .nil) <| wM (errV 104 y22.2) rfl rfl <| wS (.agg ⟨z0c⟩) sz26 rfl rfl rfl rfl rfl (oc rfl (oc rfl (oc rfl (oc rfl oz)))) .h3 u4 <| wA (errV 104 y22.2) rfl rfl <| Qa ?_
    obtain rfl := sj he
    refine Qi fn_93 rs_93 (.box (v := .agg ⟨z0c⟩) rfl ty26 rfl rfl .h3 rfl (.tmp (v := errV 104 y22.2) rfl .nil)) <| ⟨⟨[_, _, _, _], rfl⟩, hle.trans (e15.trans e25), ⟨.slice none 0 0, .slice none 0 0, rfl, (Q9 _ _), (Q9 _ _)⟩⟩
   ·
    refine QB rfl (Bool.eq_false_iff.2 c30) <| QA <| Xk <| QD rfl <| w_d rfl (Xt (c := w64 (t12 + 1)) rfl rfl rfl) <| wM (.int .i64 (w64 (t12 + 1))) rfl rfl <| Qa <| Xy <| YD .h1 <| YD .here <| w_sl 2 (pt b_t2) rfl <| w_sl 3 (errV 104 t3) rfl ?_
    refine w_sl 4 (pt b_sum) rfl <| w_sl 10 (v_t10) rfl <| w_sl 11 (.int .i64 t11) rfl <| w_sl 12 (.int .i64 (w64 (t12 + 1))) rfl <| hh.l0 (hle.trans (e15.trans e25)) he (h_t2_1.mono (e15.trans e25)) (h_t2_3.mono (e15.trans e25)) h27 h29 (h_t10.mono (e15.trans e25))
 ·
  refine QB rfl (df c3) <| X1 rfl <| wR rfl <| wL (.agg ⟨[.bool sum_0, v_sum_1, .bool sum_2, v_sum_3]⟩) ty26 rfl rfl .here rfl rfl <| wS (.agg ⟨[.bool sum_0, v_sum_1, .bool sum_2, v_sum_3]⟩) sz26 rfl rfl rfl rfl rfl (oc rfl (oc (h_sum_1.one) (oc rfl (oc (h_sum_3.one) oz)))) .h1 u4 <| wA (errV 104 none) rfl rfl <| Qa ?_
  obtain rfl := sj he
  refine Qi fn_93 rs_93 (.box (v := .agg ⟨[.bool sum_0, v_sum_1, .bool sum_2, v_sum_3]⟩) rfl ty26 rfl rfl .h1 rfl (.tmp (v := errV 104 none) rfl .nil)) <| ⟨⟨[_, _], rfl⟩, hle, ⟨v_sum_1, v_sum_3, rfl, h_sum_1, h_sum_3⟩⟩
theorem QT.ok : ∀ k, QT.OK (QT.hs k)
 | 0 => ⟨(by intros; exact nomatch (show none = some _ from by assumption))⟩
 | k + 1 => ⟨QT.b0_ok (k := k) (QT.ok k)⟩
theorem QT.calls (k : Nat) {H : Hp} {L : Items} {l : List Qe} {v0_l : Value} {r : Qe × (Option Int)} (he : QT.f k l = some r) (h0_l : Src Q1 H L v0_l l) : Ct Tryz.prog 93 ⟨[v0_l]⟩ H L (cR H L (QT.out r)) := by
 refine XR (O := QT.out r) ?_
 have hle : H.le H := .refl _
 have hh := QT.ok k
 unfold QT.f at he
 refine QP (args := [_]) fn_93 rfl nt_93 rfl <| wR rfl <| wN zr26 rfl rfl fun b1 => wA (errV 104 none) rfl rfl <| wQ rfl <| w_d rfl (XD (cs' := z0c) Tryz.underlying26 zr26 rfl (by kernel_rfl) (parts := []) rfl .nil) <| wN zr26 rfl rfl fun b2 => wS (.agg ⟨z0c⟩) sz26 rfl rfl rfl rfl rfl (oc rfl (oc rfl (oc rfl (oc rfl oz)))) .here u4 <| Qa ?_
 refine QV <| wR rfl <| wM v0_l rfl rfl <| w_d rfl (Xq Tryz.underlying81 rfl h0_l.th.th) <| wM (.int .i64 0) rfl rfl <| Qa <| QU <| X3 <| w_sl 2 (pt b1) rfl <| w_sl 3 (errV 104 none) rfl <| w_sl 4 (pt b2) rfl ?_
 refine w_sl 10 (v0_l) rfl <| w_sl 11 (.int .i64 (l.length : Int)) rfl <| w_sl 12 (.int .i64 0) rfl <| hh.l0 hle he (Q9 _ _) (Q9 _ _) (Q9 _ _) (Q9 _ _) h0_l
noncomputable def Yw.C : Code := (Tryz.f107.body).getD .skip
def Yw.out (r : Int) (H : Hp) (v : Value) : Prop := v = .int .i64 r
noncomputable def Yw.f (k : Nat) (a b : Qq) : Option Int := (Xl.f k a).bind fun y3 => (Xl.f k b).bind fun y9 => (X8.f k y3 y9).bind fun y13 => if ((!decide (y13 = 0)) || (!(a.f_neg == b.f_neg))) = true then (some (y13)) else (if a.f_neg = true then ((Q0.f k b.f_w a.f_w).bind fun y24 => some (y24)) else ((Q0.f k a.f_w b.f_w).bind fun y28 => some (y28)))
theorem Yw.mono : ∀ k y0 y1, LeO (Yw.f k y0 y1) (Yw.f (k + 1) y0 y1) := fun k _ _ => by unfold Yw.f; exact (LeO.bind (Xl.mono k _) fun _ => LeO.bind (Xl.mono k _) fun _ => LeO.bind (X8.mono k _ _) fun _ => LeO.ite (LeO.refl _) (LeO.ite (LeO.bind (Q0.mono k _ _) fun _ => LeO.refl _) (LeO.bind (Q0.mono k _ _) fun _ => LeO.refl _)))
theorem Yw.calls (k : Nat) {H : Hp} {L : Items} {a b : Qq} {v0_a v1_b : Value} {r : Int} (he : Yw.f k a b = some r) (h0_a : Ro kU32 H v0_a a.f_w) (h1_b : Ro kU32 H v1_b b.f_w) : Ct Tryz.prog 107 ⟨[(Qc a v0_a), (Qc b v1_b)]⟩ H L (fun v H' L' => L = L' ∧ H = H' ∧ v = .int .i64 r) := by
 refine X6 (O := Yw.out r) (fun _ _ h => h) ?_
 have hle : H.le H := .refl _
 unfold Yw.f at he
 refine QP (args := [_, _]) fn_107 rfl nt_107 rfl <| wR rfl <| wB (Qc a v0_a) rfl rfl rfl <| fun b1 => wB (Qc b v1_b) rfl rfl rfl <| fun b2 => wA (.int .i64 0) rfl rfl <| wE <| QV <| bK he fun y3 hy4 he => XJ (p := 3) (tl := [3, 4, 5]) [[], [(0, some 6)], []] [some 6, some 7, some 8] (fctF (.is (Qc a v0_a) :: .is (.int .i64 y3) :: .is (Qc b v1_b) :: [])) (fun m_ => bx b2 (QK b v1_b) 24 :: bx b1 (QK a v0_a) 24 :: L) (fun _ => none) mixed (by kernel_rfl) (by kernel_rfl) rfl (Xv (by kernel_rfl)) ⟨(fun H' m_ hH hm_ hu_ => dn <| s_d (m_ 0) rfl (QS (v := (Qc a v0_a)) ty24 rfl .h1 rfl rfl rfl rfl) (by exact rfl) rfl), (by rintro H' m_ hH hm_ hu_ _ rfl; exact dn <| s_d (m_ 1) rfl (Xs (Qm co84 (vs := [(Qc a v0_a)]) rfl (Xl.calls k (a := a) hy4 (h0_a.mono hH)))) (by exact rfl) rfl), (fun H' m_ hH hm_ hu_ => dn <| s_d (m_ 2) rfl (QS (v := (Qc b v1_b)) ty24 rfl .here rfl rfl rfl rfl) (by exact rfl) rfl), trivial⟩ ?_
 intro H7 e8
 rintro _ _ rfl _ _ rfl _ _ rfl
 refine bK he fun y9 hy10 he => w_d rfl (Xs (Qm co84 (vs := [(Qc b v1_b)]) rfl (Xl.calls k (a := b) hy10 (h1_b.mono e8)))) <| bK he fun y13 hy14 he => w_d rfl (Xs (Qm co136 (vs := [.int .i64 y3, .int .i64 y9]) rfl (X8.calls k hy14))) <| wA (.int .i64 y13) rfl rfl <| wQ rfl <| wM (.int .i64 y13) rfl rfl <| w_d rfl (Zl rfl rfl) <| wM (.bool (!decide (y13 = 0))) rfl rfl <| w_g (g := !(!decide (y13 = 0))) rfl rfl rfl wn_f (fun g17 => Xe (o' := 0) Tryz.underlying24 rfl sz4 rfl rfl rfl) ?_
 refine w_g (g := !(!decide (y13 = 0))) rfl rfl rfl wn_f (fun g18 => QS (v := .bool a.f_neg) ty4 (cvt g18) .h1 rfl rfl rfl rfl) <| w_g (g := !(!decide (y13 = 0))) rfl rfl rfl wn_f (fun g19 => Xe (o' := 0) Tryz.underlying24 rfl sz4 rfl rfl rfl) <| w_g (g := !(!decide (y13 = 0))) rfl rfl rfl wn_f (fun g20 => QS (v := .bool b.f_neg) ty4 (cvt g20) .here rfl rfl rfl rfl) <| w_g (g := !(!decide (y13 = 0))) rfl rfl rfl wn_f (fun g21 => GF (a := a.f_neg) (b := b.f_neg) Tryz.underlying4 (cvt g21) (cvt g21)) <| w_d rfl (d_or' (b := (!decide (y13 = 0))) (p := (!(a.f_neg == b.f_neg))) rfl rfl rfl) <| Qa ?_
 rcases its he with ⟨c22, he⟩ | ⟨c22, he⟩
 ·
  refine Qy rfl c22 <| wR rfl <| wM (.int .i64 y13) rfl rfl <| wA (.int .i64 y13) rfl rfl <| Qa ?_
  obtain rfl := sj he
  refine Qi fn_107 rs_107 (.tmp (v := .int .i64 y13) rfl .nil) <| ⟨⟨[_, _], rfl⟩, hle.trans e8, rfl⟩
 ·
  refine QB rfl (Bool.eq_false_iff.2 c22) <| QA <| QV <| wR rfl <| w_d rfl (Xe (o' := 0) Tryz.underlying24 rfl sz4 rfl rfl rfl) <| wL (.bool a.f_neg) ty4 rfl rfl .h1 rfl rfl <| Qa ?_
  rcases its he with ⟨c23, he⟩ | ⟨c23, he⟩
  ·
   refine Qy rfl c23 <| wR rfl <| w_d rfl (Xe (o' := 1) Tryz.underlying24 rfl sz22 rfl rfl rfl) <| wL v1_b ty22 rfl rfl .here rfl rfl <| w_d rfl (Xe (o' := 1) Tryz.underlying24 rfl sz22 rfl rfl rfl) <| wL v0_a ty22 rfl rfl .h1 rfl rfl <| bK he fun y24 hy25 he => w_d rfl (Xs (Qm co137 (vs := [v1_b, v0_a]) rfl (Q0.calls k hy25 ((h1_b.mono e8).src) ((h0_a.mono e8).src)))) <| wA (.int .i64 y24) rfl rfl <| Qa ?_
   obtain rfl := sj he
   refine Qi fn_107 rs_107 (.tmp (v := .int .i64 y24) rfl .nil) <| ⟨⟨[_, _], rfl⟩, hle.trans e8, rfl⟩
  ·
   refine QB rfl (Bool.eq_false_iff.2 c23) <| QA <| wR rfl <| w_d rfl (Xe (o' := 1) Tryz.underlying24 rfl sz22 rfl rfl rfl) <| wL v0_a ty22 rfl rfl .h1 rfl rfl <| w_d rfl (Xe (o' := 1) Tryz.underlying24 rfl sz22 rfl rfl rfl) <| wL v1_b ty22 rfl rfl .here rfl rfl <| bK he fun y28 hy29 he => w_d rfl (Xs (Qm co137 (vs := [v0_a, v1_b]) rfl (Q0.calls k hy29 ((h0_a.mono e8).src) ((h1_b.mono e8).src)))) <| wA (.int .i64 y28) rfl rfl <| Qa ?_
   obtain rfl := sj he
   refine Qi fn_107 rs_107 (.tmp (v := .int .i64 y28) rfl .nil) <| ⟨⟨[_, _], rfl⟩, hle.trans e8, rfl⟩
noncomputable def X2.C : Code := (Tryz.f56.body).getD .skip
def X2.out (r : Int × (Option Int)) (H : Hp) (v : Value) : Prop := v = .tuple ⟨[.int .i64 r.1, errV 104 r.2]⟩
noncomputable def X2.f (k : Nat) (a b : Qe) : Option (Int × (Option Int)) := (XP.f k a b).bind fun y3 => if y3.2.2.isSome = true then (some (0, y3.2.2)) else ((Yw.f k y3.1 y3.2.1).bind fun y14 => some (y14, none))
theorem X2.mono : ∀ k y0 y1, LeO (X2.f k y0 y1) (X2.f (k + 1) y0 y1) := fun k _ _ => by unfold X2.f; exact (LeO.bind (XP.mono k _ _) fun _ => LeO.ite (LeO.refl _) (LeO.bind (Yw.mono k _ _) fun _ => LeO.refl _))
theorem X2.calls (k : Nat) {H : Hp} {L : Items} {a b : Qe} {v0_a v1_a v2_b v3_b : Value} {r : Int × (Option Int)} (he : X2.f k a b = some r) (h0_a : Ro kU32 H v0_a a.f_n.f_w) (h1_a : Ro kU32 H v1_a a.f_d.f_w) (h2_b : Ro kU32 H v2_b b.f_n.f_w) (h3_b : Ro kU32 H v3_b b.f_d.f_w) : Ct Tryz.prog 56 ⟨[(Qb a v0_a v1_a), (Qb b v2_b v3_b)]⟩ H L (fun v H' L' => L = L' ∧ H = H' ∧ v = .tuple ⟨[.int .i64 r.1, errV 104 r.2]⟩) := by
 refine X6 (O := X2.out r) (fun _ _ h => h) ?_
 have hle : H.le H := .refl _
 unfold X2.f at he
 refine QP (args := [_, _]) fn_56 rfl nt_56 rfl <| wR rfl <| wB (Qb a v0_a v1_a) rfl rfl rfl <| fun b1 => wB (Qb b v2_b v3_b) rfl rfl rfl <| fun b2 => wA (.int .i64 0) rfl rfl <| wA (errV 104 none) rfl rfl <| wQ rfl <| wL (Qb a v0_a v1_a) ty26 rfl rfl .h1 rfl rfl <| wL (Qb b v2_b v3_b) ty26 rfl rfl .here rfl rfl ?_
 refine bK he fun y3 hy4 he => w_a rfl (Qm co106 (vs := [(Qb a v0_a v1_a), (Qb b v2_b v3_b)]) rfl (XP.calls k (a := a) (b := b) hy4 h0_a h1_a h2_b h3_b)) ?_
 rintro _ H5 _ ⟨rfl, e6, v7, v9, rfl, h8, h10⟩
 refine wM (.tuple ⟨[(Qc y3.1 v7), (Qc y3.2.1 v9), errV 104 y3.2.2]⟩) rfl rfl <| w_d rfl (QO rfl rfl) <| w_d rfl (QO rfl rfl) <| w_d rfl (QO rfl rfl) <| wN zr24 rfl rfl fun b11 => wN zr24 rfl rfl fun b12 => wS (Qc y3.1 v7) sz24 rfl rfl rfl rfl rfl (XC h8) .h1 u2 <| wS (Qc y3.2.1 v9) sz24 rfl rfl rfl rfl rfl (XC h10) .here u2 <| wA (errV 104 y3.2.2) rfl rfl <| wE <| QV ?_
 refine QD rfl <| wM (errV 104 y3.2.2) rfl rfl <| w_d rfl (Ya (e := y3.2.2) Tryz.underlying30 rfl) <| Qa ?_
 rcases its he with ⟨c13, he⟩ | ⟨c13, he⟩
 ·
  refine Qy rfl c13 <| wR rfl <| wM (errV 104 y3.2.2) rfl rfl <| wA (.int .i64 0) rfl rfl <| wA (errV 104 y3.2.2) rfl rfl <| Qa ?_
  obtain rfl := sj he
  refine Qi fn_56 rs_56 (.tmp (v := .int .i64 0) rfl (.tmp (v := errV 104 y3.2.2) rfl .nil)) <| ⟨⟨[_, _, _, _], rfl⟩, hle.trans e6, rfl⟩
 ·
  refine QB rfl (Bool.eq_false_iff.2 c13) <| QA <| wR rfl <| wL (Qc y3.1 v7) ty24 rfl rfl .h1 rfl rfl <| wL (Qc y3.2.1 v9) ty24 rfl rfl .here rfl rfl <| bK he fun y14 hy15 he => w_d rfl (Xs (Qm co107 (vs := [(Qc y3.1 v7), (Qc y3.2.1 v9)]) rfl (Yw.calls k (a := y3.1) (b := y3.2.1) hy15 h8 h10))) <| wA (.int .i64 y14) rfl rfl <| wA (errV 104 none) rfl rfl <| Qa ?_
  obtain rfl := sj he
  refine Qi fn_56 rs_56 (.tmp (v := .int .i64 y14) rfl (.tmp (v := errV 104 none) rfl .nil)) <| ⟨⟨[_, _, _, _], rfl⟩, hle.trans e6, rfl⟩
noncomputable def Yi.C : Code := (Tryz.f94.body).getD .skip
def Yi.out (r : Qe × (Option Int)) (H : Hp) (v : Value) : Prop := ∃ v0 v1, v = .tuple ⟨[(Qb r.1 v0 v1), errV 104 r.2]⟩ ∧ Ro kU32 H v0 r.1.f_n.f_w ∧ Ro kU32 H v1 r.1.f_d.f_w
noncomputable def Yi.f (k : Nat) (a b : Qe) : Option (Qe × (Option Int)) := (X2.f k a b).bind fun y4 => if (y4.2.isSome || (decide (0 ≤ y4.1))) = true then (some (a, y4.2)) else (some (b, none))
theorem Yi.mono : ∀ k y0 y1, LeO (Yi.f k y0 y1) (Yi.f (k + 1) y0 y1) := fun k _ _ => by unfold Yi.f; exact (LeO.bind (X2.mono k _ _) fun _ => LeO.ite (LeO.refl _) (LeO.refl _))
theorem Yi.calls (k : Nat) {H : Hp} {L : Items} {a b : Qe} {v0_a v1_a v2_b v3_b : Value} {r : Qe × (Option Int)} (he : Yi.f k a b = some r) (h0_a : Ro kU32 H v0_a a.f_n.f_w) (h1_a : Ro kU32 H v1_a a.f_d.f_w) (h2_b : Ro kU32 H v2_b b.f_n.f_w) (h3_b : Ro kU32 H v3_b b.f_d.f_w) : Ct Tryz.prog 94 ⟨[(Qb a v0_a v1_a), (Qb b v2_b v3_b)]⟩ H L (cR H L (Yi.out r)) := by
 refine XR (O := Yi.out r) ?_
 have hle : H.le H := .refl _
 unfold Yi.f at he
 refine QP (args := [_, _]) fn_94 rfl nt_94 rfl <| wR rfl <| wB (Qb a v0_a v1_a) rfl rfl rfl <| fun b1 => wB (Qb b v2_b v3_b) rfl rfl rfl <| fun b2 => wN zr26 rfl rfl fun b3 => wA (errV 104 none) rfl rfl <| wQ rfl <| wL (Qb a v0_a v1_a) ty26 rfl rfl .h2 rfl rfl <| wL (Qb b v2_b v3_b) ty26 rfl rfl .h1 rfl rfl ?_
 refine bK he fun y4 hy5 he => w_d rfl (Xs (Qm co56 (vs := [(Qb a v0_a v1_a), (Qb b v2_b v3_b)]) rfl (X2.calls k (a := a) (b := b) hy5 h0_a h1_a h2_b h3_b))) <| wM (.tuple ⟨[.int .i64 y4.1, errV 104 y4.2]⟩) rfl rfl <| w_d rfl (QO rfl rfl) <| w_d rfl (QO rfl rfl) <| wA (.int .i64 y4.1) rfl rfl <| wA (errV 104 y4.2) rfl rfl <| wE <| wR rfl <| wM (errV 104 y4.2) rfl rfl ?_
 refine w_d rfl (Ya (e := y4.2) Tryz.underlying30 rfl) <| wM (.bool y4.2.isSome) rfl rfl <| w_g (g := !y4.2.isSome) rfl rfl rfl wn_f (fun g8 => QF (v := .int .i64 y4.1) rfl) <| w_g (g := !y4.2.isSome) rfl rfl rfl wn_f (fun g9 => ZB (cvt g9) rfl) <| w_d rfl (d_or' (b := y4.2.isSome) (p := (decide (0 ≤ y4.1))) rfl rfl rfl) <| Qa ?_
 rcases its he with ⟨c10, he⟩ | ⟨c10, he⟩
 ·
  refine Qy rfl c10 <| wR rfl <| wL (Qb a v0_a v1_a) ty26 rfl rfl .h2 rfl rfl <| wM (errV 104 y4.2) rfl rfl <| wS (Qb a v0_a v1_a) sz26 rfl rfl rfl rfl rfl (Xz h0_a h1_a) .here u4 <| wA (errV 104 y4.2) rfl rfl <| Qa ?_
  obtain rfl := sj he
  refine Qi fn_94 rs_94 (.box (v := (Qb a v0_a v1_a)) rfl ty26 rfl rfl .here rfl (.tmp (v := errV 104 y4.2) rfl .nil)) <| ⟨⟨[_, _, _], rfl⟩, hle, ⟨v0_a, v1_a, rfl, h0_a, h1_a⟩⟩
 ·
  refine QB rfl (Bool.eq_false_iff.2 c10) <| QA <| wR rfl <| wL (Qb b v2_b v3_b) ty26 rfl rfl .h1 rfl rfl <| wS (Qb b v2_b v3_b) sz26 rfl rfl rfl rfl rfl (Xz h2_b h3_b) .here u4 <| wA (errV 104 none) rfl rfl <| Qa ?_
  obtain rfl := sj he
  refine Qi fn_94 rs_94 (.box (v := (Qb b v2_b v3_b)) rfl ty26 rfl rfl .here rfl (.tmp (v := errV 104 none) rfl .nil)) <| ⟨⟨[_, _, _], rfl⟩, hle, ⟨v2_b, v3_b, rfl, h2_b, h3_b⟩⟩
noncomputable def QZ.C : Code := (Tryz.f40.body).getD .skip
def QZ.out (r : Qe × (Option Int)) (H : Hp) (v : Value) : Prop := ∃ v0 v1, v = .tuple ⟨[(Qb r.1 v0 v1), errV 104 r.2]⟩ ∧ Ro kU32 H v0 r.1.f_n.f_w ∧ Ro kU32 H v1 r.1.f_d.f_w
abbrev QZ.R (H0 : Hp) (L : Items) (r : Qe × (Option Int)) := fR H0 L (QZ.out r)
structure QZ.Hs where
 l0 : XV → Bool → (List Int) → Bool → (List Int) → (Option Int) → Bool → (List Int) → Bool → (List Int) → Int → Int → Option (Qe × (Option Int))
noncomputable def QZ.b0 (k : Nat) (h : QZ.Hs) (m_1 : XV) (t2_0 : Bool) (t2_1 : List Int) (t2_2 : Bool) (t2_3 : List Int) (t3 : Option Int) (most_0 : Bool) (most_1 : List Int) (most_2 : Bool) (most_3 : List Int) (t18 t19 : Int) : Option (Qe × (Option Int)) := if t19 < t18 then ((Q8.f k m_1 t19).bind fun y10 => if y10.2.isSome = true then (some (⟨⟨false, []⟩, ⟨false, []⟩⟩, y10.2)) else ((QT.f k y10.1).bind fun y17 => if y17.2.isSome = true then (some (⟨⟨false, []⟩, ⟨false, []⟩⟩, y17.2)) else ((Yi.f k ⟨⟨most_0, most_1⟩, ⟨most_2, most_3⟩⟩ y17.1).bind fun y27 => if y27.2.isSome = true then (some (⟨⟨false, []⟩, ⟨false, []⟩⟩, y27.2)) else (h.l0 m_1 t2_0 t2_1 t2_2 t2_3 t3 y27.1.f_n.f_neg y27.1.f_n.f_w y27.1.f_d.f_neg y27.1.f_d.f_w t18 (w64 (t19 + 1)))))) else (some (⟨⟨most_0, most_1⟩, ⟨most_2, most_3⟩⟩, none))
noncomputable def QZ.hs : Nat → QZ.Hs
 | 0 => ⟨fun _ _ _ _ _ _ _ _ _ _ _ _ => none⟩
 | k + 1 => ⟨fun x0 x1 x2 x3 x4 x5 x6 x7 x8 x9 x10 x11 => QZ.b0 k (QZ.hs k) x0 x1 x2 x3 x4 x5 x6 x7 x8 x9 x10 x11⟩
noncomputable def QZ.f (k : Nat) (m : XV) : Option (Qe × (Option Int)) := (fun h : QZ.Hs => (Q6.f k m).bind fun y3 => if y3.isSome = true then (some (⟨⟨false, []⟩, ⟨false, []⟩⟩, y3)) else (h.l0 m false [] false [] none false [] false [] m.f_Rows 0)) (QZ.hs k)
structure QZ.LE (h h' : QZ.Hs) : Prop where
 l0 : ∀ y0 y1 y2 y3 y4 y5 y6 y7 y8 y9 y10 y11, LeO (h.l0 y0 y1 y2 y3 y4 y5 y6 y7 y8 y9 y10 y11) (h'.l0 y0 y1 y2 y3 y4 y5 y6 y7 y8 y9 y10 y11)
theorem QZ.b0_mono {k : Nat} {h h' : QZ.Hs} (hl : QZ.LE h h') : ∀ y0 y1 y2 y3 y4 y5 y6 y7 y8 y9 y10 y11, LeO (QZ.b0 k h y0 y1 y2 y3 y4 y5 y6 y7 y8 y9 y10 y11) (QZ.b0 (k + 1) h' y0 y1 y2 y3 y4 y5 y6 y7 y8 y9 y10 y11) := fun _ _ _ _ _ _ _ _ _ _ _ _ => (LeO.ite (LeO.bind (Q8.mono k _ _) fun _ => LeO.ite (LeO.refl _) (LeO.bind (QT.mono k _) fun _ => LeO.ite (LeO.refl _) (LeO.bind (Yi.mono k _ _) fun _ => LeO.ite (LeO.refl _) (hl.l0 _ _ _ _ _ _ _ _ _ _ _ _)))) (LeO.refl _))
theorem QZ.hs_mono : ∀ k, QZ.LE (QZ.hs k) (QZ.hs (k + 1))
 | 0 => ⟨fun _ _ _ _ _ _ _ _ _ _ _ _ => LeO.none _⟩
 | k + 1 => ⟨QZ.b0_mono (k := k) (QZ.hs_mono k)⟩
theorem QZ.mono : ∀ k y0, LeO (QZ.f k y0) (QZ.f (k + 1) y0) := fun k _ => have hl := QZ.hs_mono k; by unfold QZ.f; exact (LeO.bind (Q6.mono k _) fun _ => LeO.ite (LeO.refl _) (hl.l0 _ _ _ _ _ _ _ _ _ _ _ _))
noncomputable def QZ.Kl0 : List Item := .code (lopB (blkB (seqR (seqL (seqR (seqR (seqR QZ.C))))))) :: .inLoop (lopB (blkB (seqR (seqL (seqR (seqR (seqR QZ.C))))))) :: .inBlock 0 :: .code (seqR (seqR (seqR (seqR QZ.C)))) :: []
structure QZ.OK (h : QZ.Hs) : Prop where
 l0 : ∀ {H0 H : Hp} {L : Items} {r : Qe × (Option Int)} {jk_ : Nat → Value} {m_1 : XV} {t2_0 : Bool} {t2_1 : List Int} {t2_2 : Bool} {t2_3 : List Int} {t3 : Option Int} {most_0 : Bool} {most_1 : List Int} {most_2 : Bool} {most_3 : List Int} {t18 : Int} {t19 : Int} {v_t2_1 : Value} {v_t2_3 : Value} {v_most_1 : Value} {v_most_3 : Value} {b_m : Nat} {b_t2 : Nat} {b_most : Nat} (_ : H0.le H) (_he : h.l0 m_1 t2_0 t2_1 t2_2 t2_3 t3 most_0 most_1 most_2 most_3 t18 t19 = some r) (_h_t2_1 : Ro kU32 H v_t2_1 t2_1) (_h_t2_3 : Ro kU32 H v_t2_3 t2_3) (_h_most_1 : Ro kU32 H v_most_1 most_1) (_h_most_3 : Ro kU32 H v_most_3 most_3), Wp Tryz.prog 40 53 QZ.Kl0 (upd (upd (upd (upd (upd (upd jk_ 1 (pt b_m)) 2 (pt b_t2)) 3 (errV 104 t3)) 5 (pt b_most)) 18 (.int .i64 t18)) 19 (.int .i64 t19)) H (bx b_most [.bool most_0, v_most_1, .bool most_2, v_most_3] 26 :: bx b_t2 [.bool t2_0, v_t2_1, .bool t2_2, v_t2_3] 26 :: bx b_m (.int .i64 m_1.f_Rows :: .int .i64 m_1.f_Cols :: .int .i64 m_1.f_A.e0 :: .int .i64 m_1.f_A.e1 :: .int .i64 m_1.f_A.e2 :: .int .i64 m_1.f_A.e3 :: .int .i64 m_1.f_A.e4 :: .int .i64 m_1.f_A.e5 :: .int .i64 m_1.f_A.e6 :: .int .i64 m_1.f_A.e7 :: .int .i64 m_1.f_A.e8 :: .int .i64 m_1.f_A.e9 :: .int .i64 m_1.f_A.e10 :: .int .i64 m_1.f_A.e11 :: .int .i64 m_1.f_A.e12 :: .int .i64 m_1.f_A.e13 :: .int .i64 m_1.f_A.e14 :: .int .i64 m_1.f_A.e15 :: .int .i64 m_1.f_A.e16 :: .int .i64 m_1.f_A.e17 :: .int .i64 m_1.f_A.e18 :: .int .i64 m_1.f_A.e19 :: .int .i64 m_1.f_A.e20 :: .int .i64 m_1.f_A.e21 :: .int .i64 m_1.f_A.e22 :: .int .i64 m_1.f_A.e23 :: .int .i64 m_1.f_A.e24 :: .int .i64 m_1.f_A.e25 :: .int .i64 m_1.f_A.e26 :: .int .i64 m_1.f_A.e27 :: .int .i64 m_1.f_A.e28 :: .int .i64 m_1.f_A.e29 :: .int .i64 m_1.f_A.e30 :: .int .i64 m_1.f_A.e31 :: .int .i64 m_1.f_A.e32 :: .int .i64 m_1.f_A.e33 :: .int .i64 m_1.f_A.e34 :: .int .i64 m_1.f_A.e35 :: []) 75 :: L) (QZ.R H0 L r)
theorem QZ.b0_ok {k : Nat} {h : QZ.Hs} (hh : QZ.OK h) {H0 H : Hp} {L : Items} {r : Qe × (Option Int)} {jk_ : Nat → Value} {m_1 : XV} {t2_0 : Bool} {t2_1 : List Int} {t2_2 : Bool} {t2_3 : List Int} {t3 : Option Int} {most_0 : Bool} {most_1 : List Int} {most_2 : Bool} {most_3 : List Int} {t18 t19 : Int} {v_t2_1 v_t2_3 v_most_1 v_most_3 : Value} {b_m b_t2 b_most : Nat} (hle : H0.le H) (he : QZ.b0 k h m_1 t2_0 t2_1 t2_2 t2_3 t3 most_0 most_1 most_2 most_3 t18 t19 = some r) (h_t2_1 : Ro kU32 H v_t2_1 t2_1) (h_t2_3 : Ro kU32 H v_t2_3 t2_3) (h_most_1 : Ro kU32 H v_most_1 most_1) (h_most_3 : Ro kU32 H v_most_3 most_3) : Wp Tryz.prog 40 53 QZ.Kl0 (upd (upd (upd (upd (upd (upd jk_ 1 (pt b_m)) 2 (pt b_t2)) 3 (errV 104 t3)) 5 (pt b_most)) 18 (.int .i64 t18)) 19 (.int .i64 t19)) H (bx b_most [.bool most_0, v_most_1, .bool most_2, v_most_3] 26 :: bx b_t2 [.bool t2_0, v_t2_1, .bool t2_2, v_t2_3] 26 :: bx b_m (.int .i64 m_1.f_Rows :: .int .i64 m_1.f_Cols :: .int .i64 m_1.f_A.e0 :: .int .i64 m_1.f_A.e1 :: .int .i64 m_1.f_A.e2 :: .int .i64 m_1.f_A.e3 :: .int .i64 m_1.f_A.e4 :: .int .i64 m_1.f_A.e5 :: .int .i64 m_1.f_A.e6 :: .int .i64 m_1.f_A.e7 :: .int .i64 m_1.f_A.e8 :: .int .i64 m_1.f_A.e9 :: .int .i64 m_1.f_A.e10 :: .int .i64 m_1.f_A.e11 :: .int .i64 m_1.f_A.e12 :: .int .i64 m_1.f_A.e13 :: .int .i64 m_1.f_A.e14 :: .int .i64 m_1.f_A.e15 :: .int .i64 m_1.f_A.e16 :: .int .i64 m_1.f_A.e17 :: .int .i64 m_1.f_A.e18 :: .int .i64 m_1.f_A.e19 :: .int .i64 m_1.f_A.e20 :: .int .i64 m_1.f_A.e21 :: .int .i64 m_1.f_A.e22 :: .int .i64 m_1.f_A.e23 :: .int .i64 m_1.f_A.e24 :: .int .i64 m_1.f_A.e25 :: .int .i64 m_1.f_A.e26 :: .int .i64 m_1.f_A.e27 :: .int .i64 m_1.f_A.e28 :: .int .i64 m_1.f_A.e29 :: .int .i64 m_1.f_A.e30 :: .int .i64 m_1.f_A.e31 :: .int .i64 m_1.f_A.e32 :: .int .i64 m_1.f_A.e33 :: .int .i64 m_1.f_A.e34 :: .int .i64 m_1.f_A.e35 :: []) 75 :: L) (QZ.R H0 L r) := by
 unfold QZ.b0 at he
 unfold QZ.Kl0
 refine wR rfl <| w_d rfl (XG rfl rfl) <| wE ?_
 rcases its he with ⟨c9, he⟩ | ⟨c9, he⟩
 ·
  refine Qy rfl (dt c9) <| QA <| QV <| QU <| wR rfl <| wM (.int .i64 t19) rfl rfl <| wA (.int .i64 t19) rfl rfl <| wQ rfl <| wL (.agg ⟨(.int .i64 m_1.f_Rows :: .int .i64 m_1.f_Cols :: .int .i64 m_1.f_A.e0 :: .int .i64 m_1.f_A.e1 :: .int .i64 m_1.f_A.e2 :: .int .i64 m_1.f_A.e3 :: .int .i64 m_1.f_A.e4 :: .int .i64 m_1.f_A.e5 :: .int .i64 m_1.f_A.e6 :: .int .i64 m_1.f_A.e7 :: .int .i64 m_1.f_A.e8 :: .int .i64 m_1.f_A.e9 :: .int .i64 m_1.f_A.e10 :: .int .i64 m_1.f_A.e11 :: .int .i64 m_1.f_A.e12 :: .int .i64 m_1.f_A.e13 :: .int .i64 m_1.f_A.e14 :: .int .i64 m_1.f_A.e15 :: .int .i64 m_1.f_A.e16 :: .int .i64 m_1.f_A.e17 :: .int .i64 m_1.f_A.e18 :: .int .i64 m_1.f_A.e19 :: .int .i64 m_1.f_A.e20 :: .int .i64 m_1.f_A.e21 :: .int .i64 m_1.f_A.e22 :: .int .i64 m_1.f_A.e23 :: .int .i64 m_1.f_A.e24 :: .int .i64 m_1.f_A.e25 :: .int .i64 m_1.f_A.e26 :: .int .i64 m_1.f_A.e27 :: .int .i64 m_1.f_A.e28 :: .int .i64 m_1.f_A.e29 :: .int .i64 m_1.f_A.e30 :: .int .i64 m_1.f_A.e31 :: .int .i64 m_1.f_A.e32 :: .int .i64 m_1.f_A.e33 :: .int .i64 m_1.f_A.e34 :: .int .i64 m_1.f_A.e35 :: [])⟩) ty75 rfl rfl .h2 rfl rfl ?_
  refine wM (.int .i64 t19) rfl rfl <| bK he fun y10 hy11 he => w_a rfl (Qm co92 (vs := [.agg ⟨(.int .i64 m_1.f_Rows :: .int .i64 m_1.f_Cols :: .int .i64 m_1.f_A.e0 :: .int .i64 m_1.f_A.e1 :: .int .i64 m_1.f_A.e2 :: .int .i64 m_1.f_A.e3 :: .int .i64 m_1.f_A.e4 :: .int .i64 m_1.f_A.e5 :: .int .i64 m_1.f_A.e6 :: .int .i64 m_1.f_A.e7 :: .int .i64 m_1.f_A.e8 :: .int .i64 m_1.f_A.e9 :: .int .i64 m_1.f_A.e10 :: .int .i64 m_1.f_A.e11 :: .int .i64 m_1.f_A.e12 :: .int .i64 m_1.f_A.e13 :: .int .i64 m_1.f_A.e14 :: .int .i64 m_1.f_A.e15 :: .int .i64 m_1.f_A.e16 :: .int .i64 m_1.f_A.e17 :: .int .i64 m_1.f_A.e18 :: .int .i64 m_1.f_A.e19 :: .int .i64 m_1.f_A.e20 :: .int .i64 m_1.f_A.e21 :: .int .i64 m_1.f_A.e22 :: .int .i64 m_1.f_A.e23 :: .int .i64 m_1.f_A.e24 :: .int .i64 m_1.f_A.e25 :: .int .i64 m_1.f_A.e26 :: .int .i64 m_1.f_A.e27 :: .int .i64 m_1.f_A.e28 :: .int .i64 m_1.f_A.e29 :: .int .i64 m_1.f_A.e30 :: .int .i64 m_1.f_A.e31 :: .int .i64 m_1.f_A.e32 :: .int .i64 m_1.f_A.e33 :: .int .i64 m_1.f_A.e34 :: .int .i64 m_1.f_A.e35 :: [])⟩, .int .i64 t19]) rfl (Q8.calls k (m := m_1) hy11)) ?_
  rintro _ H12 _ ⟨rfl, e13, v14, rfl, h15⟩
  refine wM (.tuple ⟨[v14, errV 104 y10.2]⟩) rfl rfl <| w_d rfl (QO rfl rfl) <| w_d rfl (QO rfl rfl) <| wA v14 rfl rfl <| wA (errV 104 y10.2) rfl rfl <| wE <| wR rfl <| wM (errV 104 y10.2) rfl rfl <| w_d rfl (Ya (e := y10.2) Tryz.underlying30 rfl) <| Qa ?_
  rcases its he with ⟨c16, he⟩ | ⟨c16, he⟩
  ·
   refine Qy rfl c16 <| wR rfl <| w_d rfl (XD (cs' := z0c) Tryz.underlying26 zr26 rfl (by kernel_rfl) (parts := []) rfl .nil) <| wM (errV 104 y10.2) rfl rfl <| wS (.agg ⟨z0c⟩) sz26 rfl rfl rfl rfl rfl (oc rfl (oc rfl (oc rfl (oc rfl oz)))) .h1 u4 <| wA (errV 104 y10.2) rfl rfl <| Qa ?_
   obtain rfl := sj he
   refine Qi fn_40 rs_40 (.box (v := .agg ⟨z0c⟩) rfl ty26 rfl rfl .h1 rfl (.tmp (v := errV 104 y10.2) rfl .nil)) <| ⟨⟨[_, _, _], rfl⟩, hle.trans e13, ⟨.slice none 0 0, .slice none 0 0, rfl, (Q9 _ _), (Q9 _ _)⟩⟩
  ·
   refine QB rfl (Bool.eq_false_iff.2 c16) <| QA <| wR rfl <| wM v14 rfl rfl <| bK he fun y17 hy18 he => w_a rfl (Qm co93 (vs := [v14]) rfl (QT.calls k hy18 h15.src)) ?_
   rintro _ H19 _ ⟨rfl, e20, v21, v23, rfl, h22, h24⟩
   refine wM (.tuple ⟨[(Qb y17.1 v21 v23), errV 104 y17.2]⟩) rfl rfl <| w_d rfl (QO rfl rfl) <| w_d rfl (QO rfl rfl) <| wN zr26 rfl rfl fun b25 => wS (Qb y17.1 v21 v23) sz26 rfl rfl rfl rfl rfl (Xz h22 h24) .here u4 <| wA (errV 104 y17.2) rfl rfl <| wE <| wR rfl <| wM (errV 104 y17.2) rfl rfl <| w_d rfl (Ya (e := y17.2) Tryz.underlying30 rfl) ?_
   refine Qa ?_
   rcases its he with ⟨c26, he⟩ | ⟨c26, he⟩
   ·
    refine Qy rfl c26 <| wR rfl <| w_d rfl (XD (cs' := z0c) Tryz.underlying26 zr26 rfl (by kernel_rfl) (parts := []) rfl .nil) <| wM (errV 104 y17.2) rfl rfl <| wS (.agg ⟨z0c⟩) sz26 rfl rfl rfl rfl rfl (oc rfl (oc rfl (oc rfl (oc rfl oz)))) .h2 u4 <| wA (errV 104 y17.2) rfl rfl <| Qa ?_
    obtain rfl := sj he
    refine Qi fn_40 rs_40 (.box (v := .agg ⟨z0c⟩) rfl ty26 rfl rfl .h2 rfl (.tmp (v := errV 104 y17.2) rfl .nil)) <| ⟨⟨[_, _, _, _], rfl⟩, hle.trans (e13.trans e20), ⟨.slice none 0 0, .slice none 0 0, rfl, (Q9 _ _), (Q9 _ _)⟩⟩
   ·
    refine QB rfl (Bool.eq_false_iff.2 c26) <| QA <| wR rfl <| wL (.agg ⟨[.bool most_0, v_most_1, .bool most_2, v_most_3]⟩) ty26 rfl rfl .h1 rfl rfl <| wL (Qb y17.1 v21 v23) ty26 rfl rfl .here rfl rfl <| bK he fun y27 hy28 he => w_a rfl (Qm co94 (vs := [.agg ⟨[.bool most_0, v_most_1, .bool most_2, v_most_3]⟩, (Qb y17.1 v21 v23)]) rfl (Yi.calls k (a := ⟨⟨most_0, most_1⟩, ⟨most_2, most_3⟩⟩) (b := y17.1) hy28 (h_most_1.mono (e13.trans e20)) (h_most_3.mono (e13.trans e20)) h22 h24)) ?_
    rintro _ H29 _ ⟨rfl, e30, v31, v33, rfl, h32, h34⟩
    refine wM (.tuple ⟨[(Qb y27.1 v31 v33), errV 104 y27.2]⟩) rfl rfl <| w_d rfl (QO rfl rfl) <| w_d rfl (QO rfl rfl) <| wS (Qb y27.1 v31 v33) sz26 rfl rfl rfl rfl rfl (Xz h32 h34) .h1 u4 <| wA (errV 104 y27.2) rfl rfl <| wQ rfl <| wM (errV 104 y27.2) rfl rfl <| w_d rfl (Ya (e := y27.2) Tryz.underlying30 rfl) <| Qa ?_
    rcases its he with ⟨c35, he⟩ | ⟨c35, he⟩
    ·
     refine Qy rfl c35 <| wR rfl <| w_d rfl (XD (cs' := z0c) Tryz.underlying26 zr26 rfl (by kernel_rfl) (parts := []) rfl .nil) <| wM (errV 104 y27.2) rfl rfl <| wS (.agg ⟨z0c⟩) sz26 rfl rfl rfl rfl rfl (oc rfl (oc rfl (oc rfl (oc rfl oz)))) .h2 u4 <| wA (errV 104 y27.2) rfl rfl <| Qa ?_
     obtain rfl := sj he
     refine Qi fn_40 rs_40 (.box (v := .agg ⟨z0c⟩) rfl ty26 rfl rfl .h2 rfl (.tmp (v := errV 104 y27.2) rfl .nil)) <| ⟨⟨[_, _, _, _], rfl⟩, hle.trans ((e13.trans e20).trans e30), ⟨.slice none 0 0, .slice none 0 0, rfl, (Q9 _ _), (Q9 _ _)⟩⟩
    ·
     refine QB rfl (Bool.eq_false_iff.2 c35) <| QA <| Xk <| QD rfl <| w_d rfl (Xt (c := w64 (t19 + 1)) rfl rfl rfl) <| wM (.int .i64 (w64 (t19 + 1))) rfl rfl <| Qa <| Xy <| YD .here <| w_sl 1 (pt b_m) rfl <| w_sl 2 (pt b_t2) rfl <| w_sl 3 (errV 104 t3) rfl ?_
     refine w_sl 5 (pt b_most) rfl <| w_sl 18 (.int .i64 t18) rfl <| w_sl 19 (.int .i64 (w64 (t19 + 1))) rfl <| hh.l0 (hle.trans ((e13.trans e20).trans e30)) he (h_t2_1.mono ((e13.trans e20).trans e30)) (h_t2_3.mono ((e13.trans e20).trans e30)) h32 h34
 ·
  refine QB rfl (df c9) <| X1 rfl <| wR rfl <| wL (.agg ⟨[.bool most_0, v_most_1, .bool most_2, v_most_3]⟩) ty26 rfl rfl .here rfl rfl <| wS (.agg ⟨[.bool most_0, v_most_1, .bool most_2, v_most_3]⟩) sz26 rfl rfl rfl rfl rfl (oc rfl (oc (h_most_1.one) (oc rfl (oc (h_most_3.one) oz)))) .h1 u4 <| wA (errV 104 none) rfl rfl <| Qa ?_
  obtain rfl := sj he
  refine Qi fn_40 rs_40 (.box (v := .agg ⟨[.bool most_0, v_most_1, .bool most_2, v_most_3]⟩) rfl ty26 rfl rfl .h1 rfl (.tmp (v := errV 104 none) rfl .nil)) <| ⟨⟨[_, _, _], rfl⟩, hle, ⟨v_most_1, v_most_3, rfl, h_most_1, h_most_3⟩⟩
theorem QZ.ok : ∀ k, QZ.OK (QZ.hs k)
 | 0 => ⟨(by intros; exact nomatch (show none = some _ from by assumption))⟩
 | k + 1 => ⟨QZ.b0_ok (k := k) (QZ.ok k)⟩
theorem QZ.calls (k : Nat) {H : Hp} {L : Items} {m : XV} {r : Qe × (Option Int)} (he : QZ.f k m = some r) : Ct Tryz.prog 40 ⟨[.agg ⟨(.int .i64 m.f_Rows :: .int .i64 m.f_Cols :: .int .i64 m.f_A.e0 :: .int .i64 m.f_A.e1 :: .int .i64 m.f_A.e2 :: .int .i64 m.f_A.e3 :: .int .i64 m.f_A.e4 :: .int .i64 m.f_A.e5 :: .int .i64 m.f_A.e6 :: .int .i64 m.f_A.e7 :: .int .i64 m.f_A.e8 :: .int .i64 m.f_A.e9 :: .int .i64 m.f_A.e10 :: .int .i64 m.f_A.e11 :: .int .i64 m.f_A.e12 :: .int .i64 m.f_A.e13 :: .int .i64 m.f_A.e14 :: .int .i64 m.f_A.e15 :: .int .i64 m.f_A.e16 :: .int .i64 m.f_A.e17 :: .int .i64 m.f_A.e18 :: .int .i64 m.f_A.e19 :: .int .i64 m.f_A.e20 :: .int .i64 m.f_A.e21 :: .int .i64 m.f_A.e22 :: .int .i64 m.f_A.e23 :: .int .i64 m.f_A.e24 :: .int .i64 m.f_A.e25 :: .int .i64 m.f_A.e26 :: .int .i64 m.f_A.e27 :: .int .i64 m.f_A.e28 :: .int .i64 m.f_A.e29 :: .int .i64 m.f_A.e30 :: .int .i64 m.f_A.e31 :: .int .i64 m.f_A.e32 :: .int .i64 m.f_A.e33 :: .int .i64 m.f_A.e34 :: .int .i64 m.f_A.e35 :: [])⟩]⟩ H L (cR H L (QZ.out r)) := by
 refine XR (O := QZ.out r) ?_
 have hle : H.le H := .refl _
 have hh := QZ.ok k
 unfold QZ.f at he
 refine QP (args := [_]) fn_40 rfl nt_40 rfl <| wR rfl <| wB (.agg ⟨(.int .i64 m.f_Rows :: .int .i64 m.f_Cols :: .int .i64 m.f_A.e0 :: .int .i64 m.f_A.e1 :: .int .i64 m.f_A.e2 :: .int .i64 m.f_A.e3 :: .int .i64 m.f_A.e4 :: .int .i64 m.f_A.e5 :: .int .i64 m.f_A.e6 :: .int .i64 m.f_A.e7 :: .int .i64 m.f_A.e8 :: .int .i64 m.f_A.e9 :: .int .i64 m.f_A.e10 :: .int .i64 m.f_A.e11 :: .int .i64 m.f_A.e12 :: .int .i64 m.f_A.e13 :: .int .i64 m.f_A.e14 :: .int .i64 m.f_A.e15 :: .int .i64 m.f_A.e16 :: .int .i64 m.f_A.e17 :: .int .i64 m.f_A.e18 :: .int .i64 m.f_A.e19 :: .int .i64 m.f_A.e20 :: .int .i64 m.f_A.e21 :: .int .i64 m.f_A.e22 :: .int .i64 m.f_A.e23 :: .int .i64 m.f_A.e24 :: .int .i64 m.f_A.e25 :: .int .i64 m.f_A.e26 :: .int .i64 m.f_A.e27 :: .int .i64 m.f_A.e28 :: .int .i64 m.f_A.e29 :: .int .i64 m.f_A.e30 :: .int .i64 m.f_A.e31 :: .int .i64 m.f_A.e32 :: .int .i64 m.f_A.e33 :: .int .i64 m.f_A.e34 :: .int .i64 m.f_A.e35 :: [])⟩) rfl rfl rfl <| fun b1 => wN zr26 rfl rfl fun b2 => wA (errV 104 none) rfl rfl <| wE <| wR rfl <| wL (.agg ⟨(.int .i64 m.f_Rows :: .int .i64 m.f_Cols :: .int .i64 m.f_A.e0 :: .int .i64 m.f_A.e1 :: .int .i64 m.f_A.e2 :: .int .i64 m.f_A.e3 :: .int .i64 m.f_A.e4 :: .int .i64 m.f_A.e5 :: .int .i64 m.f_A.e6 :: .int .i64 m.f_A.e7 :: .int .i64 m.f_A.e8 :: .int .i64 m.f_A.e9 :: .int .i64 m.f_A.e10 :: .int .i64 m.f_A.e11 :: .int .i64 m.f_A.e12 :: .int .i64 m.f_A.e13 :: .int .i64 m.f_A.e14 :: .int .i64 m.f_A.e15 :: .int .i64 m.f_A.e16 :: .int .i64 m.f_A.e17 :: .int .i64 m.f_A.e18 :: .int .i64 m.f_A.e19 :: .int .i64 m.f_A.e20 :: .int .i64 m.f_A.e21 :: .int .i64 m.f_A.e22 :: .int .i64 m.f_A.e23 :: .int .i64 m.f_A.e24 :: .int .i64 m.f_A.e25 :: .int .i64 m.f_A.e26 :: .int .i64 m.f_A.e27 :: .int .i64 m.f_A.e28 :: .int .i64 m.f_A.e29 :: .int .i64 m.f_A.e30 :: .int .i64 m.f_A.e31 :: .int .i64 m.f_A.e32 :: .int .i64 m.f_A.e33 :: .int .i64 m.f_A.e34 :: .int .i64 m.f_A.e35 :: [])⟩) ty75 rfl rfl .h1 rfl rfl <| bK he fun y3 hy4 he => ?_
 refine w_d rfl (Xs (Qm co91 (vs := [.agg ⟨(.int .i64 m.f_Rows :: .int .i64 m.f_Cols :: .int .i64 m.f_A.e0 :: .int .i64 m.f_A.e1 :: .int .i64 m.f_A.e2 :: .int .i64 m.f_A.e3 :: .int .i64 m.f_A.e4 :: .int .i64 m.f_A.e5 :: .int .i64 m.f_A.e6 :: .int .i64 m.f_A.e7 :: .int .i64 m.f_A.e8 :: .int .i64 m.f_A.e9 :: .int .i64 m.f_A.e10 :: .int .i64 m.f_A.e11 :: .int .i64 m.f_A.e12 :: .int .i64 m.f_A.e13 :: .int .i64 m.f_A.e14 :: .int .i64 m.f_A.e15 :: .int .i64 m.f_A.e16 :: .int .i64 m.f_A.e17 :: .int .i64 m.f_A.e18 :: .int .i64 m.f_A.e19 :: .int .i64 m.f_A.e20 :: .int .i64 m.f_A.e21 :: .int .i64 m.f_A.e22 :: .int .i64 m.f_A.e23 :: .int .i64 m.f_A.e24 :: .int .i64 m.f_A.e25 :: .int .i64 m.f_A.e26 :: .int .i64 m.f_A.e27 :: .int .i64 m.f_A.e28 :: .int .i64 m.f_A.e29 :: .int .i64 m.f_A.e30 :: .int .i64 m.f_A.e31 :: .int .i64 m.f_A.e32 :: .int .i64 m.f_A.e33 :: .int .i64 m.f_A.e34 :: .int .i64 m.f_A.e35 :: [])⟩]) rfl (Q6.calls k (m := m) hy4))) <| wA (errV 104 y3) rfl rfl <| wQ rfl <| wM (errV 104 y3) rfl rfl <| w_d rfl (Ya (e := y3) Tryz.underlying30 rfl) <| Qa ?_
 rcases its he with ⟨c7, he⟩ | ⟨c7, he⟩
 ·
  refine Qy rfl c7 <| wR rfl <| w_d rfl (XD (cs' := z0c) Tryz.underlying26 zr26 rfl (by kernel_rfl) (parts := []) rfl .nil) <| wM (errV 104 y3) rfl rfl <| wS (.agg ⟨z0c⟩) sz26 rfl rfl rfl rfl rfl (oc rfl (oc rfl (oc rfl (oc rfl oz)))) .here u4 <| wA (errV 104 y3) rfl rfl <| Qa ?_
  obtain rfl := sj he
  refine Qi fn_40 rs_40 (.box (v := .agg ⟨z0c⟩) rfl ty26 rfl rfl .here rfl (.tmp (v := errV 104 y3) rfl .nil)) <| ⟨⟨[_, _], rfl⟩, hle, ⟨.slice none 0 0, .slice none 0 0, rfl, (Q9 _ _), (Q9 _ _)⟩⟩
 ·
  refine QB rfl (Bool.eq_false_iff.2 c7) <| QA <| wR rfl <| w_d rfl (XD (cs' := z0c) Tryz.underlying26 zr26 rfl (by kernel_rfl) (parts := []) rfl .nil) <| wN zr26 rfl rfl fun b8 => wS (.agg ⟨z0c⟩) sz26 rfl rfl rfl rfl rfl (oc rfl (oc rfl (oc rfl (oc rfl oz)))) .here u4 <| wE <| wR rfl <| w_d rfl (Xe (o' := 0) Tryz.underlying75 rfl sz3 rfl rfl rfl) ?_
  refine wL (.int .i64 m.f_Rows) ty3 rfl rfl .h2 rfl rfl <| wM (.int .i64 0) rfl rfl <| Qa <| QU <| X3 <| w_sl 1 (pt b1) rfl <| w_sl 2 (pt b2) rfl <| w_sl 3 (errV 104 none) rfl <| w_sl 5 (pt b8) rfl <| w_sl 18 (.int .i64 m.f_Rows) rfl <| w_sl 19 (.int .i64 0) rfl <| hh.l0 hle he (Q9 _ _) (Q9 _ _) (Q9 _ _) (Q9 _ _)
noncomputable def Ql.C : Code := (Tryz.f131.body).getD .skip
def Ql.out (r : (List Int)) (H : Hp) (v : Value) : Prop := v = .tuple ⟨[]⟩
abbrev Ql.R (vr_ : Value) (H0 : Hp) (L : Items) (r : (List Int)) : Value → Hp → Items → Prop := fun v H' L' => (∃ p it', L' = p ++ it' :: L ∧ Sl kU8 H' 5 it' vr_ r) ∧ H0.le H' ∧ v = .tuple ⟨[]⟩
structure Ql.Hs where
 l0 : (List Int) → Int → Int → Option (List Int)
noncomputable def Ql.b0 (k : Nat) (h : Ql.Hs) (s : List Int) (i j_ : Int) : Option (List Int) := if i < j_ then (if (0 : Int) ≤ j_ ∧ j_ < (s.length : Int) then (if (0 : Int) ≤ i ∧ i < (s.length : Int) then (if (0 : Int) ≤ i ∧ i < (s.length : Int) then (if (0 : Int) ≤ j_ ∧ j_ < ((s.set (i : Int).toNat (rd s j_)).length : Int) then (h.l0 ((s.set (i : Int).toNat (rd s j_)).set (j_ : Int).toNat (rd s i)) (w64 (i + 1)) (w64 (j_ - 1))) else none) else none) else none) else none) else (some (s))
noncomputable def Ql.hs : Nat → Ql.Hs
 | 0 => ⟨fun _ _ _ => none⟩
 | k + 1 => ⟨fun x0 x1 x2 => Ql.b0 k (Ql.hs k) x0 x1 x2⟩
noncomputable def Ql.f (k : Nat) (s : List Int) : Option (List Int) := (fun h : Ql.Hs => h.l0 s 0 (w64 ((s.length : Int) - 1))) (Ql.hs k)
structure Ql.LE (h h' : Ql.Hs) : Prop where
 l0 : ∀ y0 y1 y2, LeO (h.l0 y0 y1 y2) (h'.l0 y0 y1 y2)
theorem Ql.b0_mono {k : Nat} {h h' : Ql.Hs} (hl : Ql.LE h h') : ∀ y0 y1 y2, LeO (Ql.b0 k h y0 y1 y2) (Ql.b0 (k + 1) h' y0 y1 y2) := fun _ _ _ => (LeO.ite (LeO.ite (LeO.ite (LeO.ite (LeO.ite (hl.l0 _ _ _) (LeO.refl _)) (LeO.refl _)) (LeO.refl _)) (LeO.refl _)) (LeO.refl _))
theorem Ql.hs_mono : ∀ k, Ql.LE (Ql.hs k) (Ql.hs (k + 1))
 | 0 => ⟨fun _ _ _ => LeO.none _⟩
 | k + 1 => ⟨Ql.b0_mono (k := k) (Ql.hs_mono k)⟩
theorem Ql.mono : ∀ k y0, LeO (Ql.f k y0) (Ql.f (k + 1) y0) := fun k _ => have hl := Ql.hs_mono k; by unfold Ql.f; exact (hl.l0 _ _ _)
noncomputable def Ql.Kl0 : List Item := .code (lopB (blkB (seqR Ql.C))) :: .inLoop (lopB (blkB (seqR Ql.C))) :: .inBlock 0 :: []
structure Ql.OK (h : Ql.Hs) : Prop where
 l0 : ∀ {H0 H : Hp} {L : Items} {r : (List Int)} {jk_ : Nat → Value} {s : List Int} {i : Int} {j_ : Int} {vr_ : Value} {i_s : Item'} (_ : H0.le H) (_he : h.l0 s i j_ = some r) (_h_s : Sl kU8 H 5 i_s vr_ s), Wp Tryz.prog 131 28 Ql.Kl0 (upd (upd (upd jk_ 0 (vr_)) 2 (.int .i64 i)) 3 (.int .i64 j_)) H (i_s :: L) (Ql.R vr_ H0 L r)
theorem Ql.b0_ok {k : Nat} {h : Ql.Hs} (hh : Ql.OK h) {H0 H : Hp} {L : Items} {r : (List Int)} {jk_ : Nat → Value} {s : List Int} {i j_ : Int} {vr_ : Value} {i_s : Item'} (hle : H0.le H) (he : Ql.b0 k h s i j_ = some r) (h_s : Sl kU8 H 5 i_s vr_ s) : Wp Tryz.prog 131 28 Ql.Kl0 (upd (upd (upd jk_ 0 (vr_)) 2 (.int .i64 i)) 3 (.int .i64 j_)) H (i_s :: L) (Ql.R vr_ H0 L r) := by
 unfold Ql.b0 at he
 unfold Ql.Kl0
 refine QV <| wR rfl <| wM (.int .i64 i) rfl rfl <| wM (.int .i64 j_) rfl rfl <| w_d rfl (XG rfl rfl) <| Qa ?_
 rcases its he with ⟨c1, he⟩ | ⟨c1, he⟩
 ·
  refine Qy rfl (dt c1) <| QA <| QV <| QU <| rK he fun c2 he => rK he fun c3 he => rK he fun c4 he => XJ (p := 14) (tl := [14, 15]) [[], [], [], [], [], [], [(4, some 18), (5, some 19)], [(6, some 20)], [], [], [(8, some 22), (9, some 23)], [(10, some 24)], [(0, some 14), (1, some 15)], [(7, some 21), (12, some 26)]] [some 14, some 15, some 16, some 17, some 18, some 19, some 20, some 21, some 22, some 23, some 24, some 25, some 26, none] (fctF (.is (vr_) :: .is (.int .i64 i) :: .is (vr_) :: .is (.int .i64 j_) :: .is (vr_) :: .is (.int .i64 j_) :: .is (.pointer (some (pel vr_ j_ 1))) :: .is (.int .u8 (rd s j_)) :: .is (vr_) :: .is (.int .i64 i) :: .is (.pointer (some (pel vr_ i 1))) :: .is (.int .u8 (rd s i)) :: .is (.pointer (some (pel vr_ i 1))) :: .itm (fun H it_ => Sl kU8 H 5 it_ vr_ (s.set (i : Int).toNat (rd s j_))) (fun hle_ h_ => h_.mono hle_) :: [])) (fun m_ => m_ 13 :: L) (fun i_ => if i_ = 13 then i_s else none) mixed (by kernel_rfl) (by kernel_rfl) rfl (Xv (by kernel_rfl)) ⟨(fun H' m_ hH hm_ hu_ => dn <| s_d (m_ 0) rfl (QF (v := vr_) rfl) (by exact rfl) rfl), (fun H' m_ hH hm_ hu_ => dn <| s_d (m_ 1) rfl (QF (v := .int .i64 i) rfl) (by exact rfl) rfl), (fun H' m_ hH hm_ hu_ => dn <| s_d (m_ 2) rfl (QF (v := vr_) rfl) (by exact rfl) rfl), (fun H' m_ hH hm_ hu_ => dn <| s_d (m_ 3) rfl (QF (v := .int .i64 j_) rfl) (by exact rfl) rfl), (fun H' m_ hH hm_ hu_ => dn <| s_d (m_ 4) rfl (QF (v := vr_) rfl) (by exact rfl) rfl), (fun H' m_ hH hm_ hu_ => dn <| s_d (m_ 5) rfl (QF (v := .int .i64 j_) rfl) (by exact rfl) rfl), (by rintro H' m_ hH hm_ hu_ _ rfl _ rfl; exact dn <| s_d (m_ 6) rfl (YF (sz := 1) Tryz.underlying52 sz5 rfl (h_s.mono hH).shp rfl c2) (by exact rfl) rfl), (by rintro H' m_ hH hm_ hu_ _ rfl; exact dn <| s_d (m_ 7) rfl (XL ty5 rfl ((h_s.mono hH).src (UH (hu_ 13 (by kernel_rfl)))) c2) (by exact rfl) rfl), (fun H' m_ hH hm_ hu_ => dn <| s_d (m_ 8) rfl (QF (v := vr_) rfl) (by exact rfl) rfl), (fun H' m_ hH hm_ hu_ => dn <| s_d (m_ 9) rfl (QF (v := .int .i64 i) rfl) (by exact rfl) rfl), (by rintro H' m_ hH hm_ hu_ _ rfl _ rfl; exact dn <| s_d (m_ 10) rfl (YF (sz := 1) Tryz.underlying52 sz5 rfl (h_s.mono hH).shp rfl c3) (by exact rfl) rfl), (by rintro H' m_ hH hm_ hu_ _ rfl; exact dn <| s_d (m_ 11) rfl (XL ty5 rfl ((h_s.mono hH).src (UH (hu_ 13 (by kernel_rfl)))) c3) (by exact rfl) rfl), (by rintro H' m_ hH hm_ hu_ _ rfl _ rfl; exact dn <| s_d (m_ 12) rfl (YF (sz := 1) Tryz.underlying52 sz5 rfl (h_s.mono hH).shp rfl c4) (by exact rfl) rfl), (by rintro H' m_ hH hm_ hu_ _ rfl _ rfl; exact dn <| QaG (i_s) hm_ rfl (Y4 (kd := kU8) (v := .int .u8 (rd s j_)) sz5 rfl rfl rfl rfl (h_s.mono hH) c4 (fun _ => .here)) rfl (by exact fun _ h_ => ⟨rfl, h_⟩)), trivial⟩ ?_
  intro H7 e8
  rintro _ _ rfl _ _ rfl _ _ rfl _ _ rfl _ _ rfl _ _ rfl _ _ rfl _ _ rfl _ _ rfl _ _ rfl _ _ rfl _ _ rfl _ _ rfl _ i5 ⟨rfl, h6⟩
  refine w_it (L' := i5 :: L) rfl <| rK he fun c9 he => w_d rfl (YF (sz := 1) Tryz.underlying52 sz5 rfl h6.shp rfl c9) <| w_a0 rfl (Y4 (kd := kU8) (v := .int .u8 (rd s i)) (F := fun z_ => z_ :: L) sz5 rfl rfl rfl rfl h6 c9 (fun _ => .here)) ?_
  rintro _ _ _ ⟨i10, rfl, rfl, rfl, h11⟩
  refine Qa <| Xk <| QD rfl <| wM (.int .i64 i) rfl rfl <| w_d rfl (Xt (c := w64 (i + 1)) rfl rfl rfl) <| wM (.int .i64 j_) rfl rfl <| w_d rfl (Ys (c := w64 (j_ - 1)) rfl rfl rfl) <| wA (.int .i64 (w64 (i + 1))) rfl rfl <| wA (.int .i64 (w64 (j_ - 1))) rfl rfl <| Qa <| Xy <| w_sl 0 (vr_) rfl ?_
  refine w_sl 2 (.int .i64 (w64 (i + 1))) rfl <| w_sl 3 (.int .i64 (w64 (j_ - 1))) rfl <| hh.l0 (hle.trans e8) he h11
 ·
  refine QB rfl (df c1) <| X1 rfl ?_
  obtain rfl := sj he
  refine NQ fn_131 rs_131 .nil <| ⟨⟨[], _, rfl, h_s⟩, hle, rfl⟩
theorem Ql.ok : ∀ k, Ql.OK (Ql.hs k)
 | 0 => ⟨(by intros; exact nomatch (show none = some _ from by assumption))⟩
 | k + 1 => ⟨Ql.b0_ok (k := k) (Ql.ok k)⟩
theorem Ql.calls (k : Nat) {H : Hp} {L : Items} {s : List Int} {vr_ : Value} {it_ : Item'} {r : (List Int)} (he : Ql.f k s = some r) (hr_ : Sl kU8 H 5 it_ vr_ s) : Ct Tryz.prog 131 ⟨[vr_]⟩ H (it_ :: L) (fun v H' L' => ∃ it', L' = it' :: L ∧ H.le H' ∧ Sl kU8 H' 5 it' vr_ r ∧ v = .tuple ⟨[]⟩) := by
 refine N2 (Q := fun v => v = .tuple ⟨[]⟩) ?_
 have hle : H.le H := .refl _
 have hh := Ql.ok k
 unfold Ql.f at he
 refine QP (args := [_]) fn_131 rfl nt_131 rfl <| wR rfl <| wM vr_ rfl rfl <| w_d rfl (Gy Tryz.underlying52 rfl hr_.shp) <| w_d rfl (Ys (c := w64 ((s.length : Int) - 1)) rfl rfl rfl) <| wA (.int .i64 0) rfl rfl <| wA (.int .i64 (w64 ((s.length : Int) - 1))) rfl rfl <| Qa <| QU <| X3 <| w_sl 0 (vr_) rfl ?_
 refine w_sl 2 (.int .i64 0) rfl <| w_sl 3 (.int .i64 (w64 ((s.length : Int) - 1))) rfl <| hh.l0 hle he hr_
noncomputable def Qp.C : Code := (Tryz.f87.body).getD .skip
def Qp.out (r : ByteArray) (H : Hp) (v : Value) : Prop := v = .string r
abbrev Qp.R (H0 : Hp) (L : Items) (r : ByteArray) := fR H0 L (Qp.out r)
structure Qp.Hs where
 l0 : Bool → (List Int) → ByteArray → (List Int) → (List Int) → Option ByteArray
 l1 : Bool → (List Int) → ByteArray → (List Int) → (List Int) → Int → Int → Option ByteArray
noncomputable def Qp.b0 (k : Nat) (h : Qp.Hs) (a_0 : Bool) (a_1 : List Int) (t2 : ByteArray) (out w : List Int) : Option ByteArray := if 0 < (w.length : Int) then ((QW.f k w 1000000000).bind fun y4 => h.l1 a_0 a_1 t2 out y4.1 y4.2 0) else (if a_0 = true then (if out.length + 1 ≤ 140737488355200 then ((Ql.f k (out ++ [45])).bind fun y18 => some (strOf y18)) else none) else ((Ql.f k out).bind fun y24 => some (strOf y24)))
noncomputable def Qp.b1 (k : Nat) (h : Qp.Hs) (a_0 : Bool) (a_1 : List Int) (t2 : ByteArray) (out w : List Int) (r_ k_ : Int) : Option ByteArray := if ((decide (k_ < 9)) && ((decide (0 < (w.length : Int))) || (decide (0 < r_)))) = true then (if out.length + 1 ≤ 140737488355200 then (h.l1 a_0 a_1 t2 (out ++ [(48 + ((Int.tmod r_ 10) % 256)) % 256]) w ((Int.tdiv r_ 10) % 4294967296) (w64 (k_ + 1))) else none) else (h.l0 a_0 a_1 t2 out w)
noncomputable def Qp.hs : Nat → Qp.Hs
 | 0 => ⟨fun _ _ _ _ _ => none, fun _ _ _ _ _ _ _ => none⟩
 | k + 1 => ⟨fun x0 x1 x2 x3 x4 => Qp.b0 k (Qp.hs k) x0 x1 x2 x3 x4, fun x0 x1 x2 x3 x4 x5 x6 => Qp.b1 k (Qp.hs k) x0 x1 x2 x3 x4 x5 x6⟩
noncomputable def Qp.f (k : Nat) (a : Qq) : Option ByteArray := (fun h : Qp.Hs => if (a.f_w.length : Int) = 0 then (some (str_2)) else (h.l0 a.f_neg a.f_w str_0 [] a.f_w)) (Qp.hs k)
structure Qp.LE (h h' : Qp.Hs) : Prop where
 l0 : ∀ y0 y1 y2 y3 y4, LeO (h.l0 y0 y1 y2 y3 y4) (h'.l0 y0 y1 y2 y3 y4)
 l1 : ∀ y0 y1 y2 y3 y4 y5 y6, LeO (h.l1 y0 y1 y2 y3 y4 y5 y6) (h'.l1 y0 y1 y2 y3 y4 y5 y6)
theorem Qp.b0_mono {k : Nat} {h h' : Qp.Hs} (hl : Qp.LE h h') : ∀ y0 y1 y2 y3 y4, LeO (Qp.b0 k h y0 y1 y2 y3 y4) (Qp.b0 (k + 1) h' y0 y1 y2 y3 y4) := fun _ _ _ _ _ => (LeO.ite (LeO.bind (QW.mono k _ _) fun _ => hl.l1 _ _ _ _ _ _ _) (LeO.ite (LeO.ite (LeO.bind (Ql.mono k _) fun _ => LeO.refl _) (LeO.refl _)) (LeO.bind (Ql.mono k _) fun _ => LeO.refl _)))
theorem Qp.b1_mono {k : Nat} {h h' : Qp.Hs} (hl : Qp.LE h h') : ∀ y0 y1 y2 y3 y4 y5 y6, LeO (Qp.b1 k h y0 y1 y2 y3 y4 y5 y6) (Qp.b1 (k + 1) h' y0 y1 y2 y3 y4 y5 y6) := fun _ _ _ _ _ _ _ => (LeO.ite (LeO.ite (hl.l1 _ _ _ _ _ _ _) (LeO.refl _)) (hl.l0 _ _ _ _ _))
theorem Qp.hs_mono : ∀ k, Qp.LE (Qp.hs k) (Qp.hs (k + 1))
 | 0 => ⟨fun _ _ _ _ _ => LeO.none _, fun _ _ _ _ _ _ _ => LeO.none _⟩
 | k + 1 => ⟨Qp.b0_mono (k := k) (Qp.hs_mono k), Qp.b1_mono (k := k) (Qp.hs_mono k)⟩
theorem Qp.mono : ∀ k y0, LeO (Qp.f k y0) (Qp.f (k + 1) y0) := fun k _ => have hl := Qp.hs_mono k; by unfold Qp.f; exact (LeO.ite (LeO.refl _) (hl.l0 _ _ _ _ _))
noncomputable def Qp.Kl0 : List Item := .code (lopB (blkB (seqR (seqL (seqR (seqR (seqR Qp.C))))))) :: .inLoop (lopB (blkB (seqR (seqL (seqR (seqR (seqR Qp.C))))))) :: .inBlock 0 :: .code (seqR (seqR (seqR (seqR Qp.C)))) :: []
noncomputable def Qp.Kl1 : List Item := .code (lopB (blkB (seqR (seqR (seqR (blkB (seqR (lopB (blkB (seqR (seqL (seqR (seqR (seqR Qp.C)))))))))))))) :: .inLoop (lopB (blkB (seqR (seqR (seqR (blkB (seqR (lopB (blkB (seqR (seqL (seqR (seqR (seqR Qp.C)))))))))))))) :: .inBlock 2 :: .inBlock 1 :: .inLoop (lopB (blkB (seqR (seqL (seqR (seqR (seqR Qp.C))))))) :: .inBlock 0 :: .code (seqR (seqR (seqR (seqR Qp.C)))) :: []
structure Qp.OK (h : Qp.Hs) : Prop where
 l0 : ∀ {H0 H : Hp} {L : Items} {r : ByteArray} {jk_ : Nat → Value} {a_0 : Bool} {a_1 : List Int} {t2 : ByteArray} {out : List Int} {w : List Int} {v_a_1 : Value} {v_out : Value} {v_w : Value} {i_out : Item'} {b_a : Nat} (_ : H0.le H) (_he : h.l0 a_0 a_1 t2 out w = some r) (_h_a_1 : Ro kU32 H v_a_1 a_1) (_h_out : Sl kU8 H 5 i_out v_out out) (_h_w : Ro kU32 H v_w w), Wp Tryz.prog 87 52 Qp.Kl0 (upd (upd (upd (upd jk_ 1 (pt b_a)) 2 (.string t2)) 3 (v_out)) 4 (v_w)) H (i_out :: bx b_a [.bool a_0, v_a_1] 24 :: L) (Qp.R H0 L r)
 l1 : ∀ {H0 H : Hp} {L : Items} {r : ByteArray} {jk_ : Nat → Value} {a_0 : Bool} {a_1 : List Int} {t2 : ByteArray} {out : List Int} {w : List Int} {r_ : Int} {k_ : Int} {v_a_1 : Value} {v_out : Value} {v_w : Value} {i_out : Item'} {b_a : Nat} (_ : H0.le H) (_he : h.l1 a_0 a_1 t2 out w r_ k_ = some r) (_h_a_1 : Ro kU32 H v_a_1 a_1) (_h_out : Sl kU8 H 5 i_out v_out out) (_h_w : Ro kU32 H v_w w), Wp Tryz.prog 87 52 Qp.Kl1 (upd (upd (upd (upd (upd (upd jk_ 1 (pt b_a)) 2 (.string t2)) 3 (v_out)) 4 (v_w)) 5 (.int .u32 r_)) 6 (.int .i64 k_)) H (i_out :: bx b_a [.bool a_0, v_a_1] 24 :: L) (Qp.R H0 L r)
theorem Qp.b0_ok {k : Nat} {h : Qp.Hs} (hh : Qp.OK h) {H0 H : Hp} {L : Items} {r : ByteArray} {jk_ : Nat → Value} {a_0 : Bool} {a_1 : List Int} {t2 : ByteArray} {out w : List Int} {v_a_1 v_out v_w : Value} {i_out : Item'} {b_a : Nat} (hle : H0.le H) (he : Qp.b0 k h a_0 a_1 t2 out w = some r) (h_a_1 : Ro kU32 H v_a_1 a_1) (h_out : Sl kU8 H 5 i_out v_out out) (h_w : Ro kU32 H v_w w) : Wp Tryz.prog 87 52 Qp.Kl0 (upd (upd (upd (upd jk_ 1 (pt b_a)) 2 (.string t2)) 3 (v_out)) 4 (v_w)) H (i_out :: bx b_a [.bool a_0, v_a_1] 24 :: L) (Qp.R H0 L r) := by
 unfold Qp.b0 at he
 unfold Qp.Kl0
 refine QV <| wR rfl <| wM v_w rfl rfl <| w_d rfl (Xq Tryz.underlying22 rfl h_w.src) <| w_d rfl (YR rfl rfl) <| Qa ?_
 rcases its he with ⟨c3, he⟩ | ⟨c3, he⟩
 ·
  refine Qy rfl (dt c3) <| QA <| QU <| wR rfl <| wA (.int .u32 0) rfl rfl <| wQ rfl <| wM v_w rfl rfl <| bK he fun y4 hy5 he => w_a rfl (Qm co130 (vs := [v_w, .int .u32 1000000000]) rfl (QW.calls k hy5 h_w.src)) ?_
  rintro _ H6 _ ⟨rfl, e7, v8, rfl, h9⟩
  refine wM (.tuple ⟨[v8, .int .u32 y4.2]⟩) rfl rfl <| w_d rfl (QO rfl rfl) <| w_d rfl (QO rfl rfl) <| wA v8 rfl rfl <| wA (.int .u32 y4.2) rfl rfl <| wQ rfl <| wA (.int .i64 0) rfl rfl <| Qa <| QU <| X3 ?_
  refine w_sl 1 (pt b_a) rfl <| w_sl 2 (.string t2) rfl <| w_sl 3 (v_out) rfl <| w_sl 4 (v8) rfl <| w_sl 5 (.int .u32 y4.2) rfl <| w_sl 6 (.int .i64 0) rfl <| hh.l1 (hle.trans e7) he (h_a_1.mono e7) (h_out.mono e7) h9
 ·
  refine QB rfl (df c3) <| X1 rfl <| QV <| wR rfl <| w_d rfl (Xe (o' := 0) Tryz.underlying24 rfl sz4 rfl rfl rfl) <| wL (.bool a_0) ty4 rfl rfl .h1 rfl rfl <| Qa ?_
  rcases its he with ⟨c10, he⟩ | ⟨c10, he⟩
  ·
   refine Qy rfl c10 <| QD rfl <| wM v_out rfl rfl <| w_a rfl (o_buildSlice' (kd := kU8) (css := [[.int .u8 45]]) (xs := [45]) (parts := [(0, .int .u8 45)]) Tryz.underlying52 ti5 rfl ⟨_, _, rfl, rfl, rfl⟩ ⟨rfl, trivial⟩ rfl (by decide)) ?_
   rintro v11 _ _ ⟨i12, rfl, rfl, h13⟩
   refine rK he fun c14 he => w_a rfl (o_append' (kd := kU8) (F := fun z_ => i12 :: z_ :: bx b_a [.bool a_0, v_a_1] 24 :: L) Tryz.underlying52 Tryz.underlying52 ti5 rfl (by first | omega | (simp only [List.nil_append, List.length_cons, List.length_nil]; omega)) rfl rfl h_out (h13.src .here) (fun _ => .h1)) ?_
   rintro v15 _ _ ⟨i16, rfl, rfl, h17⟩
   refine wA v15 rfl rfl <| wQ rfl <| wM v15 rfl rfl <| bK he fun y18 hy19 he => w_a rfl (Qm co131 (vs := [v15]) rfl (Nj (F := fun z_ => i12 :: z_ :: bx b_a [.bool a_0, v_a_1] 24 :: L) (Ql.calls k hy19 h17) .h1 (fun _ => .h1))) ?_
   rintro _ H20 _ ⟨i22, rfl, e21, h23, rfl⟩
   refine wQ rfl <| wM v15 rfl rfl <| w_d rfl (Oi Tryz.underlying52 Tryz.underlying5 Tryz.underlying9 rfl (h23.src .h1)) <| wA (.string (strOf y18)) rfl rfl <| Qa ?_
   obtain rfl := sj he
   refine Qi fn_87 rs_87 (.tmp (v := .string (strOf y18)) rfl .nil) <| ⟨⟨[_, _, _], rfl⟩, hle.trans e21, rfl⟩
  ·
   refine QB rfl (Bool.eq_false_iff.2 c10) <| QA <| wR rfl <| wM v_out rfl rfl <| bK he fun y24 hy25 he => w_a rfl (Qm co131 (vs := [v_out]) rfl (Nj (F := fun z_ => z_ :: bx b_a [.bool a_0, v_a_1] 24 :: L) (Ql.calls k hy25 h_out) .here (fun _ => .here))) ?_
   rintro _ H26 _ ⟨i28, rfl, e27, h29, rfl⟩
   refine wQ rfl <| wM v_out rfl rfl <| w_d rfl (Oi Tryz.underlying52 Tryz.underlying5 Tryz.underlying9 rfl (h29.src .here)) <| wA (.string (strOf y24)) rfl rfl <| Qa ?_
   obtain rfl := sj he
   refine Qi fn_87 rs_87 (.tmp (v := .string (strOf y24)) rfl .nil) <| ⟨⟨[_, _], rfl⟩, hle.trans e27, rfl⟩
theorem Qp.b1_ok {k : Nat} {h : Qp.Hs} (hh : Qp.OK h) {H0 H : Hp} {L : Items} {r : ByteArray} {jk_ : Nat → Value} {a_0 : Bool} {a_1 : List Int} {t2 : ByteArray} {out w : List Int} {r_ k_ : Int} {v_a_1 v_out v_w : Value} {i_out : Item'} {b_a : Nat} (hle : H0.le H) (he : Qp.b1 k h a_0 a_1 t2 out w r_ k_ = some r) (h_a_1 : Ro kU32 H v_a_1 a_1) (h_out : Sl kU8 H 5 i_out v_out out) (h_w : Ro kU32 H v_w w) : Wp Tryz.prog 87 52 Qp.Kl1 (upd (upd (upd (upd (upd (upd jk_ 1 (pt b_a)) 2 (.string t2)) 3 (v_out)) 4 (v_w)) 5 (.int .u32 r_)) 6 (.int .i64 k_)) H (i_out :: bx b_a [.bool a_0, v_a_1] 24 :: L) (Qp.R H0 L r) := by
 unfold Qp.b1 at he
 unfold Qp.Kl1
 refine QV <| wR rfl <| wM (.int .i64 k_) rfl rfl <| w_d rfl (XG rfl rfl) <| wM (.bool (decide (k_ < 9))) rfl rfl <| w_g (g := decide (k_ < 9)) rfl rfl rfl wn_t (fun g30 => QF (v := v_w) rfl) <| w_g (g := decide (k_ < 9)) rfl rfl rfl wn_t (fun g31 => Xq Tryz.underlying22 (cvt g31) h_w.src) <| w_g (g := decide (k_ < 9)) rfl rfl rfl wn_t (fun g32 => YR (cvt g32) rfl) <| w_g (g := decide (k_ < 9)) rfl rfl rfl wn_t (fun g33 => QF (v := .bool (decide (0 < (w.length : Int)))) (cvt g33)) <| w_g (g := (decide (k_ < 9)) && (!(decide (0 < (w.length : Int))))) rfl rfl rfl Mz (fun g34 => QF (v := .int .u32 r_) rfl) <| w_g (g := (decide (k_ < 9)) && (!(decide (0 < (w.length : Int))))) rfl rfl rfl Mz (fun g35 => YR (cvt g35) rfl) ?_
 refine w_g (g := decide (k_ < 9)) rfl rfl rfl wn_t (fun g36 => d_or' (b := (decide (0 < (w.length : Int)))) (p := (decide (0 < r_))) (cvt g36) rfl (cva g36)) <| w_d rfl (d_and' (b := (decide (k_ < 9))) (p := ((decide (0 < (w.length : Int))) || (decide (0 < r_)))) rfl rfl rfl) <| Qa ?_
 rcases its he with ⟨c37, he⟩ | ⟨c37, he⟩
 ·
  refine Qy rfl c37 <| QA <| QV <| QU <| wR rfl <| wM v_out rfl rfl <| wM (.int .u32 r_) rfl rfl <| w_d rfl (Jk rfl rfl (by decide)) <| w_d rfl (XY (c := (Int.tmod r_ 10) % 256) Tryz.underlying167 Tryz.underlying5 rfl rfl) <| w_d rfl (Xt (c := (48 + ((Int.tmod r_ 10) % 256)) % 256) rfl rfl rfl) <| w_a rfl (o_buildSlice' (kd := kU8) (css := [[.int .u8 ((48 + ((Int.tmod r_ 10) % 256)) % 256)]]) (xs := [(48 + ((Int.tmod r_ 10) % 256)) % 256]) (parts := [(0, .int .u8 ((48 + ((Int.tmod r_ 10) % 256)) % 256))]) Tryz.underlying52 ti5 rfl ⟨_, _, rfl, rfl, rfl⟩ ⟨rfl, trivial⟩ rfl (by decide)) ?_
  rintro v38 _ _ ⟨i39, rfl, rfl, h40⟩
  refine rK he fun c41 he => w_a rfl (o_append' (kd := kU8) (F := fun z_ => i39 :: z_ :: bx b_a [.bool a_0, v_a_1] 24 :: L) Tryz.underlying52 Tryz.underlying52 ti5 rfl (by first | omega | (simp only [List.nil_append, List.length_cons, List.length_nil]; omega)) rfl rfl h_out (h40.src .here) (fun _ => .h1)) ?_
  rintro v42 _ _ ⟨i43, rfl, rfl, h44⟩
  refine wA v42 rfl rfl <| Qa <| QD rfl <| wM (.int .u32 r_) rfl rfl <| w_d rfl (Ju (c := (Int.tdiv r_ 10) % 4294967296) rfl rfl (by decide) rfl) <| wA (.int .u32 ((Int.tdiv r_ 10) % 4294967296)) rfl rfl <| Qa <| Xk <| QD rfl <| wM (.int .i64 k_) rfl rfl <| w_d rfl (Xt (c := w64 (k_ + 1)) rfl rfl rfl) <| wA (.int .i64 (w64 (k_ + 1))) rfl rfl ?_
  refine Qa <| Xy <| YD .here <| w_sl 1 (pt b_a) rfl <| w_sl 2 (.string t2) rfl <| w_sl 3 (v42) rfl <| w_sl 4 (v_w) rfl <| w_sl 5 (.int .u32 ((Int.tdiv r_ 10) % 4294967296)) rfl <| w_sl 6 (.int .i64 (w64 (k_ + 1))) rfl <| hh.l1 hle he h_a_1 h44 h_w
 ·
  refine QB rfl (Bool.eq_false_iff.2 c37) <| X1 rfl <| Xk <| Xy <| w_sl 1 (pt b_a) rfl <| w_sl 2 (.string t2) rfl <| w_sl 3 (v_out) rfl <| w_sl 4 (v_w) rfl <| hh.l0 hle he h_a_1 h_out h_w
theorem Qp.ok : ∀ k, Qp.OK (Qp.hs k)
 | 0 => ⟨(by intros; exact nomatch (show none = some _ from by assumption)), (by intros; exact nomatch (show none = some _ from by assumption))⟩
 | k + 1 => ⟨Qp.b0_ok (k := k) (Qp.ok k), Qp.b1_ok (k := k) (Qp.ok k)⟩
theorem Qp.calls (k : Nat) {H : Hp} {L : Items} {a : Qq} {v0_a : Value} {r : ByteArray} (he : Qp.f k a = some r) (h0_a : Ro kU32 H v0_a a.f_w) : Ct Tryz.prog 87 ⟨[(Qc a v0_a)]⟩ H L (fun v H' L' => L = L' ∧ H = H' ∧ v = .string r) := by
 refine X6 (O := Qp.out r) (fun _ _ h => h) ?_
 have hle : H.le H := .refl _
 have hh := Qp.ok k
 unfold Qp.f at he
 refine QP (args := [_]) fn_87 rfl nt_87 rfl <| wR rfl <| wB (Qc a v0_a) rfl rfl rfl <| fun b1 => wA (.string str_0) rfl rfl <| wE <| wR rfl <| w_d rfl (Xe (o' := 1) Tryz.underlying24 rfl sz22 rfl rfl rfl) <| wL v0_a ty22 rfl rfl .here rfl rfl <| w_d rfl (Xq Tryz.underlying22 rfl h0_a.src) ?_
 refine w_d rfl (Y1 rfl rfl) <| Qa ?_
 rcases its he with ⟨c2, he⟩ | ⟨c2, he⟩
 ·
  refine Qy rfl (dt c2) <| wR rfl <| wA (.string str_2) rfl rfl <| Qa ?_
  obtain rfl := sj he
  refine Qi fn_87 rs_87 (.tmp (v := .string str_2) rfl .nil) <| ⟨⟨[_], rfl⟩, hle, rfl⟩
 ·
  refine QB rfl (df c2) <| QA <| wR rfl <| wA (.slice none 0 0) rfl rfl <| wE <| wR rfl <| w_d rfl (Xe (o' := 1) Tryz.underlying24 rfl sz22 rfl rfl rfl) <| wL v0_a ty22 rfl rfl .here rfl rfl <| wA v0_a rfl rfl ?_
  refine Qa <| QU <| X3 <| YM <| w_sl 1 (pt b1) rfl <| w_sl 2 (.string str_0) rfl <| w_sl 3 (.slice none 0 0) rfl <| w_sl 4 (v0_a) rfl <| hh.l0 hle he h0_a (Jd _ _ _) h0_a
noncomputable def Yd.C : Code := (Tryz.f33.body).getD .skip
def Yd.out (r : ByteArray) (H : Hp) (v : Value) : Prop := v = .string r
noncomputable def Yd.f (k : Nat) (a : Qe) : Option ByteArray := (Qp.f k a.f_n).bind fun y2 => if (y2.size + str_5.size : Int) ≤ 9223372036854775807 then ((Qx.f k a).bind fun y7 => (Qp.f k y7).bind fun y13 => if ((y2 ++ str_5).size + y13.size : Int) ≤ 9223372036854775807 then (some ((y2 ++ str_5) ++ y13)) else none) else none
theorem Yd.mono : ∀ k y0, LeO (Yd.f k y0) (Yd.f (k + 1) y0) := fun k _ => by unfold Yd.f; exact (LeO.bind (Qp.mono k _) fun _ => LeO.ite (LeO.bind (Qx.mono k _) fun _ => LeO.bind (Qp.mono k _) fun _ => LeO.ite (LeO.refl _) (LeO.refl _)) (LeO.refl _))
theorem Yd.calls (k : Nat) {H : Hp} {L : Items} {a : Qe} {v0_a v1_a : Value} {r : ByteArray} (he : Yd.f k a = some r) (h0_a : Ro kU32 H v0_a a.f_n.f_w) (h1_a : Ro kU32 H v1_a a.f_d.f_w) : Ct Tryz.prog 33 ⟨[(Qb a v0_a v1_a)]⟩ H L (fun v H' L' => L = L' ∧ H = H' ∧ v = .string r) := by
 refine X6 (O := Yd.out r) (fun _ _ h => h) ?_
 have hle : H.le H := .refl _
 unfold Yd.f at he
 refine QP (args := [_]) fn_33 rfl nt_33 rfl <| wR rfl <| wB (Qb a v0_a v1_a) rfl rfl rfl <| fun b1 => wA (.string str_0) rfl rfl <| wE <| bK he fun y2 hy3 he => rK he fun c6 he => bK he fun y7 hy8 he => bK he fun y13 hy14 he => XJ (p := 7) (tl := [7, 8]) [[], [(0, some 3)], [(1, some 4)], [(2, some 5)], [], [(4, some 7)], [(5, some 8)]] [some 3, some 4, some 5, some 6, some 7, some 8, some 9] (fctF (.is (pt b1) :: .is (Qc a.f_n v0_a) :: .is (.string y2) :: .is (.string (y2 ++ str_5)) :: .is (Qb a v0_a v1_a) :: .of (Qx.out y7) (Qx.out_mono _) :: .is (.string y13) :: [])) (fun m_ => bx b1 (Xd a v0_a v1_a) 26 :: L) (fun _ => none) mixed (by kernel_rfl) (by kernel_rfl) rfl (Xv (by kernel_rfl)) ⟨(fun H' m_ hH hm_ hu_ => dn <| s_d (m_ 0) rfl (Xe (o' := 0) Tryz.underlying26 rfl sz24 rfl rfl rfl) (by exact rfl) rfl), (by rintro H' m_ hH hm_ hu_ _ rfl; exact dn <| s_d (m_ 1) rfl (QS (v := (Qc a.f_n v0_a)) ty24 rfl .here rfl rfl rfl rfl) (by exact rfl) rfl), (by rintro H' m_ hH hm_ hu_ _ rfl; exact dn <| s_d (m_ 2) rfl (Xs (Qm co87 (vs := [(Qc a.f_n v0_a)]) rfl (Qp.calls k (a := a.f_n) hy3 (h0_a.mono hH)))) (by exact rfl) rfl), (by rintro H' m_ hH hm_ hu_ _ rfl; exact dn <| s_d (m_ 3) rfl (O5 rfl rfl c6) (by exact rfl) rfl), (fun H' m_ hH hm_ hu_ => dn <| s_d (m_ 4) rfl (QS (v := (Qb a v0_a v1_a)) ty26 rfl .here rfl rfl rfl rfl) (by exact rfl) rfl), (by rintro H' m_ hH hm_ hu_ _ rfl; exact dn <| s_k (m_ 5) rfl (Qm co78 (vs := [(Qb a v0_a v1_a)]) rfl (Qx.calls k (a := a) hy8 (h0_a.mono hH) (h1_a.mono hH))) rfl (by rintro v_ H_ _ ⟨rfl, e_, h_⟩; exact ⟨rfl, e_, h_⟩)), (by rintro H' m_ hH hm_ hu_ _ ⟨v11, rfl, h12⟩; exact dn <| s_d (m_ 6) rfl (Xs (Qm co87 (vs := [(Qc y7 v11)]) rfl (Qp.calls k (a := y7) hy14 h12))) (by exact rfl) rfl), trivial⟩ ?_
 intro H17 e18
 rintro _ _ rfl _ _ rfl _ _ rfl _ _ rfl _ _ rfl _ _ ⟨v11, rfl, h12⟩ _ _ rfl
 refine rK he fun c19 he => w_d rfl (O5 rfl rfl c19) <| wA (.string ((y2 ++ str_5) ++ y13)) rfl rfl <| Qa ?_
 obtain rfl := sj he
 refine Qi fn_33 rs_33 (.tmp (v := .string ((y2 ++ str_5) ++ y13)) rfl .nil) <| ⟨⟨[_], rfl⟩, hle.trans e18, rfl⟩
noncomputable def Yc.C : Code := (Tryz.f49.body).getD .skip
def Yc.out (r : Bool) (H : Hp) (v : Value) : Prop := v = .bool r
noncomputable def Yc.f (k : Nat)  : Option Bool := (Ye.f k 2 0).bind fun y1 => (Ye.f k 1 0).bind fun y10 => (Q4.f k y1.1 y10.1 3).bind fun y19 => (X0.f k [[(-1048576), 524288], [0, 1048576]]).bind fun y43 => (QZ.f k y43).bind fun y48 => (gd (((y1.2.isNone && y10.2.isNone) && y19.2.isNone) && y48.2.isNone) (Yd.f k y19.1) (ByteArray.empty)).bind fun y65 => (gd ((((y1.2.isNone && y10.2.isNone) && y19.2.isNone) && y48.2.isNone) && (decide (y65 = str_6))) (Yd.f k y48.1) (ByteArray.empty)).bind fun y72 => some (((((y1.2.isNone && y10.2.isNone) && y19.2.isNone) && y48.2.isNone) && (decide (y65 = str_6))) && (decide (y72 = str_7)))
theorem Yc.mono : ∀ k, LeO (Yc.f k) (Yc.f (k + 1)) := fun k => by unfold Yc.f; exact (LeO.bind (Ye.mono k _ _) fun _ => LeO.bind (Ye.mono k _ _) fun _ => LeO.bind (Q4.mono k _ _ _) fun _ => LeO.bind (X0.mono k _) fun _ => LeO.bind (QZ.mono k _) fun _ => LeO.bind (LeO.gd (Yd.mono k _)) fun _ => LeO.bind (LeO.gd (Yd.mono k _)) fun _ => LeO.refl _)
theorem Yc.calls (k : Nat) {H : Hp} {L : Items} {r : Bool} (he : Yc.f k  = some r) : Ct Tryz.prog 49 ⟨[]⟩ H L (fun v H' L' => L = L' ∧ H = H' ∧ v = .bool r) := by
 refine X6 (O := Yc.out r) (fun _ _ h => h) ?_
 have hle : H.le H := .refl _
 unfold Yc.f at he
 refine QP (args := []) fn_49 rfl nt_49 rfl <| wR rfl <| wA (.bool false) rfl rfl <| wQ rfl <| bK he fun y1 hy2 he => w_a rfl (Qm co18 (vs := [.int .i64 2, .int .i64 0]) rfl (Ye.calls k hy2)) ?_
 rintro _ H3 _ ⟨rfl, e4, v5, v7, rfl, h6, h8⟩
 refine wM (.tuple ⟨[(Qb y1.1 v5 v7), errV 104 y1.2]⟩) rfl rfl <| w_d rfl (QO rfl rfl) <| w_d rfl (QO rfl rfl) <| wN zr26 rfl rfl fun b9 => wS (Qb y1.1 v5 v7) sz26 rfl rfl rfl rfl rfl (Xz h6 h8) .here u4 <| wA (errV 104 y1.2) rfl rfl <| wQ rfl <| bK he fun y10 hy11 he => w_a rfl (Qm co18 (vs := [.int .i64 1, .int .i64 0]) rfl (Ye.calls k hy11)) ?_
 rintro _ H12 _ ⟨rfl, e13, v14, v16, rfl, h15, h17⟩
 refine wM (.tuple ⟨[(Qb y10.1 v14 v16), errV 104 y10.2]⟩) rfl rfl <| w_d rfl (QO rfl rfl) <| w_d rfl (QO rfl rfl) <| wN zr26 rfl rfl fun b18 => wS (Qb y10.1 v14 v16) sz26 rfl rfl rfl rfl rfl (Xz h15 h17) .here u4 <| wA (errV 104 y10.2) rfl rfl <| wQ rfl <| wL (Qb y1.1 v5 v7) ty26 rfl rfl .h1 rfl rfl <| wL (Qb y10.1 v14 v16) ty26 rfl rfl .here rfl rfl <| bK he fun y19 hy20 he => ?_
 refine w_a rfl (Qm co57 (vs := [(Qb y1.1 v5 v7), (Qb y10.1 v14 v16), .int .i64 3]) rfl (Q4.calls k (times := y1.1) (more := y10.1) hy20 (h6.mono e13) (h8.mono e13) h15 h17)) ?_
 rintro _ H21 _ ⟨rfl, e22, v23, v25, rfl, h24, h26⟩
 refine wM (.tuple ⟨[(Qb y19.1 v23 v25), errV 104 y19.2]⟩) rfl rfl <| w_d rfl (QO rfl rfl) <| w_d rfl (QO rfl rfl) <| wN zr26 rfl rfl fun b27 => wS (Qb y19.1 v23 v25) sz26 rfl rfl rfl rfl rfl (Xz h24 h26) .here u4 <| wA (errV 104 y19.2) rfl rfl <| wQ rfl <| w_a rfl (o_buildSlice' (kd := kI64) (css := [[.int .i64 (-1048576)], [.int .i64 524288]]) (xs := [(-1048576), 524288]) (parts := [(0, .int .i64 (-1048576)), (1, .int .i64 524288)]) Tryz.underlying72 ti2 rfl ⟨_, _, rfl, rfl, ⟨_, _, rfl, rfl, rfl⟩⟩ ⟨rfl, ⟨rfl, trivial⟩⟩ rfl (by decide)) ?_
 rintro v28 _ _ ⟨i29, rfl, rfl, h30⟩
 refine w_a rfl (o_buildSlice' (kd := kI64) (css := [[.int .i64 0], [.int .i64 1048576]]) (xs := [0, 1048576]) (parts := [(0, .int .i64 0), (1, .int .i64 1048576)]) Tryz.underlying72 ti2 rfl ⟨_, _, rfl, rfl, ⟨_, _, rfl, rfl, rfl⟩⟩ ⟨rfl, ⟨rfl, trivial⟩⟩ rfl (by decide)) ?_
 rintro v31 _ _ ⟨i32, rfl, rfl, h33⟩
 refine Yv h30 .h1 ?_
 intro H34 e35 h36
 refine Yv (h33.mono e35) .here ?_
 intro H37 e38 h39
 refine w_a rfl (o_buildSlice' (kd := (Kd.slice kI64)) (css := [[v28], [v31]]) (xs := [[(-1048576), 524288], [0, 1048576]]) (parts := [(0, v28), (1, v31)]) Tryz.underlying71 ti72 rfl ⟨_, _, rfl, h36.cells, ⟨_, _, rfl, h39.cells, rfl⟩⟩ ⟨⟨_, rfl, (h36.mono e38)⟩, ⟨⟨_, rfl, h39⟩, trivial⟩⟩ rfl (by decide)) ?_
 rintro v40 _ _ ⟨i41, rfl, rfl, h42⟩
 refine bK he fun y43 hy44 he => w_d rfl (Xs (Qm co39 (vs := [v40]) rfl (X0.calls k hy44 (h42.src .here)))) <| wN zr75 rfl rfl fun b47 => wS (.agg ⟨(.int .i64 y43.f_Rows :: .int .i64 y43.f_Cols :: .int .i64 y43.f_A.e0 :: .int .i64 y43.f_A.e1 :: .int .i64 y43.f_A.e2 :: .int .i64 y43.f_A.e3 :: .int .i64 y43.f_A.e4 :: .int .i64 y43.f_A.e5 :: .int .i64 y43.f_A.e6 :: .int .i64 y43.f_A.e7 :: .int .i64 y43.f_A.e8 :: .int .i64 y43.f_A.e9 :: .int .i64 y43.f_A.e10 :: .int .i64 y43.f_A.e11 :: .int .i64 y43.f_A.e12 :: .int .i64 y43.f_A.e13 :: .int .i64 y43.f_A.e14 :: .int .i64 y43.f_A.e15 :: .int .i64 y43.f_A.e16 :: .int .i64 y43.f_A.e17 :: .int .i64 y43.f_A.e18 :: .int .i64 y43.f_A.e19 :: .int .i64 y43.f_A.e20 :: .int .i64 y43.f_A.e21 :: .int .i64 y43.f_A.e22 :: .int .i64 y43.f_A.e23 :: .int .i64 y43.f_A.e24 :: .int .i64 y43.f_A.e25 :: .int .i64 y43.f_A.e26 :: .int .i64 y43.f_A.e27 :: .int .i64 y43.f_A.e28 :: .int .i64 y43.f_A.e29 :: .int .i64 y43.f_A.e30 :: .int .i64 y43.f_A.e31 :: .int .i64 y43.f_A.e32 :: .int .i64 y43.f_A.e33 :: .int .i64 y43.f_A.e34 :: .int .i64 y43.f_A.e35 :: [])⟩) sz75 rfl rfl rfl rfl rfl (oc rfl (oc rfl (oc rfl (oc rfl (oc rfl (oc rfl (oc rfl (oc rfl (oc rfl (oc rfl (oc rfl (oc rfl (oc rfl (oc rfl (oc rfl (oc rfl (oc rfl (oc rfl (oc rfl (oc rfl (oc rfl (oc rfl (oc rfl (oc rfl (oc rfl (oc rfl (oc rfl (oc rfl (oc rfl (oc rfl (oc rfl (oc rfl (oc rfl (oc rfl (oc rfl (oc rfl (oc rfl (oc rfl oz)))))))))))))))))))))))))))))))))))))) .here (.here (.here (.here (.here (.here (.here (.here (.here (.here (.here (.here (.here (.here (.here (.here (.here (.here (.here (.here (.here (.here (.here (.here (.here (.here (.here (.here (.here (.here (.here (.here (.here (.here (.here u4)))))))))))))))))))))))))))))))))) <| wQ rfl <| wL (.agg ⟨(.int .i64 y43.f_Rows :: .int .i64 y43.f_Cols :: .int .i64 y43.f_A.e0 :: .int .i64 y43.f_A.e1 :: .int .i64 y43.f_A.e2 :: .int .i64 y43.f_A.e3 :: .int .i64 y43.f_A.e4 :: .int .i64 y43.f_A.e5 :: .int .i64 y43.f_A.e6 :: .int .i64 y43.f_A.e7 :: .int .i64 y43.f_A.e8 :: .int .i64 y43.f_A.e9 :: .int .i64 y43.f_A.e10 :: .int .i64 y43.f_A.e11 :: .int .i64 y43.f_A.e12 :: .int .i64 y43.f_A.e13 :: .int .i64 y43.f_A.e14 :: .int .i64 y43.f_A.e15 :: .int .i64 y43.f_A.e16 :: .int .i64 y43.f_A.e17 :: .int .i64 y43.f_A.e18 :: .int .i64 y43.f_A.e19 :: .int .i64 y43.f_A.e20 :: .int .i64 y43.f_A.e21 :: .int .i64 y43.f_A.e22 :: .int .i64 y43.f_A.e23 :: .int .i64 y43.f_A.e24 :: .int .i64 y43.f_A.e25 :: .int .i64 y43.f_A.e26 :: .int .i64 y43.f_A.e27 :: .int .i64 y43.f_A.e28 :: .int .i64 y43.f_A.e29 :: .int .i64 y43.f_A.e30 :: .int .i64 y43.f_A.e31 :: .int .i64 y43.f_A.e32 :: .int .i64 y43.f_A.e33 :: .int .i64 y43.f_A.e34 :: .int .i64 y43.f_A.e35 :: [])⟩) ty75 rfl rfl .here rfl rfl <| bK he fun y48 hy49 he => w_a rfl (Qm co40 (vs := [.agg ⟨(.int .i64 y43.f_Rows :: .int .i64 y43.f_Cols :: .int .i64 y43.f_A.e0 :: .int .i64 y43.f_A.e1 :: .int .i64 y43.f_A.e2 :: .int .i64 y43.f_A.e3 :: .int .i64 y43.f_A.e4 :: .int .i64 y43.f_A.e5 :: .int .i64 y43.f_A.e6 :: .int .i64 y43.f_A.e7 :: .int .i64 y43.f_A.e8 :: .int .i64 y43.f_A.e9 :: .int .i64 y43.f_A.e10 :: .int .i64 y43.f_A.e11 :: .int .i64 y43.f_A.e12 :: .int .i64 y43.f_A.e13 :: .int .i64 y43.f_A.e14 :: .int .i64 y43.f_A.e15 :: .int .i64 y43.f_A.e16 :: .int .i64 y43.f_A.e17 :: .int .i64 y43.f_A.e18 :: .int .i64 y43.f_A.e19 :: .int .i64 y43.f_A.e20 :: .int .i64 y43.f_A.e21 :: .int .i64 y43.f_A.e22 :: .int .i64 y43.f_A.e23 :: .int .i64 y43.f_A.e24 :: .int .i64 y43.f_A.e25 :: .int .i64 y43.f_A.e26 :: .int .i64 y43.f_A.e27 :: .int .i64 y43.f_A.e28 :: .int .i64 y43.f_A.e29 :: .int .i64 y43.f_A.e30 :: .int .i64 y43.f_A.e31 :: .int .i64 y43.f_A.e32 :: .int .i64 y43.f_A.e33 :: .int .i64 y43.f_A.e34 :: .int .i64 y43.f_A.e35 :: [])⟩]) rfl (QZ.calls k (m := y43) hy49)) ?_
 rintro _ H50 _ ⟨rfl, e51, v52, v54, rfl, h53, h55⟩
 refine wM (.tuple ⟨[(Qb y48.1 v52 v54), errV 104 y48.2]⟩) rfl rfl <| w_d rfl (QO rfl rfl) <| w_d rfl (QO rfl rfl) <| wN zr26 rfl rfl fun b56 => wS (Qb y48.1 v52 v54) sz26 rfl rfl rfl rfl rfl (Xz h53 h55) .here u4 <| wA (errV 104 y48.2) rfl rfl <| wQ rfl <| wM (errV 104 y1.2) rfl rfl <| w_d rfl (Zt (e := y1.2) Tryz.underlying30 rfl) <| wM (.bool y1.2.isNone) rfl rfl ?_
 refine w_g (g := y1.2.isNone) rfl rfl rfl wn_t (fun g57 => QF (v := errV 104 y10.2) rfl) <| w_g (g := y1.2.isNone) rfl rfl rfl wn_t (fun g58 => Zt (e := y10.2) Tryz.underlying30 (cvt g58)) <| w_d rfl (d_and' (b := y1.2.isNone) (p := y10.2.isNone) rfl rfl rfl) <| wM (.bool (y1.2.isNone && y10.2.isNone)) rfl rfl <| w_g (g := y1.2.isNone && y10.2.isNone) rfl rfl rfl wn_t (fun g59 => QF (v := errV 104 y19.2) rfl) <| w_g (g := y1.2.isNone && y10.2.isNone) rfl rfl rfl wn_t (fun g60 => Zt (e := y19.2) Tryz.underlying30 (cvt g60)) <| w_d rfl (d_and' (b := (y1.2.isNone && y10.2.isNone)) (p := y19.2.isNone) rfl rfl rfl) <| wM (.bool ((y1.2.isNone && y10.2.isNone) && y19.2.isNone)) rfl rfl <| w_g (g := (y1.2.isNone && y10.2.isNone) && y19.2.isNone) rfl rfl rfl wn_t (fun g61 => QF (v := errV 104 y48.2) rfl) <| w_g (g := (y1.2.isNone && y10.2.isNone) && y19.2.isNone) rfl rfl rfl wn_t (fun g62 => Zt (e := y48.2) Tryz.underlying30 (cvt g62)) <| w_d rfl (d_and' (b := ((y1.2.isNone && y10.2.isNone) && y19.2.isNone)) (p := y48.2.isNone) rfl rfl rfl) <| wM (.bool (((y1.2.isNone && y10.2.isNone) && y19.2.isNone) && y48.2.isNone)) rfl rfl ?_
 refine w_g (g := ((y1.2.isNone && y10.2.isNone) && y19.2.isNone) && y48.2.isNone) rfl rfl rfl wn_t (fun g63 => QS (v := (Qb y19.1 v23 v25)) ty26 rfl .h5 rfl rfl rfl rfl) <| bK he fun y65 hy66 he => w_g (g := ((y1.2.isNone && y10.2.isNone) && y19.2.isNone) && y48.2.isNone) rfl rfl rfl wn_t (fun g64 => Xs (Qm co33 (vs := [(Qb y19.1 v23 v25)]) (acons (cvt g64) (anil)) (Yd.calls k (a := y19.1) (gd_t g64 hy66) (h24.mono ((e35.trans e38).trans e51)) (h26.mono ((e35.trans e38).trans e51))))) <| w_g (g := ((y1.2.isNone && y10.2.isNone) && y19.2.isNone) && y48.2.isNone) rfl rfl rfl wn_t (fun g69 => Ud (cvt g69) rfl) <| w_d rfl (d_and' (b := (((y1.2.isNone && y10.2.isNone) && y19.2.isNone) && y48.2.isNone)) (p := (decide (y65 = str_6))) rfl rfl rfl) <| wM (.bool ((((y1.2.isNone && y10.2.isNone) && y19.2.isNone) && y48.2.isNone) && (decide (y65 = str_6)))) rfl rfl <| w_g (g := (((y1.2.isNone && y10.2.isNone) && y19.2.isNone) && y48.2.isNone) && (decide (y65 = str_6))) rfl rfl rfl wn_t (fun g70 => QS (v := (Qb y48.1 v52 v54)) ty26 rfl .here rfl rfl rfl rfl) <| bK he fun y72 hy73 he => w_g (g := (((y1.2.isNone && y10.2.isNone) && y19.2.isNone) && y48.2.isNone) && (decide (y65 = str_6))) rfl rfl rfl wn_t (fun g71 => Xs (Qm co33 (vs := [(Qb y48.1 v52 v54)]) (acons (cvt g71) (anil)) (Yd.calls k (a := y48.1) (gd_t g71 hy73) h53 h55))) <| w_g (g := (((y1.2.isNone && y10.2.isNone) && y19.2.isNone) && y48.2.isNone) && (decide (y65 = str_6))) rfl rfl rfl wn_t (fun g76 => Ud (cvt g76) rfl) <| w_d rfl (d_and' (b := ((((y1.2.isNone && y10.2.isNone) && y19.2.isNone) && y48.2.isNone) && (decide (y65 = str_6)))) (p := (decide (y72 = str_7))) rfl rfl rfl) <| wA (.bool (((((y1.2.isNone && y10.2.isNone) && y19.2.isNone) && y48.2.isNone) && (decide (y65 = str_6))) && (decide (y72 = str_7)))) rfl rfl ?_
 refine Qa ?_
 obtain rfl := sj he
 refine Qi fn_49 rs_49 (.tmp (v := .bool (((((y1.2.isNone && y10.2.isNone) && y19.2.isNone) && y48.2.isNone) && (decide (y65 = str_6))) && (decide (y72 = str_7)))) rfl .nil) <| ⟨⟨[_, _, _, _, _, _, _, _], rfl⟩, hle.trans (((((e4.trans e13).trans e22).trans e35).trans e38).trans e51), rfl⟩
end Go.Proofs.YtkccpkccdbfomaaGreatDoor.GBH

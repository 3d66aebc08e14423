/- printed by gen.py -/
import Derived.Test.YtkccpkccdbfomaaGreatDoorGBPx6
namespace Go.Proofs.YtkccpkccdbfomaaGreatDoor.GBP
open Go Go.RowKit Go.Proofs.YtkccpkccdbfomaaGreatDoorK Go.Proofs.YtkccpkccdbfomaaGreatDoor
set_option maxRecDepth 100000
set_option maxHeartbeats 2000000
set_option linter.unusedVariables false
set_option linter.unusedSimpArgs false
noncomputable def X6.C : Code := (Tryz.f49.body).getD .skip
def X6.out (r : Bool) (H : Hp) (v : Value) : Prop := v = .bool r
noncomputable def X6.f (k : Nat)  : Option Bool := (Yg.f k 2 0).bind fun y1 => (Yg.f k 1 0).bind fun y10 => (Q9.f k y1.1 y10.1 3).bind fun y19 => (X4.f k [[(-1048576), 524288], [0, 1048576]]).bind fun y43 => (QZ.f k y43).bind fun y48 => (gd (((y1.2.isNone && y10.2.isNone) && y19.2.isNone) && y48.2.isNone) (Xp.f k y19.1) (ByteArray.empty)).bind fun y65 => (gd ((((y1.2.isNone && y10.2.isNone) && y19.2.isNone) && y48.2.isNone) && (decide (y65 = str_6))) (Xp.f k y48.1) (ByteArray.empty)).bind fun y72 => some (((((y1.2.isNone && y10.2.isNone) && y19.2.isNone) && y48.2.isNone) && (decide (y65 = str_6))) && (decide (y72 = str_7)))
theorem X6.mono : ∀ k, LeO (X6.f k) (X6.f (k + 1)) := fun k => by unfold X6.f; exact (LeO.bind (Yg.mono k _ _) fun _ => LeO.bind (Yg.mono k _ _) fun _ => LeO.bind (Q9.mono k _ _ _) fun _ => LeO.bind (X4.mono k _) fun _ => LeO.bind (QZ.mono k _) fun _ => LeO.bind (LeO.gd (Xp.mono k _)) fun _ => LeO.bind (LeO.gd (Xp.mono k _)) fun _ => LeO.refl _)
theorem X6.calls (k : Nat) {H : Hp} {L : Items} {r : Bool} (he : X6.f k  = some r) : Ct Tryz.prog 49 ⟨[]⟩ H L (fun v H' L' => L = L' ∧ H = H' ∧ v = .bool r) := by
 refine Yp (O := X6.out r) (fun _ _ h => h) ?_
 have hle : H.le H := .refl _
 unfold X6.f at he
 refine QV (args := []) fn_49 rfl nt_49 rfl <| wR rfl <| wA (.bool false) rfl rfl <| wQ rfl <| bK he fun y1 hy2 he => w_a rfl (Qm co18 (vs := [.int .i64 2, .int .i64 0]) rfl (Yg.calls k hy2)) ?_
 rintro _ H3 _ ⟨rfl, e4, v5, v7, rfl, h6, h8⟩
 refine wM (.tuple ⟨[(Qc y1.1 v5 v7), errV 104 y1.2]⟩) rfl rfl <| w_d rfl (Q5 rfl rfl) <| w_d rfl (Q5 rfl rfl) <| wN zr26 rfl rfl fun b9 => wS (Qc y1.1 v5 v7) sz26 rfl rfl rfl rfl rfl (XP h6 h8) .here u4 <| wA (errV 104 y1.2) rfl rfl <| wQ rfl <| bK he fun y10 hy11 he => w_a rfl (Qm co18 (vs := [.int .i64 1, .int .i64 0]) rfl (Yg.calls k hy11)) ?_
 rintro _ H12 _ ⟨rfl, e13, v14, v16, rfl, h15, h17⟩
 refine wM (.tuple ⟨[(Qc y10.1 v14 v16), errV 104 y10.2]⟩) rfl rfl <| w_d rfl (Q5 rfl rfl) <| w_d rfl (Q5 rfl rfl) <| wN zr26 rfl rfl fun b18 => wS (Qc y10.1 v14 v16) sz26 rfl rfl rfl rfl rfl (XP h15 h17) .here u4 <| wA (errV 104 y10.2) rfl rfl <| wQ rfl <| wL (Qc y1.1 v5 v7) ty26 rfl rfl .h1 rfl rfl <| wL (Qc y10.1 v14 v16) ty26 rfl rfl .here rfl rfl <| bK he fun y19 hy20 he => ?_
 refine w_a rfl (Qm co57 (vs := [(Qc y1.1 v5 v7), (Qc y10.1 v14 v16), .int .i64 3]) rfl (Q9.calls k (times := y1.1) (more := y10.1) hy20 (h6.mono e13) (h8.mono e13) h15 h17)) ?_
 rintro _ H21 _ ⟨rfl, e22, v23, v25, rfl, h24, h26⟩
 refine wM (.tuple ⟨[(Qc y19.1 v23 v25), errV 104 y19.2]⟩) rfl rfl <| w_d rfl (Q5 rfl rfl) <| w_d rfl (Q5 rfl rfl) <| wN zr26 rfl rfl fun b27 => wS (Qc y19.1 v23 v25) sz26 rfl rfl rfl rfl rfl (XP h24 h26) .here u4 <| wA (errV 104 y19.2) rfl rfl <| wQ rfl <| w_a rfl (o_buildSlice' (kd := kI64) (css := [[.int .i64 (-1048576)], [.int .i64 524288]]) (xs := [(-1048576), 524288]) (parts := [(0, .int .i64 (-1048576)), (1, .int .i64 524288)]) Tryz.underlying72 ti2 rfl ⟨_, _, rfl, rfl, ⟨_, _, rfl, rfl, rfl⟩⟩ ⟨rfl, ⟨rfl, trivial⟩⟩ rfl (by decide)) ?_
 rintro v28 _ _ ⟨i29, rfl, rfl, h30⟩
 refine w_a rfl (o_buildSlice' (kd := kI64) (css := [[.int .i64 0], [.int .i64 1048576]]) (xs := [0, 1048576]) (parts := [(0, .int .i64 0), (1, .int .i64 1048576)]) Tryz.underlying72 ti2 rfl ⟨_, _, rfl, rfl, ⟨_, _, rfl, rfl, rfl⟩⟩ ⟨rfl, ⟨rfl, trivial⟩⟩ rfl (by decide)) ?_
 rintro v31 _ _ ⟨i32, rfl, rfl, h33⟩
 refine Yx h30 .h1 ?_
 intro H34 e35 h36
 refine Yx (h33.mono e35) .here ?_
 intro H37 e38 h39
 refine w_a rfl (o_buildSlice' (kd := (Kd.slice kI64)) (css := [[v28], [v31]]) (xs := [[(-1048576), 524288], [0, 1048576]]) (parts := [(0, v28), (1, v31)]) Tryz.underlying71 ti72 rfl ⟨_, _, rfl, h36.cells, ⟨_, _, rfl, h39.cells, rfl⟩⟩ ⟨⟨_, rfl, (h36.mono e38)⟩, ⟨⟨_, rfl, h39⟩, trivial⟩⟩ rfl (by decide)) ?_
 rintro v40 _ _ ⟨i41, rfl, rfl, h42⟩
 refine bK he fun y43 hy44 he => w_d rfl (Xx (Qm co39 (vs := [v40]) rfl (X4.calls k hy44 (h42.src .here)))) <| wN zr75 rfl rfl fun b47 => wS (.agg ⟨(.int .i64 y43.f_Rows :: .int .i64 y43.f_Cols :: .int .i64 y43.f_A.e0 :: .int .i64 y43.f_A.e1 :: .int .i64 y43.f_A.e2 :: .int .i64 y43.f_A.e3 :: .int .i64 y43.f_A.e4 :: .int .i64 y43.f_A.e5 :: .int .i64 y43.f_A.e6 :: .int .i64 y43.f_A.e7 :: .int .i64 y43.f_A.e8 :: .int .i64 y43.f_A.e9 :: .int .i64 y43.f_A.e10 :: .int .i64 y43.f_A.e11 :: .int .i64 y43.f_A.e12 :: .int .i64 y43.f_A.e13 :: .int .i64 y43.f_A.e14 :: .int .i64 y43.f_A.e15 :: .int .i64 y43.f_A.e16 :: .int .i64 y43.f_A.e17 :: .int .i64 y43.f_A.e18 :: .int .i64 y43.f_A.e19 :: .int .i64 y43.f_A.e20 :: .int .i64 y43.f_A.e21 :: .int .i64 y43.f_A.e22 :: .int .i64 y43.f_A.e23 :: .int .i64 y43.f_A.e24 :: .int .i64 y43.f_A.e25 :: .int .i64 y43.f_A.e26 :: .int .i64 y43.f_A.e27 :: .int .i64 y43.f_A.e28 :: .int .i64 y43.f_A.e29 :: .int .i64 y43.f_A.e30 :: .int .i64 y43.f_A.e31 :: .int .i64 y43.f_A.e32 :: .int .i64 y43.f_A.e33 :: .int .i64 y43.f_A.e34 :: .int .i64 y43.f_A.e35 :: [])⟩) sz75 rfl rfl rfl rfl rfl (oc rfl (oc rfl (oc rfl (oc rfl (oc rfl (oc rfl (oc rfl (oc rfl (oc rfl (oc rfl (oc rfl (oc rfl (oc rfl (oc rfl (oc rfl (oc rfl (oc rfl (oc rfl (oc rfl (oc rfl (oc rfl (oc rfl (oc rfl (oc rfl (oc rfl (oc rfl (oc rfl (oc rfl (oc rfl (oc rfl (oc rfl (oc rfl (oc rfl (oc rfl (oc rfl (oc rfl (oc rfl (oc rfl oz)))))))))))))))))))))))))))))))))))))) .here (.here (.here (.here (.here (.here (.here (.here (.here (.here (.here (.here (.here (.here (.here (.here (.here (.here (.here (.here (.here (.here (.here (.here (.here (.here (.here (.here (.here (.here (.here (.here (.here (.here (.here u4)))))))))))))))))))))))))))))))))) <| wQ rfl <| wL (.agg ⟨(.int .i64 y43.f_Rows :: .int .i64 y43.f_Cols :: .int .i64 y43.f_A.e0 :: .int .i64 y43.f_A.e1 :: .int .i64 y43.f_A.e2 :: .int .i64 y43.f_A.e3 :: .int .i64 y43.f_A.e4 :: .int .i64 y43.f_A.e5 :: .int .i64 y43.f_A.e6 :: .int .i64 y43.f_A.e7 :: .int .i64 y43.f_A.e8 :: .int .i64 y43.f_A.e9 :: .int .i64 y43.f_A.e10 :: .int .i64 y43.f_A.e11 :: .int .i64 y43.f_A.e12 :: .int .i64 y43.f_A.e13 :: .int .i64 y43.f_A.e14 :: .int .i64 y43.f_A.e15 :: .int .i64 y43.f_A.e16 :: .int .i64 y43.f_A.e17 :: .int .i64 y43.f_A.e18 :: .int .i64 y43.f_A.e19 :: .int .i64 y43.f_A.e20 :: .int .i64 y43.f_A.e21 :: .int .i64 y43.f_A.e22 :: .int .i64 y43.f_A.e23 :: .int .i64 y43.f_A.e24 :: .int .i64 y43.f_A.e25 :: .int .i64 y43.f_A.e26 :: .int .i64 y43.f_A.e27 :: .int .i64 y43.f_A.e28 :: .int .i64 y43.f_A.e29 :: .int .i64 y43.f_A.e30 :: .int .i64 y43.f_A.e31 :: .int .i64 y43.f_A.e32 :: .int .i64 y43.f_A.e33 :: .int .i64 y43.f_A.e34 :: .int .i64 y43.f_A.e35 :: [])⟩) ty75 rfl rfl .here rfl rfl <| bK he fun y48 hy49 he => w_a rfl (Qm co40 (vs := [.agg ⟨(.int .i64 y43.f_Rows :: .int .i64 y43.f_Cols :: .int .i64 y43.f_A.e0 :: .int .i64 y43.f_A.e1 :: .int .i64 y43.f_A.e2 :: .int .i64 y43.f_A.e3 :: .int .i64 y43.f_A.e4 :: .int .i64 y43.f_A.e5 :: .int .i64 y43.f_A.e6 :: .int .i64 y43.f_A.e7 :: .int .i64 y43.f_A.e8 :: .int .i64 y43.f_A.e9 :: .int .i64 y43.f_A.e10 :: .int .i64 y43.f_A.e11 :: .int .i64 y43.f_A.e12 :: .int .i64 y43.f_A.e13 :: .int .i64 y43.f_A.e14 :: .int .i64 y43.f_A.e15 :: .int .i64 y43.f_A.e16 :: .int .i64 y43.f_A.e17 :: .int .i64 y43.f_A.e18 :: .int .i64 y43.f_A.e19 :: .int .i64 y43.f_A.e20 :: .int .i64 y43.f_A.e21 :: .int .i64 y43.f_A.e22 :: .int .i64 y43.f_A.e23 :: .int .i64 y43.f_A.e24 :: .int .i64 y43.f_A.e25 :: .int .i64 y43.f_A.e26 :: .int .i64 y43.f_A.e27 :: .int .i64 y43.f_A.e28 :: .int .i64 y43.f_A.e29 :: .int .i64 y43.f_A.e30 :: .int .i64 y43.f_A.e31 :: .int .i64 y43.f_A.e32 :: .int .i64 y43.f_A.e33 :: .int .i64 y43.f_A.e34 :: .int .i64 y43.f_A.e35 :: [])⟩]) rfl (QZ.calls k (m := y43) hy49)) ?_
 rintro _ H50 _ ⟨rfl, e51, v52, v54, rfl, h53, h55⟩
 refine wM (.tuple ⟨[(Qc y48.1 v52 v54), errV 104 y48.2]⟩) rfl rfl <| w_d rfl (Q5 rfl rfl) <| w_d rfl (Q5 rfl rfl) <| wN zr26 rfl rfl fun b56 => wS (Qc y48.1 v52 v54) sz26 rfl rfl rfl rfl rfl (XP h53 h55) .here u4 <| wA (errV 104 y48.2) rfl rfl <| wQ rfl <| wM (errV 104 y1.2) rfl rfl <| w_d rfl (Gm (e := y1.2) Tryz.underlying30 rfl) <| wM (.bool y1.2.isNone) rfl rfl ?_
 refine w_g (g := y1.2.isNone) rfl rfl rfl wn_t (fun g57 => QT (v := errV 104 y10.2) rfl) <| w_g (g := y1.2.isNone) rfl rfl rfl wn_t (fun g58 => Gm (e := y10.2) Tryz.underlying30 (cvt g58)) <| w_d rfl (d_and' (b := y1.2.isNone) (p := y10.2.isNone) rfl rfl rfl) <| wM (.bool (y1.2.isNone && y10.2.isNone)) rfl rfl <| w_g (g := y1.2.isNone && y10.2.isNone) rfl rfl rfl wn_t (fun g59 => QT (v := errV 104 y19.2) rfl) <| w_g (g := y1.2.isNone && y10.2.isNone) rfl rfl rfl wn_t (fun g60 => Gm (e := y19.2) Tryz.underlying30 (cvt g60)) <| w_d rfl (d_and' (b := (y1.2.isNone && y10.2.isNone)) (p := y19.2.isNone) rfl rfl rfl) <| wM (.bool ((y1.2.isNone && y10.2.isNone) && y19.2.isNone)) rfl rfl <| w_g (g := (y1.2.isNone && y10.2.isNone) && y19.2.isNone) rfl rfl rfl wn_t (fun g61 => QT (v := errV 104 y48.2) rfl) <| w_g (g := (y1.2.isNone && y10.2.isNone) && y19.2.isNone) rfl rfl rfl wn_t (fun g62 => Gm (e := y48.2) Tryz.underlying30 (cvt g62)) <| w_d rfl (d_and' (b := ((y1.2.isNone && y10.2.isNone) && y19.2.isNone)) (p := y48.2.isNone) rfl rfl rfl) <| wM (.bool (((y1.2.isNone && y10.2.isNone) && y19.2.isNone) && y48.2.isNone)) rfl rfl ?_
 refine w_g (g := ((y1.2.isNone && y10.2.isNone) && y19.2.isNone) && y48.2.isNone) rfl rfl rfl wn_t (fun g63 => QN (v := (Qc y19.1 v23 v25)) ty26 rfl .h5 rfl rfl rfl rfl) <| bK he fun y65 hy66 he => w_g (g := ((y1.2.isNone && y10.2.isNone) && y19.2.isNone) && y48.2.isNone) rfl rfl rfl wn_t (fun g64 => Xx (Qm co33 (vs := [(Qc y19.1 v23 v25)]) (acons (cvt g64) (anil)) (Xp.calls k (a := y19.1) (gd_t g64 hy66) (h24.mono ((e35.trans e38).trans e51)) (h26.mono ((e35.trans e38).trans e51))))) <| w_g (g := ((y1.2.isNone && y10.2.isNone) && y19.2.isNone) && y48.2.isNone) rfl rfl rfl wn_t (fun g69 => Ng (cvt g69) rfl) <| w_d rfl (d_and' (b := (((y1.2.isNone && y10.2.isNone) && y19.2.isNone) && y48.2.isNone)) (p := (decide (y65 = str_6))) rfl rfl rfl) <| wM (.bool ((((y1.2.isNone && y10.2.isNone) && y19.2.isNone) && y48.2.isNone) && (decide (y65 = str_6)))) rfl rfl <| w_g (g := (((y1.2.isNone && y10.2.isNone) && y19.2.isNone) && y48.2.isNone) && (decide (y65 = str_6))) rfl rfl rfl wn_t (fun g70 => QN (v := (Qc y48.1 v52 v54)) ty26 rfl .here rfl rfl rfl rfl) <| bK he fun y72 hy73 he => w_g (g := (((y1.2.isNone && y10.2.isNone) && y19.2.isNone) && y48.2.isNone) && (decide (y65 = str_6))) rfl rfl rfl wn_t (fun g71 => Xx (Qm co33 (vs := [(Qc y48.1 v52 v54)]) (acons (cvt g71) (anil)) (Xp.calls k (a := y48.1) (gd_t g71 hy73) h53 h55))) <| w_g (g := (((y1.2.isNone && y10.2.isNone) && y19.2.isNone) && y48.2.isNone) && (decide (y65 = str_6))) rfl rfl rfl wn_t (fun g76 => Ng (cvt g76) rfl) <| w_d rfl (d_and' (b := ((((y1.2.isNone && y10.2.isNone) && y19.2.isNone) && y48.2.isNone) && (decide (y65 = str_6)))) (p := (decide (y72 = str_7))) rfl rfl rfl) <| wA (.bool (((((y1.2.isNone && y10.2.isNone) && y19.2.isNone) && y48.2.isNone) && (decide (y65 = str_6))) && (decide (y72 = str_7)))) rfl rfl ?_
 refine Qb ?_
 obtain rfl := sj he
 refine Ql fn_49 rs_49 (.tmp (v := .bool (((((y1.2.isNone && y10.2.isNone) && y19.2.isNone) && y48.2.isNone) && (decide (y65 = str_6))) && (decide (y72 = str_7)))) rfl .nil) <| ⟨⟨[_, _, _, _, _, _, _, _], rfl⟩, hle.trans (((((e4.trans e13).trans e22).trans e35).trans e38).trans e51), rfl⟩
noncomputable def YR.C : Code := (Tryz.f100.body).getD .skip
def YR.out (r : Int) (H : Hp) (v : Value) : Prop := v = .int .i64 r
noncomputable def YR.f (k : Nat) (a b : Qg) : Option Int := (YA.f k a b).bind fun y3 => (X2.f k y3).bind fun y9 => some (y9)
theorem YR.calls (k : Nat) {H : Hp} {L : Items} {a b : Qg} {v0_a v1_b : Value} {r : Int} (he : YR.f k a b = some r) (h0_a : Ro kI64 H v0_a a.f_D) (h1_b : Ro kI64 H v1_b b.f_D) : Ct Tryz.prog 100 ⟨[(Qa a v0_a), (Qa b v1_b)]⟩ H L (fun v H' L' => L = L' ∧ H = H' ∧ v = .int .i64 r) := by
 refine Yp (O := YR.out r) (fun _ _ h => h) ?_
 have hle : H.le H := .refl _
 unfold YR.f at he
 refine QV (args := [_, _]) fn_100 rfl nt_100 rfl <| wR rfl <| wB (Qa a v0_a) rfl rfl rfl <| fun b1 => wB (Qa b v1_b) rfl rfl rfl <| fun b2 => wA (.int .i64 0) rfl rfl <| wQ rfl <| wL (Qa a v0_a) ty37 rfl rfl .h1 rfl rfl <| wL (Qa b v1_b) ty37 rfl rfl .here rfl rfl <| bK he fun y3 hy4 he => ?_
 refine w_a rfl (Qm co14 (vs := [(Qa a v0_a), (Qa b v1_b)]) rfl (YA.calls k (a := a) (b := b) hy4 h0_a h1_b)) ?_
 rintro _ H5 _ ⟨rfl, e6, v7, rfl, h8⟩
 refine bK he fun y9 hy10 he => w_d rfl (Xx (Qm co62 (vs := [(Qa y3 v7)]) rfl (X2.calls k (a := y3) hy10 h8))) <| wA (.int .i64 y9) rfl rfl <| Qb ?_
 obtain rfl := sj he
 refine Ql fn_100 rs_100 (.tmp (v := .int .i64 y9) rfl .nil) <| ⟨⟨[_, _], rfl⟩, hle.trans e6, rfl⟩
noncomputable def Qr.C : Code := (Tryz.f51.body).getD .skip
def Qr.out (r : Qh) (H : Hp) (v : Value) : Prop := ∃ v0 v1, v = (Qn r v0 v1) ∧ Ro kI64 H v0 r.f_N.f_D ∧ Ro kI64 H v1 r.f_D.f_D
theorem Qr.out_mono (r : Qh) {H H' : Hp} {v : Value} (hle : H.le H') (h : Qr.out r H v) : Qr.out r H' v := by
 obtain ⟨v0, v1, rfl, h0, h1⟩ := h; exact ⟨v0, v1, rfl, h0.mono hle, h1.mono hle⟩
abbrev Qr.R (H0 : Hp) (L : Items) (r : Qh) := fR H0 L (Qr.out r)
structure Qr.Hs where
 l0 : (List (List Int)) → Bool → (List Int) → Int → Option Qh
 l1 : (List (List Int)) → Bool → (List Int) → Int → Bool → (List Int) → Int → Option Qh
noncomputable def Qr.b0 (k : Nat) (h : Qr.Hs) (m : List (List Int)) (most_0 : Bool) (most_1 : List Int) (i : Int) : Option Qh := if i < (m.length : Int) then (h.l1 m most_0 most_1 i false [] 0) else ((Qq.f k 20).bind fun y5 => (QB.f k ⟨most_0, most_1⟩ y5).bind fun y13 => some (y13))
noncomputable def Qr.b1 (k : Nat) (h : Qr.Hs) (m : List (List Int)) (most_0 : Bool) (most_1 : List Int) (i : Int) (sum_0 : Bool) (sum_1 : List Int) (j_ : Int) : Option Qh := if (0 : Int) ≤ i ∧ i < (m.length : Int) then (if j_ < ((rd m i).length : Int) then (if (0 : Int) ≤ i ∧ i < (m.length : Int) then (if (0 : Int) ≤ j_ ∧ j_ < ((rd m i).length : Int) then ((Qu.f k (rd (rd m i) j_)).bind fun y33 => (XT.f k ⟨sum_0, sum_1⟩ ⟨false, y33.f_D⟩).bind fun y45 => h.l1 m most_0 most_1 i y45.f_Neg y45.f_D (w64 (j_ + 1))) else none) else none) else ((YR.f k ⟨sum_0, sum_1⟩ ⟨most_0, most_1⟩).bind fun y51 => if 0 < y51 then (h.l0 m sum_0 sum_1 (w64 (i + 1))) else (h.l0 m most_0 most_1 (w64 (i + 1))))) else none
noncomputable def Qr.hs : Nat → Qr.Hs
 | 0 => ⟨fun _ _ _ _ => none, fun _ _ _ _ _ _ _ => none⟩
 | k + 1 => ⟨fun x0 x1 x2 x3 => Qr.b0 k (Qr.hs k) x0 x1 x2 x3, fun x0 x1 x2 x3 x4 x5 x6 => Qr.b1 k (Qr.hs k) x0 x1 x2 x3 x4 x5 x6⟩
noncomputable def Qr.f (k : Nat) (m : List (List Int)) : Option Qh := (fun h : Qr.Hs => h.l0 m false [] 0) (Qr.hs k)
noncomputable def Qr.Kl0 : List Item := .code (lopB (blkB (seqR (seqL (seqR (seqR Qr.C)))))) :: .inLoop (lopB (blkB (seqR (seqL (seqR (seqR Qr.C)))))) :: .inBlock 0 :: .code (seqR (seqR (seqR Qr.C))) :: []
noncomputable def Qr.Kl1 : List Item := .code (lopB (blkB (seqR (seqL (seqR (blkB (seqL (seqR (lopB (blkB (seqR (seqL (seqR (seqR Qr.C)))))))))))))) :: .inLoop (lopB (blkB (seqR (seqL (seqR (blkB (seqL (seqR (lopB (blkB (seqR (seqL (seqR (seqR Qr.C)))))))))))))) :: .inBlock 2 :: .code (seqR (seqR (blkB (seqL (seqR (lopB (blkB (seqR (seqL (seqR (seqR Qr.C))))))))))) :: .inBlock 1 :: .code (seqR (seqR (lopB (blkB (seqR (seqL (seqR (seqR Qr.C)))))))) :: .inLoop (lopB (blkB (seqR (seqL (seqR (seqR Qr.C)))))) :: .inBlock 0 :: .code (seqR (seqR (seqR Qr.C))) :: []
structure Qr.OK (h : Qr.Hs) : Prop where
 l0 : ∀ {H0 H : Hp} {L : Items} {r : Qh} {jk_ : Nat → Value} {m : List (List Int)} {most_0 : Bool} {most_1 : List Int} {i : Int} {v_m : Value} {v_most_1 : Value} {b_t2 : Nat} {b_most : Nat} (_ : H0.le H) (_he : h.l0 m most_0 most_1 i = some r) (_h_m : Src (Kd.slice kI64) H L v_m m) (_h_most_1 : Ro kI64 H v_most_1 most_1), Wp Tryz.prog 51 44 Qr.Kl0 (upd (upd (upd (upd jk_ 0 (v_m)) 2 (pt b_t2)) 3 (pt b_most)) 4 (.int .i64 i)) H (bx b_most [.bool most_0, v_most_1] 37 :: bx b_t2 z0c 40 :: L) (Qr.R H0 L r)
 l1 : ∀ {H0 H : Hp} {L : Items} {r : Qh} {jk_ : Nat → Value} {m : List (List Int)} {most_0 : Bool} {most_1 : List Int} {i : Int} {sum_0 : Bool} {sum_1 : List Int} {j_ : Int} {v_m : Value} {v_most_1 : Value} {v_sum_1 : Value} {b_t2 : Nat} {b_most : Nat} {b_sum : Nat} (_ : H0.le H) (_he : h.l1 m most_0 most_1 i sum_0 sum_1 j_ = some r) (_h_m : Src (Kd.slice kI64) H L v_m m) (_h_most_1 : Ro kI64 H v_most_1 most_1) (_h_sum_1 : Ro kI64 H v_sum_1 sum_1), Wp Tryz.prog 51 44 Qr.Kl1 (upd (upd (upd (upd (upd (upd jk_ 0 (v_m)) 2 (pt b_t2)) 3 (pt b_most)) 4 (.int .i64 i)) 5 (pt b_sum)) 6 (.int .i64 j_)) H (bx b_sum [.bool sum_0, v_sum_1] 37 :: bx b_most [.bool most_0, v_most_1] 37 :: bx b_t2 z0c 40 :: L) (Qr.R H0 L r)
theorem Qr.b0_ok {k : Nat} {h : Qr.Hs} (hh : Qr.OK h) {H0 H : Hp} {L : Items} {r : Qh} {jk_ : Nat → Value} {m : List (List Int)} {most_0 : Bool} {most_1 : List Int} {i : Int} {v_m v_most_1 : Value} {b_t2 b_most : Nat} (hle : H0.le H) (he : Qr.b0 k h m most_0 most_1 i = some r) (h_m : Src (Kd.slice kI64) H L v_m m) (h_most_1 : Ro kI64 H v_most_1 most_1) : Wp Tryz.prog 51 44 Qr.Kl0 (upd (upd (upd (upd jk_ 0 (v_m)) 2 (pt b_t2)) 3 (pt b_most)) 4 (.int .i64 i)) H (bx b_most [.bool most_0, v_most_1] 37 :: bx b_t2 z0c 40 :: L) (Qr.R H0 L r) := by
 unfold Qr.b0 at he
 unfold Qr.Kl0
 refine QX <| wR rfl <| wM (.int .i64 i) rfl rfl <| wM v_m rfl rfl <| w_d rfl (Xo Tryz.underlying71 rfl h_m.th.th) <| w_d rfl (XW rfl rfl) <| Qb ?_
 rcases its he with ⟨c3, he⟩ | ⟨c3, he⟩
 ·
  refine QD rfl (dt c3) <| QF <| QX <| Q2 <| wR rfl <| w_d rfl (XE (cs' := [.bool false, .slice none 0 0]) Tryz.underlying37 zr37 rfl (by kernel_rfl) (parts := []) rfl .nil) <| wN zr37 rfl rfl fun b4 => wS (.agg ⟨[.bool false, .slice none 0 0]⟩) sz37 rfl rfl rfl rfl rfl (oc rfl (oc rfl oz)) .here u2 <| wE <| QX ?_
  refine QL rfl <| wA (.int .i64 0) rfl rfl <| Qb <| Q2 <| X5 <| w_sl 0 (v_m) rfl <| w_sl 2 (pt b_t2) rfl <| w_sl 3 (pt b_most) rfl <| w_sl 4 (.int .i64 i) rfl <| w_sl 5 (pt b4) rfl <| w_sl 6 (.int .i64 0) rfl <| hh.l1 hle he h_m h_most_1 (Xj _ _)
 ·
  refine QE rfl (df c3) <| X3 rfl <| QX <| bK he fun y5 hy6 he => XC (p := 2) (tl := [2, 3]) [[], []] [some 41, some 42] (fctF (.is (.agg ⟨[.bool most_0, v_most_1]⟩) :: .of (Qq.out y5) (Qq.out_mono _) :: [])) (fun m_ => bx b_most [.bool most_0, v_most_1] 37 :: bx b_t2 z0c 40 :: L) (fun _ => none) mixed (by kernel_rfl) (by kernel_rfl) rfl (Xq (by kernel_rfl)) ⟨(fun H' m_ hH hm_ hu_ => dn <| s_d (m_ 0) rfl (QN (v := .agg ⟨[.bool most_0, v_most_1]⟩) ty37 rfl .here rfl rfl rfl rfl) (by exact rfl) rfl), (fun H' m_ hH hm_ hu_ => dn <| s_k (m_ 1) rfl (Qm co12 (vs := [.int .i64 20]) rfl (Qq.calls k hy6)) rfl (by rintro v_ H_ _ ⟨rfl, e_, h_⟩; exact ⟨rfl, e_, h_⟩)), trivial⟩ ?_
  intro H11 e12
  rintro _ _ rfl _ _ ⟨v9, rfl, h10⟩
  refine bK he fun y13 hy14 he => w_a rfl (Qm co13 (vs := [.agg ⟨[.bool most_0, v_most_1]⟩, (Qa y5 v9)]) rfl (QB.calls k (n := ⟨most_0, most_1⟩) (d := y5) hy14 (h_most_1.mono e12) h10)) ?_
  rintro _ H15 _ ⟨rfl, e16, v17, v19, rfl, h18, h20⟩
  refine wS (Qn y13 v17 v19) sz40 rfl rfl rfl rfl rfl (Yl h18 h20) .h1 u4 <| Qb ?_
  obtain rfl := sj he
  refine Ql fn_51 rs_51 (.box (v := (Qn y13 v17 v19)) rfl ty40 rfl rfl .h1 rfl .nil) <| ⟨⟨[_, _], rfl⟩, hle.trans (e12.trans e16), ⟨v17, v19, rfl, h18, h20⟩⟩
theorem Qr.b1_ok {k : Nat} {h : Qr.Hs} (hh : Qr.OK h) {H0 H : Hp} {L : Items} {r : Qh} {jk_ : Nat → Value} {m : List (List Int)} {most_0 : Bool} {most_1 : List Int} {i : Int} {sum_0 : Bool} {sum_1 : List Int} {j_ : Int} {v_m v_most_1 v_sum_1 : Value} {b_t2 b_most b_sum : Nat} (hle : H0.le H) (he : Qr.b1 k h m most_0 most_1 i sum_0 sum_1 j_ = some r) (h_m : Src (Kd.slice kI64) H L v_m m) (h_most_1 : Ro kI64 H v_most_1 most_1) (h_sum_1 : Ro kI64 H v_sum_1 sum_1) : Wp Tryz.prog 51 44 Qr.Kl1 (upd (upd (upd (upd (upd (upd jk_ 0 (v_m)) 2 (pt b_t2)) 3 (pt b_most)) 4 (.int .i64 i)) 5 (pt b_sum)) 6 (.int .i64 j_)) H (bx b_sum [.bool sum_0, v_sum_1] 37 :: bx b_most [.bool most_0, v_most_1] 37 :: bx b_t2 z0c 40 :: L) (Qr.R H0 L r) := by
 unfold Qr.b1 at he
 unfold Qr.Kl1
 refine QX <| wR rfl <| wM (.int .i64 j_) rfl rfl <| wM v_m rfl rfl <| wM (.int .i64 i) rfl rfl <| rK he fun c21 he => w_d rfl (XA (sz := 1) Tryz.underlying71 sz72 rfl h_m.th.th.th rfl c21) ?_
 obtain ⟨_, l22, r23⟩ := Zp (kd := (Kd.slice kI64)) h_m.th.th.th c21
 obtain ⟨v24, rfl, h25⟩ := r23
 refine w_d rfl (YU (v := v24) (cs := [v24]) ty72 rfl rfl (by decide) l22 rfl) <| w_d rfl (Xo Tryz.underlying72 rfl h25.src) <| w_d rfl (XW rfl rfl) <| Qb ?_
 rcases its he with ⟨c26, he⟩ | ⟨c26, he⟩
 ·
  refine QD rfl (dt c26) <| QF <| QX <| Q2 <| rK he fun c27 he => ?_
  obtain ⟨_, l28, r29⟩ := Zp (kd := (Kd.slice kI64)) h_m.th.th.th c27
  obtain ⟨v30, rfl, h31⟩ := r29
  refine rK he fun c32 he => bK he fun y33 hy34 he => XC (p := 11) (tl := [11, 12]) [[], [], [], [(1, some 25), (2, some 26)], [(3, some 27)], [], [(4, some 28), (5, some 29)], [(6, some 30)], [(7, some 31)], [(8, some 32)], [(9, some 33)]] [some 24, some 25, some 26, some 27, some 28, some 29, some 30, some 31, some 32, some 33, some 34] (fctF (.is (.agg ⟨[.bool sum_0, v_sum_1]⟩) :: .is (v_m) :: .is (.int .i64 i) :: .is (.pointer (some (pel v_m i 1))) :: .is (v30) :: .is (.int .i64 j_) :: .is (.pointer (some (pel v30 j_ 1))) :: .is (.int .i64 (rd (rd m i) j_)) :: .of (Qu.out y33) (Qu.out_mono _) :: .ro kI64 (y33.f_D) :: .of (fun H v => ∃ v41, v = .agg ⟨[.bool false, v41]⟩ ∧ Ro kI64 H v41 y33.f_D) (by rintro _ _ _ hle ⟨v41, rfl, h42⟩; exact ⟨v41, rfl, h42.mono hle⟩) :: [])) (fun m_ => bx b_sum [.bool sum_0, v_sum_1] 37 :: bx b_most [.bool most_0, v_most_1] 37 :: bx b_t2 z0c 40 :: L) (fun _ => none) mixed (by kernel_rfl) (by kernel_rfl) rfl (Xq (by kernel_rfl)) ⟨(fun H' m_ hH hm_ hu_ => dn <| s_d (m_ 0) rfl (QN (v := .agg ⟨[.bool sum_0, v_sum_1]⟩) ty37 rfl .here rfl rfl rfl rfl) (by exact rfl) rfl), (fun H' m_ hH hm_ hu_ => dn <| s_d (m_ 1) rfl (QT (v := v_m) rfl) (by exact rfl) rfl), (fun H' m_ hH hm_ hu_ => dn <| s_d (m_ 2) rfl (QT (v := .int .i64 i) rfl) (by exact rfl) rfl), (by rintro H' m_ hH hm_ hu_ _ rfl _ rfl; exact dn <| s_d (m_ 3) rfl (XA (sz := 1) Tryz.underlying71 sz72 rfl (h_m.mono hH).th.th.th rfl c27) (by exact rfl) rfl), (by rintro H' m_ hH hm_ hu_ _ rfl; exact dn <| s_d (m_ 4) rfl (YU (v := v30) (cs := [v30]) ty72 rfl rfl (by decide) (l28.mono hH) rfl) (by exact rfl) rfl), (fun H' m_ hH hm_ hu_ => dn <| s_d (m_ 5) rfl (QT (v := .int .i64 j_) rfl) (by exact rfl) rfl), (by rintro H' m_ hH hm_ hu_ _ rfl _ rfl; exact dn <| s_d (m_ 6) rfl (XA (sz := 1) Tryz.underlying72 sz2 rfl (h31.mono hH).src rfl c32) (by exact rfl) rfl), (by rintro H' m_ hH hm_ hu_ _ rfl; exact dn <| s_d (m_ 7) rfl (XR ty2 rfl (h31.mono hH).src c32) (by exact rfl) rfl), (by rintro H' m_ hH hm_ hu_ _ rfl; exact dn <| s_k (m_ 8) rfl (Qm co16 (vs := [.int .i64 (rd (rd m i) j_)]) rfl (Qu.calls k hy34)) rfl (by rintro v_ H_ _ ⟨rfl, e_, h_⟩; exact ⟨rfl, e_, h_⟩)), (by rintro H' m_ hH hm_ hu_ _ ⟨v37, rfl, h38⟩; exact dn <| s_d (m_ 9) rfl (O1 (v := v37) Tryz.underlying37 rfl ty35 rfl rfl rfl rfl rfl) (by exact h38) rfl), (by rintro H' m_ hH hm_ hu_ v39 (h40 : Ro kI64 H' v39 y33.f_D); exact dn <| s_d (m_ 10) rfl (XE (cs' := [.bool false, v39]) Tryz.underlying37 zr37 rfl (by kernel_rfl) (parts := [(1, v39)]) rfl (.cons (YH rfl sz35 rfl) h40.cells rfl (.there u1) .nil)) (by exact ⟨v39, rfl, h40⟩) rfl), trivial⟩ ?_
  intro H43 e44
  rintro _ _ rfl _ _ rfl _ _ rfl _ _ rfl _ _ rfl _ _ rfl _ _ rfl _ _ rfl _ _ ⟨v37, rfl, h38⟩ v39 _ (h40 : Ro kI64 H43 v39 y33.f_D) _ _ ⟨v41, rfl, h42⟩
  refine bK he fun y45 hy46 he => w_a rfl (Qm co17 (vs := [.agg ⟨[.bool sum_0, v_sum_1]⟩, .agg ⟨[.bool false, v41]⟩]) rfl (XT.calls k (a := ⟨sum_0, sum_1⟩) (b := ⟨false, y33.f_D⟩) hy46 (h_sum_1.mono e44) h42)) ?_
  rintro _ H47 _ ⟨rfl, e48, v49, rfl, h50⟩
  refine wS (Qa y45 v49) sz37 rfl rfl rfl rfl rfl (Xe h50) .here u2 <| Qb <| Xw <| QL rfl <| wM (.int .i64 j_) rfl rfl <| w_d rfl (XQ (c := w64 (j_ + 1)) rfl rfl rfl) <| wA (.int .i64 (w64 (j_ + 1))) rfl rfl <| Qb <| XG <| w_sl 0 (v_m) rfl <| w_sl 2 (pt b_t2) rfl <| w_sl 3 (pt b_most) rfl ?_
  refine w_sl 4 (.int .i64 i) rfl <| w_sl 5 (pt b_sum) rfl <| w_sl 6 (.int .i64 (w64 (j_ + 1))) rfl <| hh.l1 (hle.trans (e44.trans e48)) he (h_m.mono (e44.trans e48)) (h_most_1.mono (e44.trans e48)) h50
 ·
  refine QE rfl (df c26) <| X3 rfl <| wR rfl <| wL (.agg ⟨[.bool sum_0, v_sum_1]⟩) ty37 rfl rfl .here rfl rfl <| wL (.agg ⟨[.bool most_0, v_most_1]⟩) ty37 rfl rfl .h1 rfl rfl <| bK he fun y51 hy52 he => w_d rfl (Xx (Qm co100 (vs := [.agg ⟨[.bool sum_0, v_sum_1]⟩, .agg ⟨[.bool most_0, v_most_1]⟩]) rfl (YR.calls k (a := ⟨sum_0, sum_1⟩) (b := ⟨most_0, most_1⟩) hy52 h_sum_1 h_most_1))) <| w_d rfl (YV rfl rfl) <| Qb ?_
  rcases its he with ⟨c55, he⟩ | ⟨c55, he⟩
  ·
   refine QD rfl (dt c55) <| QL rfl <| wL (.agg ⟨[.bool sum_0, v_sum_1]⟩) ty37 rfl rfl .here rfl rfl <| wS (.agg ⟨[.bool sum_0, v_sum_1]⟩) sz37 rfl rfl rfl rfl rfl (oc rfl (oc (h_sum_1.one) oz)) .h1 u2 <| Qb <| Xw <| QL rfl <| wM (.int .i64 i) rfl rfl <| w_d rfl (XQ (c := w64 (i + 1)) rfl rfl rfl) <| wA (.int .i64 (w64 (i + 1))) rfl rfl <| Qb <| XG ?_
   refine Yu .here <| w_sl 0 (v_m) rfl <| w_sl 2 (pt b_t2) rfl <| w_sl 3 (pt b_most) rfl <| w_sl 4 (.int .i64 (w64 (i + 1))) rfl <| hh.l0 hle he h_m h_sum_1
  ·
   refine QE rfl (df c55) <| QF <| Xw <| QL rfl <| wM (.int .i64 i) rfl rfl <| w_d rfl (XQ (c := w64 (i + 1)) rfl rfl rfl) <| wA (.int .i64 (w64 (i + 1))) rfl rfl <| Qb <| XG <| Yu .here <| w_sl 0 (v_m) rfl <| w_sl 2 (pt b_t2) rfl ?_
   refine w_sl 3 (pt b_most) rfl <| w_sl 4 (.int .i64 (w64 (i + 1))) rfl <| hh.l0 hle he h_m h_most_1
theorem Qr.ok : ∀ k, Qr.OK (Qr.hs k)
 | 0 => ⟨(by intros; exact nomatch (show none = some _ from by assumption)), (by intros; exact nomatch (show none = some _ from by assumption))⟩
 | k + 1 => ⟨Qr.b0_ok (k := k) (Qr.ok k), Qr.b1_ok (k := k) (Qr.ok k)⟩
theorem Qr.calls (k : Nat) {H : Hp} {L : Items} {m : List (List Int)} {v0_m : Value} {r : Qh} (he : Qr.f k m = some r) (h0_m : Src (Kd.slice kI64) H L v0_m m) : Ct Tryz.prog 51 ⟨[v0_m]⟩ H L (cR H L (Qr.out r)) := by
 refine XN (O := Qr.out r) ?_
 have hle : H.le H := .refl _
 have hh := Qr.ok k
 unfold Qr.f at he
 refine QV (args := [_]) fn_51 rfl nt_51 rfl <| wR rfl <| wN zr40 rfl rfl fun b1 => wQ rfl <| w_d rfl (XE (cs' := [.bool false, .slice none 0 0]) Tryz.underlying37 zr37 rfl (by kernel_rfl) (parts := []) rfl .nil) <| wN zr37 rfl rfl fun b2 => wS (.agg ⟨[.bool false, .slice none 0 0]⟩) sz37 rfl rfl rfl rfl rfl (oc rfl (oc rfl oz)) .here u2 <| wE ?_
 refine wR rfl <| wA (.int .i64 0) rfl rfl <| Qb <| Q2 <| X5 <| w_sl 0 (v0_m) rfl <| w_sl 2 (pt b1) rfl <| w_sl 3 (pt b2) rfl <| w_sl 4 (.int .i64 0) rfl <| hh.l0 hle he h0_m (Xj _ _)
noncomputable def Yn.C : Code := (Tryz.f50.body).getD .skip
def Yn.out (r : ByteArray) (H : Hp) (v : Value) : Prop := v = .string r
noncomputable def Yn.f (k : Nat) (a : Qh) : Option ByteArray := (Qt.f k a.f_N).bind fun y2 => if (y2.size + str_5.size : Int) ≤ 9223372036854775807 then ((Qt.f k a.f_D).bind fun y7 => if ((y2 ++ str_5).size + y7.size : Int) ≤ 9223372036854775807 then (some ((y2 ++ str_5) ++ y7)) else none) else none
theorem Yn.calls (k : Nat) {H : Hp} {L : Items} {a : Qh} {v0_a v1_a : Value} {r : ByteArray} (he : Yn.f k a = some r) (h0_a : Ro kI64 H v0_a a.f_N.f_D) (h1_a : Ro kI64 H v1_a a.f_D.f_D) : Ct Tryz.prog 50 ⟨[(Qn a v0_a v1_a)]⟩ H L (fun v H' L' => L = L' ∧ H = H' ∧ v = .string r) := by
 refine Yp (O := Yn.out r) (fun _ _ h => h) ?_
 have hle : H.le H := .refl _
 unfold Yn.f at he
 refine QV (args := [_]) fn_50 rfl nt_50 rfl <| wR rfl <| wB (Qn a v0_a v1_a) rfl rfl rfl <| fun b1 => wA (.string str_1) rfl rfl <| wE <| bK he fun y2 hy3 he => rK he fun c6 he => bK he fun y7 hy8 he => XC (p := 7) (tl := [7, 8]) [[], [(0, some 3)], [(1, some 4)], [(2, some 5)], [], [(4, some 7)], [(5, some 8)]] [some 3, some 4, some 5, some 6, some 7, some 8, some 9] (fctF (.is (pt b1) :: .is (Qa a.f_N v0_a) :: .is (.string y2) :: .is (.string (y2 ++ str_5)) :: .is (po b1 2) :: .is (Qa a.f_D v1_a) :: .is (.string y7) :: [])) (fun m_ => bx b1 (XZ a v0_a v1_a) 40 :: L) (fun _ => none) mixed (by kernel_rfl) (by kernel_rfl) rfl (Xq (by kernel_rfl)) ⟨(fun H' m_ hH hm_ hu_ => dn <| s_d (m_ 0) rfl (Xi (o' := 0) Tryz.underlying40 rfl sz37 rfl rfl rfl) (by exact rfl) rfl), (by rintro H' m_ hH hm_ hu_ _ rfl; exact dn <| s_d (m_ 1) rfl (QN (v := (Qa a.f_N v0_a)) ty37 rfl .here rfl rfl rfl rfl) (by exact rfl) rfl), (by rintro H' m_ hH hm_ hu_ _ rfl; exact dn <| s_d (m_ 2) rfl (Xx (Qm co99 (vs := [(Qa a.f_N v0_a)]) rfl (Qt.calls k (a := a.f_N) hy3 (h0_a.mono hH)))) (by exact rfl) rfl), (by rintro H' m_ hH hm_ hu_ _ rfl; exact dn <| s_d (m_ 3) rfl (Mn rfl rfl c6) (by exact rfl) rfl), (fun H' m_ hH hm_ hu_ => dn <| s_d (m_ 4) rfl (Xi (o' := 2) Tryz.underlying40 rfl sz37 rfl rfl rfl) (by exact rfl) rfl), (by rintro H' m_ hH hm_ hu_ _ rfl; exact dn <| s_d (m_ 5) rfl (QN (v := (Qa a.f_D v1_a)) ty37 rfl .here rfl rfl rfl rfl) (by exact rfl) rfl), (by rintro H' m_ hH hm_ hu_ _ rfl; exact dn <| s_d (m_ 6) rfl (Xx (Qm co99 (vs := [(Qa a.f_D v1_a)]) rfl (Qt.calls k (a := a.f_D) hy8 (h1_a.mono hH)))) (by exact rfl) rfl), trivial⟩ ?_
 intro H11 e12
 rintro _ _ rfl _ _ rfl _ _ rfl _ _ rfl _ _ rfl _ _ rfl _ _ rfl
 refine rK he fun c13 he => w_d rfl (Mn rfl rfl c13) <| wA (.string ((y2 ++ str_5) ++ y7)) rfl rfl <| Qb ?_
 obtain rfl := sj he
 refine Ql fn_50 rs_50 (.tmp (v := .string ((y2 ++ str_5) ++ y7)) rfl .nil) <| ⟨⟨[_], rfl⟩, hle.trans e12, rfl⟩
noncomputable def YJ.C : Code := (Tryz.f146.body).getD .skip
def YJ.out (r : Bool) (H : Hp) (v : Value) : Prop := v = .bool r
noncomputable def YJ.f (k : Nat) (a : Qg) (bits : Int) : Option Bool := (Qq.f k bits).bind fun y2 => (QS.f k a.f_D y2.f_D).bind fun y12 => some (y12)
theorem YJ.calls (k : Nat) {H : Hp} {L : Items} {a : Qg} {bits : Int} {v0_a : Value} {r : Bool} (he : YJ.f k a bits = some r) (h0_a : Ro kI64 H v0_a a.f_D) : Ct Tryz.prog 146 ⟨[(Qa a v0_a), .int .i64 bits]⟩ H L (fun v H' L' => L = L' ∧ H = H' ∧ v = .bool r) := by
 refine Yp (O := YJ.out r) (fun _ _ h => h) ?_
 have hle : H.le H := .refl _
 unfold YJ.f at he
 refine QV (args := [_, _]) fn_146 rfl nt_146 rfl <| wR rfl <| wB (Qa a v0_a) rfl rfl rfl <| fun b1 => wA (.bool false) rfl rfl <| wE <| bK he fun y2 hy3 he => XC (p := 5) (tl := [5, 6]) [[], [(0, some 5)], [], [(2, some 7)], [(3, some 8)]] [some 5, some 6, some 7, some 8, some 9] (fctF (.is (po b1 1) :: .is (v0_a) :: .is (.int .i64 bits) :: .of (Qq.out y2) (Qq.out_mono _) :: .ro kI64 (y2.f_D) :: [])) (fun m_ => bx b1 (QH a v0_a) 37 :: L) (fun _ => none) mixed (by kernel_rfl) (by kernel_rfl) rfl (Xq (by kernel_rfl)) ⟨(fun H' m_ hH hm_ hu_ => dn <| s_d (m_ 0) rfl (Xi (o' := 1) Tryz.underlying37 rfl sz35 rfl rfl rfl) (by exact rfl) rfl), (by rintro H' m_ hH hm_ hu_ _ rfl; exact dn <| s_d (m_ 1) rfl (QN (v := v0_a) ty35 rfl .here rfl rfl rfl rfl) (by exact rfl) rfl), (fun H' m_ hH hm_ hu_ => dn <| s_d (m_ 2) rfl (QT (v := .int .i64 bits) rfl) (by exact rfl) rfl), (by rintro H' m_ hH hm_ hu_ _ rfl; exact dn <| s_k (m_ 3) rfl (Qm co12 (vs := [.int .i64 bits]) rfl (Qq.calls k hy3)) rfl (by rintro v_ H_ _ ⟨rfl, e_, h_⟩; exact ⟨rfl, e_, h_⟩)), (by rintro H' m_ hH hm_ hu_ _ ⟨v6, rfl, h7⟩; exact dn <| s_d (m_ 4) rfl (O1 (v := v6) Tryz.underlying37 rfl ty35 rfl rfl rfl rfl rfl) (by exact h7) rfl), trivial⟩ ?_
 intro H10 e11
 rintro _ _ rfl _ _ rfl _ _ rfl _ _ ⟨v6, rfl, h7⟩ v8 _ (h9 : Ro kI64 H10 v8 y2.f_D)
 refine bK he fun y12 hy13 he => w_d rfl (Xx (Qm co69 (vs := [v0_a, v8]) rfl (QS.calls k hy13 ((h0_a.mono e11).src) h9.src))) <| wA (.bool y12) rfl rfl <| Qb ?_
 obtain rfl := sj he
 refine Ql fn_146 rs_146 (.tmp (v := .bool y12) rfl .nil) <| ⟨⟨[_], rfl⟩, hle.trans e11, rfl⟩
noncomputable def QW.C : Code := (Tryz.f132.body).getD .skip
def QW.out (r : Bool) (H : Hp) (v : Value) : Prop := v = .bool r
abbrev QW.R (H0 : Hp) (L : Items) (r : Bool) := fR H0 L (QW.out r)
structure QW.Hs where
 l0 : (List Qg) → Bool → Int → Option Bool
noncomputable def QW.b0 (k : Nat) (h : QW.Hs) (l : List Qg) (t2 : Bool) (i : Int) : Option Bool := if i < (l.length : Int) then (if (0 : Int) ≤ i ∧ i < (l.length : Int) then ((YJ.f k (rd l i) 4096).bind fun y7 => if (!y7) = true then (some (false)) else (h.l0 l t2 (w64 (i + 1)))) else none) else (some (true))
noncomputable def QW.hs : Nat → QW.Hs
 | 0 => ⟨fun _ _ _ => none⟩
 | k + 1 => ⟨fun x0 x1 x2 => QW.b0 k (QW.hs k) x0 x1 x2⟩
noncomputable def QW.f (k : Nat) (l : List Qg) : Option Bool := (fun h : QW.Hs => h.l0 l false 0) (QW.hs k)
noncomputable def QW.Kl0 : List Item := .code (lopB (blkB (seqR (seqL (seqR QW.C))))) :: .inLoop (lopB (blkB (seqR (seqL (seqR QW.C))))) :: .inBlock 0 :: .code (seqR (seqR QW.C)) :: []
structure QW.OK (h : QW.Hs) : Prop where
 l0 : ∀ {H0 H : Hp} {L : Items} {r : Bool} {jk_ : Nat → Value} {l : List Qg} {t2 : Bool} {i : Int} {v_l : Value} (_ : H0.le H) (_he : h.l0 l t2 i = some r) (_h_l : Src Yk H L v_l l), Wp Tryz.prog 132 16 QW.Kl0 (upd (upd (upd jk_ 0 (v_l)) 2 (.bool t2)) 3 (.int .i64 i)) H (L) (QW.R H0 L r)
theorem QW.b0_ok {k : Nat} {h : QW.Hs} (hh : QW.OK h) {H0 H : Hp} {L : Items} {r : Bool} {jk_ : Nat → Value} {l : List Qg} {t2 : Bool} {i : Int} {v_l : Value} (hle : H0.le H) (he : QW.b0 k h l t2 i = some r) (h_l : Src Yk H L v_l l) : Wp Tryz.prog 132 16 QW.Kl0 (upd (upd (upd jk_ 0 (v_l)) 2 (.bool t2)) 3 (.int .i64 i)) H (L) (QW.R H0 L r) := by
 unfold QW.b0 at he
 unfold QW.Kl0
 refine QX <| wR rfl <| wM (.int .i64 i) rfl rfl <| wM v_l rfl rfl <| w_d rfl (Xo Tryz.underlying185 rfl h_l) <| w_d rfl (XW rfl rfl) <| Qb ?_
 rcases its he with ⟨c1, he⟩ | ⟨c1, he⟩
 ·
  refine QD rfl (dt c1) <| QF <| QX <| Q2 <| wR rfl <| wM v_l rfl rfl <| wM (.int .i64 i) rfl rfl <| rK he fun c2 he => w_d rfl (XA (sz := 2) Tryz.underlying185 sz37 rfl h_l rfl c2) ?_
  obtain ⟨_, l3, r4⟩ := Zp (kd := Yk) h_l c2
  obtain ⟨v5, rfl, h6⟩ := ZD r4
  refine w_d rfl (YU (v := .agg ⟨[.bool ((rd l i).f_Neg), v5]⟩) (cs := [.bool ((rd l i).f_Neg), v5]) ty37 rfl rfl (by decide) l3 rfl) <| bK he fun y7 hy8 he => w_d rfl (Xx (Qm co146 (vs := [.agg ⟨[.bool ((rd l i).f_Neg), v5]⟩, .int .i64 4096]) rfl (YJ.calls k (a := (rd l i)) hy8 h6))) <| w_d rfl (Zs (b := y7) rfl) <| Qb ?_
  rcases its he with ⟨c11, he⟩ | ⟨c11, he⟩
  ·
   refine QD rfl c11 <| wR rfl <| wA (.bool false) rfl rfl <| Qb ?_
   obtain rfl := sj he
   refine Ql fn_132 rs_132 (.tmp (v := .bool false) rfl .nil) <| ⟨⟨[], rfl⟩, hle, rfl⟩
  ·
   refine QE rfl (Bool.eq_false_iff.2 c11) <| QF <| Xw <| QL rfl <| wM (.int .i64 i) rfl rfl <| w_d rfl (XQ (c := w64 (i + 1)) rfl rfl rfl) <| wA (.int .i64 (w64 (i + 1))) rfl rfl <| Qb <| XG <| w_sl 0 (v_l) rfl <| w_sl 2 (.bool t2) rfl <| w_sl 3 (.int .i64 (w64 (i + 1))) rfl <| hh.l0 hle he h_l
 ·
  refine QE rfl (df c1) <| X3 rfl <| wR rfl <| wA (.bool true) rfl rfl <| Qb ?_
  obtain rfl := sj he
  refine Ql fn_132 rs_132 (.tmp (v := .bool true) rfl .nil) <| ⟨⟨[], rfl⟩, hle, rfl⟩
theorem QW.ok : ∀ k, QW.OK (QW.hs k)
 | 0 => ⟨(by intros; exact nomatch (show none = some _ from by assumption))⟩
 | k + 1 => ⟨QW.b0_ok (k := k) (QW.ok k)⟩
theorem QW.calls (k : Nat) {H : Hp} {L : Items} {l : List Qg} {v0_l : Value} {r : Bool} (he : QW.f k l = some r) (h0_l : Src Yk H L v0_l l) : Ct Tryz.prog 132 ⟨[v0_l]⟩ H L (fun v H' L' => L = L' ∧ H = H' ∧ v = .bool r) := by
 refine Yp (O := QW.out r) (fun _ _ h => h) ?_
 have hle : H.le H := .refl _
 have hh := QW.ok k
 unfold QW.f at he
 refine QV (args := [_]) fn_132 rfl nt_132 rfl <| wR rfl <| wA (.bool false) rfl rfl <| wE <| wR rfl <| wA (.int .i64 0) rfl rfl <| Qb <| Q2 <| X5 ?_
 refine w_sl 0 (v0_l) rfl <| w_sl 2 (.bool false) rfl <| w_sl 3 (.int .i64 0) rfl <| hh.l0 hle he h0_l
noncomputable def Xs.C : Code := (Tryz.f89.body).getD .skip
def Xs.out (r : Qh × Int) (H : Hp) (v : Value) : Prop := ∃ v0 v1, v = .tuple ⟨[(Qn r.1 v0 v1), .int .i64 r.2]⟩ ∧ Ro kI64 H v0 r.1.f_N.f_D ∧ Ro kI64 H v1 r.1.f_D.f_D
abbrev Xs.R (H0 : Hp) (L : Items) (r : Qh × Int) := fR H0 L (Xs.out r)
noncomputable def Xs.j1 (k : Nat) (a_0 : Bool) (a_1 : List Int) (a_2 : Bool) (a_3 : List Int) (n_0 : Bool) (n_1 : List Int) (d_0 : Bool) (d_1 : List Int) : Option (Qh × Int) := (X2.f k ⟨d_0, d_1⟩).bind fun y11 => if y11 = 0 then (some (⟨⟨false, []⟩, ⟨false, []⟩⟩, 11)) else ((Qi.f k ⟨a_0, a_1⟩ ⟨n_0, n_1⟩).bind fun y16 => (Qi.f k ⟨a_2, a_3⟩ ⟨d_0, d_1⟩).bind fun y22 => (QW.f k [y16, y22]).bind fun y35 => if (!y35) = true then (some (⟨⟨false, []⟩, ⟨false, []⟩⟩, 12)) else ((QB.f k y16 y22).bind fun y40 => some (y40, 0)))
noncomputable def Xs.f (k : Nat) (a b : Qh) (by_ : Bool) : Option (Qh × Int) := if by_ = true then (Xs.j1 k a.f_N.f_Neg a.f_N.f_D a.f_D.f_Neg a.f_D.f_D b.f_D.f_Neg b.f_D.f_D b.f_N.f_Neg b.f_N.f_D) else (Xs.j1 k a.f_N.f_Neg a.f_N.f_D a.f_D.f_Neg a.f_D.f_D b.f_N.f_Neg b.f_N.f_D b.f_D.f_Neg b.f_D.f_D)
noncomputable def Xs.Kj1 : List Item := .code (seqR (seqR (seqR Xs.C))) :: []
theorem Xs.j1_ok {k : Nat} {H0 H : Hp} {L : Items} {r : Qh × Int} {jk_ : Nat → Value} {a_0 : Bool} {a_1 : List Int} {a_2 : Bool} {a_3 : List Int} {n_0 : Bool} {n_1 : List Int} {d_0 : Bool} {d_1 : List Int} {v_a_1 v_a_3 v_n_1 v_d_1 : Value} {b_a b_t6 b_n b_d : Nat} (hle : H0.le H) (he : Xs.j1 k a_0 a_1 a_2 a_3 n_0 n_1 d_0 d_1 = some r) (h_a_1 : Ro kI64 H v_a_1 a_1) (h_a_3 : Ro kI64 H v_a_3 a_3) (h_n_1 : Ro kI64 H v_n_1 n_1) (h_d_1 : Ro kI64 H v_d_1 d_1) : Wp Tryz.prog 89 40 Xs.Kj1 (upd (upd (upd (upd (upd jk_ 3 (pt b_a)) 6 (pt b_t6)) 7 (.int .i64 0)) 8 (pt b_n)) 9 (pt b_d)) H (bx b_n [.bool n_0, v_n_1] 37 :: bx b_d [.bool d_0, v_d_1] 37 :: bx b_t6 z0c 40 :: bx b_a [.bool a_0, v_a_1, .bool a_2, v_a_3] 40 :: L) (Xs.R H0 L r) := by
 unfold Xs.j1 at he
 unfold Xs.Kj1
 refine QX <| wR rfl <| wL (.agg ⟨[.bool d_0, v_d_1]⟩) ty37 rfl rfl .h1 rfl rfl <| bK he fun y11 hy12 he => w_d rfl (Xx (Qm co62 (vs := [.agg ⟨[.bool d_0, v_d_1]⟩]) rfl (X2.calls k (a := ⟨d_0, d_1⟩) hy12 h_d_1))) <| w_d rfl (YY rfl rfl) <| Qb ?_
 rcases its he with ⟨c15, he⟩ | ⟨c15, he⟩
 ·
  refine QD rfl (dt c15) <| wR rfl <| w_d rfl (XE (cs' := z0c) Tryz.underlying40 zr40 rfl (by kernel_rfl) (parts := []) rfl .nil) <| wS (.agg ⟨z0c⟩) sz40 rfl rfl rfl rfl rfl (oc rfl (oc rfl (oc rfl (oc rfl oz)))) .h2 u4 <| wA (.int .i64 11) rfl rfl <| Qb ?_
  obtain rfl := sj he
  refine Ql fn_89 rs_89 (.box (v := .agg ⟨z0c⟩) rfl ty40 rfl rfl .h2 rfl (.tmp (v := .int .i64 11) rfl .nil)) <| ⟨⟨[_, _, _, _], rfl⟩, hle, ⟨.slice none 0 0, .slice none 0 0, rfl, (Xj _ _), (Xj _ _)⟩⟩
 ·
  refine QE rfl (df c15) <| QF <| QX <| bK he fun y16 hy17 he => bK he fun y22 hy23 he => ?_
  refine YG (YG (?_))
  refine XC (p := 10) (tl := [10, 11]) [[], [(0, some 23)], [], [(1, some 24), (2, some 25)], [], [(4, some 27)], [], [(5, some 28), (6, some 29)], [], []] [some 23, some 24, some 25, some 26, some 27, some 28, some 29, some 30, some 10, some 11] (fctF (.is (pt b_a) :: .is (.agg ⟨[.bool a_0, v_a_1]⟩) :: .is (.agg ⟨[.bool n_0, v_n_1]⟩) :: .of (Qi.out y16) (Qi.out_mono _) :: .is (po b_a 2) :: .is (.agg ⟨[.bool a_2, v_a_3]⟩) :: .is (.agg ⟨[.bool d_0, v_d_1]⟩) :: .of (Qi.out y22) (Qi.out_mono _) :: .box 37 [.bool false, .slice none 0 0] :: .box 37 [.bool false, .slice none 0 0] :: [])) (fun m_ => m_ 8 :: m_ 9 :: bx b_n [.bool n_0, v_n_1] 37 :: bx b_d [.bool d_0, v_d_1] 37 :: bx b_t6 z0c 40 :: bx b_a [.bool a_0, v_a_1, .bool a_2, v_a_3] 40 :: L) (fun _ => none) mixed (by kernel_rfl) (by kernel_rfl) rfl (Xq (by kernel_rfl)) ⟨(fun H' m_ hH hm_ hu_ => dn <| s_d (m_ 0) rfl (Xi (o' := 0) Tryz.underlying40 rfl sz37 rfl rfl rfl) (by exact rfl) rfl), (by rintro H' m_ hH hm_ hu_ _ rfl; exact dn <| s_d (m_ 1) rfl (QN (v := .agg ⟨[.bool a_0, v_a_1]⟩) ty37 rfl .h5 rfl rfl rfl rfl) (by exact rfl) rfl), (fun H' m_ hH hm_ hu_ => dn <| s_d (m_ 2) rfl (QN (v := .agg ⟨[.bool n_0, v_n_1]⟩) ty37 rfl .h2 rfl rfl rfl rfl) (by exact rfl) rfl), (by rintro H' m_ hH hm_ hu_ _ rfl _ rfl; exact dn <| s_k (m_ 3) rfl (Qm co15 (vs := [.agg ⟨[.bool a_0, v_a_1]⟩, .agg ⟨[.bool n_0, v_n_1]⟩]) rfl (Qi.calls k (a := ⟨a_0, a_1⟩) (b := ⟨n_0, n_1⟩) hy17 (h_a_1.mono hH) (h_n_1.mono hH))) rfl (by rintro v_ H_ _ ⟨rfl, e_, h_⟩; exact ⟨rfl, e_, h_⟩)), (fun H' m_ hH hm_ hu_ => dn <| s_d (m_ 4) rfl (Xi (o' := 2) Tryz.underlying40 rfl sz37 rfl rfl rfl) (by exact rfl) rfl), (by rintro H' m_ hH hm_ hu_ _ rfl; exact dn <| s_d (m_ 5) rfl (QN (v := .agg ⟨[.bool a_2, v_a_3]⟩) ty37 rfl .h5 rfl rfl rfl rfl) (by exact rfl) rfl), (fun H' m_ hH hm_ hu_ => dn <| s_d (m_ 6) rfl (QN (v := .agg ⟨[.bool d_0, v_d_1]⟩) ty37 rfl .h3 rfl rfl rfl rfl) (by exact rfl) rfl), (by rintro H' m_ hH hm_ hu_ _ rfl _ rfl; exact dn <| s_k (m_ 7) rfl (Qm co15 (vs := [.agg ⟨[.bool a_2, v_a_3]⟩, .agg ⟨[.bool d_0, v_d_1]⟩]) rfl (Qi.calls k (a := ⟨a_2, a_3⟩) (b := ⟨d_0, d_1⟩) hy23 (h_a_3.mono hH) (h_d_1.mono hH))) rfl (by rintro v_ H_ _ ⟨rfl, e_, h_⟩; exact ⟨rfl, e_, h_⟩)), (fun H' m_ hH hm_ hu_ => dn <| Y8 hm_ rfl rfl (YT zr37 rfl) rfl (fun _ => .here) (by exact fun b_ => ⟨b_, rfl, rfl⟩)), (fun H' m_ hH hm_ hu_ => dn <| Y8 hm_ rfl rfl (YT zr37 rfl) rfl (fun _ => .h1) (by exact fun b_ => ⟨b_, rfl, rfl⟩)), trivial⟩ ?_
  intro H30 e31
  rintro _ _ rfl _ _ rfl _ _ rfl _ _ ⟨v20, rfl, h21⟩ _ _ rfl _ _ rfl _ _ rfl _ _ ⟨v26, rfl, h27⟩ _ _ ⟨b28, rfl, rfl⟩ _ _ ⟨b29, rfl, rfl⟩
  refine wS (Qa y16 v20) sz37 rfl rfl rfl rfl rfl (Xe h21) .here u2 <| wS (Qa y22 v26) sz37 rfl rfl rfl rfl rfl (Xe h27) .h1 u2 <| wE <| wR rfl <| wL (Qa y16 v20) ty37 rfl rfl .here rfl rfl <| wL (Qa y22 v26) ty37 rfl rfl .h1 rfl rfl <| w_a rfl (o_buildSlice' (kd := Yk) (css := [(QH y16 v20), (QH y22 v26)]) (xs := [y16, y22]) (parts := [(0, (Qa y16 v20)), (1, (Qa y22 v26))]) Tryz.underlying185 ti37 rfl ⟨_, _, rfl, rfl, ⟨_, _, rfl, rfl, rfl⟩⟩ ⟨(YI (x := y16) h21), ⟨(YI (x := y22) h27), trivial⟩⟩ rfl (by decide)) ?_
  rintro v32 _ _ ⟨i33, rfl, rfl, h34⟩
  refine bK he fun y35 hy36 he => w_d rfl (Xx (Qm co132 (vs := [v32]) rfl (QW.calls k hy36 (h34.src .here)))) <| w_d rfl (Zs (b := y35) rfl) <| Qb ?_
  rcases its he with ⟨c39, he⟩ | ⟨c39, he⟩
  ·
   refine QD rfl c39 <| wR rfl <| w_d rfl (XE (cs' := z0c) Tryz.underlying40 zr40 rfl (by kernel_rfl) (parts := []) rfl .nil) <| wS (.agg ⟨z0c⟩) sz40 rfl rfl rfl rfl rfl (oc rfl (oc rfl (oc rfl (oc rfl oz)))) .h5 u4 <| wA (.int .i64 12) rfl rfl <| Qb ?_
   obtain rfl := sj he
   refine Ql fn_89 rs_89 (.box (v := .agg ⟨z0c⟩) rfl ty40 rfl rfl .h5 rfl (.tmp (v := .int .i64 12) rfl .nil)) <| ⟨⟨[_, _, _, _, _, _, _], rfl⟩, hle.trans e31, ⟨.slice none 0 0, .slice none 0 0, rfl, (Xj _ _), (Xj _ _)⟩⟩
  ·
   refine QE rfl (Bool.eq_false_iff.2 c39) <| QF <| wR rfl <| wL (Qa y16 v20) ty37 rfl rfl .h1 rfl rfl <| wL (Qa y22 v26) ty37 rfl rfl .h2 rfl rfl <| bK he fun y40 hy41 he => w_a rfl (Qm co13 (vs := [(Qa y16 v20), (Qa y22 v26)]) rfl (QB.calls k (n := y16) (d := y22) hy41 h21 h27)) ?_
   rintro _ H42 _ ⟨rfl, e43, v44, v46, rfl, h45, h47⟩
   refine wS (Qn y40 v44 v46) sz40 rfl rfl rfl rfl rfl (Yl h45 h47) .h5 u4 <| wA (.int .i64 0) rfl rfl <| Qb ?_
   obtain rfl := sj he
   refine Ql fn_89 rs_89 (.box (v := (Qn y40 v44 v46)) rfl ty40 rfl rfl .h5 rfl (.tmp (v := .int .i64 0) rfl .nil)) <| ⟨⟨[_, _, _, _, _, _, _], rfl⟩, hle.trans (e31.trans e43), ⟨v44, v46, rfl, h45, h47⟩⟩
theorem Xs.calls (k : Nat) {H : Hp} {L : Items} {a b : Qh} {by_ : Bool} {v0_a v1_a v2_b v3_b : Value} {r : Qh × Int} (he : Xs.f k a b by_ = some r) (h0_a : Ro kI64 H v0_a a.f_N.f_D) (h1_a : Ro kI64 H v1_a a.f_D.f_D) (h2_b : Ro kI64 H v2_b b.f_N.f_D) (h3_b : Ro kI64 H v3_b b.f_D.f_D) : Ct Tryz.prog 89 ⟨[(Qn a v0_a v1_a), (Qn b v2_b v3_b), .bool by_]⟩ H L (cR H L (Xs.out r)) := by
 refine XN (O := Xs.out r) ?_
 have hle : H.le H := .refl _
 unfold Xs.f at he
 refine QV (args := [_, _, _]) fn_89 rfl nt_89 rfl <| wR rfl <| wB (Qn a v0_a v1_a) rfl rfl rfl <| fun b1 => wB (Qn b v2_b v3_b) rfl rfl rfl <| fun b2 => wN zr40 rfl rfl fun b3 => wA (.int .i64 0) rfl rfl <| wE ?_
 refine YG (YG (?_))
 refine XC (p := 7) (tl := [7]) [[], [(0, some 12)], [], [(2, some 14)], [], [], [(1, some 13), (4, some 8)]] [some 12, some 13, some 14, some 15, some 8, some 9, none] (fctF (.is (pt b2) :: .is (Qa b.f_N v2_b) :: .is (po b2 2) :: .is (Qa b.f_D v3_b) :: .box 37 [.bool false, .slice none 0 0] :: .box 37 [.bool false, .slice none 0 0] :: .st 4 (fun H bq_ itq_ => itq_ = bx bq_ (QH b.f_N v2_b) 37) (by rintro _ _ _ _ hle rfl; exact rfl) :: [])) (fun m_ => pk (m_ 6) (m_ 4) :: m_ 5 :: bx b3 z0c 40 :: bx b2 (XZ b v2_b v3_b) 40 :: bx b1 (XZ a v0_a v1_a) 40 :: L) (fun _ => none) mixed (by kernel_rfl) (by kernel_rfl) rfl (Xq (by kernel_rfl)) ⟨(fun H' m_ hH hm_ hu_ => dn <| s_d (m_ 0) rfl (Xi (o' := 0) Tryz.underlying40 rfl sz37 rfl rfl rfl) (by exact rfl) rfl), (by rintro H' m_ hH hm_ hu_ _ rfl; exact dn <| s_d (m_ 1) rfl (QN (v := (Qa b.f_N v2_b)) ty37 rfl .h3 rfl rfl rfl rfl) (by exact rfl) rfl), (fun H' m_ hH hm_ hu_ => dn <| s_d (m_ 2) rfl (Xi (o' := 2) Tryz.underlying40 rfl sz37 rfl rfl rfl) (by exact rfl) rfl), (by rintro H' m_ hH hm_ hu_ _ rfl; exact dn <| s_d (m_ 3) rfl (QN (v := (Qa b.f_D v3_b)) ty37 rfl .h3 rfl rfl rfl rfl) (by exact rfl) rfl), (fun H' m_ hH hm_ hu_ => dn <| Y8 hm_ rfl rfl (YT zr37 rfl) rfl (fun _ => (ZZ (hu_ 6 (by kernel_rfl)))) (by exact fun b_ => ⟨b_, rfl, rfl⟩)), (fun H' m_ hH hm_ hu_ => dn <| Y8 hm_ rfl rfl (YT zr37 rfl) rfl (fun _ => .h1) (by exact fun b_ => ⟨b_, rfl, rfl⟩)), (by rintro H' m_ hH hm_ hu_ _ rfl _ ⟨b4, rfl, hb4_⟩; exact dn <| Zv (Λ' := fun z_ => z_ :: m_ 5 :: bx b3 z0c 40 :: bx b2 (XZ b v2_b v3_b) 40 :: bx b1 (XZ a v0_a v1_a) 40 :: L) (bx b4 (QH b.f_N v2_b) 37) hm_ rfl hb4_ rfl (YO (v := (Qa b.f_N v2_b)) sz37 rfl rfl rfl rfl (oc rfl (oc (h2_b.one) oz)) .here u2) rfl rfl (by exact ⟨rfl, congrArg (fun b_ => (some (b_, Obj.cells ⟨(QH b.f_N v2_b)⟩ 37 (0, 0)) : Item')) (Z2 hb4_).symm⟩)), trivial⟩ ?_
 intro H8 e9
 rintro _ _ rfl _ _ rfl _ _ rfl _ _ rfl _ _ ⟨b4, rfl, rfl⟩ _ _ ⟨b5, rfl, rfl⟩ _ i6 ⟨rfl, h7⟩
 replace h7 : i6 = bx b4 (QH b.f_N v2_b) 37 := h7
 subst h7
 refine w_it (L' := bx b4 (QH b.f_N v2_b) 37 :: bx b5 [.bool false, .slice none 0 0] 37 :: bx b3 z0c 40 :: bx b2 (XZ b v2_b v3_b) 40 :: bx b1 (XZ a v0_a v1_a) 40 :: L) rfl <| wS (Qa b.f_D v3_b) sz37 rfl rfl rfl rfl rfl (Xe h3_b) .h1 u2 <| wE <| wR rfl <| wM (.bool by_) rfl rfl <| Qb ?_
 rcases its he with ⟨c10, he⟩ | ⟨c10, he⟩
 ·
  refine QD rfl c10 <| QL rfl <| wL (Qa b.f_D v3_b) ty37 rfl rfl .h1 rfl rfl <| wL (Qa b.f_N v2_b) ty37 rfl rfl .here rfl rfl <| wS (Qa b.f_D v3_b) sz37 rfl rfl rfl rfl rfl (Xe h3_b) .here u2 <| wS (Qa b.f_N v2_b) sz37 rfl rfl rfl rfl rfl (Xe h2_b) .h1 u2 <| Qb <| Yu .h3 <| w_sl 3 (pt b1) rfl <| w_sl 6 (pt b3) rfl <| w_sl 7 (.int .i64 0) rfl <| w_sl 8 (pt b4) rfl ?_
  refine w_sl 9 (pt b5) rfl <| Xs.j1_ok (k := k) (hle.trans e9) he (h0_a.mono e9) (h1_a.mono e9) (h3_b.mono e9) (h2_b.mono e9)
 ·
  refine QE rfl (Bool.eq_false_iff.2 c10) <| QF <| Yu .h3 <| w_sl 3 (pt b1) rfl <| w_sl 6 (pt b3) rfl <| w_sl 7 (.int .i64 0) rfl <| w_sl 8 (pt b4) rfl <| w_sl 9 (pt b5) rfl <| Xs.j1_ok (k := k) (hle.trans e9) he (h0_a.mono e9) (h1_a.mono e9) (h2_b.mono e9) (h3_b.mono e9)
noncomputable def X1.C : Code := (Tryz.f102.body).getD .skip
def X1.out (r : Qh) (H : Hp) (v : Value) : Prop := ∃ v0 v1, v = (Qn r v0 v1) ∧ Ro kI64 H v0 r.f_N.f_D ∧ Ro kI64 H v1 r.f_D.f_D
theorem X1.out_mono (r : Qh) {H H' : Hp} {v : Value} (hle : H.le H') (h : X1.out r H v) : X1.out r H' v := by
 obtain ⟨v0, v1, rfl, h0, h1⟩ := h; exact ⟨v0, v1, rfl, h0.mono hle, h1.mono hle⟩
noncomputable def X1.f (k : Nat) (a b : Qh) : Option Qh := (Xs.f k a b false).bind fun y4 => some (y4.1)
theorem X1.calls (k : Nat) {H : Hp} {L : Items} {a b : Qh} {v0_a v1_a v2_b v3_b : Value} {r : Qh} (he : X1.f k a b = some r) (h0_a : Ro kI64 H v0_a a.f_N.f_D) (h1_a : Ro kI64 H v1_a a.f_D.f_D) (h2_b : Ro kI64 H v2_b b.f_N.f_D) (h3_b : Ro kI64 H v3_b b.f_D.f_D) : Ct Tryz.prog 102 ⟨[(Qn a v0_a v1_a), (Qn b v2_b v3_b)]⟩ H L (cR H L (X1.out r)) := by
 refine XN (O := X1.out r) ?_
 have hle : H.le H := .refl _
 unfold X1.f at he
 refine QV (args := [_, _]) fn_102 rfl nt_102 rfl <| wR rfl <| wB (Qn a v0_a v1_a) rfl rfl rfl <| fun b1 => wB (Qn b v2_b v3_b) rfl rfl rfl <| fun b2 => wN zr40 rfl rfl fun b3 => wQ rfl <| wL (Qn a v0_a v1_a) ty40 rfl rfl .h2 rfl rfl <| wL (Qn b v2_b v3_b) ty40 rfl rfl .h1 rfl rfl <| bK he fun y4 hy5 he => ?_
 refine w_a rfl (Qm co89 (vs := [(Qn a v0_a v1_a), (Qn b v2_b v3_b), .bool false]) rfl (Xs.calls k (a := a) (b := b) hy5 h0_a h1_a h2_b h3_b)) ?_
 rintro _ H6 _ ⟨rfl, e7, v8, v10, rfl, h9, h11⟩
 refine wM (.tuple ⟨[(Qn y4.1 v8 v10), .int .i64 y4.2]⟩) rfl rfl <| w_d rfl (Q5 rfl rfl) <| w_d rfl (Q5 rfl rfl) <| wN zr40 rfl rfl fun b12 => wS (Qn y4.1 v8 v10) sz40 rfl rfl rfl rfl rfl (Yl h9 h11) .here u4 <| wA (.int .i64 y4.2) rfl rfl <| wQ rfl <| wL (Qn y4.1 v8 v10) ty40 rfl rfl .here rfl rfl <| wS (Qn y4.1 v8 v10) sz40 rfl rfl rfl rfl rfl (Yl h9 h11) .h1 u4 <| Qb ?_
 obtain rfl := sj he
 refine Ql fn_102 rs_102 (.box (v := (Qn y4.1 v8 v10)) rfl ty40 rfl rfl .h1 rfl .nil) <| ⟨⟨[_, _, _, _], rfl⟩, hle.trans e7, ⟨v8, v10, rfl, h9, h11⟩⟩
noncomputable def Xz.C : Code := (Tryz.f88.body).getD .skip
def Xz.out (r : Qh × Int) (H : Hp) (v : Value) : Prop := ∃ v0 v1, v = .tuple ⟨[(Qn r.1 v0 v1), .int .i64 r.2]⟩ ∧ Ro kI64 H v0 r.1.f_N.f_D ∧ Ro kI64 H v1 r.1.f_D.f_D
abbrev Xz.R (H0 : Hp) (L : Items) (r : Qh × Int) := fR H0 L (Xz.out r)
noncomputable def Xz.j1 (k : Nat) (a_0 : Bool) (a_1 : List Int) (a_2 : Bool) (a_3 : List Int) (b_0 : Bool) (b_1 : List Int) (b_2 : Bool) (b_3 : List Int) (x_0 : Bool) (x_1 : List Int) (y_0 : Bool) (y_1 : List Int) : Option (Qh × Int) := (XT.f k ⟨x_0, x_1⟩ ⟨y_0, y_1⟩).bind fun y27 => (Qi.f k ⟨a_2, a_3⟩ ⟨b_2, b_3⟩).bind fun y33 => (QW.f k [⟨x_0, x_1⟩, ⟨y_0, y_1⟩, y27, y33]).bind fun y46 => if (!y46) = true then (some (⟨⟨false, []⟩, ⟨false, []⟩⟩, 12)) else ((QB.f k y27 y33).bind fun y51 => some (y51, 0))
noncomputable def Xz.f (k : Nat) (a b : Qh) (less : Bool) : Option (Qh × Int) := (Qi.f k a.f_N b.f_D).bind fun y4 => (Qi.f k b.f_N a.f_D).bind fun y10 => if less = true then ((XS.f k y10).bind fun y21 => Xz.j1 k a.f_N.f_Neg a.f_N.f_D a.f_D.f_Neg a.f_D.f_D b.f_N.f_Neg b.f_N.f_D b.f_D.f_Neg b.f_D.f_D y4.f_Neg y4.f_D y21.f_Neg y21.f_D) else (Xz.j1 k a.f_N.f_Neg a.f_N.f_D a.f_D.f_Neg a.f_D.f_D b.f_N.f_Neg b.f_N.f_D b.f_D.f_Neg b.f_D.f_D y4.f_Neg y4.f_D y10.f_Neg y10.f_D)
noncomputable def Xz.Kj1 : List Item := .code (seqR (seqR (seqR Xz.C))) :: []
theorem Xz.j1_ok {k : Nat} {H0 H : Hp} {L : Items} {r : Qh × Int} {jk_ : Nat → Value} {a_0 : Bool} {a_1 : List Int} {a_2 : Bool} {a_3 : List Int} {b_0 : Bool} {b_1 : List Int} {b_2 : Bool} {b_3 : List Int} {x_0 : Bool} {x_1 : List Int} {y_0 : Bool} {y_1 : List Int} {v_a_1 v_a_3 v_b_1 v_b_3 v_x_1 v_y_1 : Value} {b_a b_b b_t6 b_x b_y : Nat} (hle : H0.le H) (he : Xz.j1 k a_0 a_1 a_2 a_3 b_0 b_1 b_2 b_3 x_0 x_1 y_0 y_1 = some r) (h_a_1 : Ro kI64 H v_a_1 a_1) (h_a_3 : Ro kI64 H v_a_3 a_3) (h_b_1 : Ro kI64 H v_b_1 b_1) (h_b_3 : Ro kI64 H v_b_3 b_3) (h_x_1 : Ro kI64 H v_x_1 x_1) (h_y_1 : Ro kI64 H v_y_1 y_1) : Wp Tryz.prog 88 44 Xz.Kj1 (upd (upd (upd (upd (upd (upd jk_ 3 (pt b_a)) 4 (pt b_b)) 6 (pt b_t6)) 7 (.int .i64 0)) 8 (pt b_x)) 9 (pt b_y)) H (bx b_x [.bool x_0, v_x_1] 37 :: bx b_y [.bool y_0, v_y_1] 37 :: bx b_t6 z0c 40 :: bx b_b [.bool b_0, v_b_1, .bool b_2, v_b_3] 40 :: bx b_a [.bool a_0, v_a_1, .bool a_2, v_a_3] 40 :: L) (Xz.R H0 L r) := by
 unfold Xz.j1 at he
 unfold Xz.Kj1
 refine QX <| bK he fun y27 hy28 he => bK he fun y33 hy34 he => ?_
 refine YG (YG (?_))
 refine XC (p := 10) (tl := [10, 11]) [[], [], [(0, some 25), (1, some 26)], [], [(3, some 28)], [], [(5, some 30)], [(4, some 29), (6, some 31)], [], []] [some 25, some 26, some 27, some 28, some 29, some 30, some 31, some 32, some 10, some 11] (fctF (.is (.agg ⟨[.bool x_0, v_x_1]⟩) :: .is (.agg ⟨[.bool y_0, v_y_1]⟩) :: .of (XT.out y27) (XT.out_mono _) :: .is (po b_a 2) :: .is (.agg ⟨[.bool a_2, v_a_3]⟩) :: .is (po b_b 2) :: .is (.agg ⟨[.bool b_2, v_b_3]⟩) :: .of (Qi.out y33) (Qi.out_mono _) :: .box 37 [.bool false, .slice none 0 0] :: .box 37 [.bool false, .slice none 0 0] :: [])) (fun m_ => m_ 8 :: m_ 9 :: bx b_x [.bool x_0, v_x_1] 37 :: bx b_y [.bool y_0, v_y_1] 37 :: bx b_t6 z0c 40 :: bx b_b [.bool b_0, v_b_1, .bool b_2, v_b_3] 40 :: bx b_a [.bool a_0, v_a_1, .bool a_2, v_a_3] 40 :: L) (fun _ => none) mixed (by kernel_rfl) (by kernel_rfl) rfl (Xq (by kernel_rfl)) ⟨(fun H' m_ hH hm_ hu_ => dn <| s_d (m_ 0) rfl (QN (v := .agg ⟨[.bool x_0, v_x_1]⟩) ty37 rfl .h2 rfl rfl rfl rfl) (by exact rfl) rfl), (fun H' m_ hH hm_ hu_ => dn <| s_d (m_ 1) rfl (QN (v := .agg ⟨[.bool y_0, v_y_1]⟩) ty37 rfl .h3 rfl rfl rfl rfl) (by exact rfl) rfl), (by rintro H' m_ hH hm_ hu_ _ rfl _ rfl; exact dn <| s_k (m_ 2) rfl (Qm co17 (vs := [.agg ⟨[.bool x_0, v_x_1]⟩, .agg ⟨[.bool y_0, v_y_1]⟩]) rfl (XT.calls k (a := ⟨x_0, x_1⟩) (b := ⟨y_0, y_1⟩) hy28 (h_x_1.mono hH) (h_y_1.mono hH))) rfl (by rintro v_ H_ _ ⟨rfl, e_, h_⟩; exact ⟨rfl, e_, h_⟩)), (fun H' m_ hH hm_ hu_ => dn <| s_d (m_ 3) rfl (Xi (o' := 2) Tryz.underlying40 rfl sz37 rfl rfl rfl) (by exact rfl) rfl), (by rintro H' m_ hH hm_ hu_ _ rfl; exact dn <| s_d (m_ 4) rfl (QN (v := .agg ⟨[.bool a_2, v_a_3]⟩) ty37 rfl .h6 rfl rfl rfl rfl) (by exact rfl) rfl), (fun H' m_ hH hm_ hu_ => dn <| s_d (m_ 5) rfl (Xi (o' := 2) Tryz.underlying40 rfl sz37 rfl rfl rfl) (by exact rfl) rfl), (by rintro H' m_ hH hm_ hu_ _ rfl; exact dn <| s_d (m_ 6) rfl (QN (v := .agg ⟨[.bool b_2, v_b_3]⟩) ty37 rfl .h5 rfl rfl rfl rfl) (by exact rfl) rfl), (by rintro H' m_ hH hm_ hu_ _ rfl _ rfl; exact dn <| s_k (m_ 7) rfl (Qm co15 (vs := [.agg ⟨[.bool a_2, v_a_3]⟩, .agg ⟨[.bool b_2, v_b_3]⟩]) rfl (Qi.calls k (a := ⟨a_2, a_3⟩) (b := ⟨b_2, b_3⟩) hy34 (h_a_3.mono hH) (h_b_3.mono hH))) rfl (by rintro v_ H_ _ ⟨rfl, e_, h_⟩; exact ⟨rfl, e_, h_⟩)), (fun H' m_ hH hm_ hu_ => dn <| Y8 hm_ rfl rfl (YT zr37 rfl) rfl (fun _ => .here) (by exact fun b_ => ⟨b_, rfl, rfl⟩)), (fun H' m_ hH hm_ hu_ => dn <| Y8 hm_ rfl rfl (YT zr37 rfl) rfl (fun _ => .h1) (by exact fun b_ => ⟨b_, rfl, rfl⟩)), trivial⟩ ?_
 intro H41 e42
 rintro _ _ rfl _ _ rfl _ _ ⟨v31, rfl, h32⟩ _ _ rfl _ _ rfl _ _ rfl _ _ rfl _ _ ⟨v37, rfl, h38⟩ _ _ ⟨b39, rfl, rfl⟩ _ _ ⟨b40, rfl, rfl⟩
 refine wS (Qa y27 v31) sz37 rfl rfl rfl rfl rfl (Xe h32) .here u2 <| wS (Qa y33 v37) sz37 rfl rfl rfl rfl rfl (Xe h38) .h1 u2 <| wE <| wR rfl <| wL (.agg ⟨[.bool x_0, v_x_1]⟩) ty37 rfl rfl .h2 rfl rfl <| wL (.agg ⟨[.bool y_0, v_y_1]⟩) ty37 rfl rfl .h3 rfl rfl <| wL (Qa y27 v31) ty37 rfl rfl .here rfl rfl <| wL (Qa y33 v37) ty37 rfl rfl .h1 rfl rfl <| w_a rfl (o_buildSlice' (kd := Yk) (css := [[.bool x_0, v_x_1], [.bool y_0, v_y_1], (QH y27 v31), (QH y33 v37)]) (xs := [(⟨x_0, x_1⟩ : Qg), (⟨y_0, y_1⟩ : Qg), y27, y33]) (parts := [(0, .agg ⟨[.bool x_0, v_x_1]⟩), (1, .agg ⟨[.bool y_0, v_y_1]⟩), (2, (Qa y27 v31)), (3, (Qa y33 v37))]) Tryz.underlying185 ti37 rfl ⟨_, _, rfl, rfl, ⟨_, _, rfl, rfl, ⟨_, _, rfl, rfl, ⟨_, _, rfl, rfl, rfl⟩⟩⟩⟩ ⟨(YI (x := ⟨x_0, x_1⟩) (h_x_1.mono e42)), ⟨(YI (x := ⟨y_0, y_1⟩) (h_y_1.mono e42)), ⟨(YI (x := y27) h32), ⟨(YI (x := y33) h38), trivial⟩⟩⟩⟩ rfl (by decide)) ?_
 rintro v43 _ _ ⟨i44, rfl, rfl, h45⟩
 refine bK he fun y46 hy47 he => w_d rfl (Xx (Qm co132 (vs := [v43]) rfl (QW.calls k hy47 (h45.src .here)))) <| w_d rfl (Zs (b := y46) rfl) <| Qb ?_
 rcases its he with ⟨c50, he⟩ | ⟨c50, he⟩
 ·
  refine QD rfl c50 <| wR rfl <| w_d rfl (XE (cs' := z0c) Tryz.underlying40 zr40 rfl (by kernel_rfl) (parts := []) rfl .nil) <| wS (.agg ⟨z0c⟩) sz40 rfl rfl rfl rfl rfl (oc rfl (oc rfl (oc rfl (oc rfl oz)))) .h5 u4 <| wA (.int .i64 12) rfl rfl <| Qb ?_
  obtain rfl := sj he
  refine Ql fn_88 rs_88 (.box (v := .agg ⟨z0c⟩) rfl ty40 rfl rfl .h5 rfl (.tmp (v := .int .i64 12) rfl .nil)) <| ⟨⟨[_, _, _, _, _, _, _, _], rfl⟩, hle.trans e42, ⟨.slice none 0 0, .slice none 0 0, rfl, (Xj _ _), (Xj _ _)⟩⟩
 ·
  refine QE rfl (Bool.eq_false_iff.2 c50) <| QF <| wR rfl <| wL (Qa y27 v31) ty37 rfl rfl .h1 rfl rfl <| wL (Qa y33 v37) ty37 rfl rfl .h2 rfl rfl <| bK he fun y51 hy52 he => w_a rfl (Qm co13 (vs := [(Qa y27 v31), (Qa y33 v37)]) rfl (QB.calls k (n := y27) (d := y33) hy52 h32 h38)) ?_
  rintro _ H53 _ ⟨rfl, e54, v55, v57, rfl, h56, h58⟩
  refine wS (Qn y51 v55 v57) sz40 rfl rfl rfl rfl rfl (Yl h56 h58) .h5 u4 <| wA (.int .i64 0) rfl rfl <| Qb ?_
  obtain rfl := sj he
  refine Ql fn_88 rs_88 (.box (v := (Qn y51 v55 v57)) rfl ty40 rfl rfl .h5 rfl (.tmp (v := .int .i64 0) rfl .nil)) <| ⟨⟨[_, _, _, _, _, _, _, _], rfl⟩, hle.trans (e42.trans e54), ⟨v55, v57, rfl, h56, h58⟩⟩
theorem Xz.calls (k : Nat) {H : Hp} {L : Items} {a b : Qh} {less : Bool} {v0_a v1_a v2_b v3_b : Value} {r : Qh × Int} (he : Xz.f k a b less = some r) (h0_a : Ro kI64 H v0_a a.f_N.f_D) (h1_a : Ro kI64 H v1_a a.f_D.f_D) (h2_b : Ro kI64 H v2_b b.f_N.f_D) (h3_b : Ro kI64 H v3_b b.f_D.f_D) : Ct Tryz.prog 88 ⟨[(Qn a v0_a v1_a), (Qn b v2_b v3_b), .bool less]⟩ H L (cR H L (Xz.out r)) := by
 refine XN (O := Xz.out r) ?_
 have hle : H.le H := .refl _
 unfold Xz.f at he
 refine QV (args := [_, _, _]) fn_88 rfl nt_88 rfl <| wR rfl <| wB (Qn a v0_a v1_a) rfl rfl rfl <| fun b1 => wB (Qn b v2_b v3_b) rfl rfl rfl <| fun b2 => wN zr40 rfl rfl fun b3 => wA (.int .i64 0) rfl rfl <| wE <| bK he fun y4 hy5 he => bK he fun y10 hy11 he => ?_
 refine YG (YG (?_))
 refine XC (p := 12) (tl := [12, 13]) [[], [(0, some 12)], [], [(2, some 14)], [(1, some 13), (3, some 15)], [], [(5, some 17)], [], [(7, some 19)], [(6, some 18), (8, some 20)], [], []] [some 12, some 13, some 14, some 15, some 16, some 17, some 18, some 19, some 20, some 21, some 8, some 9] (fctF (.is (pt b1) :: .is (Qa a.f_N v0_a) :: .is (po b2 2) :: .is (Qa b.f_D v3_b) :: .of (Qi.out y4) (Qi.out_mono _) :: .is (pt b2) :: .is (Qa b.f_N v2_b) :: .is (po b1 2) :: .is (Qa a.f_D v1_a) :: .of (Qi.out y10) (Qi.out_mono _) :: .box 37 [.bool false, .slice none 0 0] :: .box 37 [.bool false, .slice none 0 0] :: [])) (fun m_ => m_ 10 :: m_ 11 :: bx b3 z0c 40 :: bx b2 (XZ b v2_b v3_b) 40 :: bx b1 (XZ a v0_a v1_a) 40 :: L) (fun _ => none) mixed (by kernel_rfl) (by kernel_rfl) rfl (Xq (by kernel_rfl)) ⟨(fun H' m_ hH hm_ hu_ => dn <| s_d (m_ 0) rfl (Xi (o' := 0) Tryz.underlying40 rfl sz37 rfl rfl rfl) (by exact rfl) rfl), (by rintro H' m_ hH hm_ hu_ _ rfl; exact dn <| s_d (m_ 1) rfl (QN (v := (Qa a.f_N v0_a)) ty37 rfl .h4 rfl rfl rfl rfl) (by exact rfl) rfl), (fun H' m_ hH hm_ hu_ => dn <| s_d (m_ 2) rfl (Xi (o' := 2) Tryz.underlying40 rfl sz37 rfl rfl rfl) (by exact rfl) rfl), (by rintro H' m_ hH hm_ hu_ _ rfl; exact dn <| s_d (m_ 3) rfl (QN (v := (Qa b.f_D v3_b)) ty37 rfl .h3 rfl rfl rfl rfl) (by exact rfl) rfl), (by rintro H' m_ hH hm_ hu_ _ rfl _ rfl; exact dn <| s_k (m_ 4) rfl (Qm co15 (vs := [(Qa a.f_N v0_a), (Qa b.f_D v3_b)]) rfl (Qi.calls k (a := a.f_N) (b := b.f_D) hy5 (h0_a.mono hH) (h3_b.mono hH))) rfl (by rintro v_ H_ _ ⟨rfl, e_, h_⟩; exact ⟨rfl, e_, h_⟩)), (fun H' m_ hH hm_ hu_ => dn <| s_d (m_ 5) rfl (Xi (o' := 0) Tryz.underlying40 rfl sz37 rfl rfl rfl) (by exact rfl) rfl), (by rintro H' m_ hH hm_ hu_ _ rfl; exact dn <| s_d (m_ 6) rfl (QN (v := (Qa b.f_N v2_b)) ty37 rfl .h3 rfl rfl rfl rfl) (by exact rfl) rfl), (fun H' m_ hH hm_ hu_ => dn <| s_d (m_ 7) rfl (Xi (o' := 2) Tryz.underlying40 rfl sz37 rfl rfl rfl) (by exact rfl) rfl), (by rintro H' m_ hH hm_ hu_ _ rfl; exact dn <| s_d (m_ 8) rfl (QN (v := (Qa a.f_D v1_a)) ty37 rfl .h4 rfl rfl rfl rfl) (by exact rfl) rfl), (by rintro H' m_ hH hm_ hu_ _ rfl _ rfl; exact dn <| s_k (m_ 9) rfl (Qm co15 (vs := [(Qa b.f_N v2_b), (Qa a.f_D v1_a)]) rfl (Qi.calls k (a := b.f_N) (b := a.f_D) hy11 (h2_b.mono hH) (h1_a.mono hH))) rfl (by rintro v_ H_ _ ⟨rfl, e_, h_⟩; exact ⟨rfl, e_, h_⟩)), (fun H' m_ hH hm_ hu_ => dn <| Y8 hm_ rfl rfl (YT zr37 rfl) rfl (fun _ => .here) (by exact fun b_ => ⟨b_, rfl, rfl⟩)), (fun H' m_ hH hm_ hu_ => dn <| Y8 hm_ rfl rfl (YT zr37 rfl) rfl (fun _ => .h1) (by exact fun b_ => ⟨b_, rfl, rfl⟩)), trivial⟩ ?_
 intro H18 e19
 rintro _ _ rfl _ _ rfl _ _ rfl _ _ rfl _ _ ⟨v8, rfl, h9⟩ _ _ rfl _ _ rfl _ _ rfl _ _ rfl _ _ ⟨v14, rfl, h15⟩ _ _ ⟨b16, rfl, rfl⟩ _ _ ⟨b17, rfl, rfl⟩
 refine wS (Qa y4 v8) sz37 rfl rfl rfl rfl rfl (Xe h9) .here u2 <| wS (Qa y10 v14) sz37 rfl rfl rfl rfl rfl (Xe h15) .h1 u2 <| wE <| wR rfl <| wM (.bool less) rfl rfl <| Qb ?_
 rcases its he with ⟨c20, he⟩ | ⟨c20, he⟩
 ·
  refine QD rfl c20 <| QL rfl <| wL (Qa y10 v14) ty37 rfl rfl .h1 rfl rfl <| bK he fun y21 hy22 he => w_a rfl (Qm co63 (vs := [(Qa y10 v14)]) rfl (XS.calls k (a := y10) hy22 h15)) ?_
  rintro _ H23 _ ⟨rfl, e24, v25, rfl, h26⟩
  refine wS (Qa y21 v25) sz37 rfl rfl rfl rfl rfl (Xe h26) .h1 u2 <| Qb <| w_sl 3 (pt b1) rfl <| w_sl 4 (pt b2) rfl <| w_sl 6 (pt b3) rfl <| w_sl 7 (.int .i64 0) rfl <| w_sl 8 (pt b16) rfl <| w_sl 9 (pt b17) rfl <| Xz.j1_ok (k := k) (hle.trans (e19.trans e24)) he (h0_a.mono (e19.trans e24)) (h1_a.mono (e19.trans e24)) (h2_b.mono (e19.trans e24)) (h3_b.mono (e19.trans e24)) (h9.mono e24) h26
 ·
  refine QE rfl (Bool.eq_false_iff.2 c20) <| QF <| w_sl 3 (pt b1) rfl <| w_sl 4 (pt b2) rfl <| w_sl 6 (pt b3) rfl <| w_sl 7 (.int .i64 0) rfl <| w_sl 8 (pt b16) rfl <| w_sl 9 (pt b17) rfl <| Xz.j1_ok (k := k) (hle.trans e19) he (h0_a.mono e19) (h1_a.mono e19) (h2_b.mono e19) (h3_b.mono e19) h9 h15
noncomputable def Yt.C : Code := (Tryz.f101.body).getD .skip
def Yt.out (r : Qh) (H : Hp) (v : Value) : Prop := ∃ v0 v1, v = (Qn r v0 v1) ∧ Ro kI64 H v0 r.f_N.f_D ∧ Ro kI64 H v1 r.f_D.f_D
noncomputable def Yt.f (k : Nat) (a b : Qh) : Option Qh := (Xz.f k a b false).bind fun y4 => some (y4.1)
theorem Yt.calls (k : Nat) {H : Hp} {L : Items} {a b : Qh} {v0_a v1_a v2_b v3_b : Value} {r : Qh} (he : Yt.f k a b = some r) (h0_a : Ro kI64 H v0_a a.f_N.f_D) (h1_a : Ro kI64 H v1_a a.f_D.f_D) (h2_b : Ro kI64 H v2_b b.f_N.f_D) (h3_b : Ro kI64 H v3_b b.f_D.f_D) : Ct Tryz.prog 101 ⟨[(Qn a v0_a v1_a), (Qn b v2_b v3_b)]⟩ H L (cR H L (Yt.out r)) := by
 refine XN (O := Yt.out r) ?_
 have hle : H.le H := .refl _
 unfold Yt.f at he
 refine QV (args := [_, _]) fn_101 rfl nt_101 rfl <| wR rfl <| wB (Qn a v0_a v1_a) rfl rfl rfl <| fun b1 => wB (Qn b v2_b v3_b) rfl rfl rfl <| fun b2 => wN zr40 rfl rfl fun b3 => wQ rfl <| wL (Qn a v0_a v1_a) ty40 rfl rfl .h2 rfl rfl <| wL (Qn b v2_b v3_b) ty40 rfl rfl .h1 rfl rfl <| bK he fun y4 hy5 he => ?_
 refine w_a rfl (Qm co88 (vs := [(Qn a v0_a v1_a), (Qn b v2_b v3_b), .bool false]) rfl (Xz.calls k (a := a) (b := b) hy5 h0_a h1_a h2_b h3_b)) ?_
 rintro _ H6 _ ⟨rfl, e7, v8, v10, rfl, h9, h11⟩
 refine wM (.tuple ⟨[(Qn y4.1 v8 v10), .int .i64 y4.2]⟩) rfl rfl <| w_d rfl (Q5 rfl rfl) <| w_d rfl (Q5 rfl rfl) <| wN zr40 rfl rfl fun b12 => wS (Qn y4.1 v8 v10) sz40 rfl rfl rfl rfl rfl (Yl h9 h11) .here u4 <| wA (.int .i64 y4.2) rfl rfl <| wQ rfl <| wL (Qn y4.1 v8 v10) ty40 rfl rfl .here rfl rfl <| wS (Qn y4.1 v8 v10) sz40 rfl rfl rfl rfl rfl (Yl h9 h11) .h1 u4 <| Qb ?_
 obtain rfl := sj he
 refine Ql fn_101 rs_101 (.box (v := (Qn y4.1 v8 v10)) rfl ty40 rfl rfl .h1 rfl .nil) <| ⟨⟨[_, _, _, _], rfl⟩, hle.trans e7, ⟨v8, v10, rfl, h9, h11⟩⟩
noncomputable def YD.C : Code := (Tryz.f52.body).getD .skip
def YD.out (r : Qh) (H : Hp) (v : Value) : Prop := ∃ v0 v1, v = (Qn r v0 v1) ∧ Ro kI64 H v0 r.f_N.f_D ∧ Ro kI64 H v1 r.f_D.f_D
noncomputable def YD.f (k : Nat) (m : List (List Int)) (off : Qh) : Option Qh := (Qr.f k m).bind fun y3 => (X1.f k y3 off).bind fun y13 => (Qu.f k 1).bind fun y21 => (Qq.f k 21).bind fun y27 => (QB.f k y21 y27).bind fun y33 => (Yt.f k y13 y33).bind fun y41 => some (y41)
theorem YD.calls (k : Nat) {H : Hp} {L : Items} {m : List (List Int)} {off : Qh} {v0_m v1_off v2_off : Value} {r : Qh} (he : YD.f k m off = some r) (h0_m : Src (Kd.slice kI64) H L v0_m m) (h1_off : Ro kI64 H v1_off off.f_N.f_D) (h2_off : Ro kI64 H v2_off off.f_D.f_D) : Ct Tryz.prog 52 ⟨[v0_m, (Qn off v1_off v2_off)]⟩ H L (cR H L (YD.out r)) := by
 refine XN (O := YD.out r) ?_
 have hle : H.le H := .refl _
 unfold YD.f at he
 refine QV (args := [_, _]) fn_52 rfl nt_52 rfl <| wR rfl <| wB (Qn off v1_off v2_off) rfl rfl rfl <| fun b1 => wN zr40 rfl rfl fun b2 => wE <| bK he fun y3 hy4 he => XC (p := 3) (tl := [3, 4, 5, 6, 7, 8]) [[], [(0, some 5)], []] [some 5, some 6, some 7] (fctF (.is (v0_m) :: .of (Qr.out y3) (Qr.out_mono _) :: .is (Qn off v1_off v2_off) :: [])) (fun m_ => bx b2 z0c 40 :: bx b1 (XZ off v1_off v2_off) 40 :: L) (fun _ => none) mixed (by kernel_rfl) (by kernel_rfl) rfl (Xq (by kernel_rfl)) ⟨(fun H' m_ hH hm_ hu_ => dn <| s_d (m_ 0) rfl (QT (v := v0_m) rfl) (by exact rfl) rfl), (by rintro H' m_ hH hm_ hu_ _ rfl; exact dn <| s_k (m_ 1) rfl (Qm co51 (vs := [v0_m]) rfl (Qr.calls k hy4 ((h0_m.mono hH).th.th))) rfl (by rintro v_ H_ _ ⟨rfl, e_, h_⟩; exact ⟨rfl, e_, h_⟩)), (fun H' m_ hH hm_ hu_ => dn <| s_d (m_ 2) rfl (QN (v := (Qn off v1_off v2_off)) ty40 rfl .h1 rfl rfl rfl rfl) (by exact rfl) rfl), trivial⟩ ?_
 intro H11 e12
 rintro _ _ rfl _ _ ⟨v7, v9, rfl, h8, h10⟩ _ _ rfl
 refine bK he fun y13 hy14 he => w_a rfl (Qm co102 (vs := [(Qn y3 v7 v9), (Qn off v1_off v2_off)]) rfl (X1.calls k (a := y3) (b := off) hy14 h8 h10 (h1_off.mono e12) (h2_off.mono e12))) ?_
 rintro _ H15 _ ⟨rfl, e16, v17, v19, rfl, h18, h20⟩
 refine bK he fun y21 hy22 he => w_a rfl (Qm co16 (vs := [.int .i64 1]) rfl (Qu.calls k hy22)) ?_
 rintro _ H23 _ ⟨rfl, e24, v25, rfl, h26⟩
 refine bK he fun y27 hy28 he => w_a rfl (Qm co12 (vs := [.int .i64 21]) rfl (Qq.calls k hy28)) ?_
 rintro _ H29 _ ⟨rfl, e30, v31, rfl, h32⟩
 refine bK he fun y33 hy34 he => w_a rfl (Qm co13 (vs := [(Qa y21 v25), (Qa y27 v31)]) rfl (QB.calls k (n := y21) (d := y27) hy34 (h26.mono e30) h32)) ?_
 rintro _ H35 _ ⟨rfl, e36, v37, v39, rfl, h38, h40⟩
 refine bK he fun y41 hy42 he => w_a rfl (Qm co101 (vs := [(Qn y13 v17 v19), (Qn y33 v37 v39)]) rfl (Yt.calls k (a := y13) (b := y33) hy42 (h18.mono ((e24.trans e30).trans e36)) (h20.mono ((e24.trans e30).trans e36)) h38 h40)) ?_
 rintro _ H43 _ ⟨rfl, e44, v45, v47, rfl, h46, h48⟩
 refine wS (Qn y41 v45 v47) sz40 rfl rfl rfl rfl rfl (Yl h46 h48) .here u4 <| Qb ?_
 obtain rfl := sj he
 refine Ql fn_52 rs_52 (.box (v := (Qn y41 v45 v47)) rfl ty40 rfl rfl .here rfl .nil) <| ⟨⟨[_, _], rfl⟩, hle.trans (((((e12.trans e16).trans e24).trans e30).trans e36).trans e44), ⟨v45, v47, rfl, h46, h48⟩⟩
noncomputable def YB.C : Code := (Tryz.f103.body).getD .skip
def YB.out (r : Qh) (H : Hp) (v : Value) : Prop := ∃ v0 v1, v = (Qn r v0 v1) ∧ Ro kI64 H v0 r.f_N.f_D ∧ Ro kI64 H v1 r.f_D.f_D
noncomputable def YB.f (k : Nat)  : Option Qh := (Qu.f k 1).bind fun y2 => (QB.f k ⟨false, []⟩ y2).bind fun y8 => some (y8)
theorem YB.calls (k : Nat) {H : Hp} {L : Items} {r : Qh} (he : YB.f k  = some r) : Ct Tryz.prog 103 ⟨[]⟩ H L (cR H L (YB.out r)) := by
 refine XN (O := YB.out r) ?_
 have hle : H.le H := .refl _
 unfold YB.f at he
 refine QV (args := []) fn_103 rfl nt_103 rfl <| wR rfl <| wN zr40 rfl rfl fun b1 => wQ rfl <| w_d rfl (XE (cs' := [.bool false, .slice none 0 0]) Tryz.underlying37 zr37 rfl (by kernel_rfl) (parts := []) rfl .nil) <| bK he fun y2 hy3 he => w_a rfl (Qm co16 (vs := [.int .i64 1]) rfl (Qu.calls k hy3)) ?_
 rintro _ H4 _ ⟨rfl, e5, v6, rfl, h7⟩
 refine bK he fun y8 hy9 he => w_a rfl (Qm co13 (vs := [.agg ⟨[.bool false, .slice none 0 0]⟩, (Qa y2 v6)]) rfl (QB.calls k (n := ⟨false, []⟩) (d := y2) hy9 (Xj _ _) h7)) ?_
 rintro _ H10 _ ⟨rfl, e11, v12, v14, rfl, h13, h15⟩
 refine wS (Qn y8 v12 v14) sz40 rfl rfl rfl rfl rfl (Yl h13 h15) .here u4 <| Qb ?_
 obtain rfl := sj he
 refine Ql fn_103 rs_103 (.box (v := (Qn y8 v12 v14)) rfl ty40 rfl rfl .here rfl .nil) <| ⟨⟨[_], rfl⟩, hle.trans (e5.trans e11), ⟨v12, v14, rfl, h13, h15⟩⟩
noncomputable def Qs.C : Code := (Tryz.f53.body).getD .skip
abbrev Qs.out (r : (List Qh)) (H : Hp) (v : Value) : Prop := Ro Xk H v r
abbrev Qs.R (H0 : Hp) (L : Items) (r : (List Qh)) := fR H0 L (Qs.out r)
structure Qs.Hs where
 l0 : (List (List Int)) → (List Qh) → (List Qh) → Int → Option (List Qh)
 l1 : (List (List Int)) → (List Qh) → (List Qh) → Int → Bool → (List Int) → Bool → (List Int) → Int → Option (List Qh)
noncomputable def Qs.b0 (k : Nat) (h : Qs.Hs) (m : List (List Int)) (v_ out : List Qh) (i : Int) : Option (List Qh) := if i < (m.length : Int) then ((YB.f k).bind fun y2 => h.l1 m v_ out i y2.f_N.f_Neg y2.f_N.f_D y2.f_D.f_Neg y2.f_D.f_D 0) else (some (out))
noncomputable def Qs.b1 (k : Nat) (h : Qs.Hs) (m : List (List Int)) (v_ out : List Qh) (i : Int) (sum_0 : Bool) (sum_1 : List Int) (sum_2 : Bool) (sum_3 : List Int) (j_ : Int) : Option (List Qh) := if j_ < (v_.length : Int) then (if (0 : Int) ≤ i ∧ i < (m.length : Int) then (if (0 : Int) ≤ j_ ∧ j_ < ((rd m i).length : Int) then ((XJ.f k (rd (rd m i) j_)).bind fun y21 => if (0 : Int) ≤ j_ ∧ j_ < (v_.length : Int) then ((X1.f k y21 (rd v_ j_)).bind fun y36 => (Yt.f k ⟨⟨sum_0, sum_1⟩, ⟨sum_2, sum_3⟩⟩ y36).bind fun y46 => h.l1 m v_ out i y46.f_N.f_Neg y46.f_N.f_D y46.f_D.f_Neg y46.f_D.f_D (w64 (j_ + 1))) else none) else none) else none) else (if out.length + [(⟨⟨sum_0, sum_1⟩, ⟨sum_2, sum_3⟩⟩ : Qh)].length ≤ 2199023255424 then (h.l0 m v_ (out ++ [⟨⟨sum_0, sum_1⟩, ⟨sum_2, sum_3⟩⟩]) (w64 (i + 1))) else none)
noncomputable def Qs.hs : Nat → Qs.Hs
 | 0 => ⟨fun _ _ _ _ => none, fun _ _ _ _ _ _ _ _ _ => none⟩
 | k + 1 => ⟨fun x0 x1 x2 x3 => Qs.b0 k (Qs.hs k) x0 x1 x2 x3, fun x0 x1 x2 x3 x4 x5 x6 x7 x8 => Qs.b1 k (Qs.hs k) x0 x1 x2 x3 x4 x5 x6 x7 x8⟩
noncomputable def Qs.f (k : Nat) (m : List (List Int)) (v_ : List Qh) : Option (List Qh) := (fun h : Qs.Hs => h.l0 m v_ [] 0) (Qs.hs k)
noncomputable def Qs.Kl0 : List Item := .code (lopB (blkB (seqR (seqL (seqR (seqR Qs.C)))))) :: .inLoop (lopB (blkB (seqR (seqL (seqR (seqR Qs.C)))))) :: .inBlock 0 :: .code (seqR (seqR (seqR Qs.C))) :: []
noncomputable def Qs.Kl1 : List Item := .code (lopB (blkB (seqR (seqL (seqR (blkB (seqL (seqR (lopB (blkB (seqR (seqL (seqR (seqR Qs.C)))))))))))))) :: .inLoop (lopB (blkB (seqR (seqL (seqR (blkB (seqL (seqR (lopB (blkB (seqR (seqL (seqR (seqR Qs.C)))))))))))))) :: .inBlock 2 :: .code (seqR (seqR (blkB (seqL (seqR (lopB (blkB (seqR (seqL (seqR (seqR Qs.C))))))))))) :: .inBlock 1 :: .code (seqR (seqR (lopB (blkB (seqR (seqL (seqR (seqR Qs.C)))))))) :: .inLoop (lopB (blkB (seqR (seqL (seqR (seqR Qs.C)))))) :: .inBlock 0 :: .code (seqR (seqR (seqR Qs.C))) :: []
structure Qs.OK (h : Qs.Hs) : Prop where
 l0 : ∀ {H0 H : Hp} {L : Items} {r : (List Qh)} {jk_ : Nat → Value} {m : List (List Int)} {v_ : List Qh} {out : List Qh} {i : Int} {v_m : Value} {v_v_ : Value} {v_out : Value} {i_out : Item'} (_ : H0.le H) (_he : h.l0 m v_ out i = some r) (_h_m : Src (Kd.slice kI64) H L v_m m) (_h_v_ : Src Xk H L v_v_ v_) (_h_out : Sl Xk H 40 i_out v_out out), Wp Tryz.prog 53 42 Qs.Kl0 (upd (upd (upd (upd (upd jk_ 0 (v_m)) 1 (v_v_)) 4 (.slice none 0 0)) 5 (v_out)) 6 (.int .i64 i)) H (i_out :: L) (Qs.R H0 L r)
 l1 : ∀ {H0 H : Hp} {L : Items} {r : (List Qh)} {jk_ : Nat → Value} {m : List (List Int)} {v_ : List Qh} {out : List Qh} {i : Int} {sum_0 : Bool} {sum_1 : List Int} {sum_2 : Bool} {sum_3 : List Int} {j_ : Int} {v_m : Value} {v_v_ : Value} {v_out : Value} {v_sum_1 : Value} {v_sum_3 : Value} {i_out : Item'} {b_sum : Nat} (_ : H0.le H) (_he : h.l1 m v_ out i sum_0 sum_1 sum_2 sum_3 j_ = some r) (_h_m : Src (Kd.slice kI64) H L v_m m) (_h_v_ : Src Xk H L v_v_ v_) (_h_out : Sl Xk H 40 i_out v_out out) (_h_sum_1 : Ro kI64 H v_sum_1 sum_1) (_h_sum_3 : Ro kI64 H v_sum_3 sum_3), Wp Tryz.prog 53 42 Qs.Kl1 (upd (upd (upd (upd (upd (upd (upd jk_ 0 (v_m)) 1 (v_v_)) 4 (.slice none 0 0)) 5 (v_out)) 6 (.int .i64 i)) 7 (pt b_sum)) 8 (.int .i64 j_)) H (bx b_sum [.bool sum_0, v_sum_1, .bool sum_2, v_sum_3] 40 :: i_out :: L) (Qs.R H0 L r)
theorem Qs.b0_ok {k : Nat} {h : Qs.Hs} (hh : Qs.OK h) {H0 H : Hp} {L : Items} {r : (List Qh)} {jk_ : Nat → Value} {m : List (List Int)} {v_ out : List Qh} {i : Int} {v_m v_v_ v_out : Value} {i_out : Item'} (hle : H0.le H) (he : Qs.b0 k h m v_ out i = some r) (h_m : Src (Kd.slice kI64) H L v_m m) (h_v_ : Src Xk H L v_v_ v_) (h_out : Sl Xk H 40 i_out v_out out) : Wp Tryz.prog 53 42 Qs.Kl0 (upd (upd (upd (upd (upd jk_ 0 (v_m)) 1 (v_v_)) 4 (.slice none 0 0)) 5 (v_out)) 6 (.int .i64 i)) H (i_out :: L) (Qs.R H0 L r) := by
 unfold Qs.b0 at he
 unfold Qs.Kl0
 refine QX <| wR rfl <| wM (.int .i64 i) rfl rfl <| wM v_m rfl rfl <| w_d rfl (Xo Tryz.underlying71 rfl h_m.th) <| w_d rfl (XW rfl rfl) <| Qb ?_
 rcases its he with ⟨c1, he⟩ | ⟨c1, he⟩
 ·
  refine QD rfl (dt c1) <| QF <| QX <| Q2 <| wR rfl <| bK he fun y2 hy3 he => w_a rfl (Qm co103 (vs := []) rfl (YB.calls k hy3)) ?_
  rintro _ H4 _ ⟨rfl, e5, v6, v8, rfl, h7, h9⟩
  refine wN zr40 rfl rfl fun b10 => wS (Qn y2 v6 v8) sz40 rfl rfl rfl rfl rfl (Yl h7 h9) .here u4 <| wE <| wR rfl <| wA (.int .i64 0) rfl rfl <| Qb <| Q2 <| X5 <| w_sl 0 (v_m) rfl <| w_sl 1 (v_v_) rfl ?_
  refine w_sl 4 (.slice none 0 0) rfl <| w_sl 5 (v_out) rfl <| w_sl 6 (.int .i64 i) rfl <| w_sl 7 (pt b10) rfl <| w_sl 8 (.int .i64 0) rfl <| hh.l1 (hle.trans e5) he (h_m.mono e5) (h_v_.mono e5) (h_out.mono e5) h7 h9
 ·
  refine QE rfl (df c1) <| X3 rfl <| wR rfl <| wM v_out rfl rfl <| wA v_out rfl rfl <| Qb <| Yx h_out .here ?_
  intro H11 e12 h13
  obtain rfl := sj he
  refine Ql fn_53 rs_53 (.tmp (v := v_out) rfl .nil) <| ⟨⟨[_], rfl⟩, hle.trans e12, h13⟩
theorem Qs.b1_ok {k : Nat} {h : Qs.Hs} (hh : Qs.OK h) {H0 H : Hp} {L : Items} {r : (List Qh)} {jk_ : Nat → Value} {m : List (List Int)} {v_ out : List Qh} {i : Int} {sum_0 : Bool} {sum_1 : List Int} {sum_2 : Bool} {sum_3 : List Int} {j_ : Int} {v_m v_v_ v_out v_sum_1 v_sum_3 : Value} {i_out : Item'} {b_sum : Nat} (hle : H0.le H) (he : Qs.b1 k h m v_ out i sum_0 sum_1 sum_2 sum_3 j_ = some r) (h_m : Src (Kd.slice kI64) H L v_m m) (h_v_ : Src Xk H L v_v_ v_) (h_out : Sl Xk H 40 i_out v_out out) (h_sum_1 : Ro kI64 H v_sum_1 sum_1) (h_sum_3 : Ro kI64 H v_sum_3 sum_3) : Wp Tryz.prog 53 42 Qs.Kl1 (upd (upd (upd (upd (upd (upd (upd jk_ 0 (v_m)) 1 (v_v_)) 4 (.slice none 0 0)) 5 (v_out)) 6 (.int .i64 i)) 7 (pt b_sum)) 8 (.int .i64 j_)) H (bx b_sum [.bool sum_0, v_sum_1, .bool sum_2, v_sum_3] 40 :: i_out :: L) (Qs.R H0 L r) := by
 unfold Qs.b1 at he
 unfold Qs.Kl1
 refine QX <| wR rfl <| wM (.int .i64 j_) rfl rfl <| wM v_v_ rfl rfl <| w_d rfl (Xo Tryz.underlying68 rfl h_v_.th.th) <| w_d rfl (XW rfl rfl) <| Qb ?_
 rcases its he with ⟨c14, he⟩ | ⟨c14, he⟩
 ·
  refine QD rfl (dt c14) <| QF <| QX <| Q2 <| rK he fun c15 he => ?_
  obtain ⟨_, l16, r17⟩ := Zp (kd := (Kd.slice kI64)) h_m.th.th c15
  obtain ⟨v18, rfl, h19⟩ := r17
  refine rK he fun c20 he => bK he fun y21 hy22 he => rK he fun c29 he => ?_
  obtain ⟨_, l30, r31⟩ := Zp (kd := Xk) h_v_.th.th c29
  obtain ⟨v32, v34, rfl, h33, h35⟩ := Zm r31
  refine bK he fun y36 hy37 he => XC (p := 14) (tl := [14, 15]) [[], [], [], [(1, some 23), (2, some 24)], [(3, some 25)], [], [(4, some 26), (5, some 27)], [(6, some 28)], [(7, some 29)], [], [], [(9, some 31), (10, some 32)], [(11, some 33)], [(8, some 30), (12, some 34)]] [some 22, some 23, some 24, some 25, some 26, some 27, some 28, some 29, some 30, some 31, some 32, some 33, some 34, some 35] (fctF (.is (.agg ⟨[.bool sum_0, v_sum_1, .bool sum_2, v_sum_3]⟩) :: .is (v_m) :: .is (.int .i64 i) :: .is (.pointer (some (pel v_m i 1))) :: .is (v18) :: .is (.int .i64 j_) :: .is (.pointer (some (pel v18 j_ 1))) :: .is (.int .i64 (rd (rd m i) j_)) :: .of (XJ.out y21) (XJ.out_mono _) :: .is (v_v_) :: .is (.int .i64 j_) :: .is (.pointer (some (pel v_v_ j_ 4))) :: .is (.agg ⟨[.bool (((rd v_ j_).f_N).f_Neg), v32, .bool (((rd v_ j_).f_D).f_Neg), v34]⟩) :: .of (X1.out y36) (X1.out_mono _) :: [])) (fun m_ => bx b_sum [.bool sum_0, v_sum_1, .bool sum_2, v_sum_3] 40 :: i_out :: L) (fun _ => none) mixed (by kernel_rfl) (by kernel_rfl) rfl (Xq (by kernel_rfl)) ⟨(fun H' m_ hH hm_ hu_ => dn <| s_d (m_ 0) rfl (QN (v := .agg ⟨[.bool sum_0, v_sum_1, .bool sum_2, v_sum_3]⟩) ty40 rfl .here rfl rfl rfl rfl) (by exact rfl) rfl), (fun H' m_ hH hm_ hu_ => dn <| s_d (m_ 1) rfl (QT (v := v_m) rfl) (by exact rfl) rfl), (fun H' m_ hH hm_ hu_ => dn <| s_d (m_ 2) rfl (QT (v := .int .i64 i) rfl) (by exact rfl) rfl), (by rintro H' m_ hH hm_ hu_ _ rfl _ rfl; exact dn <| s_d (m_ 3) rfl (XA (sz := 1) Tryz.underlying71 sz72 rfl (h_m.mono hH).th.th rfl c15) (by exact rfl) rfl), (by rintro H' m_ hH hm_ hu_ _ rfl; exact dn <| s_d (m_ 4) rfl (YU (v := v18) (cs := [v18]) ty72 rfl rfl (by decide) (l16.mono hH) rfl) (by exact rfl) rfl), (fun H' m_ hH hm_ hu_ => dn <| s_d (m_ 5) rfl (QT (v := .int .i64 j_) rfl) (by exact rfl) rfl), (by rintro H' m_ hH hm_ hu_ _ rfl _ rfl; exact dn <| s_d (m_ 6) rfl (XA (sz := 1) Tryz.underlying72 sz2 rfl (h19.mono hH).src rfl c20) (by exact rfl) rfl), (by rintro H' m_ hH hm_ hu_ _ rfl; exact dn <| s_d (m_ 7) rfl (XR ty2 rfl (h19.mono hH).src c20) (by exact rfl) rfl), (by rintro H' m_ hH hm_ hu_ _ rfl; exact dn <| s_k (m_ 8) rfl (Qm co43 (vs := [.int .i64 (rd (rd m i) j_)]) rfl (XJ.calls k hy22)) rfl (by rintro v_ H_ _ ⟨rfl, e_, h_⟩; exact ⟨rfl, e_, h_⟩)), (fun H' m_ hH hm_ hu_ => dn <| s_d (m_ 9) rfl (QT (v := v_v_) rfl) (by exact rfl) rfl), (fun H' m_ hH hm_ hu_ => dn <| s_d (m_ 10) rfl (QT (v := .int .i64 j_) rfl) (by exact rfl) rfl), (by rintro H' m_ hH hm_ hu_ _ rfl _ rfl; exact dn <| s_d (m_ 11) rfl (XA (sz := 4) Tryz.underlying68 sz40 rfl (h_v_.mono hH).th.th rfl c29) (by exact rfl) rfl), (by rintro H' m_ hH hm_ hu_ _ rfl; exact dn <| s_d (m_ 12) rfl (YU (v := .agg ⟨[.bool (((rd v_ j_).f_N).f_Neg), v32, .bool (((rd v_ j_).f_D).f_Neg), v34]⟩) (cs := [.bool (((rd v_ j_).f_N).f_Neg), v32, .bool (((rd v_ j_).f_D).f_Neg), v34]) ty40 rfl rfl (by decide) (l30.mono hH) rfl) (by exact rfl) rfl), (by rintro H' m_ hH hm_ hu_ _ ⟨v25, v27, rfl, h26, h28⟩ _ rfl; exact dn <| s_k (m_ 13) rfl (Qm co102 (vs := [(Qn y21 v25 v27), .agg ⟨[.bool (((rd v_ j_).f_N).f_Neg), v32, .bool (((rd v_ j_).f_D).f_Neg), v34]⟩]) rfl (X1.calls k (a := y21) (b := (rd v_ j_)) hy37 h26 h28 (h33.mono hH) (h35.mono hH))) rfl (by rintro v_ H_ _ ⟨rfl, e_, h_⟩; exact ⟨rfl, e_, h_⟩)), trivial⟩ ?_
  intro H44 e45
  rintro _ _ rfl _ _ rfl _ _ rfl _ _ rfl _ _ rfl _ _ rfl _ _ rfl _ _ rfl _ _ ⟨v25, v27, rfl, h26, h28⟩ _ _ rfl _ _ rfl _ _ rfl _ _ rfl _ _ ⟨v40, v42, rfl, h41, h43⟩
  refine bK he fun y46 hy47 he => w_a rfl (Qm co101 (vs := [.agg ⟨[.bool sum_0, v_sum_1, .bool sum_2, v_sum_3]⟩, (Qn y36 v40 v42)]) rfl (Yt.calls k (a := ⟨⟨sum_0, sum_1⟩, ⟨sum_2, sum_3⟩⟩) (b := y36) hy47 (h_sum_1.mono e45) (h_sum_3.mono e45) h41 h43)) ?_
  rintro _ H48 _ ⟨rfl, e49, v50, v52, rfl, h51, h53⟩
  refine wS (Qn y46 v50 v52) sz40 rfl rfl rfl rfl rfl (Yl h51 h53) .here u4 <| Qb <| Xw <| QL rfl <| wM (.int .i64 j_) rfl rfl <| w_d rfl (XQ (c := w64 (j_ + 1)) rfl rfl rfl) <| wA (.int .i64 (w64 (j_ + 1))) rfl rfl <| Qb <| XG <| w_sl 0 (v_m) rfl <| w_sl 1 (v_v_) rfl <| w_sl 4 (.slice none 0 0) rfl ?_
  refine w_sl 5 (v_out) rfl <| w_sl 6 (.int .i64 i) rfl <| w_sl 7 (pt b_sum) rfl <| w_sl 8 (.int .i64 (w64 (j_ + 1))) rfl <| hh.l1 (hle.trans (e45.trans e49)) he (h_m.mono (e45.trans e49)) (h_v_.mono (e45.trans e49)) (h_out.mono (e45.trans e49)) h51 h53
 ·
  refine QE rfl (df c14) <| X3 rfl <| QL rfl <| wM v_out rfl rfl <| wL (.agg ⟨[.bool sum_0, v_sum_1, .bool sum_2, v_sum_3]⟩) ty40 rfl rfl .here rfl rfl <| w_a rfl (o_buildSlice' (kd := Xk) (css := [[.bool sum_0, v_sum_1, .bool sum_2, v_sum_3]]) (xs := [(⟨(⟨sum_0, sum_1⟩ : Qg), (⟨sum_2, sum_3⟩ : Qg)⟩ : Qh)]) (parts := [(0, .agg ⟨[.bool sum_0, v_sum_1, .bool sum_2, v_sum_3]⟩)]) Tryz.underlying68 ti40 rfl ⟨_, _, rfl, rfl, rfl⟩ ⟨(Z1 (x := ⟨⟨sum_0, sum_1⟩, ⟨sum_2, sum_3⟩⟩) h_sum_1 h_sum_3), trivial⟩ rfl (by decide)) ?_
  rintro v54 _ _ ⟨i55, rfl, rfl, h56⟩
  refine rK he fun c57 he => w_a rfl (o_append' (kd := Xk) (F := fun z_ => i55 :: bx b_sum [.bool sum_0, v_sum_1, .bool sum_2, v_sum_3] 40 :: z_ :: L) Tryz.underlying68 Tryz.underlying68 ti40 rfl (by first | omega | (simp only [List.nil_append, List.length_cons, List.length_nil]; omega)) rfl rfl h_out (h56.src .here) (fun _ => .h2)) ?_
  rintro v58 _ _ ⟨i59, rfl, rfl, h60⟩
  refine wA v58 rfl rfl <| Qb <| Xw <| QL rfl <| wM (.int .i64 i) rfl rfl <| w_d rfl (XQ (c := w64 (i + 1)) rfl rfl rfl) <| wA (.int .i64 (w64 (i + 1))) rfl rfl <| Qb <| XG <| Yu .h1 <| Yu .here <| w_sl 0 (v_m) rfl ?_
  refine w_sl 1 (v_v_) rfl <| w_sl 4 (.slice none 0 0) rfl <| w_sl 5 (v58) rfl <| w_sl 6 (.int .i64 (w64 (i + 1))) rfl <| hh.l0 hle he h_m h_v_ h60
theorem Qs.ok : ∀ k, Qs.OK (Qs.hs k)
 | 0 => ⟨(by intros; exact nomatch (show none = some _ from by assumption)), (by intros; exact nomatch (show none = some _ from by assumption))⟩
 | k + 1 => ⟨Qs.b0_ok (k := k) (Qs.ok k), Qs.b1_ok (k := k) (Qs.ok k)⟩
theorem Qs.calls (k : Nat) {H : Hp} {L : Items} {m : List (List Int)} {v_ : List Qh} {v0_m v1_v_ : Value} {r : (List Qh)} (he : Qs.f k m v_ = some r) (h0_m : Src (Kd.slice kI64) H L v0_m m) (h1_v_ : Src Xk H L v1_v_ v_) : Ct Tryz.prog 53 ⟨[v0_m, v1_v_]⟩ H L (cR H L (Qs.out r)) := by
 refine XN (O := Qs.out r) ?_
 have hle : H.le H := .refl _
 have hh := Qs.ok k
 unfold Qs.f at he
 refine QV (args := [_, _]) fn_53 rfl nt_53 rfl <| wR rfl <| wA (.slice none 0 0) rfl rfl <| wQ rfl <| wA (.slice none 0 0) rfl rfl <| wE <| wR rfl ?_
 refine wA (.int .i64 0) rfl rfl <| Qb <| Q2 <| X5 <| YG <| w_sl 0 (v0_m) rfl <| w_sl 1 (v1_v_) rfl <| w_sl 4 (.slice none 0 0) rfl <| w_sl 5 (.slice none 0 0) rfl <| w_sl 6 (.int .i64 0) rfl <| hh.l0 hle he h0_m h1_v_ (ZW _ _ _)
end Go.Proofs.YtkccpkccdbfomaaGreatDoor.GBP

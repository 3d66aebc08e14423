/- printed by gen.py -/
import Derived.Test.YtkccpkccdbfomaaGreatDoorGBAx3
namespace Go.Proofs.YtkccpkccdbfomaaGreatDoor.GBA
open Go Go.RowKit Go.Proofs.YtkccpkccdbfomaaGreatDoorK Go.Proofs.YtkccpkccdbfomaaGreatDoor
set_option maxRecDepth 100000
set_option maxHeartbeats 2000000
set_option linter.unusedVariables false
set_option linter.unusedSimpArgs false
noncomputable def Yg.C : Code := (Tryz.f95.body).getD .skip
def Yg.out (r : Bool) (H : Hp) (v : Value) : Prop := v = .bool r
noncomputable def Yg.f (k : Nat) (a : Qg) : Option Bool := (XW.f k a).bind fun y2 => (Xo.f k y2.1).bind fun y12 => some (decide (y12 < 0))
theorem Yg.mono : ∀ k y0, LeO (Yg.f k y0) (Yg.f (k + 1) y0) := fun k _ => by unfold Yg.f; exact (LeO.bind (XW.mono k _) fun _ => LeO.bind (Xo.mono k _) fun _ => LeO.refl _)
theorem Yg.calls (k : Nat) {H : Hp} {L : Items} {a : Qg} {v0_a v1_a : Value} {r : Bool} (he : Yg.f k a = some r) (h0_a : Ro kU32 H v0_a a.f_n.f_w) (h1_a : Ro kU32 H v1_a a.f_d.f_w) : Ct Tryz.prog 95 ⟨[(Qd a v0_a v1_a)]⟩ H L (fun v H' L' => L = L' ∧ H = H' ∧ v = .bool r) := by
 refine Yj (O := Yg.out r) (fun _ _ h => h) ?_
 have hle : H.le H := .refl _
 unfold Yg.f at he
 refine QV (args := [_]) fn_95 rfl nt_95 rfl <| wR rfl <| wB (Qd a v0_a v1_a) rfl rfl rfl <| fun b1 => wA (.bool false) rfl rfl <| wQ rfl <| wL (Qd a v0_a v1_a) ty26 rfl rfl .here rfl rfl <| bK he fun y2 hy3 he => w_a rfl (Qm co83 (vs := [(Qd a v0_a v1_a)]) rfl (XW.calls k (a := a) hy3 h0_a h1_a)) ?_
 rintro _ H4 _ ⟨rfl, e5, v6, v8, rfl, h7, h9⟩
 refine wM (.tuple ⟨[(Qc y2.1 v6), (Qc y2.2 v8)]⟩) rfl rfl <| w_d rfl (Q6 rfl rfl) <| w_d rfl (Q6 rfl rfl) <| wN zr24 rfl rfl fun b10 => wN zr24 rfl rfl fun b11 => wS (Qc y2.1 v6) sz24 rfl rfl rfl rfl rfl (XD h7) .h1 u2 <| wS (Qc y2.2 v8) sz24 rfl rfl rfl rfl rfl (XD h9) .here u2 <| wQ rfl <| wL (Qc y2.1 v6) ty24 rfl rfl .h1 rfl rfl <| bK he fun y12 hy13 he => ?_
 refine w_d rfl (Xx (Qm co84 (vs := [(Qc y2.1 v6)]) rfl (Xo.calls k (a := y2.1) hy13 h7))) <| w_d rfl (XY rfl rfl) <| wA (.bool (decide (y12 < 0))) rfl rfl <| Qb ?_
 obtain rfl := sj he
 refine Qn fn_95 rs_95 (.tmp (v := .bool (decide (y12 < 0))) rfl .nil) <| ⟨⟨[_, _, _], rfl⟩, hle.trans e5, rfl⟩
noncomputable def Xt.C : Code := (Tryz.f128.body).getD .skip
def Xt.out (r : Qs × (Option Int)) (H : Hp) (v : Value) : Prop := ∃ v0, v = .tuple ⟨[(Qc r.1 v0), errV 104 r.2]⟩ ∧ Ro kU32 H v0 r.1.f_w
theorem Xt.out_mono (r : Qs × (Option Int)) {H H' : Hp} {v : Value} (hle : H.le H') (h : Xt.out r H v) : Xt.out r H' v := by
 obtain ⟨v0, rfl, h0⟩ := h; exact ⟨v0, rfl, h0.mono hle⟩
noncomputable def Xt.f (k : Nat) (a b : Qs) : Option (Qs × (Option Int)) := (QA.f k a.f_w b.f_w).bind fun y4 => (XG.f k (!(a.f_neg == b.f_neg)) y4).bind fun y10 => some (y10.1, y10.2)
theorem Xt.mono : ∀ k y0 y1, LeO (Xt.f k y0 y1) (Xt.f (k + 1) y0 y1) := fun k _ _ => by unfold Xt.f; exact (LeO.bind (QA.mono k _ _) fun _ => LeO.bind (XG.mono k _ _) fun _ => LeO.refl _)
theorem Xt.calls (k : Nat) {H : Hp} {L : Items} {a b : Qs} {v0_a v1_b : Value} {r : Qs × (Option Int)} (he : Xt.f k a b = some r) (h0_a : Ro kU32 H v0_a a.f_w) (h1_b : Ro kU32 H v1_b b.f_w) : Ct Tryz.prog 128 ⟨[(Qc a v0_a), (Qc b v1_b)]⟩ H L (cR H L (Xt.out r)) := by
 refine XO (O := Xt.out r) ?_
 have hle : H.le H := .refl _
 unfold Xt.f at he
 refine QV (args := [_, _]) fn_128 rfl nt_128 rfl <| wR rfl <| wB (Qc a v0_a) rfl rfl rfl <| fun b1 => wB (Qc b v1_b) rfl rfl rfl <| fun b2 => wN zr24 rfl rfl fun b3 => wA (errV 104 none) rfl rfl <| wE <| bK he fun y4 hy5 he => bK he fun y10 hy11 he => Xy (p := 13) (tl := [13, 14]) [[], [(0, some 6)], [], [(2, some 8)], [(1, some 7), (3, some 9)], [], [(5, some 11)], [], [(7, some 13)], [(6, some 12), (8, some 14)], [(4, some 10), (9, some 15)], [(10, some 16)], [(10, some 16)]] [some 6, some 7, some 8, some 9, some 10, some 11, some 12, some 13, some 14, some 15, some 16, some 17, some 18] (fctF (.is (pt b1) :: .is (.bool a.f_neg) :: .is (pt b2) :: .is (.bool b.f_neg) :: .is (.bool (!(a.f_neg == b.f_neg))) :: .is (po b1 1) :: .is (v0_a) :: .is (po b2 1) :: .is (v1_b) :: .ro kU32 (y4) :: .of (XG.out y10) (XG.out_mono _) :: .of (fun H v => ∃ v16, v = (Qc y10.1 v16) ∧ Ro kU32 H v16 y10.1.f_w) (by rintro _ _ _ hle ⟨v16, rfl, h17⟩; exact ⟨v16, rfl, h17.mono hle⟩) :: .is (errV 104 y10.2) :: [])) (fun m_ => bx b3 [.bool false, .slice none 0 0] 24 :: bx b2 (QM b v1_b) 24 :: bx b1 (QM a v0_a) 24 :: L) (fun _ => none) mixed (by kernel_rfl) (by kernel_rfl) rfl (Xn (by kernel_rfl)) ⟨(fun H' m_ hH hm_ hu_ => dn <| s_d (m_ 0) rfl (Q9 (o' := 0) Tryz.underlying24 rfl sz4 rfl rfl rfl) (by exact rfl) rfl), (by rintro H' m_ hH hm_ hu_ _ rfl; exact dn <| s_d (m_ 1) rfl (QG (v := .bool a.f_neg) ty4 rfl .h2 rfl rfl rfl rfl) (by exact rfl) rfl), (fun H' m_ hH hm_ hu_ => dn <| s_d (m_ 2) rfl (Q9 (o' := 0) Tryz.underlying24 rfl sz4 rfl rfl rfl) (by exact rfl) rfl), (by rintro H' m_ hH hm_ hu_ _ rfl; exact dn <| s_d (m_ 3) rfl (QG (v := .bool b.f_neg) ty4 rfl .h1 rfl rfl rfl rfl) (by exact rfl) rfl), (by rintro H' m_ hH hm_ hu_ _ rfl _ rfl; exact dn <| s_d (m_ 4) rfl (Md (a := a.f_neg) (b := b.f_neg) Tryz.underlying4 rfl rfl) (by exact rfl) rfl), (fun H' m_ hH hm_ hu_ => dn <| s_d (m_ 5) rfl (Q9 (o' := 1) Tryz.underlying24 rfl sz22 rfl rfl rfl) (by exact rfl) rfl), (by rintro H' m_ hH hm_ hu_ _ rfl; exact dn <| s_d (m_ 6) rfl (QG (v := v0_a) ty22 rfl .h2 rfl rfl rfl rfl) (by exact rfl) rfl), (fun H' m_ hH hm_ hu_ => dn <| s_d (m_ 7) rfl (Q9 (o' := 1) Tryz.underlying24 rfl sz22 rfl rfl rfl) (by exact rfl) rfl), (by rintro H' m_ hH hm_ hu_ _ rfl; exact dn <| s_d (m_ 8) rfl (QG (v := v1_b) ty22 rfl .h1 rfl rfl rfl rfl) (by exact rfl) rfl), (by rintro H' m_ hH hm_ hu_ _ rfl _ rfl; exact dn <| s_k (m_ 9) rfl (Qm co145 (vs := [v0_a, v1_b]) rfl (QA.calls k hy5 ((h0_a.mono hH).src) ((h1_b.mono hH).src))) rfl (by rintro v_ H_ _ ⟨rfl, e_, h_⟩; exact ⟨rfl, e_, h_⟩)), (by rintro H' m_ hH hm_ hu_ _ rfl v8 (h9 : Ro kU32 H' v8 y4); exact dn <| s_k (m_ 10) rfl (Qm co115 (vs := [.bool (!(a.f_neg == b.f_neg)), v8]) rfl (XG.calls k hy11 h9)) rfl (by rintro v_ H_ _ ⟨rfl, e_, h_⟩; exact ⟨rfl, e_, h_⟩)), (by rintro H' m_ hH hm_ hu_ _ ⟨v14, rfl, h15⟩; exact dn <| s_d (m_ 11) rfl (Q6 rfl rfl) (by exact ⟨v14, rfl, h15⟩) rfl), (by rintro H' m_ hH hm_ hu_ _ ⟨v14, rfl, h15⟩; exact dn <| s_d (m_ 12) rfl (Q6 rfl rfl) (by exact rfl) rfl), trivial⟩ ?_
 intro H18 e19
 rintro _ _ rfl _ _ rfl _ _ rfl _ _ rfl _ _ rfl _ _ rfl _ _ rfl _ _ rfl _ _ rfl v8 _ (h9 : Ro kU32 H18 v8 y4) _ _ ⟨v14, rfl, h15⟩ _ _ ⟨v16, rfl, h17⟩ _ _ rfl
 refine wS (Qc y10.1 v16) sz24 rfl rfl rfl rfl rfl (XD h17) .here u2 <| wA (errV 104 y10.2) rfl rfl <| Qb ?_
 obtain rfl := sj he
 refine Qn fn_128 rs_128 (.box (v := (Qc y10.1 v16)) rfl ty24 rfl rfl .here rfl (.tmp (v := errV 104 y10.2) rfl .nil)) <| ⟨⟨[_, _, _], rfl⟩, hle.trans e19, ⟨v16, rfl, h17⟩⟩
noncomputable def X4.C : Code := (Tryz.f77.body).getD .skip
def X4.out (r : Qg × (Option Int)) (H : Hp) (v : Value) : Prop := ∃ v0 v1, v = .tuple ⟨[(Qd r.1 v0 v1), errV 104 r.2]⟩ ∧ Ro kU32 H v0 r.1.f_n.f_w ∧ Ro kU32 H v1 r.1.f_d.f_w
theorem X4.out_mono (r : Qg × (Option Int)) {H H' : Hp} {v : Value} (hle : H.le H') (h : X4.out r H v) : X4.out r H' v := by
 obtain ⟨v0, v1, rfl, h0, h1⟩ := h; exact ⟨v0, v1, rfl, h0.mono hle, h1.mono hle⟩
noncomputable def X4.f (k : Nat) (n m d e_ : Qs) : Option (Qg × (Option Int)) := (Xt.f k n m).bind fun y6 => if y6.2.isSome = true then (some (⟨⟨false, []⟩, ⟨false, []⟩⟩, y6.2)) else ((Xt.f k d e_).bind fun y14 => if y14.2.isSome = true then (some (⟨⟨false, []⟩, ⟨false, []⟩⟩, y14.2)) else ((Xz.f k y6.1 y14.1).bind fun y22 => some (y22.1, y22.2)))
theorem X4.mono : ∀ k y0 y1 y2 y3, LeO (X4.f k y0 y1 y2 y3) (X4.f (k + 1) y0 y1 y2 y3) := fun k _ _ _ _ => by unfold X4.f; exact (LeO.bind (Xt.mono k _ _) fun _ => LeO.ite (LeO.refl _) (LeO.bind (Xt.mono k _ _) fun _ => LeO.ite (LeO.refl _) (LeO.bind (Xz.mono k _ _) fun _ => LeO.refl _)))
theorem X4.calls (k : Nat) {H : Hp} {L : Items} {n m d e_ : Qs} {v0_n v1_m v2_d v3_e_ : Value} {r : Qg × (Option Int)} (he : X4.f k n m d e_ = some r) (h0_n : Ro kU32 H v0_n n.f_w) (h1_m : Ro kU32 H v1_m m.f_w) (h2_d : Ro kU32 H v2_d d.f_w) (h3_e_ : Ro kU32 H v3_e_ e_.f_w) : Ct Tryz.prog 77 ⟨[(Qc n v0_n), (Qc m v1_m), (Qc d v2_d), (Qc e_ v3_e_)]⟩ H L (cR H L (X4.out r)) := by
 refine XO (O := X4.out r) ?_
 have hle : H.le H := .refl _
 unfold X4.f at he
 refine QV (args := [_, _, _, _]) fn_77 rfl nt_77 rfl <| wR rfl <| wB (Qc n v0_n) rfl rfl rfl <| fun b1 => wB (Qc m v1_m) rfl rfl rfl <| fun b2 => wB (Qc d v2_d) rfl rfl rfl <| fun b3 => wB (Qc e_ v3_e_) rfl rfl rfl <| fun b4 => wN zr26 rfl rfl fun b5 => wA (errV 104 none) rfl rfl <| wQ rfl ?_
 refine wL (Qc n v0_n) ty24 rfl rfl .h4 rfl rfl <| wL (Qc m v1_m) ty24 rfl rfl .h3 rfl rfl <| bK he fun y6 hy7 he => w_a rfl (Qm co128 (vs := [(Qc n v0_n), (Qc m v1_m)]) rfl (Xt.calls k (a := n) (b := m) hy7 h0_n h1_m)) ?_
 rintro _ H8 _ ⟨rfl, e9, v10, rfl, h11⟩
 refine wM (.tuple ⟨[(Qc y6.1 v10), errV 104 y6.2]⟩) rfl rfl <| w_d rfl (Q6 rfl rfl) <| w_d rfl (Q6 rfl rfl) <| wN zr24 rfl rfl fun b12 => wS (Qc y6.1 v10) sz24 rfl rfl rfl rfl rfl (XD h11) .here u2 <| wA (errV 104 y6.2) rfl rfl <| wE <| wR rfl <| wM (errV 104 y6.2) rfl rfl <| w_d rfl (Yp (e := y6.2) Tryz.underlying30 rfl) ?_
 refine Qb ?_
 rcases its he with ⟨c13, he⟩ | ⟨c13, he⟩
 ·
  refine QE rfl c13 <| wR rfl <| w_d rfl (XF (cs' := z0c) Tryz.underlying26 zr26 rfl (by kernel_rfl) (parts := []) rfl .nil) <| wM (errV 104 y6.2) rfl rfl <| wS (.agg ⟨z0c⟩) sz26 rfl rfl rfl rfl rfl (oc rfl (oc rfl (oc rfl (oc rfl oz)))) .h1 u4 <| wA (errV 104 y6.2) rfl rfl <| Qb ?_
  obtain rfl := sj he
  refine Qn fn_77 rs_77 (.box (v := .agg ⟨z0c⟩) rfl ty26 rfl rfl .h1 rfl (.tmp (v := errV 104 y6.2) rfl .nil)) <| ⟨⟨[_, _, _, _, _, _], rfl⟩, hle.trans e9, ⟨.slice none 0 0, .slice none 0 0, rfl, (Xg _ _), (Xg _ _)⟩⟩
 ·
  refine QF rfl (Bool.eq_false_iff.2 c13) <| QH <| wR rfl <| wL (Qc d v2_d) ty24 rfl rfl .h3 rfl rfl <| wL (Qc e_ v3_e_) ty24 rfl rfl .h2 rfl rfl <| bK he fun y14 hy15 he => w_a rfl (Qm co128 (vs := [(Qc d v2_d), (Qc e_ v3_e_)]) rfl (Xt.calls k (a := d) (b := e_) hy15 (h2_d.mono e9) (h3_e_.mono e9))) ?_
  rintro _ H16 _ ⟨rfl, e17, v18, rfl, h19⟩
  refine wM (.tuple ⟨[(Qc y14.1 v18), errV 104 y14.2]⟩) rfl rfl <| w_d rfl (Q6 rfl rfl) <| w_d rfl (Q6 rfl rfl) <| wN zr24 rfl rfl fun b20 => wS (Qc y14.1 v18) sz24 rfl rfl rfl rfl rfl (XD h19) .here u2 <| wA (errV 104 y14.2) rfl rfl <| wE <| wR rfl <| wM (errV 104 y14.2) rfl rfl <| w_d rfl (Yp (e := y14.2) Tryz.underlying30 rfl) ?_
  refine Qb ?_
  rcases its he with ⟨c21, he⟩ | ⟨c21, he⟩
  ·
   refine QE rfl c21 <| wR rfl <| w_d rfl (XF (cs' := z0c) Tryz.underlying26 zr26 rfl (by kernel_rfl) (parts := []) rfl .nil) <| wM (errV 104 y14.2) rfl rfl <| wS (.agg ⟨z0c⟩) sz26 rfl rfl rfl rfl rfl (oc rfl (oc rfl (oc rfl (oc rfl oz)))) .h2 u4 <| wA (errV 104 y14.2) rfl rfl <| Qb ?_
   obtain rfl := sj he
   refine Qn fn_77 rs_77 (.box (v := .agg ⟨z0c⟩) rfl ty26 rfl rfl .h2 rfl (.tmp (v := errV 104 y14.2) rfl .nil)) <| ⟨⟨[_, _, _, _, _, _, _], rfl⟩, hle.trans (e9.trans e17), ⟨.slice none 0 0, .slice none 0 0, rfl, (Xg _ _), (Xg _ _)⟩⟩
  ·
   refine QF rfl (Bool.eq_false_iff.2 c21) <| QH <| wR rfl <| wL (Qc y6.1 v10) ty24 rfl rfl .h1 rfl rfl <| wL (Qc y14.1 v18) ty24 rfl rfl .here rfl rfl <| bK he fun y22 hy23 he => w_a rfl (Qm co73 (vs := [(Qc y6.1 v10), (Qc y14.1 v18)]) rfl (Xz.calls k (n := y6.1) (d := y14.1) hy23 (h11.mono e17) h19)) ?_
   rintro _ H24 _ ⟨rfl, e25, v26, v28, rfl, h27, h29⟩
   refine w_d rfl (Q6 rfl rfl) <| w_d rfl (Q6 rfl rfl) <| wS (Qd y22.1 v26 v28) sz26 rfl rfl rfl rfl rfl (XV h27 h29) .h2 u4 <| wA (errV 104 y22.2) rfl rfl <| Qb ?_
   obtain rfl := sj he
   refine Qn fn_77 rs_77 (.box (v := (Qd y22.1 v26 v28)) rfl ty26 rfl rfl .h2 rfl (.tmp (v := errV 104 y22.2) rfl .nil)) <| ⟨⟨[_, _, _, _, _, _, _], rfl⟩, hle.trans ((e9.trans e17).trans e25), ⟨v26, v28, rfl, h27, h29⟩⟩
noncomputable def X6.C : Code := (Tryz.f24.body).getD .skip
def X6.out (r : Qg × (Option Int)) (H : Hp) (v : Value) : Prop := ∃ v0 v1, v = .tuple ⟨[(Qd r.1 v0 v1), errV 104 r.2]⟩ ∧ Ro kU32 H v0 r.1.f_n.f_w ∧ Ro kU32 H v1 r.1.f_d.f_w
noncomputable def X6.f (k : Nat) (a b : Qg) : Option (Qg × (Option Int)) := (Qy.f k a).bind fun y4 => (Qy.f k b).bind fun y10 => (X4.f k a.f_n b.f_n y4 y10).bind fun y16 => some (y16.1, y16.2)
theorem X6.mono : ∀ k y0 y1, LeO (X6.f k y0 y1) (X6.f (k + 1) y0 y1) := fun k _ _ => by unfold X6.f; exact (LeO.bind (Qy.mono k _) fun _ => LeO.bind (Qy.mono k _) fun _ => LeO.bind (X4.mono k _ _ _ _) fun _ => LeO.refl _)
theorem X6.calls (k : Nat) {H : Hp} {L : Items} {a b : Qg} {v0_a v1_a v2_b v3_b : Value} {r : Qg × (Option Int)} (he : X6.f k a b = some r) (h0_a : Ro kU32 H v0_a a.f_n.f_w) (h1_a : Ro kU32 H v1_a a.f_d.f_w) (h2_b : Ro kU32 H v2_b b.f_n.f_w) (h3_b : Ro kU32 H v3_b b.f_d.f_w) : Ct Tryz.prog 24 ⟨[(Qd a v0_a v1_a), (Qd b v2_b v3_b)]⟩ H L (cR H L (X6.out r)) := by
 refine XO (O := X6.out r) ?_
 have hle : H.le H := .refl _
 unfold X6.f at he
 refine QV (args := [_, _]) fn_24 rfl nt_24 rfl <| wR rfl <| wB (Qd a v0_a v1_a) rfl rfl rfl <| fun b1 => wB (Qd b v2_b v3_b) rfl rfl rfl <| fun b2 => wN zr26 rfl rfl fun b3 => wA (errV 104 none) rfl rfl <| wE <| bK he fun y4 hy5 he => bK he fun y10 hy11 he => bK he fun y16 hy17 he => ?_
 refine Xy (p := 11) (tl := [11, 12]) [[], [(0, some 6)], [], [(2, some 8)], [], [(4, some 10)], [], [(6, some 12)], [(1, some 7), (3, some 9), (5, some 11), (7, some 13)], [(8, some 14)], [(8, some 14)]] [some 6, some 7, some 8, some 9, some 10, some 11, some 12, some 13, some 14, some 15, some 16] (fctF (.is (pt b1) :: .is (Qc a.f_n v0_a) :: .is (pt b2) :: .is (Qc b.f_n v2_b) :: .is (Qd a v0_a v1_a) :: .of (Qy.out y4) (Qy.out_mono _) :: .is (Qd b v2_b v3_b) :: .of (Qy.out y10) (Qy.out_mono _) :: .of (X4.out y16) (X4.out_mono _) :: .of (fun H v => ∃ v24 v26, v = (Qd y16.1 v24 v26) ∧ Ro kU32 H v24 y16.1.f_n.f_w ∧ Ro kU32 H v26 y16.1.f_d.f_w) (by rintro _ _ _ hle ⟨v24, v26, rfl, h25, h27⟩; exact ⟨v24, v26, rfl, h25.mono hle, h27.mono hle⟩) :: .is (errV 104 y16.2) :: [])) (fun m_ => bx b3 z0c 26 :: bx b2 (QZ b v2_b v3_b) 26 :: bx b1 (QZ a v0_a v1_a) 26 :: L) (fun _ => none) mixed (by kernel_rfl) (by kernel_rfl) rfl (Xn (by kernel_rfl)) ⟨(fun H' m_ hH hm_ hu_ => dn <| s_d (m_ 0) rfl (Q9 (o' := 0) Tryz.underlying26 rfl sz24 rfl rfl rfl) (by exact rfl) rfl), (by rintro H' m_ hH hm_ hu_ _ rfl; exact dn <| s_d (m_ 1) rfl (QG (v := (Qc a.f_n v0_a)) ty24 rfl .h2 rfl rfl rfl rfl) (by exact rfl) rfl), (fun H' m_ hH hm_ hu_ => dn <| s_d (m_ 2) rfl (Q9 (o' := 0) Tryz.underlying26 rfl sz24 rfl rfl rfl) (by exact rfl) rfl), (by rintro H' m_ hH hm_ hu_ _ rfl; exact dn <| s_d (m_ 3) rfl (QG (v := (Qc b.f_n v2_b)) ty24 rfl .h1 rfl rfl rfl rfl) (by exact rfl) rfl), (fun H' m_ hH hm_ hu_ => dn <| s_d (m_ 4) rfl (QG (v := (Qd a v0_a v1_a)) ty26 rfl .h2 rfl rfl rfl rfl) (by exact rfl) rfl), (by rintro H' m_ hH hm_ hu_ _ rfl; exact dn <| s_k (m_ 5) rfl (Qm co78 (vs := [(Qd a v0_a v1_a)]) rfl (Qy.calls k (a := a) hy5 (h0_a.mono hH) (h1_a.mono hH))) rfl (by rintro v_ H_ _ ⟨rfl, e_, h_⟩; exact ⟨rfl, e_, h_⟩)), (fun H' m_ hH hm_ hu_ => dn <| s_d (m_ 6) rfl (QG (v := (Qd b v2_b v3_b)) ty26 rfl .h1 rfl rfl rfl rfl) (by exact rfl) rfl), (by rintro H' m_ hH hm_ hu_ _ rfl; exact dn <| s_k (m_ 7) rfl (Qm co78 (vs := [(Qd b v2_b v3_b)]) rfl (Qy.calls k (a := b) hy11 (h2_b.mono hH) (h3_b.mono hH))) rfl (by rintro v_ H_ _ ⟨rfl, e_, h_⟩; exact ⟨rfl, e_, h_⟩)), (by rintro H' m_ hH hm_ hu_ _ rfl _ rfl _ ⟨v8, rfl, h9⟩ _ ⟨v14, rfl, h15⟩; exact dn <| s_k (m_ 8) rfl (Qm co77 (vs := [(Qc a.f_n v0_a), (Qc b.f_n v2_b), (Qc y4 v8), (Qc y10 v14)]) rfl (X4.calls k (n := a.f_n) (m := b.f_n) (d := y4) (e_ := y10) hy17 (h0_a.mono hH) (h2_b.mono hH) h9 h15)) rfl (by rintro v_ H_ _ ⟨rfl, e_, h_⟩; exact ⟨rfl, e_, h_⟩)), (by rintro H' m_ hH hm_ hu_ _ ⟨v20, v22, rfl, h21, h23⟩; exact dn <| s_d (m_ 9) rfl (Q6 rfl rfl) (by exact ⟨v20, v22, rfl, h21, h23⟩) rfl), (by rintro H' m_ hH hm_ hu_ _ ⟨v20, v22, rfl, h21, h23⟩; exact dn <| s_d (m_ 10) rfl (Q6 rfl rfl) (by exact rfl) rfl), trivial⟩ ?_
 intro H28 e29
 rintro _ _ rfl _ _ rfl _ _ rfl _ _ rfl _ _ rfl _ _ ⟨v8, rfl, h9⟩ _ _ rfl _ _ ⟨v14, rfl, h15⟩ _ _ ⟨v20, v22, rfl, h21, h23⟩ _ _ ⟨v24, v26, rfl, h25, h27⟩ _ _ rfl
 refine wS (Qd y16.1 v24 v26) sz26 rfl rfl rfl rfl rfl (XV h25 h27) .here u4 <| wA (errV 104 y16.2) rfl rfl <| Qb ?_
 obtain rfl := sj he
 refine Qn fn_24 rs_24 (.box (v := (Qd y16.1 v24 v26)) rfl ty26 rfl rfl .here rfl (.tmp (v := errV 104 y16.2) rfl .nil)) <| ⟨⟨[_, _, _], rfl⟩, hle.trans e29, ⟨v24, v26, rfl, h25, h27⟩⟩
noncomputable def XN.C : Code := (Tryz.f106.body).getD .skip
def XN.out (r : Qs × Qs × (Option Int)) (H : Hp) (v : Value) : Prop := ∃ v0 v1, v = .tuple ⟨[(Qc r.1 v0), (Qc r.2.1 v1), errV 104 r.2.2]⟩ ∧ Ro kU32 H v0 r.1.f_w ∧ Ro kU32 H v1 r.2.1.f_w
noncomputable def XN.f (k : Nat) (a b : Qg) : Option (Qs × Qs × (Option Int)) := (Qy.f k b).bind fun y5 => (Xt.f k a.f_n y5).bind fun y11 => if y11.2.isSome = true then (some (y11.1, y11.1, y11.2)) else ((Qy.f k a).bind fun y31 => (Xt.f k b.f_n y31).bind fun y37 => some (y11.1, y37.1, y37.2))
theorem XN.mono : ∀ k y0 y1, LeO (XN.f k y0 y1) (XN.f (k + 1) y0 y1) := fun k _ _ => by unfold XN.f; exact (LeO.bind (Qy.mono k _) fun _ => LeO.bind (Xt.mono k _ _) fun _ => LeO.ite (LeO.refl _) (LeO.bind (Qy.mono k _) fun _ => LeO.bind (Xt.mono k _ _) fun _ => LeO.refl _))
theorem XN.calls (k : Nat) {H : Hp} {L : Items} {a b : Qg} {v0_a v1_a v2_b v3_b : Value} {r : Qs × Qs × (Option Int)} (he : XN.f k a b = some r) (h0_a : Ro kU32 H v0_a a.f_n.f_w) (h1_a : Ro kU32 H v1_a a.f_d.f_w) (h2_b : Ro kU32 H v2_b b.f_n.f_w) (h3_b : Ro kU32 H v3_b b.f_d.f_w) : Ct Tryz.prog 106 ⟨[(Qd a v0_a v1_a), (Qd b v2_b v3_b)]⟩ H L (cR H L (XN.out r)) := by
 refine XO (O := XN.out r) ?_
 have hle : H.le H := .refl _
 unfold XN.f at he
 refine QV (args := [_, _]) fn_106 rfl nt_106 rfl <| wR rfl <| wB (Qd a v0_a v1_a) rfl rfl rfl <| fun b1 => wB (Qd b v2_b v3_b) rfl rfl rfl <| fun b2 => wN zr24 rfl rfl fun b3 => wN zr24 rfl rfl fun b4 => wA (errV 104 none) rfl rfl <| wE <| bK he fun y5 hy6 he => bK he fun y11 hy12 he => ?_
 refine Yx (?_)
 refine Xy (p := 10) (tl := [10]) [[], [(0, some 11)], [], [(2, some 13)], [(1, some 12), (3, some 14)], [(4, some 15)], [(5, some 10)], [(5, some 10)], [], [(6, some 16), (8, some 7)]] [some 11, some 12, some 13, some 14, some 15, some 10, some 16, some 17, some 7, none] (fctF (.is (pt b1) :: .is (Qc a.f_n v0_a) :: .is (Qd b v2_b v3_b) :: .of (Qy.out y5) (Qy.out_mono _) :: .of (Xt.out y11) (Xt.out_mono _) :: .of (fun H v => ∃ v17, v = .tuple ⟨[(Qc y11.1 v17), errV 104 y11.2]⟩ ∧ Ro kU32 H v17 y11.1.f_w) (by rintro _ _ _ hle ⟨v17, rfl, h18⟩; exact ⟨v17, rfl, h18.mono hle⟩) :: .of (fun H v => ∃ v19, v = (Qc y11.1 v19) ∧ Ro kU32 H v19 y11.1.f_w) (by rintro _ _ _ hle ⟨v19, rfl, h20⟩; exact ⟨v19, rfl, h20.mono hle⟩) :: .is (errV 104 y11.2) :: .box 24 [.bool false, .slice none 0 0] :: .st 8 (fun H bq_ itq_ => ∃ v22, itq_ = bx bq_ (QM y11.1 v22) 24 ∧ Ro kU32 H v22 y11.1.f_w) (by rintro _ _ _ _ hle ⟨v22, rfl, h23⟩; exact ⟨v22, rfl, h23.mono hle⟩) :: [])) (fun m_ => pk (m_ 9) (m_ 8) :: bx b4 [.bool false, .slice none 0 0] 24 :: bx b3 [.bool false, .slice none 0 0] 24 :: bx b2 (QZ b v2_b v3_b) 26 :: bx b1 (QZ a v0_a v1_a) 26 :: L) (fun _ => none) mixed (by kernel_rfl) (by kernel_rfl) rfl (Xn (by kernel_rfl)) ⟨(fun H' m_ hH hm_ hu_ => dn <| s_d (m_ 0) rfl (Q9 (o' := 0) Tryz.underlying26 rfl sz24 rfl rfl rfl) (by exact rfl) rfl), (by rintro H' m_ hH hm_ hu_ _ rfl; exact dn <| s_d (m_ 1) rfl (QG (v := (Qc a.f_n v0_a)) ty24 rfl .h4 rfl rfl rfl rfl) (by exact rfl) rfl), (fun H' m_ hH hm_ hu_ => dn <| s_d (m_ 2) rfl (QG (v := (Qd b v2_b v3_b)) ty26 rfl .h3 rfl rfl rfl rfl) (by exact rfl) rfl), (by rintro H' m_ hH hm_ hu_ _ rfl; exact dn <| s_k (m_ 3) rfl (Qm co78 (vs := [(Qd b v2_b v3_b)]) rfl (Qy.calls k (a := b) hy6 (h2_b.mono hH) (h3_b.mono hH))) rfl (by rintro v_ H_ _ ⟨rfl, e_, h_⟩; exact ⟨rfl, e_, h_⟩)), (by rintro H' m_ hH hm_ hu_ _ rfl _ ⟨v9, rfl, h10⟩; exact dn <| s_k (m_ 4) rfl (Qm co128 (vs := [(Qc a.f_n v0_a), (Qc y5 v9)]) rfl (Xt.calls k (a := a.f_n) (b := y5) hy12 (h0_a.mono hH) h10)) rfl (by rintro v_ H_ _ ⟨rfl, e_, h_⟩; exact ⟨rfl, e_, h_⟩)), (by rintro H' m_ hH hm_ hu_ _ ⟨v15, rfl, h16⟩; exact dn <| s_d (m_ 5) rfl (QW (v := .tuple ⟨[(Qc y11.1 v15), errV 104 y11.2]⟩) rfl) (by exact ⟨v15, rfl, h16⟩) rfl), (by rintro H' m_ hH hm_ hu_ _ ⟨v17, rfl, h18⟩; exact dn <| s_d (m_ 6) rfl (Q6 rfl rfl) (by exact ⟨v17, rfl, h18⟩) rfl), (by rintro H' m_ hH hm_ hu_ _ ⟨v17, rfl, h18⟩; exact dn <| s_d (m_ 7) rfl (Q6 rfl rfl) (by exact rfl) rfl), (fun H' m_ hH hm_ hu_ => dn <| YV hm_ rfl rfl (YI zr24 rfl) rfl (fun _ => (ZB (hu_ 9 (by kernel_rfl)))) (by exact fun b_ => ⟨b_, rfl, rfl⟩)), (by rintro H' m_ hH hm_ hu_ _ ⟨v19, rfl, h20⟩ _ ⟨b21, rfl, hb21_⟩; exact dn <| Y3 (Λ' := fun z_ => z_ :: bx b4 [.bool false, .slice none 0 0] 24 :: bx b3 [.bool false, .slice none 0 0] 24 :: bx b2 (QZ b v2_b v3_b) 26 :: bx b1 (QZ a v0_a v1_a) 26 :: L) (bx b21 (QM y11.1 v19) 24) hm_ rfl hb21_ rfl (YJ (v := (Qc y11.1 v19)) sz24 rfl rfl rfl rfl (oc rfl (oc (h20.one) oz)) .here u2) rfl rfl (by exact ⟨rfl, v19, congrArg (fun b_ => (some (b_, Obj.cells ⟨(QM y11.1 v19)⟩ 24 (0, 0)) : Item')) (ZD hb21_).symm, h20⟩)), trivial⟩ ?_
 intro H26 e27
 rintro _ _ rfl _ _ rfl _ _ rfl _ _ ⟨v9, rfl, h10⟩ _ _ ⟨v15, rfl, h16⟩ _ _ ⟨v17, rfl, h18⟩ _ _ ⟨v19, rfl, h20⟩ _ _ rfl _ _ ⟨b21, rfl, rfl⟩ _ i24 ⟨rfl, v22, h25, h23⟩
 replace h25 : i24 = bx b21 (QM y11.1 v22) 24 := h25
 subst h25
 refine w_it (L' := bx b21 (QM y11.1 v22) 24 :: bx b4 [.bool false, .slice none 0 0] 24 :: bx b3 [.bool false, .slice none 0 0] 24 :: bx b2 (QZ b v2_b v3_b) 26 :: bx b1 (QZ a v0_a v1_a) 26 :: L) rfl <| wA (errV 104 y11.2) rfl rfl <| wE <| wR rfl <| wM (errV 104 y11.2) rfl rfl <| w_d rfl (Yp (e := y11.2) Tryz.underlying30 rfl) <| Qb ?_
 rcases its he with ⟨c28, he⟩ | ⟨c28, he⟩
 ·
  refine QE rfl c28 <| Q0 <| Xy (p := 5) (tl := [5]) [[], [], [], [(0, some 20)], [(1, some 21)]] [some 20, some 21, some 22, none, none] (fctF (.is (Qc y11.1 v22) :: .is (Qc y11.1 v22) :: .is (errV 104 y11.2) :: .itm (fun H itq_ => itq_ = bx b3 (QM y11.1 v22) 24) (by rintro _ _ _ hle rfl; exact rfl) :: .itm (fun H itq_ => itq_ = bx b4 (QM y11.1 v22) 24) (by rintro _ _ _ hle rfl; exact rfl) :: [])) (fun m_ => bx b21 (QM y11.1 v22) 24 :: m_ 4 :: m_ 3 :: bx b2 (QZ b v2_b v3_b) 26 :: bx b1 (QZ a v0_a v1_a) 26 :: L) (fun i_ => if i_ = 3 then bx b3 [.bool false, .slice none 0 0] 24 else if i_ = 4 then bx b4 [.bool false, .slice none 0 0] 24 else none) mixed (by kernel_rfl) (by kernel_rfl) rfl (Xn (by kernel_rfl)) ⟨(fun H' m_ hH hm_ hu_ => dn <| s_d (m_ 0) rfl (QG (v := (Qc y11.1 v22)) ty24 rfl .here rfl rfl rfl rfl) (by exact rfl) rfl), (fun H' m_ hH hm_ hu_ => dn <| s_d (m_ 1) rfl (QG (v := (Qc y11.1 v22)) ty24 rfl .here rfl rfl rfl rfl) (by exact rfl) rfl), (fun H' m_ hH hm_ hu_ => dn <| s_d (m_ 2) rfl (QW (v := errV 104 y11.2) rfl) (by exact rfl) rfl), (by rintro H' m_ hH hm_ hu_ _ rfl; exact dn <| Zu (bx b3 (QM y11.1 v22) 24) hm_ rfl (YJ (v := (Qc y11.1 v22)) sz24 rfl rfl rfl rfl (oc rfl (oc (h23.one) oz)) .h2 u2) rfl (by exact ⟨rfl, rfl⟩)), (by rintro H' m_ hH hm_ hu_ _ rfl; exact dn <| Zu (bx b4 (QM y11.1 v22) 24) hm_ rfl (YJ (v := (Qc y11.1 v22)) sz24 rfl rfl rfl rfl (oc rfl (oc (h23.one) oz)) .h1 u2) rfl (by exact ⟨rfl, rfl⟩)), trivial⟩ ?_
  intro H29 e30
  rintro _ _ rfl _ _ rfl _ _ rfl _ _ ⟨rfl, rfl⟩ _ _ ⟨rfl, rfl⟩
  refine w_it (L' := bx b21 (QM y11.1 v22) 24 :: bx b4 (QM y11.1 v22) 24 :: bx b3 (QM y11.1 v22) 24 :: bx b2 (QZ b v2_b v3_b) 26 :: bx b1 (QZ a v0_a v1_a) 26 :: L) rfl <| wA (errV 104 y11.2) rfl rfl <| Qb ?_
  obtain rfl := sj he
  refine Qn fn_106 rs_106 (.box (v := (Qc y11.1 v22)) rfl ty24 rfl rfl .h2 rfl (.box (v := (Qc y11.1 v22)) rfl ty24 rfl rfl .h1 rfl (.tmp (v := errV 104 y11.2) rfl .nil))) <| ⟨⟨[_, _, _, _, _], rfl⟩, hle.trans (e27.trans e30), ⟨v22, v22, rfl, (h23.mono e30), (h23.mono e30)⟩⟩
 ·
  refine QF rfl (Bool.eq_false_iff.2 c28) <| QH <| Q0 <| bK he fun y31 hy32 he => bK he fun y37 hy38 he => ?_
  refine Yx (?_)
  refine Xy (p := 10) (tl := [10]) [[], [(0, some 24)], [], [(2, some 26)], [(1, some 25), (3, some 27)], [(4, some 28)], [(5, some 23)], [(5, some 23)], [], [(6, some 29), (8, some 9)]] [some 24, some 25, some 26, some 27, some 28, some 23, some 29, some 30, some 9, none] (fctF (.is (pt b2) :: .is (Qc b.f_n v2_b) :: .is (Qd a v0_a v1_a) :: .of (Qy.out y31) (Qy.out_mono _) :: .of (Xt.out y37) (Xt.out_mono _) :: .of (fun H v => ∃ v43, v = .tuple ⟨[(Qc y37.1 v43), errV 104 y37.2]⟩ ∧ Ro kU32 H v43 y37.1.f_w) (by rintro _ _ _ hle ⟨v43, rfl, h44⟩; exact ⟨v43, rfl, h44.mono hle⟩) :: .of (fun H v => ∃ v45, v = (Qc y37.1 v45) ∧ Ro kU32 H v45 y37.1.f_w) (by rintro _ _ _ hle ⟨v45, rfl, h46⟩; exact ⟨v45, rfl, h46.mono hle⟩) :: .is (errV 104 y37.2) :: .box 24 [.bool false, .slice none 0 0] :: .st 8 (fun H bq_ itq_ => ∃ v48, itq_ = bx bq_ (QM y37.1 v48) 24 ∧ Ro kU32 H v48 y37.1.f_w) (by rintro _ _ _ _ hle ⟨v48, rfl, h49⟩; exact ⟨v48, rfl, h49.mono hle⟩) :: [])) (fun m_ => pk (m_ 9) (m_ 8) :: bx b21 (QM y11.1 v22) 24 :: bx b4 [.bool false, .slice none 0 0] 24 :: bx b3 [.bool false, .slice none 0 0] 24 :: bx b2 (QZ b v2_b v3_b) 26 :: bx b1 (QZ a v0_a v1_a) 26 :: L) (fun _ => none) mixed (by kernel_rfl) (by kernel_rfl) rfl (Xn (by kernel_rfl)) ⟨(fun H' m_ hH hm_ hu_ => dn <| s_d (m_ 0) rfl (Q9 (o' := 0) Tryz.underlying26 rfl sz24 rfl rfl rfl) (by exact rfl) rfl), (by rintro H' m_ hH hm_ hu_ _ rfl; exact dn <| s_d (m_ 1) rfl (QG (v := (Qc b.f_n v2_b)) ty24 rfl .h4 rfl rfl rfl rfl) (by exact rfl) rfl), (fun H' m_ hH hm_ hu_ => dn <| s_d (m_ 2) rfl (QG (v := (Qd a v0_a v1_a)) ty26 rfl .h5 rfl rfl rfl rfl) (by exact rfl) rfl), (by rintro H' m_ hH hm_ hu_ _ rfl; exact dn <| s_k (m_ 3) rfl (Qm co78 (vs := [(Qd a v0_a v1_a)]) rfl (Qy.calls k (a := a) hy32 (h0_a.mono (e27.trans hH)) (h1_a.mono (e27.trans hH)))) rfl (by rintro v_ H_ _ ⟨rfl, e_, h_⟩; exact ⟨rfl, e_, h_⟩)), (by rintro H' m_ hH hm_ hu_ _ rfl _ ⟨v35, rfl, h36⟩; exact dn <| s_k (m_ 4) rfl (Qm co128 (vs := [(Qc b.f_n v2_b), (Qc y31 v35)]) rfl (Xt.calls k (a := b.f_n) (b := y31) hy38 (h2_b.mono (e27.trans hH)) h36)) rfl (by rintro v_ H_ _ ⟨rfl, e_, h_⟩; exact ⟨rfl, e_, h_⟩)), (by rintro H' m_ hH hm_ hu_ _ ⟨v41, rfl, h42⟩; exact dn <| s_d (m_ 5) rfl (QW (v := .tuple ⟨[(Qc y37.1 v41), errV 104 y37.2]⟩) rfl) (by exact ⟨v41, rfl, h42⟩) rfl), (by rintro H' m_ hH hm_ hu_ _ ⟨v43, rfl, h44⟩; exact dn <| s_d (m_ 6) rfl (Q6 rfl rfl) (by exact ⟨v43, rfl, h44⟩) rfl), (by rintro H' m_ hH hm_ hu_ _ ⟨v43, rfl, h44⟩; exact dn <| s_d (m_ 7) rfl (Q6 rfl rfl) (by exact rfl) rfl), (fun H' m_ hH hm_ hu_ => dn <| YV hm_ rfl rfl (YI zr24 rfl) rfl (fun _ => (ZB (hu_ 9 (by kernel_rfl)))) (by exact fun b_ => ⟨b_, rfl, rfl⟩)), (by rintro H' m_ hH hm_ hu_ _ ⟨v45, rfl, h46⟩ _ ⟨b47, rfl, hb47_⟩; exact dn <| Y3 (Λ' := fun z_ => z_ :: bx b21 (QM y11.1 v22) 24 :: bx b4 [.bool false, .slice none 0 0] 24 :: bx b3 [.bool false, .slice none 0 0] 24 :: bx b2 (QZ b v2_b v3_b) 26 :: bx b1 (QZ a v0_a v1_a) 26 :: L) (bx b47 (QM y37.1 v45) 24) hm_ rfl hb47_ rfl (YJ (v := (Qc y37.1 v45)) sz24 rfl rfl rfl rfl (oc rfl (oc (h46.one) oz)) .here u2) rfl rfl (by exact ⟨rfl, v45, congrArg (fun b_ => (some (b_, Obj.cells ⟨(QM y37.1 v45)⟩ 24 (0, 0)) : Item')) (ZD hb47_).symm, h46⟩)), trivial⟩ ?_
  intro H52 e53
  rintro _ _ rfl _ _ rfl _ _ rfl _ _ ⟨v35, rfl, h36⟩ _ _ ⟨v41, rfl, h42⟩ _ _ ⟨v43, rfl, h44⟩ _ _ ⟨v45, rfl, h46⟩ _ _ rfl _ _ ⟨b47, rfl, rfl⟩ _ i50 ⟨rfl, v48, h51, h49⟩
  replace h51 : i50 = bx b47 (QM y37.1 v48) 24 := h51
  subst h51
  refine w_it (L' := bx b47 (QM y37.1 v48) 24 :: bx b21 (QM y11.1 v22) 24 :: bx b4 [.bool false, .slice none 0 0] 24 :: bx b3 [.bool false, .slice none 0 0] 24 :: bx b2 (QZ b v2_b v3_b) 26 :: bx b1 (QZ a v0_a v1_a) 26 :: L) rfl <| wA (errV 104 y37.2) rfl rfl <| wE <| Xy (p := 5) (tl := [5]) [[], [], [], [(0, some 31)], [(1, some 32)]] [some 31, some 32, some 33, none, none] (fctF (.is (Qc y11.1 v22) :: .is (Qc y37.1 v48) :: .is (errV 104 y37.2) :: .itm (fun H itq_ => itq_ = bx b3 (QM y11.1 v22) 24) (by rintro _ _ _ hle rfl; exact rfl) :: .itm (fun H itq_ => itq_ = bx b4 (QM y37.1 v48) 24) (by rintro _ _ _ hle rfl; exact rfl) :: [])) (fun m_ => bx b47 (QM y37.1 v48) 24 :: bx b21 (QM y11.1 v22) 24 :: m_ 4 :: m_ 3 :: bx b2 (QZ b v2_b v3_b) 26 :: bx b1 (QZ a v0_a v1_a) 26 :: L) (fun i_ => if i_ = 3 then bx b3 [.bool false, .slice none 0 0] 24 else if i_ = 4 then bx b4 [.bool false, .slice none 0 0] 24 else none) mixed (by kernel_rfl) (by kernel_rfl) rfl (Xn (by kernel_rfl)) ⟨(fun H' m_ hH hm_ hu_ => dn <| s_d (m_ 0) rfl (QG (v := (Qc y11.1 v22)) ty24 rfl .h1 rfl rfl rfl rfl) (by exact rfl) rfl), (fun H' m_ hH hm_ hu_ => dn <| s_d (m_ 1) rfl (QG (v := (Qc y37.1 v48)) ty24 rfl .here rfl rfl rfl rfl) (by exact rfl) rfl), (fun H' m_ hH hm_ hu_ => dn <| s_d (m_ 2) rfl (QW (v := errV 104 y37.2) rfl) (by exact rfl) rfl), (by rintro H' m_ hH hm_ hu_ _ rfl; exact dn <| Zu (bx b3 (QM y11.1 v22) 24) hm_ rfl (YJ (v := (Qc y11.1 v22)) sz24 rfl rfl rfl rfl (oc rfl (oc (h23.one) oz)) .h3 u2) rfl (by exact ⟨rfl, rfl⟩)), (by rintro H' m_ hH hm_ hu_ _ rfl; exact dn <| Zu (bx b4 (QM y37.1 v48) 24) hm_ rfl (YJ (v := (Qc y37.1 v48)) sz24 rfl rfl rfl rfl (oc rfl (oc (h49.one) oz)) .h2 u2) rfl (by exact ⟨rfl, rfl⟩)), trivial⟩ ?_
  intro H54 e55
  rintro _ _ rfl _ _ rfl _ _ rfl _ _ ⟨rfl, rfl⟩ _ _ ⟨rfl, rfl⟩
  refine w_it (L' := bx b47 (QM y37.1 v48) 24 :: bx b21 (QM y11.1 v22) 24 :: bx b4 (QM y37.1 v48) 24 :: bx b3 (QM y11.1 v22) 24 :: bx b2 (QZ b v2_b v3_b) 26 :: bx b1 (QZ a v0_a v1_a) 26 :: L) rfl <| wA (errV 104 y37.2) rfl rfl <| Qb ?_
  obtain rfl := sj he
  refine Qn fn_106 rs_106 (.box (v := (Qc y11.1 v22)) rfl ty24 rfl rfl .h3 rfl (.box (v := (Qc y37.1 v48)) rfl ty24 rfl rfl .h2 rfl (.tmp (v := errV 104 y37.2) rfl .nil))) <| ⟨⟨[_, _, _, _, _, _], rfl⟩, hle.trans ((e27.trans e53).trans e55), ⟨v22, v48, rfl, (h23.mono (e53.trans e55)), (h49.mono e55)⟩⟩
noncomputable def QO.C : Code := (Tryz.f76.body).getD .skip
def QO.out (r : Qg × (Option Int)) (H : Hp) (v : Value) : Prop := ∃ v0 v1, v = .tuple ⟨[(Qd r.1 v0 v1), errV 104 r.2]⟩ ∧ Ro kU32 H v0 r.1.f_n.f_w ∧ Ro kU32 H v1 r.1.f_d.f_w
abbrev QO.R (H0 : Hp) (L : Items) (r : Qg × (Option Int)) := fR H0 L (QO.out r)
noncomputable def QO.j1 (k : Nat) (a_0 : Bool) (a_1 : List Int) (a_2 : Bool) (a_3 : List Int) (b_0 : Bool) (b_1 : List Int) (b_2 : Bool) (b_3 : List Int) (x_0 : Bool) (x_1 : List Int) (y_0 : Bool) (y_1 : List Int) : Option (Qg × (Option Int)) := (Xc.f k ⟨x_0, x_1⟩ ⟨y_0, y_1⟩).bind fun y22 => if y22.2.isSome = true then (some (⟨⟨false, []⟩, ⟨false, []⟩⟩, y22.2)) else ((Qy.f k ⟨⟨a_0, a_1⟩, ⟨a_2, a_3⟩⟩).bind fun y30 => (Qy.f k ⟨⟨b_0, b_1⟩, ⟨b_2, b_3⟩⟩).bind fun y36 => (Xt.f k y30 y36).bind fun y42 => if y42.2.isSome = true then (some (⟨⟨false, []⟩, ⟨false, []⟩⟩, y42.2)) else ((Xz.f k y22.1 y42.1).bind fun y60 => some (y60.1, y60.2)))
noncomputable def QO.f (k : Nat) (a b : Qg) (less : Bool) : Option (Qg × (Option Int)) := (XN.f k a b).bind fun y4 => if y4.2.2.isSome = true then (some (⟨⟨false, []⟩, ⟨false, []⟩⟩, y4.2.2)) else (if less = true then ((Xv.f k y4.2.1).bind fun y16 => QO.j1 k a.f_n.f_neg a.f_n.f_w a.f_d.f_neg a.f_d.f_w b.f_n.f_neg b.f_n.f_w b.f_d.f_neg b.f_d.f_w y4.1.f_neg y4.1.f_w y16.f_neg y16.f_w) else (QO.j1 k a.f_n.f_neg a.f_n.f_w a.f_d.f_neg a.f_d.f_w b.f_n.f_neg b.f_n.f_w b.f_d.f_neg b.f_d.f_w y4.1.f_neg y4.1.f_w y4.2.1.f_neg y4.2.1.f_w))
theorem QO.j1_mono {k : Nat} : ∀ y0 y1 y2 y3 y4 y5 y6 y7 y8 y9 y10 y11, LeO (QO.j1 k y0 y1 y2 y3 y4 y5 y6 y7 y8 y9 y10 y11) (QO.j1 (k + 1) y0 y1 y2 y3 y4 y5 y6 y7 y8 y9 y10 y11) := fun _ _ _ _ _ _ _ _ _ _ _ _ => (LeO.bind (Xc.mono k _ _) fun _ => LeO.ite (LeO.refl _) (LeO.bind (Qy.mono k _) fun _ => LeO.bind (Qy.mono k _) fun _ => LeO.bind (Xt.mono k _ _) fun _ => LeO.ite (LeO.refl _) (LeO.bind (Xz.mono k _ _) fun _ => LeO.refl _)))
theorem QO.mono : ∀ k y0 y1 y2, LeO (QO.f k y0 y1 y2) (QO.f (k + 1) y0 y1 y2) := fun k _ _ _ => by unfold QO.f; exact (LeO.bind (XN.mono k _ _) fun _ => LeO.ite (LeO.refl _) (LeO.ite (LeO.bind (Xv.mono k _) fun _ => QO.j1_mono (k := k)  _ _ _ _ _ _ _ _ _ _ _ _) (QO.j1_mono (k := k)  _ _ _ _ _ _ _ _ _ _ _ _)))
noncomputable def QO.Kj1 : List Item := .code (seqR (seqR (seqR (seqR QO.C)))) :: []
theorem QO.j1_ok {k : Nat} {H0 H : Hp} {L : Items} {r : Qg × (Option Int)} {jk_ : Nat → Value} {a_0 : Bool} {a_1 : List Int} {a_2 : Bool} {a_3 : List Int} {b_0 : Bool} {b_1 : List Int} {b_2 : Bool} {b_3 : List Int} {x_0 : Bool} {x_1 : List Int} {y_0 : Bool} {y_1 : List Int} {v_a_1 v_a_3 v_b_1 v_b_3 v_x_1 v_y_1 : Value} {b_a b_b b_t6 b_x b_y : Nat} (hle : H0.le H) (he : QO.j1 k a_0 a_1 a_2 a_3 b_0 b_1 b_2 b_3 x_0 x_1 y_0 y_1 = some r) (h_a_1 : Ro kU32 H v_a_1 a_1) (h_a_3 : Ro kU32 H v_a_3 a_3) (h_b_1 : Ro kU32 H v_b_1 b_1) (h_b_3 : Ro kU32 H v_b_3 b_3) (h_x_1 : Ro kU32 H v_x_1 x_1) (h_y_1 : Ro kU32 H v_y_1 y_1) : Wp Tryz.prog 76 54 QO.Kj1 (upd (upd (upd (upd (upd (upd jk_ 3 (pt b_a)) 4 (pt b_b)) 6 (pt b_t6)) 7 (errV 104 none)) 8 (pt b_x)) 9 (pt b_y)) H (bx b_y [.bool y_0, v_y_1] 24 :: bx b_x [.bool x_0, v_x_1] 24 :: bx b_t6 z0c 26 :: bx b_b [.bool b_0, v_b_1, .bool b_2, v_b_3] 26 :: bx b_a [.bool a_0, v_a_1, .bool a_2, v_a_3] 26 :: L) (QO.R H0 L r) := by
 unfold QO.j1 at he
 unfold QO.Kj1
 refine wR rfl <| wL (.agg ⟨[.bool x_0, v_x_1]⟩) ty24 rfl rfl .h1 rfl rfl <| wL (.agg ⟨[.bool y_0, v_y_1]⟩) ty24 rfl rfl .here rfl rfl <| bK he fun y22 hy23 he => w_a rfl (Qm co127 (vs := [.agg ⟨[.bool x_0, v_x_1]⟩, .agg ⟨[.bool y_0, v_y_1]⟩]) rfl (Xc.calls k (a := ⟨x_0, x_1⟩) (b := ⟨y_0, y_1⟩) hy23 h_x_1 h_y_1)) ?_
 rintro _ H24 _ ⟨rfl, e25, v26, rfl, h27⟩
 refine wM (.tuple ⟨[(Qc y22.1 v26), errV 104 y22.2]⟩) rfl rfl <| w_d rfl (Q6 rfl rfl) <| w_d rfl (Q6 rfl rfl) <| wN zr24 rfl rfl fun b28 => wS (Qc y22.1 v26) sz24 rfl rfl rfl rfl rfl (XD h27) .here u2 <| wA (errV 104 y22.2) rfl rfl <| wE <| wR rfl <| wM (errV 104 y22.2) rfl rfl <| w_d rfl (Yp (e := y22.2) Tryz.underlying30 rfl) ?_
 refine Qb ?_
 rcases its he with ⟨c29, he⟩ | ⟨c29, he⟩
 ·
  refine QE rfl c29 <| wR rfl <| w_d rfl (XF (cs' := z0c) Tryz.underlying26 zr26 rfl (by kernel_rfl) (parts := []) rfl .nil) <| wM (errV 104 y22.2) rfl rfl <| wS (.agg ⟨z0c⟩) sz26 rfl rfl rfl rfl rfl (oc rfl (oc rfl (oc rfl (oc rfl oz)))) .h3 u4 <| wA (errV 104 y22.2) rfl rfl <| Qb ?_
  obtain rfl := sj he
  refine Qn fn_76 rs_76 (.box (v := .agg ⟨z0c⟩) rfl ty26 rfl rfl .h3 rfl (.tmp (v := errV 104 y22.2) rfl .nil)) <| ⟨⟨[_, _, _, _, _, _], rfl⟩, hle.trans e25, ⟨.slice none 0 0, .slice none 0 0, rfl, (Xg _ _), (Xg _ _)⟩⟩
 ·
  refine QF rfl (Bool.eq_false_iff.2 c29) <| QH <| Q0 <| bK he fun y30 hy31 he => bK he fun y36 hy37 he => bK he fun y42 hy43 he => ?_
  refine Yx (?_)
  refine Xy (p := 10) (tl := [10]) [[], [(0, some 38)], [], [(2, some 40)], [(1, some 39), (3, some 41)], [(4, some 42)], [(5, some 37)], [(5, some 37)], [], [(6, some 43), (8, some 12)]] [some 38, some 39, some 40, some 41, some 42, some 37, some 43, some 44, some 12, none] (fctF (.is (.agg ⟨[.bool a_0, v_a_1, .bool a_2, v_a_3]⟩) :: .of (Qy.out y30) (Qy.out_mono _) :: .is (.agg ⟨[.bool b_0, v_b_1, .bool b_2, v_b_3]⟩) :: .of (Qy.out y36) (Qy.out_mono _) :: .of (Xt.out y42) (Xt.out_mono _) :: .of (fun H v => ∃ v48, v = .tuple ⟨[(Qc y42.1 v48), errV 104 y42.2]⟩ ∧ Ro kU32 H v48 y42.1.f_w) (by rintro _ _ _ hle ⟨v48, rfl, h49⟩; exact ⟨v48, rfl, h49.mono hle⟩) :: .of (fun H v => ∃ v50, v = (Qc y42.1 v50) ∧ Ro kU32 H v50 y42.1.f_w) (by rintro _ _ _ hle ⟨v50, rfl, h51⟩; exact ⟨v50, rfl, h51.mono hle⟩) :: .is (errV 104 y42.2) :: .box 24 [.bool false, .slice none 0 0] :: .st 8 (fun H bq_ itq_ => ∃ v53, itq_ = bx bq_ (QM y42.1 v53) 24 ∧ Ro kU32 H v53 y42.1.f_w) (by rintro _ _ _ _ hle ⟨v53, rfl, h54⟩; exact ⟨v53, rfl, h54.mono hle⟩) :: [])) (fun m_ => pk (m_ 9) (m_ 8) :: bx b28 (QM y22.1 v26) 24 :: bx b_y [.bool y_0, v_y_1] 24 :: bx b_x [.bool x_0, v_x_1] 24 :: bx b_t6 z0c 26 :: bx b_b [.bool b_0, v_b_1, .bool b_2, v_b_3] 26 :: bx b_a [.bool a_0, v_a_1, .bool a_2, v_a_3] 26 :: L) (fun _ => none) mixed (by kernel_rfl) (by kernel_rfl) rfl (Xn (by kernel_rfl)) ⟨(fun H' m_ hH hm_ hu_ => dn <| s_d (m_ 0) rfl (QG (v := .agg ⟨[.bool a_0, v_a_1, .bool a_2, v_a_3]⟩) ty26 rfl .h6 rfl rfl rfl rfl) (by exact rfl) rfl), (by rintro H' m_ hH hm_ hu_ _ rfl; exact dn <| s_k (m_ 1) rfl (Qm co78 (vs := [.agg ⟨[.bool a_0, v_a_1, .bool a_2, v_a_3]⟩]) rfl (Qy.calls k (a := ⟨⟨a_0, a_1⟩, ⟨a_2, a_3⟩⟩) hy31 (h_a_1.mono (e25.trans hH)) (h_a_3.mono (e25.trans hH)))) rfl (by rintro v_ H_ _ ⟨rfl, e_, h_⟩; exact ⟨rfl, e_, h_⟩)), (fun H' m_ hH hm_ hu_ => dn <| s_d (m_ 2) rfl (QG (v := .agg ⟨[.bool b_0, v_b_1, .bool b_2, v_b_3]⟩) ty26 rfl .h5 rfl rfl rfl rfl) (by exact rfl) rfl), (by rintro H' m_ hH hm_ hu_ _ rfl; exact dn <| s_k (m_ 3) rfl (Qm co78 (vs := [.agg ⟨[.bool b_0, v_b_1, .bool b_2, v_b_3]⟩]) rfl (Qy.calls k (a := ⟨⟨b_0, b_1⟩, ⟨b_2, b_3⟩⟩) hy37 (h_b_1.mono (e25.trans hH)) (h_b_3.mono (e25.trans hH)))) rfl (by rintro v_ H_ _ ⟨rfl, e_, h_⟩; exact ⟨rfl, e_, h_⟩)), (by rintro H' m_ hH hm_ hu_ _ ⟨v34, rfl, h35⟩ _ ⟨v40, rfl, h41⟩; exact dn <| s_k (m_ 4) rfl (Qm co128 (vs := [(Qc y30 v34), (Qc y36 v40)]) rfl (Xt.calls k (a := y30) (b := y36) hy43 h35 h41)) rfl (by rintro v_ H_ _ ⟨rfl, e_, h_⟩; exact ⟨rfl, e_, h_⟩)), (by rintro H' m_ hH hm_ hu_ _ ⟨v46, rfl, h47⟩; exact dn <| s_d (m_ 5) rfl (QW (v := .tuple ⟨[(Qc y42.1 v46), errV 104 y42.2]⟩) rfl) (by exact ⟨v46, rfl, h47⟩) rfl), (by rintro H' m_ hH hm_ hu_ _ ⟨v48, rfl, h49⟩; exact dn <| s_d (m_ 6) rfl (Q6 rfl rfl) (by exact ⟨v48, rfl, h49⟩) rfl), (by rintro H' m_ hH hm_ hu_ _ ⟨v48, rfl, h49⟩; exact dn <| s_d (m_ 7) rfl (Q6 rfl rfl) (by exact rfl) rfl), (fun H' m_ hH hm_ hu_ => dn <| YV hm_ rfl rfl (YI zr24 rfl) rfl (fun _ => (ZB (hu_ 9 (by kernel_rfl)))) (by exact fun b_ => ⟨b_, rfl, rfl⟩)), (by rintro H' m_ hH hm_ hu_ _ ⟨v50, rfl, h51⟩ _ ⟨b52, rfl, hb52_⟩; exact dn <| Y3 (Λ' := fun z_ => z_ :: bx b28 (QM y22.1 v26) 24 :: bx b_y [.bool y_0, v_y_1] 24 :: bx b_x [.bool x_0, v_x_1] 24 :: bx b_t6 z0c 26 :: bx b_b [.bool b_0, v_b_1, .bool b_2, v_b_3] 26 :: bx b_a [.bool a_0, v_a_1, .bool a_2, v_a_3] 26 :: L) (bx b52 (QM y42.1 v50) 24) hm_ rfl hb52_ rfl (YJ (v := (Qc y42.1 v50)) sz24 rfl rfl rfl rfl (oc rfl (oc (h51.one) oz)) .here u2) rfl rfl (by exact ⟨rfl, v50, congrArg (fun b_ => (some (b_, Obj.cells ⟨(QM y42.1 v50)⟩ 24 (0, 0)) : Item')) (ZD hb52_).symm, h51⟩)), trivial⟩ ?_
  intro H57 e58
  rintro _ _ rfl _ _ ⟨v34, rfl, h35⟩ _ _ rfl _ _ ⟨v40, rfl, h41⟩ _ _ ⟨v46, rfl, h47⟩ _ _ ⟨v48, rfl, h49⟩ _ _ ⟨v50, rfl, h51⟩ _ _ rfl _ _ ⟨b52, rfl, rfl⟩ _ i55 ⟨rfl, v53, h56, h54⟩
  replace h56 : i55 = bx b52 (QM y42.1 v53) 24 := h56
  subst h56
  refine w_it (L' := bx b52 (QM y42.1 v53) 24 :: bx b28 (QM y22.1 v26) 24 :: bx b_y [.bool y_0, v_y_1] 24 :: bx b_x [.bool x_0, v_x_1] 24 :: bx b_t6 z0c 26 :: bx b_b [.bool b_0, v_b_1, .bool b_2, v_b_3] 26 :: bx b_a [.bool a_0, v_a_1, .bool a_2, v_a_3] 26 :: L) rfl <| wA (errV 104 y42.2) rfl rfl <| wE <| wR rfl <| wM (errV 104 y42.2) rfl rfl <| w_d rfl (Yp (e := y42.2) Tryz.underlying30 rfl) <| Qb ?_
  rcases its he with ⟨c59, he⟩ | ⟨c59, he⟩
  ·
   refine QE rfl c59 <| wR rfl <| w_d rfl (XF (cs' := z0c) Tryz.underlying26 zr26 rfl (by kernel_rfl) (parts := []) rfl .nil) <| wM (errV 104 y42.2) rfl rfl <| wS (.agg ⟨z0c⟩) sz26 rfl rfl rfl rfl rfl (oc rfl (oc rfl (oc rfl (oc rfl oz)))) .h4 u4 <| wA (errV 104 y42.2) rfl rfl <| Qb ?_
   obtain rfl := sj he
   refine Qn fn_76 rs_76 (.box (v := .agg ⟨z0c⟩) rfl ty26 rfl rfl .h4 rfl (.tmp (v := errV 104 y42.2) rfl .nil)) <| ⟨⟨[_, _, _, _, _, _, _], rfl⟩, hle.trans (e25.trans e58), ⟨.slice none 0 0, .slice none 0 0, rfl, (Xg _ _), (Xg _ _)⟩⟩
  ·
   refine QF rfl (Bool.eq_false_iff.2 c59) <| QH <| wR rfl <| wL (Qc y22.1 v26) ty24 rfl rfl .h1 rfl rfl <| wL (Qc y42.1 v53) ty24 rfl rfl .here rfl rfl <| bK he fun y60 hy61 he => w_a rfl (Qm co73 (vs := [(Qc y22.1 v26), (Qc y42.1 v53)]) rfl (Xz.calls k (n := y22.1) (d := y42.1) hy61 (h27.mono e58) h54)) ?_
   rintro _ H62 _ ⟨rfl, e63, v64, v66, rfl, h65, h67⟩
   refine w_d rfl (Q6 rfl rfl) <| w_d rfl (Q6 rfl rfl) <| wS (Qd y60.1 v64 v66) sz26 rfl rfl rfl rfl rfl (XV h65 h67) .h4 u4 <| wA (errV 104 y60.2) rfl rfl <| Qb ?_
   obtain rfl := sj he
   refine Qn fn_76 rs_76 (.box (v := (Qd y60.1 v64 v66)) rfl ty26 rfl rfl .h4 rfl (.tmp (v := errV 104 y60.2) rfl .nil)) <| ⟨⟨[_, _, _, _, _, _, _], rfl⟩, hle.trans ((e25.trans e58).trans e63), ⟨v64, v66, rfl, h65, h67⟩⟩
theorem QO.calls (k : Nat) {H : Hp} {L : Items} {a b : Qg} {less : Bool} {v0_a v1_a v2_b v3_b : Value} {r : Qg × (Option Int)} (he : QO.f k a b less = some r) (h0_a : Ro kU32 H v0_a a.f_n.f_w) (h1_a : Ro kU32 H v1_a a.f_d.f_w) (h2_b : Ro kU32 H v2_b b.f_n.f_w) (h3_b : Ro kU32 H v3_b b.f_d.f_w) : Ct Tryz.prog 76 ⟨[(Qd a v0_a v1_a), (Qd b v2_b v3_b), .bool less]⟩ H L (cR H L (QO.out r)) := by
 refine XO (O := QO.out r) ?_
 have hle : H.le H := .refl _
 unfold QO.f at he
 refine QV (args := [_, _, _]) fn_76 rfl nt_76 rfl <| wR rfl <| wB (Qd a v0_a v1_a) rfl rfl rfl <| fun b1 => wB (Qd b v2_b v3_b) rfl rfl rfl <| fun b2 => wN zr26 rfl rfl fun b3 => wA (errV 104 none) rfl rfl <| wQ rfl <| wL (Qd a v0_a v1_a) ty26 rfl rfl .h2 rfl rfl <| wL (Qd b v2_b v3_b) ty26 rfl rfl .h1 rfl rfl ?_
 refine bK he fun y4 hy5 he => w_a rfl (Qm co106 (vs := [(Qd a v0_a v1_a), (Qd b v2_b v3_b)]) rfl (XN.calls k (a := a) (b := b) hy5 h0_a h1_a h2_b h3_b)) ?_
 rintro _ H6 _ ⟨rfl, e7, v8, v10, rfl, h9, h11⟩
 refine wM (.tuple ⟨[(Qc y4.1 v8), (Qc y4.2.1 v10), errV 104 y4.2.2]⟩) rfl rfl <| w_d rfl (Q6 rfl rfl) <| w_d rfl (Q6 rfl rfl) <| w_d rfl (Q6 rfl rfl) <| wN zr24 rfl rfl fun b12 => wN zr24 rfl rfl fun b13 => wS (Qc y4.1 v8) sz24 rfl rfl rfl rfl rfl (XD h9) .h1 u2 <| wS (Qc y4.2.1 v10) sz24 rfl rfl rfl rfl rfl (XD h11) .here u2 <| wA (errV 104 y4.2.2) rfl rfl <| wE <| Q0 ?_
 refine QU rfl <| wM (errV 104 y4.2.2) rfl rfl <| w_d rfl (Yp (e := y4.2.2) Tryz.underlying30 rfl) <| Qb ?_
 rcases its he with ⟨c14, he⟩ | ⟨c14, he⟩
 ·
  refine QE rfl c14 <| wR rfl <| w_d rfl (XF (cs' := z0c) Tryz.underlying26 zr26 rfl (by kernel_rfl) (parts := []) rfl .nil) <| wM (errV 104 y4.2.2) rfl rfl <| wS (.agg ⟨z0c⟩) sz26 rfl rfl rfl rfl rfl (oc rfl (oc rfl (oc rfl (oc rfl oz)))) .h2 u4 <| wA (errV 104 y4.2.2) rfl rfl <| Qb ?_
  obtain rfl := sj he
  refine Qn fn_76 rs_76 (.box (v := .agg ⟨z0c⟩) rfl ty26 rfl rfl .h2 rfl (.tmp (v := errV 104 y4.2.2) rfl .nil)) <| ⟨⟨[_, _, _, _, _], rfl⟩, hle.trans e7, ⟨.slice none 0 0, .slice none 0 0, rfl, (Xg _ _), (Xg _ _)⟩⟩
 ·
  refine QF rfl (Bool.eq_false_iff.2 c14) <| QH <| Q0 <| wR rfl <| wM (.bool less) rfl rfl <| Qb ?_
  rcases its he with ⟨c15, he⟩ | ⟨c15, he⟩
  ·
   refine QE rfl c15 <| QU rfl <| wL (Qc y4.2.1 v10) ty24 rfl rfl .here rfl rfl <| bK he fun y16 hy17 he => w_a rfl (Qm co121 (vs := [(Qc y4.2.1 v10)]) rfl (Xv.calls k (a := y4.2.1) hy17 h11)) ?_
   rintro _ H18 _ ⟨rfl, e19, v20, rfl, h21⟩
   refine wS (Qc y16 v20) sz24 rfl rfl rfl rfl rfl (XD h21) .here u2 <| Qb <| w_sl 3 (pt b1) rfl <| w_sl 4 (pt b2) rfl <| w_sl 6 (pt b3) rfl <| w_sl 7 (errV 104 none) rfl <| w_sl 8 (pt b12) rfl <| w_sl 9 (pt b13) rfl <| QO.j1_ok (k := k) (hle.trans (e7.trans e19)) he (h0_a.mono (e7.trans e19)) (h1_a.mono (e7.trans e19)) (h2_b.mono (e7.trans e19)) (h3_b.mono (e7.trans e19)) (h9.mono e19) h21
  ·
   refine QF rfl (Bool.eq_false_iff.2 c15) <| QH <| w_sl 3 (pt b1) rfl <| w_sl 4 (pt b2) rfl <| w_sl 6 (pt b3) rfl <| w_sl 7 (errV 104 none) rfl <| w_sl 8 (pt b12) rfl <| w_sl 9 (pt b13) rfl <| QO.j1_ok (k := k) (hle.trans e7) he (h0_a.mono e7) (h1_a.mono e7) (h2_b.mono e7) (h3_b.mono e7) h9 h11
noncomputable def X0.C : Code := (Tryz.f23.body).getD .skip
def X0.out (r : Qg × (Option Int)) (H : Hp) (v : Value) : Prop := ∃ v0 v1, v = .tuple ⟨[(Qd r.1 v0 v1), errV 104 r.2]⟩ ∧ Ro kU32 H v0 r.1.f_n.f_w ∧ Ro kU32 H v1 r.1.f_d.f_w
noncomputable def X0.f (k : Nat) (a b : Qg) : Option (Qg × (Option Int)) := (QO.f k a b false).bind fun y4 => some (y4.1, y4.2)
theorem X0.mono : ∀ k y0 y1, LeO (X0.f k y0 y1) (X0.f (k + 1) y0 y1) := fun k _ _ => by unfold X0.f; exact (LeO.bind (QO.mono k _ _ _) fun _ => LeO.refl _)
theorem X0.calls (k : Nat) {H : Hp} {L : Items} {a b : Qg} {v0_a v1_a v2_b v3_b : Value} {r : Qg × (Option Int)} (he : X0.f k a b = some r) (h0_a : Ro kU32 H v0_a a.f_n.f_w) (h1_a : Ro kU32 H v1_a a.f_d.f_w) (h2_b : Ro kU32 H v2_b b.f_n.f_w) (h3_b : Ro kU32 H v3_b b.f_d.f_w) : Ct Tryz.prog 23 ⟨[(Qd a v0_a v1_a), (Qd b v2_b v3_b)]⟩ H L (cR H L (X0.out r)) := by
 refine XO (O := X0.out r) ?_
 have hle : H.le H := .refl _
 unfold X0.f at he
 refine QV (args := [_, _]) fn_23 rfl nt_23 rfl <| wR rfl <| wB (Qd a v0_a v1_a) rfl rfl rfl <| fun b1 => wB (Qd b v2_b v3_b) rfl rfl rfl <| fun b2 => wN zr26 rfl rfl fun b3 => wA (errV 104 none) rfl rfl <| wQ rfl <| wL (Qd a v0_a v1_a) ty26 rfl rfl .h2 rfl rfl <| wL (Qd b v2_b v3_b) ty26 rfl rfl .h1 rfl rfl ?_
 refine bK he fun y4 hy5 he => w_a rfl (Qm co76 (vs := [(Qd a v0_a v1_a), (Qd b v2_b v3_b), .bool false]) rfl (QO.calls k (a := a) (b := b) hy5 h0_a h1_a h2_b h3_b)) ?_
 rintro _ H6 _ ⟨rfl, e7, v8, v10, rfl, h9, h11⟩
 refine w_d rfl (Q6 rfl rfl) <| w_d rfl (Q6 rfl rfl) <| wS (Qd y4.1 v8 v10) sz26 rfl rfl rfl rfl rfl (XV h9 h11) .here u4 <| wA (errV 104 y4.2) rfl rfl <| Qb ?_
 obtain rfl := sj he
 refine Qn fn_23 rs_23 (.box (v := (Qd y4.1 v8 v10)) rfl ty26 rfl rfl .here rfl (.tmp (v := errV 104 y4.2) rfl .nil)) <| ⟨⟨[_, _, _], rfl⟩, hle.trans e7, ⟨v8, v10, rfl, h9, h11⟩⟩
noncomputable def YE.C : Code := (Tryz.f96.body).getD .skip
def YE.out (r : Qg × (Option Int)) (H : Hp) (v : Value) : Prop := ∃ v0 v1, v = .tuple ⟨[(Qd r.1 v0 v1), errV 104 r.2]⟩ ∧ Ro kU32 H v0 r.1.f_n.f_w ∧ Ro kU32 H v1 r.1.f_d.f_w
noncomputable def YE.f (k : Nat) (a times more : Qg) : Option (Qg × (Option Int)) := (X6.f k a times).bind fun y5 => if y5.2.isSome = true then (some (⟨⟨false, []⟩, ⟨false, []⟩⟩, y5.2)) else ((X0.f k y5.1 more).bind fun y15 => some (y15.1, y15.2))
theorem YE.mono : ∀ k y0 y1 y2, LeO (YE.f k y0 y1 y2) (YE.f (k + 1) y0 y1 y2) := fun k _ _ _ => by unfold YE.f; exact (LeO.bind (X6.mono k _ _) fun _ => LeO.ite (LeO.refl _) (LeO.bind (X0.mono k _ _) fun _ => LeO.refl _))
theorem YE.calls (k : Nat) {H : Hp} {L : Items} {a times more : Qg} {v0_a v1_a v2_times v3_times v4_more v5_more : Value} {r : Qg × (Option Int)} (he : YE.f k a times more = some r) (h0_a : Ro kU32 H v0_a a.f_n.f_w) (h1_a : Ro kU32 H v1_a a.f_d.f_w) (h2_times : Ro kU32 H v2_times times.f_n.f_w) (h3_times : Ro kU32 H v3_times times.f_d.f_w) (h4_more : Ro kU32 H v4_more more.f_n.f_w) (h5_more : Ro kU32 H v5_more more.f_d.f_w) : Ct Tryz.prog 96 ⟨[(Qd a v0_a v1_a), (Qd times v2_times v3_times), (Qd more v4_more v5_more)]⟩ H L (cR H L (YE.out r)) := by
 refine XO (O := YE.out r) ?_
 have hle : H.le H := .refl _
 unfold YE.f at he
 refine QV (args := [_, _, _]) fn_96 rfl nt_96 rfl <| wR rfl <| wB (Qd a v0_a v1_a) rfl rfl rfl <| fun b1 => wB (Qd times v2_times v3_times) rfl rfl rfl <| fun b2 => wB (Qd more v4_more v5_more) rfl rfl rfl <| fun b3 => wN zr26 rfl rfl fun b4 => wA (errV 104 none) rfl rfl <| wQ rfl <| wL (Qd a v0_a v1_a) ty26 rfl rfl .h3 rfl rfl ?_
 refine wL (Qd times v2_times v3_times) ty26 rfl rfl .h2 rfl rfl <| bK he fun y5 hy6 he => w_a rfl (Qm co24 (vs := [(Qd a v0_a v1_a), (Qd times v2_times v3_times)]) rfl (X6.calls k (a := a) (b := times) hy6 h0_a h1_a h2_times h3_times)) ?_
 rintro _ H7 _ ⟨rfl, e8, v9, v11, rfl, h10, h12⟩
 refine wM (.tuple ⟨[(Qd y5.1 v9 v11), errV 104 y5.2]⟩) rfl rfl <| w_d rfl (Q6 rfl rfl) <| w_d rfl (Q6 rfl rfl) <| wN zr26 rfl rfl fun b13 => wS (Qd y5.1 v9 v11) sz26 rfl rfl rfl rfl rfl (XV h10 h12) .here u4 <| wA (errV 104 y5.2) rfl rfl <| wE <| wR rfl <| wM (errV 104 y5.2) rfl rfl <| w_d rfl (Yp (e := y5.2) Tryz.underlying30 rfl) ?_
 refine Qb ?_
 rcases its he with ⟨c14, he⟩ | ⟨c14, he⟩
 ·
  refine QE rfl c14 <| wR rfl <| w_d rfl (XF (cs' := z0c) Tryz.underlying26 zr26 rfl (by kernel_rfl) (parts := []) rfl .nil) <| wM (errV 104 y5.2) rfl rfl <| wS (.agg ⟨z0c⟩) sz26 rfl rfl rfl rfl rfl (oc rfl (oc rfl (oc rfl (oc rfl oz)))) .h1 u4 <| wA (errV 104 y5.2) rfl rfl <| Qb ?_
  obtain rfl := sj he
  refine Qn fn_96 rs_96 (.box (v := .agg ⟨z0c⟩) rfl ty26 rfl rfl .h1 rfl (.tmp (v := errV 104 y5.2) rfl .nil)) <| ⟨⟨[_, _, _, _, _], rfl⟩, hle.trans e8, ⟨.slice none 0 0, .slice none 0 0, rfl, (Xg _ _), (Xg _ _)⟩⟩
 ·
  refine QF rfl (Bool.eq_false_iff.2 c14) <| QH <| wR rfl <| wL (Qd y5.1 v9 v11) ty26 rfl rfl .here rfl rfl <| wL (Qd more v4_more v5_more) ty26 rfl rfl .h2 rfl rfl <| bK he fun y15 hy16 he => w_a rfl (Qm co23 (vs := [(Qd y5.1 v9 v11), (Qd more v4_more v5_more)]) rfl (X0.calls k (a := y5.1) (b := more) hy16 h10 h12 (h4_more.mono e8) (h5_more.mono e8))) ?_
  rintro _ H17 _ ⟨rfl, e18, v19, v21, rfl, h20, h22⟩
  refine w_d rfl (Q6 rfl rfl) <| w_d rfl (Q6 rfl rfl) <| wS (Qd y15.1 v19 v21) sz26 rfl rfl rfl rfl rfl (XV h20 h22) .h1 u4 <| wA (errV 104 y15.2) rfl rfl <| Qb ?_
  obtain rfl := sj he
  refine Qn fn_96 rs_96 (.box (v := (Qd y15.1 v19 v21)) rfl ty26 rfl rfl .h1 rfl (.tmp (v := errV 104 y15.2) rfl .nil)) <| ⟨⟨[_, _, _, _, _], rfl⟩, hle.trans (e8.trans e18), ⟨v19, v21, rfl, h20, h22⟩⟩
noncomputable def QN.C : Code := (Tryz.f57.body).getD .skip
def QN.out (r : Qg × (Option Int)) (H : Hp) (v : Value) : Prop := ∃ v0 v1, v = .tuple ⟨[(Qd r.1 v0 v1), errV 104 r.2]⟩ ∧ Ro kU32 H v0 r.1.f_n.f_w ∧ Ro kU32 H v1 r.1.f_d.f_w
theorem QN.out_mono (r : Qg × (Option Int)) {H H' : Hp} {v : Value} (hle : H.le H') (h : QN.out r H v) : QN.out r H' v := by
 obtain ⟨v0, v1, rfl, h0, h1⟩ := h; exact ⟨v0, v1, rfl, h0.mono hle, h1.mono hle⟩
abbrev QN.R (H0 : Hp) (L : Items) (r : Qg × (Option Int)) := fR H0 L (QN.out r)
structure QN.Hs where
 l0 : Bool → (List Int) → Bool → (List Int) → Bool → (List Int) → Bool → (List Int) → Bool → (List Int) → Bool → (List Int) → (Option Int) → Bool → (List Int) → Bool → (List Int) → Int → Int → Option (Qg × (Option Int))
noncomputable def QN.b0 (k : Nat) (h : QN.Hs) (times_0 : Bool) (times_1 : List Int) (times_2 : Bool) (times_3 : List Int) (more_0 : Bool) (more_1 : List Int) (more_2 : Bool) (more_3 : List Int) (t6_0 : Bool) (t6_1 : List Int) (t6_2 : Bool) (t6_3 : List Int) (t7 : Option Int) (out_0 : Bool) (out_1 : List Int) (out_2 : Bool) (out_3 : List Int) (t27 t28 : Int) : Option (Qg × (Option Int)) := if t28 < t27 then ((YE.f k ⟨⟨out_0, out_1⟩, ⟨out_2, out_3⟩⟩ ⟨⟨times_0, times_1⟩, ⟨times_2, times_3⟩⟩ ⟨⟨more_0, more_1⟩, ⟨more_2, more_3⟩⟩).bind fun y21 => if y21.2.isSome = true then (some (⟨⟨false, []⟩, ⟨false, []⟩⟩, y21.2)) else (h.l0 times_0 times_1 times_2 times_3 more_0 more_1 more_2 more_3 t6_0 t6_1 t6_2 t6_3 t7 y21.1.f_n.f_neg y21.1.f_n.f_w y21.1.f_d.f_neg y21.1.f_d.f_w t27 (w64 (t28 + 1)))) else (some (⟨⟨out_0, out_1⟩, ⟨out_2, out_3⟩⟩, none))
noncomputable def QN.hs : Nat → QN.Hs
 | 0 => ⟨fun _ _ _ _ _ _ _ _ _ _ _ _ _ _ _ _ _ _ _ => none⟩
 | k + 1 => ⟨fun x0 x1 x2 x3 x4 x5 x6 x7 x8 x9 x10 x11 x12 x13 x14 x15 x16 x17 x18 => QN.b0 k (QN.hs k) x0 x1 x2 x3 x4 x5 x6 x7 x8 x9 x10 x11 x12 x13 x14 x15 x16 x17 x18⟩
noncomputable def QN.f (k : Nat) (times more : Qg) (n : Int) : Option (Qg × (Option Int)) := (fun h : QN.Hs => (Yg.f k times).bind fun y4 => (gd (!y4) (Yg.f k more) (false)).bind fun y10 => if (((y4 || y10) || (decide (n < 0))) || (decide (32 < n))) = true then (some (⟨⟨false, []⟩, ⟨false, []⟩⟩, some 1)) else (h.l0 times.f_n.f_neg times.f_n.f_w times.f_d.f_neg times.f_d.f_w more.f_n.f_neg more.f_n.f_w more.f_d.f_neg more.f_d.f_w false [] false [] none false [] false [] n 0)) (QN.hs k)
structure QN.LE (h h' : QN.Hs) : Prop where
 l0 : ∀ y0 y1 y2 y3 y4 y5 y6 y7 y8 y9 y10 y11 y12 y13 y14 y15 y16 y17 y18, LeO (h.l0 y0 y1 y2 y3 y4 y5 y6 y7 y8 y9 y10 y11 y12 y13 y14 y15 y16 y17 y18) (h'.l0 y0 y1 y2 y3 y4 y5 y6 y7 y8 y9 y10 y11 y12 y13 y14 y15 y16 y17 y18)
theorem QN.b0_mono {k : Nat} {h h' : QN.Hs} (hl : QN.LE h h') : ∀ y0 y1 y2 y3 y4 y5 y6 y7 y8 y9 y10 y11 y12 y13 y14 y15 y16 y17 y18, LeO (QN.b0 k h y0 y1 y2 y3 y4 y5 y6 y7 y8 y9 y10 y11 y12 y13 y14 y15 y16 y17 y18) (QN.b0 (k + 1) h' y0 y1 y2 y3 y4 y5 y6 y7 y8 y9 y10 y11 y12 y13 y14 y15 y16 y17 y18) := fun _ _ _ _ _ _ _ _ _ _ _ _ _ _ _ _ _ _ _ => (LeO.ite (LeO.bind (YE.mono k _ _ _) fun _ => LeO.ite (LeO.refl _) (hl.l0 _ _ _ _ _ _ _ _ _ _ _ _ _ _ _ _ _ _ _)) (LeO.refl _))
theorem QN.hs_mono : ∀ k, QN.LE (QN.hs k) (QN.hs (k + 1))
 | 0 => ⟨fun _ _ _ _ _ _ _ _ _ _ _ _ _ _ _ _ _ _ _ => LeO.none _⟩
 | k + 1 => ⟨QN.b0_mono (k := k) (QN.hs_mono k)⟩
theorem QN.mono : ∀ k y0 y1 y2, LeO (QN.f k y0 y1 y2) (QN.f (k + 1) y0 y1 y2) := fun k _ _ _ => have hl := QN.hs_mono k; by unfold QN.f; exact (LeO.bind (Yg.mono k _) fun _ => LeO.bind (LeO.gd (Yg.mono k _)) fun _ => LeO.ite (LeO.refl _) (hl.l0 _ _ _ _ _ _ _ _ _ _ _ _ _ _ _ _ _ _ _))
noncomputable def QN.Kl0 : List Item := .code (lopB (blkB (seqR (seqL (seqR (seqR (seqR QN.C))))))) :: .inLoop (lopB (blkB (seqR (seqL (seqR (seqR (seqR QN.C))))))) :: .inBlock 0 :: .code (seqR (seqR (seqR (seqR QN.C)))) :: []
structure QN.OK (h : QN.Hs) : Prop where
 l0 : ∀ {H0 H : Hp} {L : Items} {r : Qg × (Option Int)} {jk_ : Nat → Value} {times_0 : Bool} {times_1 : List Int} {times_2 : Bool} {times_3 : List Int} {more_0 : Bool} {more_1 : List Int} {more_2 : Bool} {more_3 : List Int} {t6_0 : Bool} {t6_1 : List Int} {t6_2 : Bool} {t6_3 : List Int} {t7 : Option Int} {out_0 : Bool} {out_1 : List Int} {out_2 : Bool} {out_3 : List Int} {t27 : Int} {t28 : Int} {v_times_1 : Value} {v_times_3 : Value} {v_more_1 : Value} {v_more_3 : Value} {v_t6_1 : Value} {v_t6_3 : Value} {v_out_1 : Value} {v_out_3 : Value} {b_times : Nat} {b_more : Nat} {b_t6 : Nat} {b_out : Nat} (_ : H0.le H) (_he : h.l0 times_0 times_1 times_2 times_3 more_0 more_1 more_2 more_3 t6_0 t6_1 t6_2 t6_3 t7 out_0 out_1 out_2 out_3 t27 t28 = some r) (_h_times_1 : Ro kU32 H v_times_1 times_1) (_h_times_3 : Ro kU32 H v_times_3 times_3) (_h_more_1 : Ro kU32 H v_more_1 more_1) (_h_more_3 : Ro kU32 H v_more_3 more_3) (_h_t6_1 : Ro kU32 H v_t6_1 t6_1) (_h_t6_3 : Ro kU32 H v_t6_3 t6_3) (_h_out_1 : Ro kU32 H v_out_1 out_1) (_h_out_3 : Ro kU32 H v_out_3 out_3), Wp Tryz.prog 57 43 QN.Kl0 (upd (upd (upd (upd (upd (upd (upd jk_ 3 (pt b_times)) 4 (pt b_more)) 6 (pt b_t6)) 7 (errV 104 t7)) 8 (pt b_out)) 27 (.int .i64 t27)) 28 (.int .i64 t28)) H (bx b_out [.bool out_0, v_out_1, .bool out_2, v_out_3] 26 :: bx b_t6 [.bool t6_0, v_t6_1, .bool t6_2, v_t6_3] 26 :: bx b_more [.bool more_0, v_more_1, .bool more_2, v_more_3] 26 :: bx b_times [.bool times_0, v_times_1, .bool times_2, v_times_3] 26 :: L) (QN.R H0 L r)
theorem QN.b0_ok {k : Nat} {h : QN.Hs} (hh : QN.OK h) {H0 H : Hp} {L : Items} {r : Qg × (Option Int)} {jk_ : Nat → Value} {times_0 : Bool} {times_1 : List Int} {times_2 : Bool} {times_3 : List Int} {more_0 : Bool} {more_1 : List Int} {more_2 : Bool} {more_3 : List Int} {t6_0 : Bool} {t6_1 : List Int} {t6_2 : Bool} {t6_3 : List Int} {t7 : Option Int} {out_0 : Bool} {out_1 : List Int} {out_2 : Bool} {out_3 : List Int} {t27 t28 : Int} {v_times_1 v_times_3 v_more_1 v_more_3 v_t6_1 v_t6_3 v_out_1 v_out_3 : Value} {b_times b_more b_t6 b_out : Nat} (hle : H0.le H) (he : QN.b0 k h times_0 times_1 times_2 times_3 more_0 more_1 more_2 more_3 t6_0 t6_1 t6_2 t6_3 t7 out_0 out_1 out_2 out_3 t27 t28 = some r) (h_times_1 : Ro kU32 H v_times_1 times_1) (h_times_3 : Ro kU32 H v_times_3 times_3) (h_more_1 : Ro kU32 H v_more_1 more_1) (h_more_3 : Ro kU32 H v_more_3 more_3) (h_t6_1 : Ro kU32 H v_t6_1 t6_1) (h_t6_3 : Ro kU32 H v_t6_3 t6_3) (h_out_1 : Ro kU32 H v_out_1 out_1) (h_out_3 : Ro kU32 H v_out_3 out_3) : Wp Tryz.prog 57 43 QN.Kl0 (upd (upd (upd (upd (upd (upd (upd jk_ 3 (pt b_times)) 4 (pt b_more)) 6 (pt b_t6)) 7 (errV 104 t7)) 8 (pt b_out)) 27 (.int .i64 t27)) 28 (.int .i64 t28)) H (bx b_out [.bool out_0, v_out_1, .bool out_2, v_out_3] 26 :: bx b_t6 [.bool t6_0, v_t6_1, .bool t6_2, v_t6_3] 26 :: bx b_more [.bool more_0, v_more_1, .bool more_2, v_more_3] 26 :: bx b_times [.bool times_0, v_times_1, .bool times_2, v_times_3] 26 :: L) (QN.R H0 L r) := by
 unfold QN.b0 at he
 unfold QN.Kl0
 refine wR rfl <| w_d rfl (XY rfl rfl) <| wE ?_
 rcases its he with ⟨c20, he⟩ | ⟨c20, he⟩
 ·
  refine QE rfl (dt c20) <| QH <| Q0 <| Xa <| wR rfl <| wA (errV 104 none) rfl rfl <| wQ rfl <| wL (.agg ⟨[.bool out_0, v_out_1, .bool out_2, v_out_3]⟩) ty26 rfl rfl .here rfl rfl <| wL (.agg ⟨[.bool times_0, v_times_1, .bool times_2, v_times_3]⟩) ty26 rfl rfl .h3 rfl rfl ?_
  refine wL (.agg ⟨[.bool more_0, v_more_1, .bool more_2, v_more_3]⟩) ty26 rfl rfl .h2 rfl rfl <| bK he fun y21 hy22 he => w_a rfl (Qm co96 (vs := [.agg ⟨[.bool out_0, v_out_1, .bool out_2, v_out_3]⟩, .agg ⟨[.bool times_0, v_times_1, .bool times_2, v_times_3]⟩, .agg ⟨[.bool more_0, v_more_1, .bool more_2, v_more_3]⟩]) rfl (YE.calls k (a := ⟨⟨out_0, out_1⟩, ⟨out_2, out_3⟩⟩) (times := ⟨⟨times_0, times_1⟩, ⟨times_2, times_3⟩⟩) (more := ⟨⟨more_0, more_1⟩, ⟨more_2, more_3⟩⟩) hy22 h_out_1 h_out_3 h_times_1 h_times_3 h_more_1 h_more_3)) ?_
  rintro _ H23 _ ⟨rfl, e24, v25, v27, rfl, h26, h28⟩
  refine wM (.tuple ⟨[(Qd y21.1 v25 v27), errV 104 y21.2]⟩) rfl rfl <| w_d rfl (Q6 rfl rfl) <| w_d rfl (Q6 rfl rfl) <| wS (Qd y21.1 v25 v27) sz26 rfl rfl rfl rfl rfl (XV h26 h28) .here u4 <| wA (errV 104 y21.2) rfl rfl <| wQ rfl <| wM (errV 104 y21.2) rfl rfl <| w_d rfl (Yp (e := y21.2) Tryz.underlying30 rfl) <| Qb ?_
  rcases its he with ⟨c29, he⟩ | ⟨c29, he⟩
  ·
   refine QE rfl c29 <| wR rfl <| w_d rfl (XF (cs' := z0c) Tryz.underlying26 zr26 rfl (by kernel_rfl) (parts := []) rfl .nil) <| wM (errV 104 y21.2) rfl rfl <| wS (.agg ⟨z0c⟩) sz26 rfl rfl rfl rfl rfl (oc rfl (oc rfl (oc rfl (oc rfl oz)))) .h1 u4 <| wA (errV 104 y21.2) rfl rfl <| Qb ?_
   obtain rfl := sj he
   refine Qn fn_57 rs_57 (.box (v := .agg ⟨z0c⟩) rfl ty26 rfl rfl .h1 rfl (.tmp (v := errV 104 y21.2) rfl .nil)) <| ⟨⟨[_, _, _, _], rfl⟩, hle.trans e24, ⟨.slice none 0 0, .slice none 0 0, rfl, (Xg _ _), (Xg _ _)⟩⟩
  ·
   refine QF rfl (Bool.eq_false_iff.2 c29) <| QH <| XC <| QU rfl <| w_d rfl (XR (c := w64 (t28 + 1)) rfl rfl rfl) <| wM (.int .i64 (w64 (t28 + 1))) rfl rfl <| Qb <| XL <| w_sl 3 (pt b_times) rfl <| w_sl 4 (pt b_more) rfl <| w_sl 6 (pt b_t6) rfl <| w_sl 7 (errV 104 t7) rfl ?_
   refine w_sl 8 (pt b_out) rfl <| w_sl 27 (.int .i64 t27) rfl <| w_sl 28 (.int .i64 (w64 (t28 + 1))) rfl <| hh.l0 (hle.trans e24) he (h_times_1.mono e24) (h_times_3.mono e24) (h_more_1.mono e24) (h_more_3.mono e24) (h_t6_1.mono e24) (h_t6_3.mono e24) h26 h28
 ·
  refine QF rfl (df c20) <| X8 rfl <| wR rfl <| wL (.agg ⟨[.bool out_0, v_out_1, .bool out_2, v_out_3]⟩) ty26 rfl rfl .here rfl rfl <| wS (.agg ⟨[.bool out_0, v_out_1, .bool out_2, v_out_3]⟩) sz26 rfl rfl rfl rfl rfl (oc rfl (oc (h_out_1.one) (oc rfl (oc (h_out_3.one) oz)))) .h1 u4 <| wA (errV 104 none) rfl rfl <| Qb ?_
  obtain rfl := sj he
  refine Qn fn_57 rs_57 (.box (v := .agg ⟨[.bool out_0, v_out_1, .bool out_2, v_out_3]⟩) rfl ty26 rfl rfl .h1 rfl (.tmp (v := errV 104 none) rfl .nil)) <| ⟨⟨[_, _, _, _], rfl⟩, hle, ⟨v_out_1, v_out_3, rfl, h_out_1, h_out_3⟩⟩
theorem QN.ok : ∀ k, QN.OK (QN.hs k)
 | 0 => ⟨(by intros; exact nomatch (show none = some _ from by assumption))⟩
 | k + 1 => ⟨QN.b0_ok (k := k) (QN.ok k)⟩
theorem QN.calls (k : Nat) {H : Hp} {L : Items} {times more : Qg} {n : Int} {v0_times v1_times v2_more v3_more : Value} {r : Qg × (Option Int)} (he : QN.f k times more n = some r) (h0_times : Ro kU32 H v0_times times.f_n.f_w) (h1_times : Ro kU32 H v1_times times.f_d.f_w) (h2_more : Ro kU32 H v2_more more.f_n.f_w) (h3_more : Ro kU32 H v3_more more.f_d.f_w) : Ct Tryz.prog 57 ⟨[(Qd times v0_times v1_times), (Qd more v2_more v3_more), .int .i64 n]⟩ H L (cR H L (QN.out r)) := by
 refine XO (O := QN.out r) ?_
 have hle : H.le H := .refl _
 have hh := QN.ok k
 unfold QN.f at he
 refine QV (args := [_, _, _]) fn_57 rfl nt_57 rfl <| wR rfl <| wB (Qd times v0_times v1_times) rfl rfl rfl <| fun b1 => wB (Qd more v2_more v3_more) rfl rfl rfl <| fun b2 => wN zr26 rfl rfl fun b3 => wA (errV 104 none) rfl rfl <| wE <| wR rfl <| wL (Qd times v0_times v1_times) ty26 rfl rfl .h2 rfl rfl ?_
 refine bK he fun y4 hy5 he => w_d rfl (Xx (Qm co95 (vs := [(Qd times v0_times v1_times)]) rfl (Yg.calls k (a := times) hy5 h0_times h1_times))) <| wM (.bool y4) rfl rfl <| w_g (g := !y4) rfl rfl rfl wn_f (fun g8 => QG (v := (Qd more v2_more v3_more)) ty26 rfl .h1 rfl rfl rfl rfl) <| bK he fun y10 hy11 he => w_g (g := !y4) rfl rfl rfl wn_f (fun g9 => Xx (Qm co95 (vs := [(Qd more v2_more v3_more)]) (acons (cvt g9) (anil)) (Yg.calls k (a := more) (gd_t g9 hy11) h2_more h3_more))) <| w_d rfl (d_or' (b := y4) (p := y10) rfl rfl rfl) <| wM (.bool (y4 || y10)) rfl rfl <| w_g (g := !(y4 || y10)) rfl rfl rfl wn_f (fun g14 => QW (v := .int .i64 n) rfl) <| w_g (g := !(y4 || y10)) rfl rfl rfl wn_f (fun g15 => XY (cvt g15) rfl) <| w_d rfl (d_or' (b := (y4 || y10)) (p := (decide (n < 0))) rfl rfl rfl) <| wM (.bool ((y4 || y10) || (decide (n < 0)))) rfl rfl ?_
 refine w_g (g := !((y4 || y10) || (decide (n < 0)))) rfl rfl rfl wn_f (fun g16 => QW (v := .int .i64 n) rfl) <| w_g (g := !((y4 || y10) || (decide (n < 0)))) rfl rfl rfl wn_f (fun g17 => YR (cvt g17) rfl) <| w_d rfl (d_or' (b := ((y4 || y10) || (decide (n < 0)))) (p := (decide (32 < n))) rfl rfl rfl) <| Qb ?_
 rcases its he with ⟨c18, he⟩ | ⟨c18, he⟩
 ·
  refine QE rfl c18 <| wR rfl <| w_d rfl (XF (cs' := z0c) Tryz.underlying26 zr26 rfl (by kernel_rfl) (parts := []) rfl .nil) <| w_d rfl (Zk (v := .int .i64 1) Tryz.underlying104 rfl rfl) <| wS (.agg ⟨z0c⟩) sz26 rfl rfl rfl rfl rfl (oc rfl (oc rfl (oc rfl (oc rfl oz)))) .here u4 <| wA (errV 104 (some 1)) rfl rfl <| Qb ?_
  obtain rfl := sj he
  refine Qn fn_57 rs_57 (.box (v := .agg ⟨z0c⟩) rfl ty26 rfl rfl .here rfl (.tmp (v := errV 104 (some 1)) rfl .nil)) <| ⟨⟨[_, _, _], rfl⟩, hle, ⟨.slice none 0 0, .slice none 0 0, rfl, (Xg _ _), (Xg _ _)⟩⟩
 ·
  refine QF rfl (Bool.eq_false_iff.2 c18) <| QH <| wR rfl <| w_d rfl (XF (cs' := z0c) Tryz.underlying26 zr26 rfl (by kernel_rfl) (parts := []) rfl .nil) <| wN zr26 rfl rfl fun b19 => wS (.agg ⟨z0c⟩) sz26 rfl rfl rfl rfl rfl (oc rfl (oc rfl (oc rfl (oc rfl oz)))) .here u4 <| wE <| wR rfl <| wM (.int .i64 n) rfl rfl ?_
  refine wM (.int .i64 0) rfl rfl <| Qb <| Xa <| X9 <| w_sl 3 (pt b1) rfl <| w_sl 4 (pt b2) rfl <| w_sl 6 (pt b3) rfl <| w_sl 7 (errV 104 none) rfl <| w_sl 8 (pt b19) rfl <| w_sl 27 (.int .i64 n) rfl <| w_sl 28 (.int .i64 0) rfl <| hh.l0 hle he h0_times h1_times h2_more h3_more (Xg _ _) (Xg _ _) (Xg _ _) (Xg _ _)
noncomputable def QI.C : Code := (Tryz.f46.body).getD .skip
abbrev QI.out (r : (List Qi)) (H : Hp) (v : Value) : Prop := Ro Xh H v r
abbrev QI.R (H0 : Hp) (L : Items) (r : (List Qi)) := fR H0 L (QI.out r)
structure QI.Hs where
 l0 : (List Int) → (List Qi) → Int → Option (List Qi)
noncomputable def QI.b0 (k : Nat) (h : QI.Hs) (l : List Int) (out : List Qi) (i : Int) : Option (List Qi) := if i < (l.length : Int) then (if (0 : Int) ≤ i ∧ i < (l.length : Int) then ((XB.f k (rd l i)).bind fun y3 => if out.length + 1 ≤ 2199023255424 then (h.l0 l (out ++ [y3]) (w64 (i + 1))) else none) else none) else (some (out))
noncomputable def QI.hs : Nat → QI.Hs
 | 0 => ⟨fun _ _ _ => none⟩
 | k + 1 => ⟨fun x0 x1 x2 => QI.b0 k (QI.hs k) x0 x1 x2⟩
noncomputable def QI.f (k : Nat) (l : List Int) : Option (List Qi) := (fun h : QI.Hs => h.l0 l [] 0) (QI.hs k)
noncomputable def QI.Kl0 : List Item := .code (lopB (blkB (seqR (seqL (seqR (seqR QI.C)))))) :: .inLoop (lopB (blkB (seqR (seqL (seqR (seqR QI.C)))))) :: .inBlock 0 :: .code (seqR (seqR (seqR QI.C))) :: []
structure QI.OK (h : QI.Hs) : Prop where
 l0 : ∀ {H0 H : Hp} {L : Items} {r : (List Qi)} {jk_ : Nat → Value} {l : List Int} {out : List Qi} {i : Int} {v_l : Value} {v_out : Value} {i_out : Item'} (_ : H0.le H) (_he : h.l0 l out i = some r) (_h_l : Src kI64 H L v_l l) (_h_out : Sl Xh H 40 i_out v_out out), Wp Tryz.prog 46 20 QI.Kl0 (upd (upd (upd (upd jk_ 0 (v_l)) 2 (.slice none 0 0)) 3 (v_out)) 4 (.int .i64 i)) H (i_out :: L) (QI.R H0 L r)
theorem QI.b0_ok {k : Nat} {h : QI.Hs} (hh : QI.OK h) {H0 H : Hp} {L : Items} {r : (List Qi)} {jk_ : Nat → Value} {l : List Int} {out : List Qi} {i : Int} {v_l v_out : Value} {i_out : Item'} (hle : H0.le H) (he : QI.b0 k h l out i = some r) (h_l : Src kI64 H L v_l l) (h_out : Sl Xh H 40 i_out v_out out) : Wp Tryz.prog 46 20 QI.Kl0 (upd (upd (upd (upd jk_ 0 (v_l)) 2 (.slice none 0 0)) 3 (v_out)) 4 (.int .i64 i)) H (i_out :: L) (QI.R H0 L r) := by
 unfold QI.b0 at he
 unfold QI.Kl0
 refine Q0 <| wR rfl <| wM (.int .i64 i) rfl rfl <| wM v_l rfl rfl <| w_d rfl (Xr Tryz.underlying72 rfl h_l.th) <| w_d rfl (XY rfl rfl) <| Qb ?_
 rcases its he with ⟨c1, he⟩ | ⟨c1, he⟩
 ·
  refine QE rfl (dt c1) <| QH <| Q0 <| Xa <| QU rfl <| wM v_out rfl rfl <| wM v_l rfl rfl <| wM (.int .i64 i) rfl rfl <| rK he fun c2 he => w_d rfl (XK (sz := 1) Tryz.underlying72 sz2 rfl h_l.th rfl c2) <| w_d rfl (XP ty2 rfl h_l.th c2) <| bK he fun y3 hy4 he => ?_
  refine w_a rfl (Qm co43 (vs := [.int .i64 (rd l i)]) rfl (XB.calls k hy4)) ?_
  rintro _ H5 _ ⟨rfl, e6, v7, v9, rfl, h8, h10⟩
  refine w_a rfl (o_buildSlice' (kd := Xh) (css := [(XA y3 v7 v9)]) (xs := [y3]) (parts := [(0, (Ql y3 v7 v9))]) Tryz.underlying68 ti40 rfl ⟨_, _, rfl, rfl, rfl⟩ ⟨(JB (x := y3) h8 h10), trivial⟩ rfl (by decide)) ?_
  rintro v11 _ _ ⟨i12, rfl, rfl, h13⟩
  refine rK he fun c14 he => w_a rfl (o_append' (kd := Xh) (F := fun z_ => i12 :: z_ :: L) Tryz.underlying68 Tryz.underlying68 ti40 rfl (by first | omega | (simp only [List.nil_append, List.length_cons, List.length_nil]; omega)) rfl rfl (h_out.mono e6) (h13.src .here) (fun _ => .h1)) ?_
  rintro v15 _ _ ⟨i16, rfl, rfl, h17⟩
  refine wA v15 rfl rfl <| Qb <| XC <| QU rfl <| wM (.int .i64 i) rfl rfl <| w_d rfl (XR (c := w64 (i + 1)) rfl rfl rfl) <| wA (.int .i64 (w64 (i + 1))) rfl rfl <| Qb <| XL <| YB .here <| w_sl 0 (v_l) rfl <| w_sl 2 (.slice none 0 0) rfl ?_
  refine w_sl 3 (v15) rfl <| w_sl 4 (.int .i64 (w64 (i + 1))) rfl <| hh.l0 (hle.trans e6) he (h_l.mono e6) h17
 ·
  refine QF rfl (df c1) <| X8 rfl <| wR rfl <| wM v_out rfl rfl <| wA v_out rfl rfl <| Qb <| YA h_out .here ?_
  intro H18 e19 h20
  obtain rfl := sj he
  refine Qn fn_46 rs_46 (.tmp (v := v_out) rfl .nil) <| ⟨⟨[_], rfl⟩, hle.trans e19, h20⟩
theorem QI.ok : ∀ k, QI.OK (QI.hs k)
 | 0 => ⟨(by intros; exact nomatch (show none = some _ from by assumption))⟩
 | k + 1 => ⟨QI.b0_ok (k := k) (QI.ok k)⟩
theorem QI.calls (k : Nat) {H : Hp} {L : Items} {l : List Int} {v0_l : Value} {r : (List Qi)} (he : QI.f k l = some r) (h0_l : Src kI64 H L v0_l l) : Ct Tryz.prog 46 ⟨[v0_l]⟩ H L (cR H L (QI.out r)) := by
 refine XO (O := QI.out r) ?_
 have hle : H.le H := .refl _
 have hh := QI.ok k
 unfold QI.f at he
 refine QV (args := [_]) fn_46 rfl nt_46 rfl <| wR rfl <| wA (.slice none 0 0) rfl rfl <| wQ rfl <| wA (.slice none 0 0) rfl rfl <| wE <| wR rfl ?_
 refine wA (.int .i64 0) rfl rfl <| Qb <| Xa <| X9 <| Yx <| w_sl 0 (v0_l) rfl <| w_sl 2 (.slice none 0 0) rfl <| w_sl 3 (.slice none 0 0) rfl <| w_sl 4 (.int .i64 0) rfl <| hh.l0 hle he h0_l (Ji _ _ _)
noncomputable def Qz.C : Code := (Tryz.f45.body).getD .skip
abbrev Qz.out (r : (List Qg)) (H : Hp) (v : Value) : Prop := Ro XE H v r
abbrev Qz.R (H0 : Hp) (L : Items) (r : (List Qg)) := fR H0 L (Qz.out r)
structure Qz.Hs where
 l0 : (List Qi) → (List Qg) → Int → Option (List Qg)
noncomputable def Qz.b0 (k : Nat) (h : Qz.Hs) (l : List Qi) (out : List Qg) (i : Int) : Option (List Qg) := if i < (l.length : Int) then (if (0 : Int) ≤ i ∧ i < (l.length : Int) then ((Xq.f k (rd l i)).bind fun y9 => if out.length + 1 ≤ 2199023255424 then (h.l0 l (out ++ [y9]) (w64 (i + 1))) else none) else none) else (some (out))
noncomputable def Qz.hs : Nat → Qz.Hs
 | 0 => ⟨fun _ _ _ => none⟩
 | k + 1 => ⟨fun x0 x1 x2 => Qz.b0 k (Qz.hs k) x0 x1 x2⟩
noncomputable def Qz.f (k : Nat) (l : List Qi) : Option (List Qg) := (fun h : Qz.Hs => h.l0 l [] 0) (Qz.hs k)
noncomputable def Qz.Kl0 : List Item := .code (lopB (blkB (seqR (seqL (seqR (seqR Qz.C)))))) :: .inLoop (lopB (blkB (seqR (seqL (seqR (seqR Qz.C)))))) :: .inBlock 0 :: .code (seqR (seqR (seqR Qz.C))) :: []
structure Qz.OK (h : Qz.Hs) : Prop where
 l0 : ∀ {H0 H : Hp} {L : Items} {r : (List Qg)} {jk_ : Nat → Value} {l : List Qi} {out : List Qg} {i : Int} {v_l : Value} {v_out : Value} {i_out : Item'} (_ : H0.le H) (_he : h.l0 l out i = some r) (_h_l : Src Xh H L v_l l) (_h_out : Sl XE H 26 i_out v_out out), Wp Tryz.prog 45 20 Qz.Kl0 (upd (upd (upd (upd jk_ 0 (v_l)) 2 (.slice none 0 0)) 3 (v_out)) 4 (.int .i64 i)) H (i_out :: L) (Qz.R H0 L r)
theorem Qz.b0_ok {k : Nat} {h : Qz.Hs} (hh : Qz.OK h) {H0 H : Hp} {L : Items} {r : (List Qg)} {jk_ : Nat → Value} {l : List Qi} {out : List Qg} {i : Int} {v_l v_out : Value} {i_out : Item'} (hle : H0.le H) (he : Qz.b0 k h l out i = some r) (h_l : Src Xh H L v_l l) (h_out : Sl XE H 26 i_out v_out out) : Wp Tryz.prog 45 20 Qz.Kl0 (upd (upd (upd (upd jk_ 0 (v_l)) 2 (.slice none 0 0)) 3 (v_out)) 4 (.int .i64 i)) H (i_out :: L) (Qz.R H0 L r) := by
 unfold Qz.b0 at he
 unfold Qz.Kl0
 refine Q0 <| wR rfl <| wM (.int .i64 i) rfl rfl <| wM v_l rfl rfl <| w_d rfl (Xr Tryz.underlying68 rfl h_l.th) <| w_d rfl (XY rfl rfl) <| Qb ?_
 rcases its he with ⟨c1, he⟩ | ⟨c1, he⟩
 ·
  refine QE rfl (dt c1) <| QH <| Q0 <| Xa <| QU rfl <| wM v_out rfl rfl <| wM v_l rfl rfl <| wM (.int .i64 i) rfl rfl <| rK he fun c2 he => w_d rfl (XK (sz := 4) Tryz.underlying68 sz40 rfl h_l.th rfl c2) ?_
  obtain ⟨_, l3, r4⟩ := Z5 (kd := Xh) h_l.th c2
  obtain ⟨v5, v7, rfl, h6, h8⟩ := Zi r4
  refine w_d rfl (ZE (v := .agg ⟨[.bool (((rd l i).f_N).f_Neg), v5, .bool (((rd l i).f_D).f_Neg), v7]⟩) (cs := [.bool (((rd l i).f_N).f_Neg), v5, .bool (((rd l i).f_D).f_Neg), v7]) ty40 rfl rfl (by decide) l3 rfl) <| bK he fun y9 hy10 he => w_a rfl (Qm co42 (vs := [.agg ⟨[.bool (((rd l i).f_N).f_Neg), v5, .bool (((rd l i).f_D).f_Neg), v7]⟩]) rfl (Xq.calls k (a := (rd l i)) hy10 h6 h8)) ?_
  rintro _ H11 _ ⟨rfl, e12, v13, v15, rfl, h14, h16⟩
  refine w_a rfl (o_buildSlice' (kd := XE) (css := [(QZ y9 v13 v15)]) (xs := [y9]) (parts := [(0, (Qd y9 v13 v15))]) Tryz.underlying81 ti26 rfl ⟨_, _, rfl, rfl, rfl⟩ ⟨(Jp (x := y9) h14 h16), trivial⟩ rfl (by decide)) ?_
  rintro v17 _ _ ⟨i18, rfl, rfl, h19⟩
  refine rK he fun c20 he => w_a rfl (o_append' (kd := XE) (F := fun z_ => i18 :: z_ :: L) Tryz.underlying81 Tryz.underlying81 ti26 rfl (by first | omega | (simp only [List.nil_append, List.length_cons, List.length_nil]; omega)) rfl rfl (h_out.mono e12) (h19.src .here) (fun _ => .h1)) ?_
  rintro v21 _ _ ⟨i22, rfl, rfl, h23⟩
  refine wA v21 rfl rfl <| Qb <| XC <| QU rfl <| wM (.int .i64 i) rfl rfl <| w_d rfl (XR (c := w64 (i + 1)) rfl rfl rfl) <| wA (.int .i64 (w64 (i + 1))) rfl rfl <| Qb <| XL <| YB .here <| w_sl 0 (v_l) rfl <| w_sl 2 (.slice none 0 0) rfl ?_
  refine w_sl 3 (v21) rfl <| w_sl 4 (.int .i64 (w64 (i + 1))) rfl <| hh.l0 (hle.trans e12) he (h_l.mono e12) h23
 ·
  refine QF rfl (df c1) <| X8 rfl <| wR rfl <| wM v_out rfl rfl <| wA v_out rfl rfl <| Qb <| YA h_out .here ?_
  intro H24 e25 h26
  obtain rfl := sj he
  refine Qn fn_45 rs_45 (.tmp (v := v_out) rfl .nil) <| ⟨⟨[_], rfl⟩, hle.trans e25, h26⟩
theorem Qz.ok : ∀ k, Qz.OK (Qz.hs k)
 | 0 => ⟨(by intros; exact nomatch (show none = some _ from by assumption))⟩
 | k + 1 => ⟨Qz.b0_ok (k := k) (Qz.ok k)⟩
theorem Qz.calls (k : Nat) {H : Hp} {L : Items} {l : List Qi} {v0_l : Value} {r : (List Qg)} (he : Qz.f k l = some r) (h0_l : Src Xh H L v0_l l) : Ct Tryz.prog 45 ⟨[v0_l]⟩ H L (cR H L (Qz.out r)) := by
 refine XO (O := Qz.out r) ?_
 have hle : H.le H := .refl _
 have hh := Qz.ok k
 unfold Qz.f at he
 refine QV (args := [_]) fn_45 rfl nt_45 rfl <| wR rfl <| wA (.slice none 0 0) rfl rfl <| wQ rfl <| wA (.slice none 0 0) rfl rfl <| wE <| wR rfl ?_
 refine wA (.int .i64 0) rfl rfl <| Qb <| Xa <| X9 <| Yx <| w_sl 0 (v0_l) rfl <| w_sl 2 (.slice none 0 0) rfl <| w_sl 3 (.slice none 0 0) rfl <| w_sl 4 (.int .i64 0) rfl <| hh.l0 hle he h0_l (Ji _ _ _)
noncomputable def XJ.C : Code := (Tryz.f60.body).getD .skip
def XJ.out (r : Qg × (Option Int)) (H : Hp) (v : Value) : Prop := ∃ v0 v1, v = .tuple ⟨[(Qd r.1 v0 v1), errV 104 r.2]⟩ ∧ Ro kU32 H v0 r.1.f_n.f_w ∧ Ro kU32 H v1 r.1.f_d.f_w
theorem XJ.out_mono (r : Qg × (Option Int)) {H H' : Hp} {v : Value} (hle : H.le H') (h : XJ.out r H v) : XJ.out r H' v := by
 obtain ⟨v0, v1, rfl, h0, h1⟩ := h; exact ⟨v0, v1, rfl, h0.mono hle, h1.mono hle⟩
noncomputable def XJ.f (k : Nat) (a b : Qg) : Option (Qg × (Option Int)) := (QO.f k a b true).bind fun y4 => some (y4.1, y4.2)
theorem XJ.mono : ∀ k y0 y1, LeO (XJ.f k y0 y1) (XJ.f (k + 1) y0 y1) := fun k _ _ => by unfold XJ.f; exact (LeO.bind (QO.mono k _ _ _) fun _ => LeO.refl _)
theorem XJ.calls (k : Nat) {H : Hp} {L : Items} {a b : Qg} {v0_a v1_a v2_b v3_b : Value} {r : Qg × (Option Int)} (he : XJ.f k a b = some r) (h0_a : Ro kU32 H v0_a a.f_n.f_w) (h1_a : Ro kU32 H v1_a a.f_d.f_w) (h2_b : Ro kU32 H v2_b b.f_n.f_w) (h3_b : Ro kU32 H v3_b b.f_d.f_w) : Ct Tryz.prog 60 ⟨[(Qd a v0_a v1_a), (Qd b v2_b v3_b)]⟩ H L (cR H L (XJ.out r)) := by
 refine XO (O := XJ.out r) ?_
 have hle : H.le H := .refl _
 unfold XJ.f at he
 refine QV (args := [_, _]) fn_60 rfl nt_60 rfl <| wR rfl <| wB (Qd a v0_a v1_a) rfl rfl rfl <| fun b1 => wB (Qd b v2_b v3_b) rfl rfl rfl <| fun b2 => wN zr26 rfl rfl fun b3 => wA (errV 104 none) rfl rfl <| wQ rfl <| wL (Qd a v0_a v1_a) ty26 rfl rfl .h2 rfl rfl <| wL (Qd b v2_b v3_b) ty26 rfl rfl .h1 rfl rfl ?_
 refine bK he fun y4 hy5 he => w_a rfl (Qm co76 (vs := [(Qd a v0_a v1_a), (Qd b v2_b v3_b), .bool true]) rfl (QO.calls k (a := a) (b := b) hy5 h0_a h1_a h2_b h3_b)) ?_
 rintro _ H6 _ ⟨rfl, e7, v8, v10, rfl, h9, h11⟩
 refine w_d rfl (Q6 rfl rfl) <| w_d rfl (Q6 rfl rfl) <| wS (Qd y4.1 v8 v10) sz26 rfl rfl rfl rfl rfl (XV h9 h11) .here u4 <| wA (errV 104 y4.2) rfl rfl <| Qb ?_
 obtain rfl := sj he
 refine Qn fn_60 rs_60 (.box (v := (Qd y4.1 v8 v10)) rfl ty26 rfl rfl .here rfl (.tmp (v := errV 104 y4.2) rfl .nil)) <| ⟨⟨[_, _, _], rfl⟩, hle.trans e7, ⟨v8, v10, rfl, h9, h11⟩⟩
noncomputable def YC.C : Code := (Tryz.f105.body).getD .skip
def YC.out (r : Qg × (Option Int)) (H : Hp) (v : Value) : Prop := ∃ v0 v1, v = .tuple ⟨[(Qd r.1 v0 v1), errV 104 r.2]⟩ ∧ Ro kU32 H v0 r.1.f_n.f_w ∧ Ro kU32 H v1 r.1.f_d.f_w
noncomputable def YC.f (k : Nat) (a : Qg) : Option (Qg × (Option Int)) := (Yg.f k a).bind fun y3 => if (!y3) = true then (some (a, none)) else ((XJ.f k ⟨⟨false, []⟩, ⟨false, []⟩⟩ a).bind fun y8 => some (y8.1, y8.2))
theorem YC.mono : ∀ k y0, LeO (YC.f k y0) (YC.f (k + 1) y0) := fun k _ => by unfold YC.f; exact (LeO.bind (Yg.mono k _) fun _ => LeO.ite (LeO.refl _) (LeO.bind (XJ.mono k _ _) fun _ => LeO.refl _))
theorem YC.calls (k : Nat) {H : Hp} {L : Items} {a : Qg} {v0_a v1_a : Value} {r : Qg × (Option Int)} (he : YC.f k a = some r) (h0_a : Ro kU32 H v0_a a.f_n.f_w) (h1_a : Ro kU32 H v1_a a.f_d.f_w) : Ct Tryz.prog 105 ⟨[(Qd a v0_a v1_a)]⟩ H L (cR H L (YC.out r)) := by
 refine XO (O := YC.out r) ?_
 have hle : H.le H := .refl _
 unfold YC.f at he
 refine QV (args := [_]) fn_105 rfl nt_105 rfl <| wR rfl <| wB (Qd a v0_a v1_a) rfl rfl rfl <| fun b1 => wN zr26 rfl rfl fun b2 => wA (errV 104 none) rfl rfl <| wE <| wR rfl <| wL (Qd a v0_a v1_a) ty26 rfl rfl .h1 rfl rfl <| bK he fun y3 hy4 he => ?_
 refine w_d rfl (Xx (Qm co95 (vs := [(Qd a v0_a v1_a)]) rfl (Yg.calls k (a := a) hy4 h0_a h1_a))) <| w_d rfl (Zp (b := y3) rfl) <| Qb ?_
 rcases its he with ⟨c7, he⟩ | ⟨c7, he⟩
 ·
  refine QE rfl c7 <| wR rfl <| wL (Qd a v0_a v1_a) ty26 rfl rfl .h1 rfl rfl <| wS (Qd a v0_a v1_a) sz26 rfl rfl rfl rfl rfl (XV h0_a h1_a) .here u4 <| wA (errV 104 none) rfl rfl <| Qb ?_
  obtain rfl := sj he
  refine Qn fn_105 rs_105 (.box (v := (Qd a v0_a v1_a)) rfl ty26 rfl rfl .here rfl (.tmp (v := errV 104 none) rfl .nil)) <| ⟨⟨[_, _], rfl⟩, hle, ⟨v0_a, v1_a, rfl, h0_a, h1_a⟩⟩
 ·
  refine QF rfl (Bool.eq_false_iff.2 c7) <| QH <| wR rfl <| w_d rfl (XF (cs' := z0c) Tryz.underlying26 zr26 rfl (by kernel_rfl) (parts := []) rfl .nil) <| wL (Qd a v0_a v1_a) ty26 rfl rfl .h1 rfl rfl <| bK he fun y8 hy9 he => w_a rfl (Qm co60 (vs := [.agg ⟨z0c⟩, (Qd a v0_a v1_a)]) rfl (XJ.calls k (a := ⟨⟨false, []⟩, ⟨false, []⟩⟩) (b := a) hy9 (Xg _ _) (Xg _ _) h0_a h1_a)) ?_
  rintro _ H10 _ ⟨rfl, e11, v12, v14, rfl, h13, h15⟩
  refine w_d rfl (Q6 rfl rfl) <| w_d rfl (Q6 rfl rfl) <| wS (Qd y8.1 v12 v14) sz26 rfl rfl rfl rfl rfl (XV h13 h15) .here u4 <| wA (errV 104 y8.2) rfl rfl <| Qb ?_
  obtain rfl := sj he
  refine Qn fn_105 rs_105 (.box (v := (Qd y8.1 v12 v14)) rfl ty26 rfl rfl .here rfl (.tmp (v := errV 104 y8.2) rfl .nil)) <| ⟨⟨[_, _], rfl⟩, hle.trans e11, ⟨v12, v14, rfl, h13, h15⟩⟩
noncomputable def Yu.C : Code := (Tryz.f107.body).getD .skip
def Yu.out (r : Int) (H : Hp) (v : Value) : Prop := v = .int .i64 r
noncomputable def Yu.f (k : Nat) (a b : Qs) : Option Int := (Xo.f k a).bind fun y3 => (Xo.f k b).bind fun y9 => (X5.f k y3 y9).bind fun y13 => if ((!decide (y13 = 0)) || (!(a.f_neg == b.f_neg))) = true then (some (y13)) else (if a.f_neg = true then ((Q2.f k b.f_w a.f_w).bind fun y24 => some (y24)) else ((Q2.f k a.f_w b.f_w).bind fun y28 => some (y28)))
theorem Yu.mono : ∀ k y0 y1, LeO (Yu.f k y0 y1) (Yu.f (k + 1) y0 y1) := fun k _ _ => by unfold Yu.f; exact (LeO.bind (Xo.mono k _) fun _ => LeO.bind (Xo.mono k _) fun _ => LeO.bind (X5.mono k _ _) fun _ => LeO.ite (LeO.refl _) (LeO.ite (LeO.bind (Q2.mono k _ _) fun _ => LeO.refl _) (LeO.bind (Q2.mono k _ _) fun _ => LeO.refl _)))
theorem Yu.calls (k : Nat) {H : Hp} {L : Items} {a b : Qs} {v0_a v1_b : Value} {r : Int} (he : Yu.f k a b = some r) (h0_a : Ro kU32 H v0_a a.f_w) (h1_b : Ro kU32 H v1_b b.f_w) : Ct Tryz.prog 107 ⟨[(Qc a v0_a), (Qc b v1_b)]⟩ H L (fun v H' L' => L = L' ∧ H = H' ∧ v = .int .i64 r) := by
 refine Yj (O := Yu.out r) (fun _ _ h => h) ?_
 have hle : H.le H := .refl _
 unfold Yu.f at he
 refine QV (args := [_, _]) fn_107 rfl nt_107 rfl <| wR rfl <| wB (Qc a v0_a) rfl rfl rfl <| fun b1 => wB (Qc b v1_b) rfl rfl rfl <| fun b2 => wA (.int .i64 0) rfl rfl <| wE <| Q0 <| bK he fun y3 hy4 he => Xy (p := 3) (tl := [3, 4, 5]) [[], [(0, some 6)], []] [some 6, some 7, some 8] (fctF (.is (Qc a v0_a) :: .is (.int .i64 y3) :: .is (Qc b v1_b) :: [])) (fun m_ => bx b2 (QM b v1_b) 24 :: bx b1 (QM a v0_a) 24 :: L) (fun _ => none) mixed (by kernel_rfl) (by kernel_rfl) rfl (Xn (by kernel_rfl)) ⟨(fun H' m_ hH hm_ hu_ => dn <| s_d (m_ 0) rfl (QG (v := (Qc a v0_a)) ty24 rfl .h1 rfl rfl rfl rfl) (by exact rfl) rfl), (by rintro H' m_ hH hm_ hu_ _ rfl; exact dn <| s_d (m_ 1) rfl (Xx (Qm co84 (vs := [(Qc a v0_a)]) rfl (Xo.calls k (a := a) hy4 (h0_a.mono hH)))) (by exact rfl) rfl), (fun H' m_ hH hm_ hu_ => dn <| s_d (m_ 2) rfl (QG (v := (Qc b v1_b)) ty24 rfl .here rfl rfl rfl rfl) (by exact rfl) rfl), trivial⟩ ?_
 intro H7 e8
 rintro _ _ rfl _ _ rfl _ _ rfl
 refine bK he fun y9 hy10 he => w_d rfl (Xx (Qm co84 (vs := [(Qc b v1_b)]) rfl (Xo.calls k (a := b) hy10 (h1_b.mono e8)))) <| bK he fun y13 hy14 he => w_d rfl (Xx (Qm co136 (vs := [.int .i64 y3, .int .i64 y9]) rfl (X5.calls k hy14))) <| wA (.int .i64 y13) rfl rfl <| wQ rfl <| wM (.int .i64 y13) rfl rfl <| w_d rfl (Zs rfl rfl) <| wM (.bool (!decide (y13 = 0))) rfl rfl <| w_g (g := !(!decide (y13 = 0))) rfl rfl rfl wn_f (fun g17 => Q9 (o' := 0) Tryz.underlying24 rfl sz4 rfl rfl rfl) ?_
 refine w_g (g := !(!decide (y13 = 0))) rfl rfl rfl wn_f (fun g18 => QG (v := .bool a.f_neg) ty4 (cvt g18) .h1 rfl rfl rfl rfl) <| w_g (g := !(!decide (y13 = 0))) rfl rfl rfl wn_f (fun g19 => Q9 (o' := 0) Tryz.underlying24 rfl sz4 rfl rfl rfl) <| w_g (g := !(!decide (y13 = 0))) rfl rfl rfl wn_f (fun g20 => QG (v := .bool b.f_neg) ty4 (cvt g20) .here rfl rfl rfl rfl) <| w_g (g := !(!decide (y13 = 0))) rfl rfl rfl wn_f (fun g21 => Md (a := a.f_neg) (b := b.f_neg) Tryz.underlying4 (cvt g21) (cvt g21)) <| w_d rfl (d_or' (b := (!decide (y13 = 0))) (p := (!(a.f_neg == b.f_neg))) rfl rfl rfl) <| Qb ?_
 rcases its he with ⟨c22, he⟩ | ⟨c22, he⟩
 ·
  refine QE rfl c22 <| wR rfl <| wM (.int .i64 y13) rfl rfl <| wA (.int .i64 y13) rfl rfl <| Qb ?_
  obtain rfl := sj he
  refine Qn fn_107 rs_107 (.tmp (v := .int .i64 y13) rfl .nil) <| ⟨⟨[_, _], rfl⟩, hle.trans e8, rfl⟩
 ·
  refine QF rfl (Bool.eq_false_iff.2 c22) <| QH <| Q0 <| wR rfl <| w_d rfl (Q9 (o' := 0) Tryz.underlying24 rfl sz4 rfl rfl rfl) <| wL (.bool a.f_neg) ty4 rfl rfl .h1 rfl rfl <| Qb ?_
  rcases its he with ⟨c23, he⟩ | ⟨c23, he⟩
  ·
   refine QE rfl c23 <| wR rfl <| w_d rfl (Q9 (o' := 1) Tryz.underlying24 rfl sz22 rfl rfl rfl) <| wL v1_b ty22 rfl rfl .here rfl rfl <| w_d rfl (Q9 (o' := 1) Tryz.underlying24 rfl sz22 rfl rfl rfl) <| wL v0_a ty22 rfl rfl .h1 rfl rfl <| bK he fun y24 hy25 he => w_d rfl (Xx (Qm co137 (vs := [v1_b, v0_a]) rfl (Q2.calls k hy25 ((h1_b.mono e8).src) ((h0_a.mono e8).src)))) <| wA (.int .i64 y24) rfl rfl <| Qb ?_
   obtain rfl := sj he
   refine Qn fn_107 rs_107 (.tmp (v := .int .i64 y24) rfl .nil) <| ⟨⟨[_, _], rfl⟩, hle.trans e8, rfl⟩
  ·
   refine QF rfl (Bool.eq_false_iff.2 c23) <| QH <| wR rfl <| w_d rfl (Q9 (o' := 1) Tryz.underlying24 rfl sz22 rfl rfl rfl) <| wL v0_a ty22 rfl rfl .h1 rfl rfl <| w_d rfl (Q9 (o' := 1) Tryz.underlying24 rfl sz22 rfl rfl rfl) <| wL v1_b ty22 rfl rfl .here rfl rfl <| bK he fun y28 hy29 he => w_d rfl (Xx (Qm co137 (vs := [v0_a, v1_b]) rfl (Q2.calls k hy29 ((h0_a.mono e8).src) ((h1_b.mono e8).src)))) <| wA (.int .i64 y28) rfl rfl <| Qb ?_
   obtain rfl := sj he
   refine Qn fn_107 rs_107 (.tmp (v := .int .i64 y28) rfl .nil) <| ⟨⟨[_, _], rfl⟩, hle.trans e8, rfl⟩
noncomputable def Yc.C : Code := (Tryz.f56.body).getD .skip
def Yc.out (r : Int × (Option Int)) (H : Hp) (v : Value) : Prop := v = .tuple ⟨[.int .i64 r.1, errV 104 r.2]⟩
noncomputable def Yc.f (k : Nat) (a b : Qg) : Option (Int × (Option Int)) := (XN.f k a b).bind fun y3 => if y3.2.2.isSome = true then (some (0, y3.2.2)) else ((Yu.f k y3.1 y3.2.1).bind fun y14 => some (y14, none))
theorem Yc.mono : ∀ k y0 y1, LeO (Yc.f k y0 y1) (Yc.f (k + 1) y0 y1) := fun k _ _ => by unfold Yc.f; exact (LeO.bind (XN.mono k _ _) fun _ => LeO.ite (LeO.refl _) (LeO.bind (Yu.mono k _ _) fun _ => LeO.refl _))
theorem Yc.calls (k : Nat) {H : Hp} {L : Items} {a b : Qg} {v0_a v1_a v2_b v3_b : Value} {r : Int × (Option Int)} (he : Yc.f k a b = some r) (h0_a : Ro kU32 H v0_a a.f_n.f_w) (h1_a : Ro kU32 H v1_a a.f_d.f_w) (h2_b : Ro kU32 H v2_b b.f_n.f_w) (h3_b : Ro kU32 H v3_b b.f_d.f_w) : Ct Tryz.prog 56 ⟨[(Qd a v0_a v1_a), (Qd b v2_b v3_b)]⟩ H L (fun v H' L' => L = L' ∧ H = H' ∧ v = .tuple ⟨[.int .i64 r.1, errV 104 r.2]⟩) := by
 refine Yj (O := Yc.out r) (fun _ _ h => h) ?_
 have hle : H.le H := .refl _
 unfold Yc.f at he
 refine QV (args := [_, _]) fn_56 rfl nt_56 rfl <| wR rfl <| wB (Qd a v0_a v1_a) rfl rfl rfl <| fun b1 => wB (Qd b v2_b v3_b) rfl rfl rfl <| fun b2 => wA (.int .i64 0) rfl rfl <| wA (errV 104 none) rfl rfl <| wQ rfl <| wL (Qd a v0_a v1_a) ty26 rfl rfl .h1 rfl rfl <| wL (Qd b v2_b v3_b) ty26 rfl rfl .here rfl rfl ?_
 refine bK he fun y3 hy4 he => w_a rfl (Qm co106 (vs := [(Qd a v0_a v1_a), (Qd b v2_b v3_b)]) rfl (XN.calls k (a := a) (b := b) hy4 h0_a h1_a h2_b h3_b)) ?_
 rintro _ H5 _ ⟨rfl, e6, v7, v9, rfl, h8, h10⟩
 refine wM (.tuple ⟨[(Qc y3.1 v7), (Qc y3.2.1 v9), errV 104 y3.2.2]⟩) rfl rfl <| w_d rfl (Q6 rfl rfl) <| w_d rfl (Q6 rfl rfl) <| w_d rfl (Q6 rfl rfl) <| wN zr24 rfl rfl fun b11 => wN zr24 rfl rfl fun b12 => wS (Qc y3.1 v7) sz24 rfl rfl rfl rfl rfl (XD h8) .h1 u2 <| wS (Qc y3.2.1 v9) sz24 rfl rfl rfl rfl rfl (XD h10) .here u2 <| wA (errV 104 y3.2.2) rfl rfl <| wE <| Q0 ?_
 refine QU rfl <| wM (errV 104 y3.2.2) rfl rfl <| w_d rfl (Yp (e := y3.2.2) Tryz.underlying30 rfl) <| Qb ?_
 rcases its he with ⟨c13, he⟩ | ⟨c13, he⟩
 ·
  refine QE rfl c13 <| wR rfl <| wM (errV 104 y3.2.2) rfl rfl <| wA (.int .i64 0) rfl rfl <| wA (errV 104 y3.2.2) rfl rfl <| Qb ?_
  obtain rfl := sj he
  refine Qn fn_56 rs_56 (.tmp (v := .int .i64 0) rfl (.tmp (v := errV 104 y3.2.2) rfl .nil)) <| ⟨⟨[_, _, _, _], rfl⟩, hle.trans e6, rfl⟩
 ·
  refine QF rfl (Bool.eq_false_iff.2 c13) <| QH <| wR rfl <| wL (Qc y3.1 v7) ty24 rfl rfl .h1 rfl rfl <| wL (Qc y3.2.1 v9) ty24 rfl rfl .here rfl rfl <| bK he fun y14 hy15 he => w_d rfl (Xx (Qm co107 (vs := [(Qc y3.1 v7), (Qc y3.2.1 v9)]) rfl (Yu.calls k (a := y3.1) (b := y3.2.1) hy15 h8 h10))) <| wA (.int .i64 y14) rfl rfl <| wA (errV 104 none) rfl rfl <| Qb ?_
  obtain rfl := sj he
  refine Qn fn_56 rs_56 (.tmp (v := .int .i64 y14) rfl (.tmp (v := errV 104 none) rfl .nil)) <| ⟨⟨[_, _, _, _], rfl⟩, hle.trans e6, rfl⟩
noncomputable def Ye.C : Code := (Tryz.f94.body).getD .skip
def Ye.out (r : Qg × (Option Int)) (H : Hp) (v : Value) : Prop := ∃ v0 v1, v = .tuple ⟨[(Qd r.1 v0 v1), errV 104 r.2]⟩ ∧ Ro kU32 H v0 r.1.f_n.f_w ∧ Ro kU32 H v1 r.1.f_d.f_w
noncomputable def Ye.f (k : Nat) (a b : Qg) : Option (Qg × (Option Int)) := (Yc.f k a b).bind fun y4 => if (y4.2.isSome || (decide (0 ≤ y4.1))) = true then (some (a, y4.2)) else (some (b, none))
theorem Ye.mono : ∀ k y0 y1, LeO (Ye.f k y0 y1) (Ye.f (k + 1) y0 y1) := fun k _ _ => by unfold Ye.f; exact (LeO.bind (Yc.mono k _ _) fun _ => LeO.ite (LeO.refl _) (LeO.refl _))
theorem Ye.calls (k : Nat) {H : Hp} {L : Items} {a b : Qg} {v0_a v1_a v2_b v3_b : Value} {r : Qg × (Option Int)} (he : Ye.f k a b = some r) (h0_a : Ro kU32 H v0_a a.f_n.f_w) (h1_a : Ro kU32 H v1_a a.f_d.f_w) (h2_b : Ro kU32 H v2_b b.f_n.f_w) (h3_b : Ro kU32 H v3_b b.f_d.f_w) : Ct Tryz.prog 94 ⟨[(Qd a v0_a v1_a), (Qd b v2_b v3_b)]⟩ H L (cR H L (Ye.out r)) := by
 refine XO (O := Ye.out r) ?_
 have hle : H.le H := .refl _
 unfold Ye.f at he
 refine QV (args := [_, _]) fn_94 rfl nt_94 rfl <| wR rfl <| wB (Qd a v0_a v1_a) rfl rfl rfl <| fun b1 => wB (Qd b v2_b v3_b) rfl rfl rfl <| fun b2 => wN zr26 rfl rfl fun b3 => wA (errV 104 none) rfl rfl <| wQ rfl <| wL (Qd a v0_a v1_a) ty26 rfl rfl .h2 rfl rfl <| wL (Qd b v2_b v3_b) ty26 rfl rfl .h1 rfl rfl ?_
 refine bK he fun y4 hy5 he => w_d rfl (Xx (Qm co56 (vs := [(Qd a v0_a v1_a), (Qd b v2_b v3_b)]) rfl (Yc.calls k (a := a) (b := b) hy5 h0_a h1_a h2_b h3_b))) <| wM (.tuple ⟨[.int .i64 y4.1, errV 104 y4.2]⟩) rfl rfl <| w_d rfl (Q6 rfl rfl) <| w_d rfl (Q6 rfl rfl) <| wA (.int .i64 y4.1) rfl rfl <| wA (errV 104 y4.2) rfl rfl <| wE <| wR rfl <| wM (errV 104 y4.2) rfl rfl ?_
 refine w_d rfl (Yp (e := y4.2) Tryz.underlying30 rfl) <| wM (.bool y4.2.isSome) rfl rfl <| w_g (g := !y4.2.isSome) rfl rfl rfl wn_f (fun g8 => QW (v := .int .i64 y4.1) rfl) <| w_g (g := !y4.2.isSome) rfl rfl rfl wn_f (fun g9 => ZJ (cvt g9) rfl) <| w_d rfl (d_or' (b := y4.2.isSome) (p := (decide (0 ≤ y4.1))) rfl rfl rfl) <| Qb ?_
 rcases its he with ⟨c10, he⟩ | ⟨c10, he⟩
 ·
  refine QE rfl c10 <| wR rfl <| wL (Qd a v0_a v1_a) ty26 rfl rfl .h2 rfl rfl <| wM (errV 104 y4.2) rfl rfl <| wS (Qd a v0_a v1_a) sz26 rfl rfl rfl rfl rfl (XV h0_a h1_a) .here u4 <| wA (errV 104 y4.2) rfl rfl <| Qb ?_
  obtain rfl := sj he
  refine Qn fn_94 rs_94 (.box (v := (Qd a v0_a v1_a)) rfl ty26 rfl rfl .here rfl (.tmp (v := errV 104 y4.2) rfl .nil)) <| ⟨⟨[_, _, _], rfl⟩, hle, ⟨v0_a, v1_a, rfl, h0_a, h1_a⟩⟩
 ·
  refine QF rfl (Bool.eq_false_iff.2 c10) <| QH <| wR rfl <| wL (Qd b v2_b v3_b) ty26 rfl rfl .h1 rfl rfl <| wS (Qd b v2_b v3_b) sz26 rfl rfl rfl rfl rfl (XV h2_b h3_b) .here u4 <| wA (errV 104 none) rfl rfl <| Qb ?_
  obtain rfl := sj he
  refine Qn fn_94 rs_94 (.box (v := (Qd b v2_b v3_b)) rfl ty26 rfl rfl .here rfl (.tmp (v := errV 104 none) rfl .nil)) <| ⟨⟨[_, _, _], rfl⟩, hle, ⟨v2_b, v3_b, rfl, h2_b, h3_b⟩⟩
end Go.Proofs.YtkccpkccdbfomaaGreatDoor.GBA

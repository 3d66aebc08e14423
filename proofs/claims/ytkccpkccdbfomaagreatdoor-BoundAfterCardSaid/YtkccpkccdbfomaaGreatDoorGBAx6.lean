/- printed by gen.py -/
import Derived.Test.YtkccpkccdbfomaaGreatDoorGBAx5
namespace Go.Proofs.YtkccpkccdbfomaaGreatDoor.GBA
open Go Go.RowKit Go.Proofs.YtkccpkccdbfomaaGreatDoorK Go.Proofs.YtkccpkccdbfomaaGreatDoor
set_option maxRecDepth 100000
set_option maxHeartbeats 2000000
set_option linter.unusedVariables false
set_option linter.unusedSimpArgs false
noncomputable def Xf.C : Code := (Tryz.f92.body).getD .skip
def Xf.out (r : (List Qg) × (Option Int)) (H : Hp) (v : Value) : Prop := ∃ v0, v = .tuple ⟨[v0, errV 104 r.2]⟩ ∧ Ro XE H v0 r.1
abbrev Xf.R (H0 : Hp) (L : Items) (r : (List Qg) × (Option Int)) := fR H0 L (Xf.out r)
structure Xf.Hs where
 l0 : (List Qg) → (Option Int) → (List Qg) → (List Int) → Int → Int → Option ((List Qg) × (Option Int))
noncomputable def Xf.b0 (k : Nat) (h : Xf.Hs) (t4 : List Qg) (t5 : Option Int) (out : List Qg) (t21 : List Int) (t22 t23 : Int) : Option ((List Qg) × (Option Int)) := if t23 < t22 then (if (0 : Int) ≤ t23 ∧ t23 < (t21.length : Int) then ((Yq.f k (rd t21 t23) 20).bind fun y10 => if y10.2.isSome = true then (some ([], y10.2)) else (if out.length + 1 ≤ 2199023255424 then (h.l0 t4 t5 (out ++ [y10.1]) t21 t22 (w64 (t23 + 1))) else none)) else none) else (some (out, none))
noncomputable def Xf.hs : Nat → Xf.Hs
 | 0 => ⟨fun _ _ _ _ _ _ => none⟩
 | k + 1 => ⟨fun x0 x1 x2 x3 x4 x5 => Xf.b0 k (Xf.hs k) x0 x1 x2 x3 x4 x5⟩
noncomputable def Xf.f (k : Nat) (m : Yo) (i : Int) : Option ((List Qg) × (Option Int)) := (fun h : Xf.Hs => if (0 : Int) ≤ w64 (i * m.f_Cols) ∧ (w64 (i * m.f_Cols) : Int) ≤ w64 ((w64 (i + 1)) * m.f_Cols) ∧ w64 ((w64 (i + 1)) * m.f_Cols) ≤ (36 : Int) then (h.l0 [] none [] (cut (T73.toL m.f_A) (w64 (i * m.f_Cols)) (w64 ((w64 (i + 1)) * m.f_Cols))) ((cut (T73.toL m.f_A) (w64 (i * m.f_Cols)) (w64 ((w64 (i + 1)) * m.f_Cols))).length : Int) 0) else none) (Xf.hs k)
structure Xf.LE (h h' : Xf.Hs) : Prop where
 l0 : ∀ y0 y1 y2 y3 y4 y5, LeO (h.l0 y0 y1 y2 y3 y4 y5) (h'.l0 y0 y1 y2 y3 y4 y5)
theorem Xf.b0_mono {k : Nat} {h h' : Xf.Hs} (hl : Xf.LE h h') : ∀ y0 y1 y2 y3 y4 y5, LeO (Xf.b0 k h y0 y1 y2 y3 y4 y5) (Xf.b0 (k + 1) h' y0 y1 y2 y3 y4 y5) := fun _ _ _ _ _ _ => (LeO.ite (LeO.ite (LeO.bind (Yq.mono k _ _) fun _ => LeO.ite (LeO.refl _) (LeO.ite (hl.l0 _ _ _ _ _ _) (LeO.refl _))) (LeO.refl _)) (LeO.refl _))
theorem Xf.hs_mono : ∀ k, Xf.LE (Xf.hs k) (Xf.hs (k + 1))
 | 0 => ⟨fun _ _ _ _ _ _ => LeO.none _⟩
 | k + 1 => ⟨Xf.b0_mono (k := k) (Xf.hs_mono k)⟩
theorem Xf.mono : ∀ k y0 y1, LeO (Xf.f k y0 y1) (Xf.f (k + 1) y0 y1) := fun k _ _ => have hl := Xf.hs_mono k; by unfold Xf.f; exact (LeO.ite (hl.l0 _ _ _ _ _ _) (LeO.refl _))
noncomputable def Xf.Kl0 : List Item := .code (lopB (blkB (seqR (seqL (seqR (seqR Xf.C)))))) :: .inLoop (lopB (blkB (seqR (seqL (seqR (seqR Xf.C)))))) :: .inBlock 0 :: .code (seqR (seqR (seqR Xf.C))) :: []
structure Xf.OK (h : Xf.Hs) : Prop where
 l0 : ∀ {H0 H : Hp} {L : Items} {r : (List Qg) × (Option Int)} {jk_ : Nat → Value} {t4 : List Qg} {t5 : Option Int} {out : List Qg} {t21 : List Int} {t22 : Int} {t23 : Int} {v_t4 : Value} {v_out : Value} {v_t21 : Value} {i_out : Item'} (_ : H0.le H) (_he : h.l0 t4 t5 out t21 t22 t23 = some r) (_h_t4 : Ro XE H v_t4 t4) (_h_out : Sl XE H 26 i_out v_out out) (_h_t21 : Ro kI64 H v_t21 t21), Wp Tryz.prog 92 41 Xf.Kl0 (upd (upd (upd (upd (upd (upd jk_ 4 (v_t4)) 5 (errV 104 t5)) 6 (v_out)) 21 (v_t21)) 22 (.int .i64 t22)) 23 (.int .i64 t23)) H (i_out :: L) (Xf.R H0 L r)
theorem Xf.b0_ok {k : Nat} {h : Xf.Hs} (hh : Xf.OK h) {H0 H : Hp} {L : Items} {r : (List Qg) × (Option Int)} {jk_ : Nat → Value} {t4 : List Qg} {t5 : Option Int} {out : List Qg} {t21 : List Int} {t22 t23 : Int} {v_t4 v_out v_t21 : Value} {i_out : Item'} (hle : H0.le H) (he : Xf.b0 k h t4 t5 out t21 t22 t23 = some r) (h_t4 : Ro XE H v_t4 t4) (h_out : Sl XE H 26 i_out v_out out) (h_t21 : Ro kI64 H v_t21 t21) : Wp Tryz.prog 92 41 Xf.Kl0 (upd (upd (upd (upd (upd (upd jk_ 4 (v_t4)) 5 (errV 104 t5)) 6 (v_out)) 21 (v_t21)) 22 (.int .i64 t22)) 23 (.int .i64 t23)) H (i_out :: L) (Xf.R H0 L r) := by
 unfold Xf.b0 at he
 unfold Xf.Kl0
 refine wR rfl <| w_d rfl (XY rfl rfl) <| wE ?_
 rcases its he with ⟨c8, he⟩ | ⟨c8, he⟩
 ·
  refine QE rfl (dt c8) <| QH <| Q0 <| Xa <| wR rfl <| rK he fun c9 he => w_d rfl (XK (sz := 1) Tryz.underlying72 sz2 rfl h_t21.src rfl c9) <| w_d rfl (XP ty2 rfl h_t21.src c9) <| wA (.int .i64 (rd t21 t23)) rfl rfl <| wE ?_
  refine QU rfl <| wM (.int .i64 (rd t21 t23)) rfl rfl <| bK he fun y10 hy11 he => w_a rfl (Qm co18 (vs := [.int .i64 (rd t21 t23), .int .i64 20]) rfl (Yq.calls k hy11)) ?_
  rintro _ H12 _ ⟨rfl, e13, v14, v16, rfl, h15, h17⟩
  refine wM (.tuple ⟨[(Qd y10.1 v14 v16), errV 104 y10.2]⟩) rfl rfl <| w_d rfl (Q6 rfl rfl) <| w_d rfl (Q6 rfl rfl) <| wN zr26 rfl rfl fun b18 => wS (Qd y10.1 v14 v16) sz26 rfl rfl rfl rfl rfl (XV h15 h17) .here u4 <| wA (errV 104 y10.2) rfl rfl <| wE <| wR rfl <| wM (errV 104 y10.2) rfl rfl <| w_d rfl (Yp (e := y10.2) Tryz.underlying30 rfl) ?_
  refine Qb ?_
  rcases its he with ⟨c19, he⟩ | ⟨c19, he⟩
  ·
   refine QE rfl c19 <| wR rfl <| wM (errV 104 y10.2) rfl rfl <| wA (.slice none 0 0) rfl rfl <| wA (errV 104 y10.2) rfl rfl <| Qb ?_
   obtain rfl := sj he
   refine Qn fn_92 rs_92 (.tmp (v := .slice none 0 0) rfl (.tmp (v := errV 104 y10.2) rfl .nil)) <| ⟨⟨[_, _], rfl⟩, hle.trans e13, ⟨.slice none 0 0, rfl, (Xg _ _)⟩⟩
  ·
   refine QF rfl (Bool.eq_false_iff.2 c19) <| QH <| QU rfl <| wM v_out rfl rfl <| wL (Qd y10.1 v14 v16) ty26 rfl rfl .here rfl rfl <| w_a rfl (o_buildSlice' (kd := XE) (css := [(QZ y10.1 v14 v16)]) (xs := [y10.1]) (parts := [(0, (Qd y10.1 v14 v16))]) Tryz.underlying81 ti26 rfl ⟨_, _, rfl, rfl, rfl⟩ ⟨(Jp (x := y10.1) h15 h17), trivial⟩ rfl (by decide)) ?_
   rintro v20 _ _ ⟨i21, rfl, rfl, h22⟩
   refine rK he fun c23 he => w_a rfl (o_append' (kd := XE) (F := fun z_ => i21 :: bx b18 (QZ y10.1 v14 v16) 26 :: z_ :: L) Tryz.underlying81 Tryz.underlying81 ti26 rfl (by first | omega | (simp only [List.nil_append, List.length_cons, List.length_nil]; omega)) rfl rfl (h_out.mono e13) (h22.src .here) (fun _ => .h2)) ?_
   rintro v24 _ _ ⟨i25, rfl, rfl, h26⟩
   refine wA v24 rfl rfl <| Qb <| XC <| QU rfl <| w_d rfl (XR (c := w64 (t23 + 1)) rfl rfl rfl) <| wM (.int .i64 (w64 (t23 + 1))) rfl rfl <| Qb <| XL <| YB .h1 <| YB .here <| w_sl 4 (v_t4) rfl <| w_sl 5 (errV 104 t5) rfl ?_
   refine w_sl 6 (v24) rfl <| w_sl 21 (v_t21) rfl <| w_sl 22 (.int .i64 t22) rfl <| w_sl 23 (.int .i64 (w64 (t23 + 1))) rfl <| hh.l0 (hle.trans e13) he (h_t4.mono e13) h26 (h_t21.mono e13)
 ·
  refine QF rfl (df c8) <| X8 rfl <| wR rfl <| wM v_out rfl rfl <| wA v_out rfl rfl <| wA (errV 104 none) rfl rfl <| Qb <| YA h_out .here ?_
  intro H27 e28 h29
  obtain rfl := sj he
  refine Qn fn_92 rs_92 (.tmp (v := v_out) rfl (.tmp (v := errV 104 none) rfl .nil)) <| ⟨⟨[_], rfl⟩, hle.trans e28, ⟨v_out, rfl, h29⟩⟩
theorem Xf.ok : ∀ k, Xf.OK (Xf.hs k)
 | 0 => ⟨(by intros; exact nomatch (show none = some _ from by assumption))⟩
 | k + 1 => ⟨Xf.b0_ok (k := k) (Xf.ok k)⟩
theorem Xf.calls (k : Nat) {H : Hp} {L : Items} {m : Yo} {i : Int} {r : (List Qg) × (Option Int)} (he : Xf.f k m i = some r) : Ct Tryz.prog 92 ⟨[.agg ⟨(.int .i64 m.f_Rows :: .int .i64 m.f_Cols :: .int .i64 m.f_A.e0 :: .int .i64 m.f_A.e1 :: .int .i64 m.f_A.e2 :: .int .i64 m.f_A.e3 :: .int .i64 m.f_A.e4 :: .int .i64 m.f_A.e5 :: .int .i64 m.f_A.e6 :: .int .i64 m.f_A.e7 :: .int .i64 m.f_A.e8 :: .int .i64 m.f_A.e9 :: .int .i64 m.f_A.e10 :: .int .i64 m.f_A.e11 :: .int .i64 m.f_A.e12 :: .int .i64 m.f_A.e13 :: .int .i64 m.f_A.e14 :: .int .i64 m.f_A.e15 :: .int .i64 m.f_A.e16 :: .int .i64 m.f_A.e17 :: .int .i64 m.f_A.e18 :: .int .i64 m.f_A.e19 :: .int .i64 m.f_A.e20 :: .int .i64 m.f_A.e21 :: .int .i64 m.f_A.e22 :: .int .i64 m.f_A.e23 :: .int .i64 m.f_A.e24 :: .int .i64 m.f_A.e25 :: .int .i64 m.f_A.e26 :: .int .i64 m.f_A.e27 :: .int .i64 m.f_A.e28 :: .int .i64 m.f_A.e29 :: .int .i64 m.f_A.e30 :: .int .i64 m.f_A.e31 :: .int .i64 m.f_A.e32 :: .int .i64 m.f_A.e33 :: .int .i64 m.f_A.e34 :: .int .i64 m.f_A.e35 :: [])⟩, .int .i64 i]⟩ H L (cR H L (Xf.out r)) := by
 refine XO (O := Xf.out r) ?_
 have hle : H.le H := .refl _
 have hh := Xf.ok k
 unfold Xf.f at he
 refine QV (args := [_, _]) fn_92 rfl nt_92 rfl <| wR rfl <| wB (.agg ⟨(.int .i64 m.f_Rows :: .int .i64 m.f_Cols :: .int .i64 m.f_A.e0 :: .int .i64 m.f_A.e1 :: .int .i64 m.f_A.e2 :: .int .i64 m.f_A.e3 :: .int .i64 m.f_A.e4 :: .int .i64 m.f_A.e5 :: .int .i64 m.f_A.e6 :: .int .i64 m.f_A.e7 :: .int .i64 m.f_A.e8 :: .int .i64 m.f_A.e9 :: .int .i64 m.f_A.e10 :: .int .i64 m.f_A.e11 :: .int .i64 m.f_A.e12 :: .int .i64 m.f_A.e13 :: .int .i64 m.f_A.e14 :: .int .i64 m.f_A.e15 :: .int .i64 m.f_A.e16 :: .int .i64 m.f_A.e17 :: .int .i64 m.f_A.e18 :: .int .i64 m.f_A.e19 :: .int .i64 m.f_A.e20 :: .int .i64 m.f_A.e21 :: .int .i64 m.f_A.e22 :: .int .i64 m.f_A.e23 :: .int .i64 m.f_A.e24 :: .int .i64 m.f_A.e25 :: .int .i64 m.f_A.e26 :: .int .i64 m.f_A.e27 :: .int .i64 m.f_A.e28 :: .int .i64 m.f_A.e29 :: .int .i64 m.f_A.e30 :: .int .i64 m.f_A.e31 :: .int .i64 m.f_A.e32 :: .int .i64 m.f_A.e33 :: .int .i64 m.f_A.e34 :: .int .i64 m.f_A.e35 :: [])⟩) rfl rfl rfl <| fun b1 => wA (.slice none 0 0) rfl rfl <| wA (errV 104 none) rfl rfl <| wQ rfl <| wA (.slice none 0 0) rfl rfl <| wE ?_
 refine wR rfl <| w_d rfl (Q9 (o' := 2) Tryz.underlying75 rfl sz73 rfl rfl rfl) <| wM (.int .i64 i) rfl rfl <| w_d rfl (Q9 (o' := 1) Tryz.underlying75 rfl sz3 rfl rfl rfl) <| wL (.int .i64 m.f_Cols) ty3 rfl rfl .here rfl rfl <| w_d rfl (Jw (c := w64 (i * m.f_Cols)) rfl rfl rfl) <| wM (.int .i64 i) rfl rfl <| w_d rfl (XR (c := w64 (i + 1)) rfl rfl rfl) <| w_d rfl (Q9 (o' := 1) Tryz.underlying75 rfl sz3 rfl rfl rfl) <| wL (.int .i64 m.f_Cols) ty3 rfl rfl .here rfl rfl <| w_d rfl (Jw (c := w64 ((w64 (i + 1)) * m.f_Cols)) rfl rfl rfl) ?_
 refine rK he fun c2 he => Uy .here ?_
 intro H3 e4 h5
 have h6 := N7 (L := L) h5
 have h7 := Ot (Uu (xs := T73.toL m.f_A) h5 (m := 36) (off := 2) rfl rfl) c2
 refine w_d rfl (MZ (e := 2) (sz := 1) Tryz.underlying73 sz2 rfl (.inr ⟨_, _, rfl, rfl⟩) (.inr ⟨_, _, rfl, rfl⟩) c2) <| w_d rfl (Xr Tryz.underlying72 rfl h7.src) <| wM (.int .i64 0) rfl rfl <| Qb <| Xa <| X9 <| Yx <| YB .h1 <| w_sl 4 (.slice none 0 0) rfl <| w_sl 5 (errV 104 none) rfl <| w_sl 6 (.slice none 0 0) rfl <| w_sl 21 (cutv 1 (asl b1 2 36) (w64 (i * m.f_Cols)) (w64 ((w64 (i + 1)) * m.f_Cols))) rfl ?_
 refine w_sl 22 (.int .i64 ((cut (T73.toL m.f_A) (w64 (i * m.f_Cols)) (w64 ((w64 (i + 1)) * m.f_Cols))).length : Int)) rfl <| w_sl 23 (.int .i64 0) rfl <| hh.l0 (hle.trans e4) he (Xg _ _) (Ji _ _ _) h7
noncomputable def Q5.C : Code := (Tryz.f93.body).getD .skip
def Q5.out (r : Qg × (Option Int)) (H : Hp) (v : Value) : Prop := ∃ v0 v1, v = .tuple ⟨[(Qd r.1 v0 v1), errV 104 r.2]⟩ ∧ Ro kU32 H v0 r.1.f_n.f_w ∧ Ro kU32 H v1 r.1.f_d.f_w
abbrev Q5.R (H0 : Hp) (L : Items) (r : Qg × (Option Int)) := fR H0 L (Q5.out r)
structure Q5.Hs where
 l0 : Bool → (List Int) → Bool → (List Int) → (Option Int) → Bool → (List Int) → Bool → (List Int) → (List Qg) → Int → Int → Option (Qg × (Option Int))
noncomputable def Q5.b0 (k : Nat) (h : Q5.Hs) (t2_0 : Bool) (t2_1 : List Int) (t2_2 : Bool) (t2_3 : List Int) (t3 : Option Int) (sum_0 : Bool) (sum_1 : List Int) (sum_2 : Bool) (sum_3 : List Int) (t10 : List Qg) (t11 t12 : Int) : Option (Qg × (Option Int)) := if t12 < t11 then (if (0 : Int) ≤ t12 ∧ t12 < (t10.length : Int) then ((YC.f k (rd t10 t12)).bind fun y12 => if y12.2.isSome = true then (some (⟨⟨false, []⟩, ⟨false, []⟩⟩, y12.2)) else ((X0.f k ⟨⟨sum_0, sum_1⟩, ⟨sum_2, sum_3⟩⟩ y12.1).bind fun y22 => if y22.2.isSome = true then (some (⟨⟨false, []⟩, ⟨false, []⟩⟩, y22.2)) else (h.l0 t2_0 t2_1 t2_2 t2_3 t3 y22.1.f_n.f_neg y22.1.f_n.f_w y22.1.f_d.f_neg y22.1.f_d.f_w t10 t11 (w64 (t12 + 1))))) else none) else (some (⟨⟨sum_0, sum_1⟩, ⟨sum_2, sum_3⟩⟩, none))
noncomputable def Q5.hs : Nat → Q5.Hs
 | 0 => ⟨fun _ _ _ _ _ _ _ _ _ _ _ _ => none⟩
 | k + 1 => ⟨fun x0 x1 x2 x3 x4 x5 x6 x7 x8 x9 x10 x11 => Q5.b0 k (Q5.hs k) x0 x1 x2 x3 x4 x5 x6 x7 x8 x9 x10 x11⟩
noncomputable def Q5.f (k : Nat) (l : List Qg) : Option (Qg × (Option Int)) := (fun h : Q5.Hs => h.l0 false [] false [] none false [] false [] l (l.length : Int) 0) (Q5.hs k)
structure Q5.LE (h h' : Q5.Hs) : Prop where
 l0 : ∀ y0 y1 y2 y3 y4 y5 y6 y7 y8 y9 y10 y11, LeO (h.l0 y0 y1 y2 y3 y4 y5 y6 y7 y8 y9 y10 y11) (h'.l0 y0 y1 y2 y3 y4 y5 y6 y7 y8 y9 y10 y11)
theorem Q5.b0_mono {k : Nat} {h h' : Q5.Hs} (hl : Q5.LE h h') : ∀ y0 y1 y2 y3 y4 y5 y6 y7 y8 y9 y10 y11, LeO (Q5.b0 k h y0 y1 y2 y3 y4 y5 y6 y7 y8 y9 y10 y11) (Q5.b0 (k + 1) h' y0 y1 y2 y3 y4 y5 y6 y7 y8 y9 y10 y11) := fun _ _ _ _ _ _ _ _ _ _ _ _ => (LeO.ite (LeO.ite (LeO.bind (YC.mono k _) fun _ => LeO.ite (LeO.refl _) (LeO.bind (X0.mono k _ _) fun _ => LeO.ite (LeO.refl _) (hl.l0 _ _ _ _ _ _ _ _ _ _ _ _))) (LeO.refl _)) (LeO.refl _))
theorem Q5.hs_mono : ∀ k, Q5.LE (Q5.hs k) (Q5.hs (k + 1))
 | 0 => ⟨fun _ _ _ _ _ _ _ _ _ _ _ _ => LeO.none _⟩
 | k + 1 => ⟨Q5.b0_mono (k := k) (Q5.hs_mono k)⟩
theorem Q5.mono : ∀ k y0, LeO (Q5.f k y0) (Q5.f (k + 1) y0) := fun k _ => have hl := Q5.hs_mono k; by unfold Q5.f; exact (hl.l0 _ _ _ _ _ _ _ _ _ _ _ _)
noncomputable def Q5.Kl0 : List Item := .code (lopB (blkB (seqR (seqL (seqR (seqR Q5.C)))))) :: .inLoop (lopB (blkB (seqR (seqL (seqR (seqR Q5.C)))))) :: .inBlock 0 :: .code (seqR (seqR (seqR Q5.C))) :: []
structure Q5.OK (h : Q5.Hs) : Prop where
 l0 : ∀ {H0 H : Hp} {L : Items} {r : Qg × (Option Int)} {jk_ : Nat → Value} {t2_0 : Bool} {t2_1 : List Int} {t2_2 : Bool} {t2_3 : List Int} {t3 : Option Int} {sum_0 : Bool} {sum_1 : List Int} {sum_2 : Bool} {sum_3 : List Int} {t10 : List Qg} {t11 : Int} {t12 : Int} {v_t2_1 : Value} {v_t2_3 : Value} {v_sum_1 : Value} {v_sum_3 : Value} {v_t10 : Value} {b_t2 : Nat} {b_sum : Nat} (_ : H0.le H) (_he : h.l0 t2_0 t2_1 t2_2 t2_3 t3 sum_0 sum_1 sum_2 sum_3 t10 t11 t12 = some r) (_h_t2_1 : Ro kU32 H v_t2_1 t2_1) (_h_t2_3 : Ro kU32 H v_t2_3 t2_3) (_h_sum_1 : Ro kU32 H v_sum_1 sum_1) (_h_sum_3 : Ro kU32 H v_sum_3 sum_3) (_h_t10 : Src XE H L v_t10 t10), Wp Tryz.prog 93 37 Q5.Kl0 (upd (upd (upd (upd (upd (upd jk_ 2 (pt b_t2)) 3 (errV 104 t3)) 4 (pt b_sum)) 10 (v_t10)) 11 (.int .i64 t11)) 12 (.int .i64 t12)) H (bx b_sum [.bool sum_0, v_sum_1, .bool sum_2, v_sum_3] 26 :: bx b_t2 [.bool t2_0, v_t2_1, .bool t2_2, v_t2_3] 26 :: L) (Q5.R H0 L r)
theorem Q5.b0_ok {k : Nat} {h : Q5.Hs} (hh : Q5.OK h) {H0 H : Hp} {L : Items} {r : Qg × (Option Int)} {jk_ : Nat → Value} {t2_0 : Bool} {t2_1 : List Int} {t2_2 : Bool} {t2_3 : List Int} {t3 : Option Int} {sum_0 : Bool} {sum_1 : List Int} {sum_2 : Bool} {sum_3 : List Int} {t10 : List Qg} {t11 t12 : Int} {v_t2_1 v_t2_3 v_sum_1 v_sum_3 v_t10 : Value} {b_t2 b_sum : Nat} (hle : H0.le H) (he : Q5.b0 k h t2_0 t2_1 t2_2 t2_3 t3 sum_0 sum_1 sum_2 sum_3 t10 t11 t12 = some r) (h_t2_1 : Ro kU32 H v_t2_1 t2_1) (h_t2_3 : Ro kU32 H v_t2_3 t2_3) (h_sum_1 : Ro kU32 H v_sum_1 sum_1) (h_sum_3 : Ro kU32 H v_sum_3 sum_3) (h_t10 : Src XE H L v_t10 t10) : Wp Tryz.prog 93 37 Q5.Kl0 (upd (upd (upd (upd (upd (upd jk_ 2 (pt b_t2)) 3 (errV 104 t3)) 4 (pt b_sum)) 10 (v_t10)) 11 (.int .i64 t11)) 12 (.int .i64 t12)) H (bx b_sum [.bool sum_0, v_sum_1, .bool sum_2, v_sum_3] 26 :: bx b_t2 [.bool t2_0, v_t2_1, .bool t2_2, v_t2_3] 26 :: L) (Q5.R H0 L r) := by
 unfold Q5.b0 at he
 unfold Q5.Kl0
 refine wR rfl <| w_d rfl (XY rfl rfl) <| wE ?_
 rcases its he with ⟨c3, he⟩ | ⟨c3, he⟩
 ·
  refine QE rfl (dt c3) <| QH <| Q0 <| Xa <| wR rfl <| rK he fun c4 he => w_d rfl (XK (sz := 4) Tryz.underlying81 sz26 rfl h_t10.th.th rfl c4) ?_
  obtain ⟨_, l5, r6⟩ := Z5 (kd := XE) h_t10.th.th c4
  obtain ⟨v7, v9, rfl, h8, h10⟩ := ZP r6
  refine w_d rfl (ZE (v := .agg ⟨[.bool (((rd t10 t12).f_n).f_neg), v7, .bool (((rd t10 t12).f_d).f_neg), v9]⟩) (cs := [.bool (((rd t10 t12).f_n).f_neg), v7, .bool (((rd t10 t12).f_d).f_neg), v9]) ty26 rfl rfl (by decide) l5 rfl) <| wN zr26 rfl rfl fun b11 => wS (.agg ⟨[.bool (((rd t10 t12).f_n).f_neg), v7, .bool (((rd t10 t12).f_d).f_neg), v9]⟩) sz26 rfl rfl rfl rfl rfl (oc rfl (oc (h8.one) (oc rfl (oc (h10.one) oz)))) .here u4 <| wQ rfl <| w_d rfl (QG (v := .agg ⟨[.bool (((rd t10 t12).f_n).f_neg), v7, .bool (((rd t10 t12).f_d).f_neg), v9]⟩) ty26 rfl .here rfl rfl rfl rfl) <| bK he fun y12 hy13 he => w_a rfl (Qm co105 (vs := [.agg ⟨[.bool (((rd t10 t12).f_n).f_neg), v7, .bool (((rd t10 t12).f_d).f_neg), v9]⟩]) rfl (YC.calls k (a := (rd t10 t12)) hy13 h8 h10)) ?_
  rintro _ H14 _ ⟨rfl, e15, v16, v18, rfl, h17, h19⟩
  refine wM (.tuple ⟨[(Qd y12.1 v16 v18), errV 104 y12.2]⟩) rfl rfl <| w_d rfl (Q6 rfl rfl) <| w_d rfl (Q6 rfl rfl) <| wN zr26 rfl rfl fun b20 => wS (Qd y12.1 v16 v18) sz26 rfl rfl rfl rfl rfl (XV h17 h19) .here u4 <| wA (errV 104 y12.2) rfl rfl <| wE <| wR rfl <| wM (errV 104 y12.2) rfl rfl <| w_d rfl (Yp (e := y12.2) Tryz.underlying30 rfl) ?_
  refine Qb ?_
  rcases its he with ⟨c21, he⟩ | ⟨c21, he⟩
  ·
   refine QE rfl c21 <| wR rfl <| w_d rfl (XF (cs' := z0c) Tryz.underlying26 zr26 rfl (by kernel_rfl) (parts := []) rfl .nil) <| wM (errV 104 y12.2) rfl rfl <| wS (.agg ⟨z0c⟩) sz26 rfl rfl rfl rfl rfl (oc rfl (oc rfl (oc rfl (oc rfl oz)))) .h3 u4 <| wA (errV 104 y12.2) rfl rfl <| Qb ?_
   obtain rfl := sj he
   refine Qn fn_93 rs_93 (.box (v := .agg ⟨z0c⟩) rfl ty26 rfl rfl .h3 rfl (.tmp (v := errV 104 y12.2) rfl .nil)) <| ⟨⟨[_, _, _, _], rfl⟩, hle.trans e15, ⟨.slice none 0 0, .slice none 0 0, rfl, (Xg _ _), (Xg _ _)⟩⟩
  ·
   refine QF rfl (Bool.eq_false_iff.2 c21) <| QH <| wR rfl <| wL (.agg ⟨[.bool sum_0, v_sum_1, .bool sum_2, v_sum_3]⟩) ty26 rfl rfl .h2 rfl rfl <| wL (Qd y12.1 v16 v18) ty26 rfl rfl .here rfl rfl <| bK he fun y22 hy23 he => w_a rfl (Qm co23 (vs := [.agg ⟨[.bool sum_0, v_sum_1, .bool sum_2, v_sum_3]⟩, (Qd y12.1 v16 v18)]) rfl (X0.calls k (a := ⟨⟨sum_0, sum_1⟩, ⟨sum_2, sum_3⟩⟩) (b := y12.1) hy23 (h_sum_1.mono e15) (h_sum_3.mono e15) h17 h19)) ?_
   rintro _ H24 _ ⟨rfl, e25, v26, v28, rfl, h27, h29⟩
   refine wM (.tuple ⟨[(Qd y22.1 v26 v28), errV 104 y22.2]⟩) rfl rfl <| w_d rfl (Q6 rfl rfl) <| w_d rfl (Q6 rfl rfl) <| wS (Qd y22.1 v26 v28) sz26 rfl rfl rfl rfl rfl (XV h27 h29) .h2 u4 <| wA (errV 104 y22.2) rfl rfl <| wQ rfl <| wM (errV 104 y22.2) rfl rfl <| w_d rfl (Yp (e := y22.2) Tryz.underlying30 rfl) <| Qb ?_
   rcases its he with ⟨c30, he⟩ | ⟨c30, he⟩
   ·
    refine QE rfl c30 <| wR rfl <| w_d rfl (XF (cs' := z0c) Tryz.underlying26 zr26 rfl (by kernel_rfl) (parts := []) rfl .nil) <| wM (errV 104 y22.2) rfl rfl <| wS (.agg ⟨z0c⟩) sz26 rfl rfl rfl rfl rfl (oc rfl (oc rfl (oc rfl (oc rfl oz)))) .h3 u4 <| wA (errV 104 y22.2) rfl rfl <| Qb ?_
    obtain rfl := sj he
    refine Qn fn_93 rs_93 (.box (v := .agg ⟨z0c⟩) rfl ty26 rfl rfl .h3 rfl (.tmp (v := errV 104 y22.2) rfl .nil)) <| ⟨⟨[_, _, _, _], rfl⟩, hle.trans (e15.trans e25), ⟨.slice none 0 0, .slice none 0 0, rfl, (Xg _ _), (Xg _ _)⟩⟩
   ·
    refine QF rfl (Bool.eq_false_iff.2 c30) <| QH <| XC <| QU rfl <| w_d rfl (XR (c := w64 (t12 + 1)) rfl rfl rfl) <| wM (.int .i64 (w64 (t12 + 1))) rfl rfl <| Qb <| XL <| YB .h1 <| YB .here <| w_sl 2 (pt b_t2) rfl <| w_sl 3 (errV 104 t3) rfl ?_
    refine w_sl 4 (pt b_sum) rfl <| w_sl 10 (v_t10) rfl <| w_sl 11 (.int .i64 t11) rfl <| w_sl 12 (.int .i64 (w64 (t12 + 1))) rfl <| hh.l0 (hle.trans (e15.trans e25)) he (h_t2_1.mono (e15.trans e25)) (h_t2_3.mono (e15.trans e25)) h27 h29 (h_t10.mono (e15.trans e25))
 ·
  refine QF rfl (df c3) <| X8 rfl <| wR rfl <| wL (.agg ⟨[.bool sum_0, v_sum_1, .bool sum_2, v_sum_3]⟩) ty26 rfl rfl .here rfl rfl <| wS (.agg ⟨[.bool sum_0, v_sum_1, .bool sum_2, v_sum_3]⟩) sz26 rfl rfl rfl rfl rfl (oc rfl (oc (h_sum_1.one) (oc rfl (oc (h_sum_3.one) oz)))) .h1 u4 <| wA (errV 104 none) rfl rfl <| Qb ?_
  obtain rfl := sj he
  refine Qn fn_93 rs_93 (.box (v := .agg ⟨[.bool sum_0, v_sum_1, .bool sum_2, v_sum_3]⟩) rfl ty26 rfl rfl .h1 rfl (.tmp (v := errV 104 none) rfl .nil)) <| ⟨⟨[_, _], rfl⟩, hle, ⟨v_sum_1, v_sum_3, rfl, h_sum_1, h_sum_3⟩⟩
theorem Q5.ok : ∀ k, Q5.OK (Q5.hs k)
 | 0 => ⟨(by intros; exact nomatch (show none = some _ from by assumption))⟩
 | k + 1 => ⟨Q5.b0_ok (k := k) (Q5.ok k)⟩
theorem Q5.calls (k : Nat) {H : Hp} {L : Items} {l : List Qg} {v0_l : Value} {r : Qg × (Option Int)} (he : Q5.f k l = some r) (h0_l : Src XE H L v0_l l) : Ct Tryz.prog 93 ⟨[v0_l]⟩ H L (cR H L (Q5.out r)) := by
 refine XO (O := Q5.out r) ?_
 have hle : H.le H := .refl _
 have hh := Q5.ok k
 unfold Q5.f at he
 refine QV (args := [_]) fn_93 rfl nt_93 rfl <| wR rfl <| wN zr26 rfl rfl fun b1 => wA (errV 104 none) rfl rfl <| wQ rfl <| w_d rfl (XF (cs' := z0c) Tryz.underlying26 zr26 rfl (by kernel_rfl) (parts := []) rfl .nil) <| wN zr26 rfl rfl fun b2 => wS (.agg ⟨z0c⟩) sz26 rfl rfl rfl rfl rfl (oc rfl (oc rfl (oc rfl (oc rfl oz)))) .here u4 <| Qb ?_
 refine Q0 <| wR rfl <| wM v0_l rfl rfl <| w_d rfl (Xr Tryz.underlying81 rfl h0_l.th.th) <| wM (.int .i64 0) rfl rfl <| Qb <| Xa <| X9 <| w_sl 2 (pt b1) rfl <| w_sl 3 (errV 104 none) rfl <| w_sl 4 (pt b2) rfl ?_
 refine w_sl 10 (v0_l) rfl <| w_sl 11 (.int .i64 (l.length : Int)) rfl <| w_sl 12 (.int .i64 0) rfl <| hh.l0 hle he (Xg _ _) (Xg _ _) (Xg _ _) (Xg _ _) h0_l
noncomputable def Xd.C : Code := (Tryz.f40.body).getD .skip
def Xd.out (r : Qg × (Option Int)) (H : Hp) (v : Value) : Prop := ∃ v0 v1, v = .tuple ⟨[(Qd r.1 v0 v1), errV 104 r.2]⟩ ∧ Ro kU32 H v0 r.1.f_n.f_w ∧ Ro kU32 H v1 r.1.f_d.f_w
abbrev Xd.R (H0 : Hp) (L : Items) (r : Qg × (Option Int)) := fR H0 L (Xd.out r)
structure Xd.Hs where
 l0 : Yo → Bool → (List Int) → Bool → (List Int) → (Option Int) → Bool → (List Int) → Bool → (List Int) → Int → Int → Option (Qg × (Option Int))
noncomputable def Xd.b0 (k : Nat) (h : Xd.Hs) (m_1 : Yo) (t2_0 : Bool) (t2_1 : List Int) (t2_2 : Bool) (t2_3 : List Int) (t3 : Option Int) (most_0 : Bool) (most_1 : List Int) (most_2 : Bool) (most_3 : List Int) (t18 t19 : Int) : Option (Qg × (Option Int)) := if t19 < t18 then ((Xf.f k m_1 t19).bind fun y10 => if y10.2.isSome = true then (some (⟨⟨false, []⟩, ⟨false, []⟩⟩, y10.2)) else ((Q5.f k y10.1).bind fun y17 => if y17.2.isSome = true then (some (⟨⟨false, []⟩, ⟨false, []⟩⟩, y17.2)) else ((Ye.f k ⟨⟨most_0, most_1⟩, ⟨most_2, most_3⟩⟩ y17.1).bind fun y27 => if y27.2.isSome = true then (some (⟨⟨false, []⟩, ⟨false, []⟩⟩, y27.2)) else (h.l0 m_1 t2_0 t2_1 t2_2 t2_3 t3 y27.1.f_n.f_neg y27.1.f_n.f_w y27.1.f_d.f_neg y27.1.f_d.f_w t18 (w64 (t19 + 1)))))) else (some (⟨⟨most_0, most_1⟩, ⟨most_2, most_3⟩⟩, none))
noncomputable def Xd.hs : Nat → Xd.Hs
 | 0 => ⟨fun _ _ _ _ _ _ _ _ _ _ _ _ => none⟩
 | k + 1 => ⟨fun x0 x1 x2 x3 x4 x5 x6 x7 x8 x9 x10 x11 => Xd.b0 k (Xd.hs k) x0 x1 x2 x3 x4 x5 x6 x7 x8 x9 x10 x11⟩
noncomputable def Xd.f (k : Nat) (m : Yo) : Option (Qg × (Option Int)) := (fun h : Xd.Hs => (Xj.f k m).bind fun y3 => if y3.isSome = true then (some (⟨⟨false, []⟩, ⟨false, []⟩⟩, y3)) else (h.l0 m false [] false [] none false [] false [] m.f_Rows 0)) (Xd.hs k)
structure Xd.LE (h h' : Xd.Hs) : Prop where
 l0 : ∀ y0 y1 y2 y3 y4 y5 y6 y7 y8 y9 y10 y11, LeO (h.l0 y0 y1 y2 y3 y4 y5 y6 y7 y8 y9 y10 y11) (h'.l0 y0 y1 y2 y3 y4 y5 y6 y7 y8 y9 y10 y11)
theorem Xd.b0_mono {k : Nat} {h h' : Xd.Hs} (hl : Xd.LE h h') : ∀ y0 y1 y2 y3 y4 y5 y6 y7 y8 y9 y10 y11, LeO (Xd.b0 k h y0 y1 y2 y3 y4 y5 y6 y7 y8 y9 y10 y11) (Xd.b0 (k + 1) h' y0 y1 y2 y3 y4 y5 y6 y7 y8 y9 y10 y11) := fun _ _ _ _ _ _ _ _ _ _ _ _ => (LeO.ite (LeO.bind (Xf.mono k _ _) fun _ => LeO.ite (LeO.refl _) (LeO.bind (Q5.mono k _) fun _ => LeO.ite (LeO.refl _) (LeO.bind (Ye.mono k _ _) fun _ => LeO.ite (LeO.refl _) (hl.l0 _ _ _ _ _ _ _ _ _ _ _ _)))) (LeO.refl _))
theorem Xd.hs_mono : ∀ k, Xd.LE (Xd.hs k) (Xd.hs (k + 1))
 | 0 => ⟨fun _ _ _ _ _ _ _ _ _ _ _ _ => LeO.none _⟩
 | k + 1 => ⟨Xd.b0_mono (k := k) (Xd.hs_mono k)⟩
theorem Xd.mono : ∀ k y0, LeO (Xd.f k y0) (Xd.f (k + 1) y0) := fun k _ => have hl := Xd.hs_mono k; by unfold Xd.f; exact (LeO.bind (Xj.mono k _) fun _ => LeO.ite (LeO.refl _) (hl.l0 _ _ _ _ _ _ _ _ _ _ _ _))
noncomputable def Xd.Kl0 : List Item := .code (lopB (blkB (seqR (seqL (seqR (seqR (seqR Xd.C))))))) :: .inLoop (lopB (blkB (seqR (seqL (seqR (seqR (seqR Xd.C))))))) :: .inBlock 0 :: .code (seqR (seqR (seqR (seqR Xd.C)))) :: []
structure Xd.OK (h : Xd.Hs) : Prop where
 l0 : ∀ {H0 H : Hp} {L : Items} {r : Qg × (Option Int)} {jk_ : Nat → Value} {m_1 : Yo} {t2_0 : Bool} {t2_1 : List Int} {t2_2 : Bool} {t2_3 : List Int} {t3 : Option Int} {most_0 : Bool} {most_1 : List Int} {most_2 : Bool} {most_3 : List Int} {t18 : Int} {t19 : Int} {v_t2_1 : Value} {v_t2_3 : Value} {v_most_1 : Value} {v_most_3 : Value} {b_m : Nat} {b_t2 : Nat} {b_most : Nat} (_ : H0.le H) (_he : h.l0 m_1 t2_0 t2_1 t2_2 t2_3 t3 most_0 most_1 most_2 most_3 t18 t19 = some r) (_h_t2_1 : Ro kU32 H v_t2_1 t2_1) (_h_t2_3 : Ro kU32 H v_t2_3 t2_3) (_h_most_1 : Ro kU32 H v_most_1 most_1) (_h_most_3 : Ro kU32 H v_most_3 most_3), Wp Tryz.prog 40 53 Xd.Kl0 (upd (upd (upd (upd (upd (upd jk_ 1 (pt b_m)) 2 (pt b_t2)) 3 (errV 104 t3)) 5 (pt b_most)) 18 (.int .i64 t18)) 19 (.int .i64 t19)) H (bx b_most [.bool most_0, v_most_1, .bool most_2, v_most_3] 26 :: bx b_t2 [.bool t2_0, v_t2_1, .bool t2_2, v_t2_3] 26 :: bx b_m (.int .i64 m_1.f_Rows :: .int .i64 m_1.f_Cols :: .int .i64 m_1.f_A.e0 :: .int .i64 m_1.f_A.e1 :: .int .i64 m_1.f_A.e2 :: .int .i64 m_1.f_A.e3 :: .int .i64 m_1.f_A.e4 :: .int .i64 m_1.f_A.e5 :: .int .i64 m_1.f_A.e6 :: .int .i64 m_1.f_A.e7 :: .int .i64 m_1.f_A.e8 :: .int .i64 m_1.f_A.e9 :: .int .i64 m_1.f_A.e10 :: .int .i64 m_1.f_A.e11 :: .int .i64 m_1.f_A.e12 :: .int .i64 m_1.f_A.e13 :: .int .i64 m_1.f_A.e14 :: .int .i64 m_1.f_A.e15 :: .int .i64 m_1.f_A.e16 :: .int .i64 m_1.f_A.e17 :: .int .i64 m_1.f_A.e18 :: .int .i64 m_1.f_A.e19 :: .int .i64 m_1.f_A.e20 :: .int .i64 m_1.f_A.e21 :: .int .i64 m_1.f_A.e22 :: .int .i64 m_1.f_A.e23 :: .int .i64 m_1.f_A.e24 :: .int .i64 m_1.f_A.e25 :: .int .i64 m_1.f_A.e26 :: .int .i64 m_1.f_A.e27 :: .int .i64 m_1.f_A.e28 :: .int .i64 m_1.f_A.e29 :: .int .i64 m_1.f_A.e30 :: .int .i64 m_1.f_A.e31 :: .int .i64 m_1.f_A.e32 :: .int .i64 m_1.f_A.e33 :: .int .i64 m_1.f_A.e34 :: .int .i64 m_1.f_A.e35 :: []) 75 :: L) (Xd.R H0 L r)
theorem Xd.b0_ok {k : Nat} {h : Xd.Hs} (hh : Xd.OK h) {H0 H : Hp} {L : Items} {r : Qg × (Option Int)} {jk_ : Nat → Value} {m_1 : Yo} {t2_0 : Bool} {t2_1 : List Int} {t2_2 : Bool} {t2_3 : List Int} {t3 : Option Int} {most_0 : Bool} {most_1 : List Int} {most_2 : Bool} {most_3 : List Int} {t18 t19 : Int} {v_t2_1 v_t2_3 v_most_1 v_most_3 : Value} {b_m b_t2 b_most : Nat} (hle : H0.le H) (he : Xd.b0 k h m_1 t2_0 t2_1 t2_2 t2_3 t3 most_0 most_1 most_2 most_3 t18 t19 = some r) (h_t2_1 : Ro kU32 H v_t2_1 t2_1) (h_t2_3 : Ro kU32 H v_t2_3 t2_3) (h_most_1 : Ro kU32 H v_most_1 most_1) (h_most_3 : Ro kU32 H v_most_3 most_3) : Wp Tryz.prog 40 53 Xd.Kl0 (upd (upd (upd (upd (upd (upd jk_ 1 (pt b_m)) 2 (pt b_t2)) 3 (errV 104 t3)) 5 (pt b_most)) 18 (.int .i64 t18)) 19 (.int .i64 t19)) H (bx b_most [.bool most_0, v_most_1, .bool most_2, v_most_3] 26 :: bx b_t2 [.bool t2_0, v_t2_1, .bool t2_2, v_t2_3] 26 :: bx b_m (.int .i64 m_1.f_Rows :: .int .i64 m_1.f_Cols :: .int .i64 m_1.f_A.e0 :: .int .i64 m_1.f_A.e1 :: .int .i64 m_1.f_A.e2 :: .int .i64 m_1.f_A.e3 :: .int .i64 m_1.f_A.e4 :: .int .i64 m_1.f_A.e5 :: .int .i64 m_1.f_A.e6 :: .int .i64 m_1.f_A.e7 :: .int .i64 m_1.f_A.e8 :: .int .i64 m_1.f_A.e9 :: .int .i64 m_1.f_A.e10 :: .int .i64 m_1.f_A.e11 :: .int .i64 m_1.f_A.e12 :: .int .i64 m_1.f_A.e13 :: .int .i64 m_1.f_A.e14 :: .int .i64 m_1.f_A.e15 :: .int .i64 m_1.f_A.e16 :: .int .i64 m_1.f_A.e17 :: .int .i64 m_1.f_A.e18 :: .int .i64 m_1.f_A.e19 :: .int .i64 m_1.f_A.e20 :: .int .i64 m_1.f_A.e21 :: .int .i64 m_1.f_A.e22 :: .int .i64 m_1.f_A.e23 :: .int .i64 m_1.f_A.e24 :: .int .i64 m_1.f_A.e25 :: .int .i64 m_1.f_A.e26 :: .int .i64 m_1.f_A.e27 :: .int .i64 m_1.f_A.e28 :: .int .i64 m_1.f_A.e29 :: .int .i64 m_1.f_A.e30 :: .int .i64 m_1.f_A.e31 :: .int .i64 m_1.f_A.e32 :: .int .i64 m_1.f_A.e33 :: .int .i64 m_1.f_A.e34 :: .int .i64 m_1.f_A.e35 :: []) 75 :: L) (Xd.R H0 L r) := by
 unfold Xd.b0 at he
 unfold Xd.Kl0
 refine wR rfl <| w_d rfl (XY rfl rfl) <| wE ?_
 rcases its he with ⟨c9, he⟩ | ⟨c9, he⟩
 ·
  refine QE rfl (dt c9) <| QH <| Q0 <| Xa <| wR rfl <| wM (.int .i64 t19) rfl rfl <| wA (.int .i64 t19) rfl rfl <| wQ rfl <| wL (.agg ⟨(.int .i64 m_1.f_Rows :: .int .i64 m_1.f_Cols :: .int .i64 m_1.f_A.e0 :: .int .i64 m_1.f_A.e1 :: .int .i64 m_1.f_A.e2 :: .int .i64 m_1.f_A.e3 :: .int .i64 m_1.f_A.e4 :: .int .i64 m_1.f_A.e5 :: .int .i64 m_1.f_A.e6 :: .int .i64 m_1.f_A.e7 :: .int .i64 m_1.f_A.e8 :: .int .i64 m_1.f_A.e9 :: .int .i64 m_1.f_A.e10 :: .int .i64 m_1.f_A.e11 :: .int .i64 m_1.f_A.e12 :: .int .i64 m_1.f_A.e13 :: .int .i64 m_1.f_A.e14 :: .int .i64 m_1.f_A.e15 :: .int .i64 m_1.f_A.e16 :: .int .i64 m_1.f_A.e17 :: .int .i64 m_1.f_A.e18 :: .int .i64 m_1.f_A.e19 :: .int .i64 m_1.f_A.e20 :: .int .i64 m_1.f_A.e21 :: .int .i64 m_1.f_A.e22 :: .int .i64 m_1.f_A.e23 :: .int .i64 m_1.f_A.e24 :: .int .i64 m_1.f_A.e25 :: .int .i64 m_1.f_A.e26 :: .int .i64 m_1.f_A.e27 :: .int .i64 m_1.f_A.e28 :: .int .i64 m_1.f_A.e29 :: .int .i64 m_1.f_A.e30 :: .int .i64 m_1.f_A.e31 :: .int .i64 m_1.f_A.e32 :: .int .i64 m_1.f_A.e33 :: .int .i64 m_1.f_A.e34 :: .int .i64 m_1.f_A.e35 :: [])⟩) ty75 rfl rfl .h2 rfl rfl ?_
  refine wM (.int .i64 t19) rfl rfl <| bK he fun y10 hy11 he => w_a rfl (Qm co92 (vs := [.agg ⟨(.int .i64 m_1.f_Rows :: .int .i64 m_1.f_Cols :: .int .i64 m_1.f_A.e0 :: .int .i64 m_1.f_A.e1 :: .int .i64 m_1.f_A.e2 :: .int .i64 m_1.f_A.e3 :: .int .i64 m_1.f_A.e4 :: .int .i64 m_1.f_A.e5 :: .int .i64 m_1.f_A.e6 :: .int .i64 m_1.f_A.e7 :: .int .i64 m_1.f_A.e8 :: .int .i64 m_1.f_A.e9 :: .int .i64 m_1.f_A.e10 :: .int .i64 m_1.f_A.e11 :: .int .i64 m_1.f_A.e12 :: .int .i64 m_1.f_A.e13 :: .int .i64 m_1.f_A.e14 :: .int .i64 m_1.f_A.e15 :: .int .i64 m_1.f_A.e16 :: .int .i64 m_1.f_A.e17 :: .int .i64 m_1.f_A.e18 :: .int .i64 m_1.f_A.e19 :: .int .i64 m_1.f_A.e20 :: .int .i64 m_1.f_A.e21 :: .int .i64 m_1.f_A.e22 :: .int .i64 m_1.f_A.e23 :: .int .i64 m_1.f_A.e24 :: .int .i64 m_1.f_A.e25 :: .int .i64 m_1.f_A.e26 :: .int .i64 m_1.f_A.e27 :: .int .i64 m_1.f_A.e28 :: .int .i64 m_1.f_A.e29 :: .int .i64 m_1.f_A.e30 :: .int .i64 m_1.f_A.e31 :: .int .i64 m_1.f_A.e32 :: .int .i64 m_1.f_A.e33 :: .int .i64 m_1.f_A.e34 :: .int .i64 m_1.f_A.e35 :: [])⟩, .int .i64 t19]) rfl (Xf.calls k (m := m_1) hy11)) ?_
  rintro _ H12 _ ⟨rfl, e13, v14, rfl, h15⟩
  refine wM (.tuple ⟨[v14, errV 104 y10.2]⟩) rfl rfl <| w_d rfl (Q6 rfl rfl) <| w_d rfl (Q6 rfl rfl) <| wA v14 rfl rfl <| wA (errV 104 y10.2) rfl rfl <| wE <| wR rfl <| wM (errV 104 y10.2) rfl rfl <| w_d rfl (Yp (e := y10.2) Tryz.underlying30 rfl) <| Qb ?_
  rcases its he with ⟨c16, he⟩ | ⟨c16, he⟩
  ·
   refine QE rfl c16 <| wR rfl <| w_d rfl (XF (cs' := z0c) Tryz.underlying26 zr26 rfl (by kernel_rfl) (parts := []) rfl .nil) <| wM (errV 104 y10.2) rfl rfl <| wS (.agg ⟨z0c⟩) sz26 rfl rfl rfl rfl rfl (oc rfl (oc rfl (oc rfl (oc rfl oz)))) .h1 u4 <| wA (errV 104 y10.2) rfl rfl <| Qb ?_
   obtain rfl := sj he
   refine Qn fn_40 rs_40 (.box (v := .agg ⟨z0c⟩) rfl ty26 rfl rfl .h1 rfl (.tmp (v := errV 104 y10.2) rfl .nil)) <| ⟨⟨[_, _, _], rfl⟩, hle.trans e13, ⟨.slice none 0 0, .slice none 0 0, rfl, (Xg _ _), (Xg _ _)⟩⟩
  ·
   refine QF rfl (Bool.eq_false_iff.2 c16) <| QH <| wR rfl <| wM v14 rfl rfl <| bK he fun y17 hy18 he => w_a rfl (Qm co93 (vs := [v14]) rfl (Q5.calls k hy18 h15.src)) ?_
   rintro _ H19 _ ⟨rfl, e20, v21, v23, rfl, h22, h24⟩
   refine wM (.tuple ⟨[(Qd y17.1 v21 v23), errV 104 y17.2]⟩) rfl rfl <| w_d rfl (Q6 rfl rfl) <| w_d rfl (Q6 rfl rfl) <| wN zr26 rfl rfl fun b25 => wS (Qd y17.1 v21 v23) sz26 rfl rfl rfl rfl rfl (XV h22 h24) .here u4 <| wA (errV 104 y17.2) rfl rfl <| wE <| wR rfl <| wM (errV 104 y17.2) rfl rfl <| w_d rfl (Yp (e := y17.2) Tryz.underlying30 rfl) ?_
   refine Qb ?_
   rcases its he with ⟨c26, he⟩ | ⟨c26, he⟩
   ·
    refine QE rfl c26 <| wR rfl <| w_d rfl (XF (cs' := z0c) Tryz.underlying26 zr26 rfl (by kernel_rfl) (parts := []) rfl .nil) <| wM (errV 104 y17.2) rfl rfl <| wS (.agg ⟨z0c⟩) sz26 rfl rfl rfl rfl rfl (oc rfl (oc rfl (oc rfl (oc rfl oz)))) .h2 u4 <| wA (errV 104 y17.2) rfl rfl <| Qb ?_
    obtain rfl := sj he
    refine Qn fn_40 rs_40 (.box (v := .agg ⟨z0c⟩) rfl ty26 rfl rfl .h2 rfl (.tmp (v := errV 104 y17.2) rfl .nil)) <| ⟨⟨[_, _, _, _], rfl⟩, hle.trans (e13.trans e20), ⟨.slice none 0 0, .slice none 0 0, rfl, (Xg _ _), (Xg _ _)⟩⟩
   ·
    refine QF rfl (Bool.eq_false_iff.2 c26) <| QH <| wR rfl <| wL (.agg ⟨[.bool most_0, v_most_1, .bool most_2, v_most_3]⟩) ty26 rfl rfl .h1 rfl rfl <| wL (Qd y17.1 v21 v23) ty26 rfl rfl .here rfl rfl <| bK he fun y27 hy28 he => w_a rfl (Qm co94 (vs := [.agg ⟨[.bool most_0, v_most_1, .bool most_2, v_most_3]⟩, (Qd y17.1 v21 v23)]) rfl (Ye.calls k (a := ⟨⟨most_0, most_1⟩, ⟨most_2, most_3⟩⟩) (b := y17.1) hy28 (h_most_1.mono (e13.trans e20)) (h_most_3.mono (e13.trans e20)) h22 h24)) ?_
    rintro _ H29 _ ⟨rfl, e30, v31, v33, rfl, h32, h34⟩
    refine wM (.tuple ⟨[(Qd y27.1 v31 v33), errV 104 y27.2]⟩) rfl rfl <| w_d rfl (Q6 rfl rfl) <| w_d rfl (Q6 rfl rfl) <| wS (Qd y27.1 v31 v33) sz26 rfl rfl rfl rfl rfl (XV h32 h34) .h1 u4 <| wA (errV 104 y27.2) rfl rfl <| wQ rfl <| wM (errV 104 y27.2) rfl rfl <| w_d rfl (Yp (e := y27.2) Tryz.underlying30 rfl) <| Qb ?_
    rcases its he with ⟨c35, he⟩ | ⟨c35, he⟩
    ·
     refine QE rfl c35 <| wR rfl <| w_d rfl (XF (cs' := z0c) Tryz.underlying26 zr26 rfl (by kernel_rfl) (parts := []) rfl .nil) <| wM (errV 104 y27.2) rfl rfl <| wS (.agg ⟨z0c⟩) sz26 rfl rfl rfl rfl rfl (oc rfl (oc rfl (oc rfl (oc rfl oz)))) .h2 u4 <| wA (errV 104 y27.2) rfl rfl <| Qb ?_
     obtain rfl := sj he
     refine Qn fn_40 rs_40 (.box (v := .agg ⟨z0c⟩) rfl ty26 rfl rfl .h2 rfl (.tmp (v := errV 104 y27.2) rfl .nil)) <| ⟨⟨[_, _, _, _], rfl⟩, hle.trans ((e13.trans e20).trans e30), ⟨.slice none 0 0, .slice none 0 0, rfl, (Xg _ _), (Xg _ _)⟩⟩
    ·
     refine QF rfl (Bool.eq_false_iff.2 c35) <| QH <| XC <| QU rfl <| w_d rfl (XR (c := w64 (t19 + 1)) rfl rfl rfl) <| wM (.int .i64 (w64 (t19 + 1))) rfl rfl <| Qb <| XL <| YB .here <| w_sl 1 (pt b_m) rfl <| w_sl 2 (pt b_t2) rfl <| w_sl 3 (errV 104 t3) rfl ?_
     refine w_sl 5 (pt b_most) rfl <| w_sl 18 (.int .i64 t18) rfl <| w_sl 19 (.int .i64 (w64 (t19 + 1))) rfl <| hh.l0 (hle.trans ((e13.trans e20).trans e30)) he (h_t2_1.mono ((e13.trans e20).trans e30)) (h_t2_3.mono ((e13.trans e20).trans e30)) h32 h34
 ·
  refine QF rfl (df c9) <| X8 rfl <| wR rfl <| wL (.agg ⟨[.bool most_0, v_most_1, .bool most_2, v_most_3]⟩) ty26 rfl rfl .here rfl rfl <| wS (.agg ⟨[.bool most_0, v_most_1, .bool most_2, v_most_3]⟩) sz26 rfl rfl rfl rfl rfl (oc rfl (oc (h_most_1.one) (oc rfl (oc (h_most_3.one) oz)))) .h1 u4 <| wA (errV 104 none) rfl rfl <| Qb ?_
  obtain rfl := sj he
  refine Qn fn_40 rs_40 (.box (v := .agg ⟨[.bool most_0, v_most_1, .bool most_2, v_most_3]⟩) rfl ty26 rfl rfl .h1 rfl (.tmp (v := errV 104 none) rfl .nil)) <| ⟨⟨[_, _, _], rfl⟩, hle, ⟨v_most_1, v_most_3, rfl, h_most_1, h_most_3⟩⟩
theorem Xd.ok : ∀ k, Xd.OK (Xd.hs k)
 | 0 => ⟨(by intros; exact nomatch (show none = some _ from by assumption))⟩
 | k + 1 => ⟨Xd.b0_ok (k := k) (Xd.ok k)⟩
theorem Xd.calls (k : Nat) {H : Hp} {L : Items} {m : Yo} {r : Qg × (Option Int)} (he : Xd.f k m = some r) : Ct Tryz.prog 40 ⟨[.agg ⟨(.int .i64 m.f_Rows :: .int .i64 m.f_Cols :: .int .i64 m.f_A.e0 :: .int .i64 m.f_A.e1 :: .int .i64 m.f_A.e2 :: .int .i64 m.f_A.e3 :: .int .i64 m.f_A.e4 :: .int .i64 m.f_A.e5 :: .int .i64 m.f_A.e6 :: .int .i64 m.f_A.e7 :: .int .i64 m.f_A.e8 :: .int .i64 m.f_A.e9 :: .int .i64 m.f_A.e10 :: .int .i64 m.f_A.e11 :: .int .i64 m.f_A.e12 :: .int .i64 m.f_A.e13 :: .int .i64 m.f_A.e14 :: .int .i64 m.f_A.e15 :: .int .i64 m.f_A.e16 :: .int .i64 m.f_A.e17 :: .int .i64 m.f_A.e18 :: .int .i64 m.f_A.e19 :: .int .i64 m.f_A.e20 :: .int .i64 m.f_A.e21 :: .int .i64 m.f_A.e22 :: .int .i64 m.f_A.e23 :: .int .i64 m.f_A.e24 :: .int .i64 m.f_A.e25 :: .int .i64 m.f_A.e26 :: .int .i64 m.f_A.e27 :: .int .i64 m.f_A.e28 :: .int .i64 m.f_A.e29 :: .int .i64 m.f_A.e30 :: .int .i64 m.f_A.e31 :: .int .i64 m.f_A.e32 :: .int .i64 m.f_A.e33 :: .int .i64 m.f_A.e34 :: .int .i64 m.f_A.e35 :: [])⟩]⟩ H L (cR H L (Xd.out r)) := by
 refine XO (O := Xd.out r) ?_
 have hle : H.le H := .refl _
 have hh := Xd.ok k
 unfold Xd.f at he
 refine QV (args := [_]) fn_40 rfl nt_40 rfl <| wR rfl <| wB (.agg ⟨(.int .i64 m.f_Rows :: .int .i64 m.f_Cols :: .int .i64 m.f_A.e0 :: .int .i64 m.f_A.e1 :: .int .i64 m.f_A.e2 :: .int .i64 m.f_A.e3 :: .int .i64 m.f_A.e4 :: .int .i64 m.f_A.e5 :: .int .i64 m.f_A.e6 :: .int .i64 m.f_A.e7 :: .int .i64 m.f_A.e8 :: .int .i64 m.f_A.e9 :: .int .i64 m.f_A.e10 :: .int .i64 m.f_A.e11 :: .int .i64 m.f_A.e12 :: .int .i64 m.f_A.e13 :: .int .i64 m.f_A.e14 :: .int .i64 m.f_A.e15 :: .int .i64 m.f_A.e16 :: .int .i64 m.f_A.e17 :: .int .i64 m.f_A.e18 :: .int .i64 m.f_A.e19 :: .int .i64 m.f_A.e20 :: .int .i64 m.f_A.e21 :: .int .i64 m.f_A.e22 :: .int .i64 m.f_A.e23 :: .int .i64 m.f_A.e24 :: .int .i64 m.f_A.e25 :: .int .i64 m.f_A.e26 :: .int .i64 m.f_A.e27 :: .int .i64 m.f_A.e28 :: .int .i64 m.f_A.e29 :: .int .i64 m.f_A.e30 :: .int .i64 m.f_A.e31 :: .int .i64 m.f_A.e32 :: .int .i64 m.f_A.e33 :: .int .i64 m.f_A.e34 :: .int .i64 m.f_A.e35 :: [])⟩) rfl rfl rfl <| fun b1 => wN zr26 rfl rfl fun b2 => wA (errV 104 none) rfl rfl <| wE <| wR rfl <| wL (.agg ⟨(.int .i64 m.f_Rows :: .int .i64 m.f_Cols :: .int .i64 m.f_A.e0 :: .int .i64 m.f_A.e1 :: .int .i64 m.f_A.e2 :: .int .i64 m.f_A.e3 :: .int .i64 m.f_A.e4 :: .int .i64 m.f_A.e5 :: .int .i64 m.f_A.e6 :: .int .i64 m.f_A.e7 :: .int .i64 m.f_A.e8 :: .int .i64 m.f_A.e9 :: .int .i64 m.f_A.e10 :: .int .i64 m.f_A.e11 :: .int .i64 m.f_A.e12 :: .int .i64 m.f_A.e13 :: .int .i64 m.f_A.e14 :: .int .i64 m.f_A.e15 :: .int .i64 m.f_A.e16 :: .int .i64 m.f_A.e17 :: .int .i64 m.f_A.e18 :: .int .i64 m.f_A.e19 :: .int .i64 m.f_A.e20 :: .int .i64 m.f_A.e21 :: .int .i64 m.f_A.e22 :: .int .i64 m.f_A.e23 :: .int .i64 m.f_A.e24 :: .int .i64 m.f_A.e25 :: .int .i64 m.f_A.e26 :: .int .i64 m.f_A.e27 :: .int .i64 m.f_A.e28 :: .int .i64 m.f_A.e29 :: .int .i64 m.f_A.e30 :: .int .i64 m.f_A.e31 :: .int .i64 m.f_A.e32 :: .int .i64 m.f_A.e33 :: .int .i64 m.f_A.e34 :: .int .i64 m.f_A.e35 :: [])⟩) ty75 rfl rfl .h1 rfl rfl <| bK he fun y3 hy4 he => ?_
 refine w_d rfl (Xx (Qm co91 (vs := [.agg ⟨(.int .i64 m.f_Rows :: .int .i64 m.f_Cols :: .int .i64 m.f_A.e0 :: .int .i64 m.f_A.e1 :: .int .i64 m.f_A.e2 :: .int .i64 m.f_A.e3 :: .int .i64 m.f_A.e4 :: .int .i64 m.f_A.e5 :: .int .i64 m.f_A.e6 :: .int .i64 m.f_A.e7 :: .int .i64 m.f_A.e8 :: .int .i64 m.f_A.e9 :: .int .i64 m.f_A.e10 :: .int .i64 m.f_A.e11 :: .int .i64 m.f_A.e12 :: .int .i64 m.f_A.e13 :: .int .i64 m.f_A.e14 :: .int .i64 m.f_A.e15 :: .int .i64 m.f_A.e16 :: .int .i64 m.f_A.e17 :: .int .i64 m.f_A.e18 :: .int .i64 m.f_A.e19 :: .int .i64 m.f_A.e20 :: .int .i64 m.f_A.e21 :: .int .i64 m.f_A.e22 :: .int .i64 m.f_A.e23 :: .int .i64 m.f_A.e24 :: .int .i64 m.f_A.e25 :: .int .i64 m.f_A.e26 :: .int .i64 m.f_A.e27 :: .int .i64 m.f_A.e28 :: .int .i64 m.f_A.e29 :: .int .i64 m.f_A.e30 :: .int .i64 m.f_A.e31 :: .int .i64 m.f_A.e32 :: .int .i64 m.f_A.e33 :: .int .i64 m.f_A.e34 :: .int .i64 m.f_A.e35 :: [])⟩]) rfl (Xj.calls k (m := m) hy4))) <| wA (errV 104 y3) rfl rfl <| wQ rfl <| wM (errV 104 y3) rfl rfl <| w_d rfl (Yp (e := y3) Tryz.underlying30 rfl) <| Qb ?_
 rcases its he with ⟨c7, he⟩ | ⟨c7, he⟩
 ·
  refine QE rfl c7 <| wR rfl <| w_d rfl (XF (cs' := z0c) Tryz.underlying26 zr26 rfl (by kernel_rfl) (parts := []) rfl .nil) <| wM (errV 104 y3) rfl rfl <| wS (.agg ⟨z0c⟩) sz26 rfl rfl rfl rfl rfl (oc rfl (oc rfl (oc rfl (oc rfl oz)))) .here u4 <| wA (errV 104 y3) rfl rfl <| Qb ?_
  obtain rfl := sj he
  refine Qn fn_40 rs_40 (.box (v := .agg ⟨z0c⟩) rfl ty26 rfl rfl .here rfl (.tmp (v := errV 104 y3) rfl .nil)) <| ⟨⟨[_, _], rfl⟩, hle, ⟨.slice none 0 0, .slice none 0 0, rfl, (Xg _ _), (Xg _ _)⟩⟩
 ·
  refine QF rfl (Bool.eq_false_iff.2 c7) <| QH <| wR rfl <| w_d rfl (XF (cs' := z0c) Tryz.underlying26 zr26 rfl (by kernel_rfl) (parts := []) rfl .nil) <| wN zr26 rfl rfl fun b8 => wS (.agg ⟨z0c⟩) sz26 rfl rfl rfl rfl rfl (oc rfl (oc rfl (oc rfl (oc rfl oz)))) .here u4 <| wE <| wR rfl <| w_d rfl (Q9 (o' := 0) Tryz.underlying75 rfl sz3 rfl rfl rfl) ?_
  refine wL (.int .i64 m.f_Rows) ty3 rfl rfl .h2 rfl rfl <| wM (.int .i64 0) rfl rfl <| Qb <| Xa <| X9 <| w_sl 1 (pt b1) rfl <| w_sl 2 (pt b2) rfl <| w_sl 3 (errV 104 none) rfl <| w_sl 5 (pt b8) rfl <| w_sl 18 (.int .i64 m.f_Rows) rfl <| w_sl 19 (.int .i64 0) rfl <| hh.l0 hle he (Xg _ _) (Xg _ _) (Xg _ _) (Xg _ _)
noncomputable def Qk.C : Code := (Tryz.f131.body).getD .skip
def Qk.out (r : (List Int)) (H : Hp) (v : Value) : Prop := v = .tuple ⟨[]⟩
abbrev Qk.R (vr_ : Value) (H0 : Hp) (L : Items) (r : (List Int)) : Value → Hp → Items → Prop := fun v H' L' => (∃ p it', L' = p ++ it' :: L ∧ Sl kU8 H' 5 it' vr_ r) ∧ H0.le H' ∧ v = .tuple ⟨[]⟩
structure Qk.Hs where
 l0 : (List Int) → Int → Int → Option (List Int)
noncomputable def Qk.b0 (k : Nat) (h : Qk.Hs) (s : List Int) (i j_ : Int) : Option (List Int) := if i < j_ then (if (0 : Int) ≤ j_ ∧ j_ < (s.length : Int) then (if (0 : Int) ≤ i ∧ i < (s.length : Int) then (if (0 : Int) ≤ i ∧ i < (s.length : Int) then (if (0 : Int) ≤ j_ ∧ j_ < ((s.set (i : Int).toNat (rd s j_)).length : Int) then (h.l0 ((s.set (i : Int).toNat (rd s j_)).set (j_ : Int).toNat (rd s i)) (w64 (i + 1)) (w64 (j_ - 1))) else none) else none) else none) else none) else (some (s))
noncomputable def Qk.hs : Nat → Qk.Hs
 | 0 => ⟨fun _ _ _ => none⟩
 | k + 1 => ⟨fun x0 x1 x2 => Qk.b0 k (Qk.hs k) x0 x1 x2⟩
noncomputable def Qk.f (k : Nat) (s : List Int) : Option (List Int) := (fun h : Qk.Hs => h.l0 s 0 (w64 ((s.length : Int) - 1))) (Qk.hs k)
structure Qk.LE (h h' : Qk.Hs) : Prop where
 l0 : ∀ y0 y1 y2, LeO (h.l0 y0 y1 y2) (h'.l0 y0 y1 y2)
theorem Qk.b0_mono {k : Nat} {h h' : Qk.Hs} (hl : Qk.LE h h') : ∀ y0 y1 y2, LeO (Qk.b0 k h y0 y1 y2) (Qk.b0 (k + 1) h' y0 y1 y2) := fun _ _ _ => (LeO.ite (LeO.ite (LeO.ite (LeO.ite (LeO.ite (hl.l0 _ _ _) (LeO.refl _)) (LeO.refl _)) (LeO.refl _)) (LeO.refl _)) (LeO.refl _))
theorem Qk.hs_mono : ∀ k, Qk.LE (Qk.hs k) (Qk.hs (k + 1))
 | 0 => ⟨fun _ _ _ => LeO.none _⟩
 | k + 1 => ⟨Qk.b0_mono (k := k) (Qk.hs_mono k)⟩
theorem Qk.mono : ∀ k y0, LeO (Qk.f k y0) (Qk.f (k + 1) y0) := fun k _ => have hl := Qk.hs_mono k; by unfold Qk.f; exact (hl.l0 _ _ _)
noncomputable def Qk.Kl0 : List Item := .code (lopB (blkB (seqR Qk.C))) :: .inLoop (lopB (blkB (seqR Qk.C))) :: .inBlock 0 :: []
structure Qk.OK (h : Qk.Hs) : Prop where
 l0 : ∀ {H0 H : Hp} {L : Items} {r : (List Int)} {jk_ : Nat → Value} {s : List Int} {i : Int} {j_ : Int} {vr_ : Value} {i_s : Item'} (_ : H0.le H) (_he : h.l0 s i j_ = some r) (_h_s : Sl kU8 H 5 i_s vr_ s), Wp Tryz.prog 131 28 Qk.Kl0 (upd (upd (upd jk_ 0 (vr_)) 2 (.int .i64 i)) 3 (.int .i64 j_)) H (i_s :: L) (Qk.R vr_ H0 L r)
theorem Qk.b0_ok {k : Nat} {h : Qk.Hs} (hh : Qk.OK h) {H0 H : Hp} {L : Items} {r : (List Int)} {jk_ : Nat → Value} {s : List Int} {i j_ : Int} {vr_ : Value} {i_s : Item'} (hle : H0.le H) (he : Qk.b0 k h s i j_ = some r) (h_s : Sl kU8 H 5 i_s vr_ s) : Wp Tryz.prog 131 28 Qk.Kl0 (upd (upd (upd jk_ 0 (vr_)) 2 (.int .i64 i)) 3 (.int .i64 j_)) H (i_s :: L) (Qk.R vr_ H0 L r) := by
 unfold Qk.b0 at he
 unfold Qk.Kl0
 refine Q0 <| wR rfl <| wM (.int .i64 i) rfl rfl <| wM (.int .i64 j_) rfl rfl <| w_d rfl (XY rfl rfl) <| Qb ?_
 rcases its he with ⟨c1, he⟩ | ⟨c1, he⟩
 ·
  refine QE rfl (dt c1) <| QH <| Q0 <| Xa <| rK he fun c2 he => rK he fun c3 he => rK he fun c4 he => Xy (p := 14) (tl := [14, 15]) [[], [], [], [], [], [], [(4, some 18), (5, some 19)], [(6, some 20)], [], [], [(8, some 22), (9, some 23)], [(10, some 24)], [(0, some 14), (1, some 15)], [(7, some 21), (12, some 26)]] [some 14, some 15, some 16, some 17, some 18, some 19, some 20, some 21, some 22, some 23, some 24, some 25, some 26, none] (fctF (.is (vr_) :: .is (.int .i64 i) :: .is (vr_) :: .is (.int .i64 j_) :: .is (vr_) :: .is (.int .i64 j_) :: .is (.pointer (some (pel vr_ j_ 1))) :: .is (.int .u8 (rd s j_)) :: .is (vr_) :: .is (.int .i64 i) :: .is (.pointer (some (pel vr_ i 1))) :: .is (.int .u8 (rd s i)) :: .is (.pointer (some (pel vr_ i 1))) :: .itm (fun H it_ => Sl kU8 H 5 it_ vr_ (s.set (i : Int).toNat (rd s j_))) (fun hle_ h_ => h_.mono hle_) :: [])) (fun m_ => m_ 13 :: L) (fun i_ => if i_ = 13 then i_s else none) mixed (by kernel_rfl) (by kernel_rfl) rfl (Xn (by kernel_rfl)) ⟨(fun H' m_ hH hm_ hu_ => dn <| s_d (m_ 0) rfl (QW (v := vr_) rfl) (by exact rfl) rfl), (fun H' m_ hH hm_ hu_ => dn <| s_d (m_ 1) rfl (QW (v := .int .i64 i) rfl) (by exact rfl) rfl), (fun H' m_ hH hm_ hu_ => dn <| s_d (m_ 2) rfl (QW (v := vr_) rfl) (by exact rfl) rfl), (fun H' m_ hH hm_ hu_ => dn <| s_d (m_ 3) rfl (QW (v := .int .i64 j_) rfl) (by exact rfl) rfl), (fun H' m_ hH hm_ hu_ => dn <| s_d (m_ 4) rfl (QW (v := vr_) rfl) (by exact rfl) rfl), (fun H' m_ hH hm_ hu_ => dn <| s_d (m_ 5) rfl (QW (v := .int .i64 j_) rfl) (by exact rfl) rfl), (by rintro H' m_ hH hm_ hu_ _ rfl _ rfl; exact dn <| s_d (m_ 6) rfl (YK (sz := 1) Tryz.underlying52 sz5 rfl (h_s.mono hH).shp rfl c2) (by exact rfl) rfl), (by rintro H' m_ hH hm_ hu_ _ rfl; exact dn <| s_d (m_ 7) rfl (XP ty5 rfl ((h_s.mono hH).src (Ul (hu_ 13 (by kernel_rfl)))) c2) (by exact rfl) rfl), (fun H' m_ hH hm_ hu_ => dn <| s_d (m_ 8) rfl (QW (v := vr_) rfl) (by exact rfl) rfl), (fun H' m_ hH hm_ hu_ => dn <| s_d (m_ 9) rfl (QW (v := .int .i64 i) rfl) (by exact rfl) rfl), (by rintro H' m_ hH hm_ hu_ _ rfl _ rfl; exact dn <| s_d (m_ 10) rfl (YK (sz := 1) Tryz.underlying52 sz5 rfl (h_s.mono hH).shp rfl c3) (by exact rfl) rfl), (by rintro H' m_ hH hm_ hu_ _ rfl; exact dn <| s_d (m_ 11) rfl (XP ty5 rfl ((h_s.mono hH).src (Ul (hu_ 13 (by kernel_rfl)))) c3) (by exact rfl) rfl), (by rintro H' m_ hH hm_ hu_ _ rfl _ rfl; exact dn <| s_d (m_ 12) rfl (YK (sz := 1) Tryz.underlying52 sz5 rfl (h_s.mono hH).shp rfl c4) (by exact rfl) rfl), (by rintro H' m_ hH hm_ hu_ _ rfl _ rfl; exact dn <| Wt (i_s) hm_ rfl (Y1 (kd := kU8) (v := .int .u8 (rd s j_)) sz5 rfl rfl rfl rfl (h_s.mono hH) c4 (fun _ => .here)) rfl (by exact fun _ h_ => ⟨rfl, h_⟩)), trivial⟩ ?_
  intro H7 e8
  rintro _ _ rfl _ _ rfl _ _ rfl _ _ rfl _ _ rfl _ _ rfl _ _ rfl _ _ rfl _ _ rfl _ _ rfl _ _ rfl _ _ rfl _ _ rfl _ i5 ⟨rfl, h6⟩
  refine w_it (L' := i5 :: L) rfl <| rK he fun c9 he => w_d rfl (YK (sz := 1) Tryz.underlying52 sz5 rfl h6.shp rfl c9) <| w_a0 rfl (Y1 (kd := kU8) (v := .int .u8 (rd s i)) (F := fun z_ => z_ :: L) sz5 rfl rfl rfl rfl h6 c9 (fun _ => .here)) ?_
  rintro _ _ _ ⟨i10, rfl, rfl, rfl, h11⟩
  refine Qb <| XC <| QU rfl <| wM (.int .i64 i) rfl rfl <| w_d rfl (XR (c := w64 (i + 1)) rfl rfl rfl) <| wM (.int .i64 j_) rfl rfl <| w_d rfl (YD (c := w64 (j_ - 1)) rfl rfl rfl) <| wA (.int .i64 (w64 (i + 1))) rfl rfl <| wA (.int .i64 (w64 (j_ - 1))) rfl rfl <| Qb <| XL <| w_sl 0 (vr_) rfl ?_
  refine w_sl 2 (.int .i64 (w64 (i + 1))) rfl <| w_sl 3 (.int .i64 (w64 (j_ - 1))) rfl <| hh.l0 (hle.trans e8) he h11
 ·
  refine QF rfl (df c1) <| X8 rfl ?_
  obtain rfl := sj he
  refine NI fn_131 rs_131 .nil <| ⟨⟨[], _, rfl, h_s⟩, hle, rfl⟩
theorem Qk.ok : ∀ k, Qk.OK (Qk.hs k)
 | 0 => ⟨(by intros; exact nomatch (show none = some _ from by assumption))⟩
 | k + 1 => ⟨Qk.b0_ok (k := k) (Qk.ok k)⟩
theorem Qk.calls (k : Nat) {H : Hp} {L : Items} {s : List Int} {vr_ : Value} {it_ : Item'} {r : (List Int)} (he : Qk.f k s = some r) (hr_ : Sl kU8 H 5 it_ vr_ s) : Ct Tryz.prog 131 ⟨[vr_]⟩ H (it_ :: L) (fun v H' L' => ∃ it', L' = it' :: L ∧ H.le H' ∧ Sl kU8 H' 5 it' vr_ r ∧ v = .tuple ⟨[]⟩) := by
 refine NE (Q := fun v => v = .tuple ⟨[]⟩) ?_
 have hle : H.le H := .refl _
 have hh := Qk.ok k
 unfold Qk.f at he
 refine QV (args := [_]) fn_131 rfl nt_131 rfl <| wR rfl <| wM vr_ rfl rfl <| w_d rfl (Gf Tryz.underlying52 rfl hr_.shp) <| w_d rfl (YD (c := w64 ((s.length : Int) - 1)) rfl rfl rfl) <| wA (.int .i64 0) rfl rfl <| wA (.int .i64 (w64 ((s.length : Int) - 1))) rfl rfl <| Qb <| Xa <| X9 <| w_sl 0 (vr_) rfl ?_
 refine w_sl 2 (.int .i64 0) rfl <| w_sl 3 (.int .i64 (w64 ((s.length : Int) - 1))) rfl <| hh.l0 hle he hr_
noncomputable def Qp.C : Code := (Tryz.f87.body).getD .skip
def Qp.out (r : ByteArray) (H : Hp) (v : Value) : Prop := v = .string r
abbrev Qp.R (H0 : Hp) (L : Items) (r : ByteArray) := fR H0 L (Qp.out r)
structure Qp.Hs where
 l0 : Bool → (List Int) → ByteArray → (List Int) → (List Int) → Option ByteArray
 l1 : Bool → (List Int) → ByteArray → (List Int) → (List Int) → Int → Int → Option ByteArray
noncomputable def Qp.b0 (k : Nat) (h : Qp.Hs) (a_0 : Bool) (a_1 : List Int) (t2 : ByteArray) (out w : List Int) : Option ByteArray := if 0 < (w.length : Int) then ((QY.f k w 1000000000).bind fun y4 => h.l1 a_0 a_1 t2 out y4.1 y4.2 0) else (if a_0 = true then (if out.length + 1 ≤ 140737488355200 then ((Qk.f k (out ++ [45])).bind fun y18 => some (strOf y18)) else none) else ((Qk.f k out).bind fun y24 => some (strOf y24)))
noncomputable def Qp.b1 (k : Nat) (h : Qp.Hs) (a_0 : Bool) (a_1 : List Int) (t2 : ByteArray) (out w : List Int) (r_ k_ : Int) : Option ByteArray := if ((decide (k_ < 9)) && ((decide (0 < (w.length : Int))) || (decide (0 < r_)))) = true then (if out.length + 1 ≤ 140737488355200 then (h.l1 a_0 a_1 t2 (out ++ [(48 + ((Int.tmod r_ 10) % 256)) % 256]) w ((Int.tdiv r_ 10) % 4294967296) (w64 (k_ + 1))) else none) else (h.l0 a_0 a_1 t2 out w)
noncomputable def Qp.hs : Nat → Qp.Hs
 | 0 => ⟨fun _ _ _ _ _ => none, fun _ _ _ _ _ _ _ => none⟩
 | k + 1 => ⟨fun x0 x1 x2 x3 x4 => Qp.b0 k (Qp.hs k) x0 x1 x2 x3 x4, fun x0 x1 x2 x3 x4 x5 x6 => Qp.b1 k (Qp.hs k) x0 x1 x2 x3 x4 x5 x6⟩
noncomputable def Qp.f (k : Nat) (a : Qs) : Option ByteArray := (fun h : Qp.Hs => if (a.f_w.length : Int) = 0 then (some (str_2)) else (h.l0 a.f_neg a.f_w str_0 [] a.f_w)) (Qp.hs k)
structure Qp.LE (h h' : Qp.Hs) : Prop where
 l0 : ∀ y0 y1 y2 y3 y4, LeO (h.l0 y0 y1 y2 y3 y4) (h'.l0 y0 y1 y2 y3 y4)
 l1 : ∀ y0 y1 y2 y3 y4 y5 y6, LeO (h.l1 y0 y1 y2 y3 y4 y5 y6) (h'.l1 y0 y1 y2 y3 y4 y5 y6)
theorem Qp.b0_mono {k : Nat} {h h' : Qp.Hs} (hl : Qp.LE h h') : ∀ y0 y1 y2 y3 y4, LeO (Qp.b0 k h y0 y1 y2 y3 y4) (Qp.b0 (k + 1) h' y0 y1 y2 y3 y4) := fun _ _ _ _ _ => (LeO.ite (LeO.bind (QY.mono k _ _) fun _ => hl.l1 _ _ _ _ _ _ _) (LeO.ite (LeO.ite (LeO.bind (Qk.mono k _) fun _ => LeO.refl _) (LeO.refl _)) (LeO.bind (Qk.mono k _) fun _ => LeO.refl _)))
theorem Qp.b1_mono {k : Nat} {h h' : Qp.Hs} (hl : Qp.LE h h') : ∀ y0 y1 y2 y3 y4 y5 y6, LeO (Qp.b1 k h y0 y1 y2 y3 y4 y5 y6) (Qp.b1 (k + 1) h' y0 y1 y2 y3 y4 y5 y6) := fun _ _ _ _ _ _ _ => (LeO.ite (LeO.ite (hl.l1 _ _ _ _ _ _ _) (LeO.refl _)) (hl.l0 _ _ _ _ _))
theorem Qp.hs_mono : ∀ k, Qp.LE (Qp.hs k) (Qp.hs (k + 1))
 | 0 => ⟨fun _ _ _ _ _ => LeO.none _, fun _ _ _ _ _ _ _ => LeO.none _⟩
 | k + 1 => ⟨Qp.b0_mono (k := k) (Qp.hs_mono k), Qp.b1_mono (k := k) (Qp.hs_mono k)⟩
theorem Qp.mono : ∀ k y0, LeO (Qp.f k y0) (Qp.f (k + 1) y0) := fun k _ => have hl := Qp.hs_mono k; by unfold Qp.f; exact (LeO.ite (LeO.refl _) (hl.l0 _ _ _ _ _))
noncomputable def Qp.Kl0 : List Item := .code (lopB (blkB (seqR (seqL (seqR (seqR (seqR Qp.C))))))) :: .inLoop (lopB (blkB (seqR (seqL (seqR (seqR (seqR Qp.C))))))) :: .inBlock 0 :: .code (seqR (seqR (seqR (seqR Qp.C)))) :: []
noncomputable def Qp.Kl1 : List Item := .code (lopB (blkB (seqR (seqR (seqR (blkB (seqR (lopB (blkB (seqR (seqL (seqR (seqR (seqR Qp.C)))))))))))))) :: .inLoop (lopB (blkB (seqR (seqR (seqR (blkB (seqR (lopB (blkB (seqR (seqL (seqR (seqR (seqR Qp.C)))))))))))))) :: .inBlock 2 :: .inBlock 1 :: .inLoop (lopB (blkB (seqR (seqL (seqR (seqR (seqR Qp.C))))))) :: .inBlock 0 :: .code (seqR (seqR (seqR (seqR Qp.C)))) :: []
structure Qp.OK (h : Qp.Hs) : Prop where
 l0 : ∀ {H0 H : Hp} {L : Items} {r : ByteArray} {jk_ : Nat → Value} {a_0 : Bool} {a_1 : List Int} {t2 : ByteArray} {out : List Int} {w : List Int} {v_a_1 : Value} {v_out : Value} {v_w : Value} {i_out : Item'} {b_a : Nat} (_ : H0.le H) (_he : h.l0 a_0 a_1 t2 out w = some r) (_h_a_1 : Ro kU32 H v_a_1 a_1) (_h_out : Sl kU8 H 5 i_out v_out out) (_h_w : Ro kU32 H v_w w), Wp Tryz.prog 87 52 Qp.Kl0 (upd (upd (upd (upd jk_ 1 (pt b_a)) 2 (.string t2)) 3 (v_out)) 4 (v_w)) H (i_out :: bx b_a [.bool a_0, v_a_1] 24 :: L) (Qp.R H0 L r)
 l1 : ∀ {H0 H : Hp} {L : Items} {r : ByteArray} {jk_ : Nat → Value} {a_0 : Bool} {a_1 : List Int} {t2 : ByteArray} {out : List Int} {w : List Int} {r_ : Int} {k_ : Int} {v_a_1 : Value} {v_out : Value} {v_w : Value} {i_out : Item'} {b_a : Nat} (_ : H0.le H) (_he : h.l1 a_0 a_1 t2 out w r_ k_ = some r) (_h_a_1 : Ro kU32 H v_a_1 a_1) (_h_out : Sl kU8 H 5 i_out v_out out) (_h_w : Ro kU32 H v_w w), Wp Tryz.prog 87 52 Qp.Kl1 (upd (upd (upd (upd (upd (upd jk_ 1 (pt b_a)) 2 (.string t2)) 3 (v_out)) 4 (v_w)) 5 (.int .u32 r_)) 6 (.int .i64 k_)) H (i_out :: bx b_a [.bool a_0, v_a_1] 24 :: L) (Qp.R H0 L r)
theorem Qp.b0_ok {k : Nat} {h : Qp.Hs} (hh : Qp.OK h) {H0 H : Hp} {L : Items} {r : ByteArray} {jk_ : Nat → Value} {a_0 : Bool} {a_1 : List Int} {t2 : ByteArray} {out w : List Int} {v_a_1 v_out v_w : Value} {i_out : Item'} {b_a : Nat} (hle : H0.le H) (he : Qp.b0 k h a_0 a_1 t2 out w = some r) (h_a_1 : Ro kU32 H v_a_1 a_1) (h_out : Sl kU8 H 5 i_out v_out out) (h_w : Ro kU32 H v_w w) : Wp Tryz.prog 87 52 Qp.Kl0 (upd (upd (upd (upd jk_ 1 (pt b_a)) 2 (.string t2)) 3 (v_out)) 4 (v_w)) H (i_out :: bx b_a [.bool a_0, v_a_1] 24 :: L) (Qp.R H0 L r) := by
 unfold Qp.b0 at he
 unfold Qp.Kl0
 refine Q0 <| wR rfl <| wM v_w rfl rfl <| w_d rfl (Xr Tryz.underlying22 rfl h_w.src) <| w_d rfl (YR rfl rfl) <| Qb ?_
 rcases its he with ⟨c3, he⟩ | ⟨c3, he⟩
 ·
  refine QE rfl (dt c3) <| QH <| Xa <| wR rfl <| wA (.int .u32 0) rfl rfl <| wQ rfl <| wM v_w rfl rfl <| bK he fun y4 hy5 he => w_a rfl (Qm co130 (vs := [v_w, .int .u32 1000000000]) rfl (QY.calls k hy5 h_w.src)) ?_
  rintro _ H6 _ ⟨rfl, e7, v8, rfl, h9⟩
  refine wM (.tuple ⟨[v8, .int .u32 y4.2]⟩) rfl rfl <| w_d rfl (Q6 rfl rfl) <| w_d rfl (Q6 rfl rfl) <| wA v8 rfl rfl <| wA (.int .u32 y4.2) rfl rfl <| wQ rfl <| wA (.int .i64 0) rfl rfl <| Qb <| Xa <| X9 ?_
  refine w_sl 1 (pt b_a) rfl <| w_sl 2 (.string t2) rfl <| w_sl 3 (v_out) rfl <| w_sl 4 (v8) rfl <| w_sl 5 (.int .u32 y4.2) rfl <| w_sl 6 (.int .i64 0) rfl <| hh.l1 (hle.trans e7) he (h_a_1.mono e7) (h_out.mono e7) h9
 ·
  refine QF rfl (df c3) <| X8 rfl <| Q0 <| wR rfl <| w_d rfl (Q9 (o' := 0) Tryz.underlying24 rfl sz4 rfl rfl rfl) <| wL (.bool a_0) ty4 rfl rfl .h1 rfl rfl <| Qb ?_
  rcases its he with ⟨c10, he⟩ | ⟨c10, he⟩
  ·
   refine QE rfl c10 <| QU rfl <| wM v_out rfl rfl <| w_a rfl (o_buildSlice' (kd := kU8) (css := [[.int .u8 45]]) (xs := [45]) (parts := [(0, .int .u8 45)]) Tryz.underlying52 ti5 rfl ⟨_, _, rfl, rfl, rfl⟩ ⟨rfl, trivial⟩ rfl (by decide)) ?_
   rintro v11 _ _ ⟨i12, rfl, rfl, h13⟩
   refine rK he fun c14 he => w_a rfl (o_append' (kd := kU8) (F := fun z_ => i12 :: z_ :: bx b_a [.bool a_0, v_a_1] 24 :: L) Tryz.underlying52 Tryz.underlying52 ti5 rfl (by first | omega | (simp only [List.nil_append, List.length_cons, List.length_nil]; omega)) rfl rfl h_out (h13.src .here) (fun _ => .h1)) ?_
   rintro v15 _ _ ⟨i16, rfl, rfl, h17⟩
   refine wA v15 rfl rfl <| wQ rfl <| wM v15 rfl rfl <| bK he fun y18 hy19 he => w_a rfl (Qm co131 (vs := [v15]) rfl (MW (F := fun z_ => i12 :: z_ :: bx b_a [.bool a_0, v_a_1] 24 :: L) (Qk.calls k hy19 h17) .h1 (fun _ => .h1))) ?_
   rintro _ H20 _ ⟨i22, rfl, e21, h23, rfl⟩
   refine wQ rfl <| wM v15 rfl rfl <| w_d rfl (N6 Tryz.underlying52 Tryz.underlying5 Tryz.underlying9 rfl (h23.src .h1)) <| wA (.string (strOf y18)) rfl rfl <| Qb ?_
   obtain rfl := sj he
   refine Qn fn_87 rs_87 (.tmp (v := .string (strOf y18)) rfl .nil) <| ⟨⟨[_, _, _], rfl⟩, hle.trans e21, rfl⟩
  ·
   refine QF rfl (Bool.eq_false_iff.2 c10) <| QH <| wR rfl <| wM v_out rfl rfl <| bK he fun y24 hy25 he => w_a rfl (Qm co131 (vs := [v_out]) rfl (MW (F := fun z_ => z_ :: bx b_a [.bool a_0, v_a_1] 24 :: L) (Qk.calls k hy25 h_out) .here (fun _ => .here))) ?_
   rintro _ H26 _ ⟨i28, rfl, e27, h29, rfl⟩
   refine wQ rfl <| wM v_out rfl rfl <| w_d rfl (N6 Tryz.underlying52 Tryz.underlying5 Tryz.underlying9 rfl (h29.src .here)) <| wA (.string (strOf y24)) rfl rfl <| Qb ?_
   obtain rfl := sj he
   refine Qn fn_87 rs_87 (.tmp (v := .string (strOf y24)) rfl .nil) <| ⟨⟨[_, _], rfl⟩, hle.trans e27, rfl⟩
theorem Qp.b1_ok {k : Nat} {h : Qp.Hs} (hh : Qp.OK h) {H0 H : Hp} {L : Items} {r : ByteArray} {jk_ : Nat → Value} {a_0 : Bool} {a_1 : List Int} {t2 : ByteArray} {out w : List Int} {r_ k_ : Int} {v_a_1 v_out v_w : Value} {i_out : Item'} {b_a : Nat} (hle : H0.le H) (he : Qp.b1 k h a_0 a_1 t2 out w r_ k_ = some r) (h_a_1 : Ro kU32 H v_a_1 a_1) (h_out : Sl kU8 H 5 i_out v_out out) (h_w : Ro kU32 H v_w w) : Wp Tryz.prog 87 52 Qp.Kl1 (upd (upd (upd (upd (upd (upd jk_ 1 (pt b_a)) 2 (.string t2)) 3 (v_out)) 4 (v_w)) 5 (.int .u32 r_)) 6 (.int .i64 k_)) H (i_out :: bx b_a [.bool a_0, v_a_1] 24 :: L) (Qp.R H0 L r) := by
 unfold Qp.b1 at he
 unfold Qp.Kl1
 refine Q0 <| wR rfl <| wM (.int .i64 k_) rfl rfl <| w_d rfl (XY rfl rfl) <| wM (.bool (decide (k_ < 9))) rfl rfl <| w_g (g := decide (k_ < 9)) rfl rfl rfl wn_t (fun g30 => QW (v := v_w) rfl) <| w_g (g := decide (k_ < 9)) rfl rfl rfl wn_t (fun g31 => Xr Tryz.underlying22 (cvt g31) h_w.src) <| w_g (g := decide (k_ < 9)) rfl rfl rfl wn_t (fun g32 => YR (cvt g32) rfl) <| w_g (g := decide (k_ < 9)) rfl rfl rfl wn_t (fun g33 => QW (v := .bool (decide (0 < (w.length : Int)))) (cvt g33)) <| w_g (g := (decide (k_ < 9)) && (!(decide (0 < (w.length : Int))))) rfl rfl rfl Vx (fun g34 => QW (v := .int .u32 r_) rfl) <| w_g (g := (decide (k_ < 9)) && (!(decide (0 < (w.length : Int))))) rfl rfl rfl Vx (fun g35 => YR (cvt g35) rfl) ?_
 refine w_g (g := decide (k_ < 9)) rfl rfl rfl wn_t (fun g36 => d_or' (b := (decide (0 < (w.length : Int)))) (p := (decide (0 < r_))) (cvt g36) rfl (cva g36)) <| w_d rfl (d_and' (b := (decide (k_ < 9))) (p := ((decide (0 < (w.length : Int))) || (decide (0 < r_)))) rfl rfl rfl) <| Qb ?_
 rcases its he with ⟨c37, he⟩ | ⟨c37, he⟩
 ·
  refine QE rfl c37 <| QH <| Q0 <| Xa <| wR rfl <| wM v_out rfl rfl <| wM (.int .u32 r_) rfl rfl <| w_d rfl (Jd rfl rfl (by decide)) <| w_d rfl (X7 (c := (Int.tmod r_ 10) % 256) Tryz.underlying167 Tryz.underlying5 rfl rfl) <| w_d rfl (XR (c := (48 + ((Int.tmod r_ 10) % 256)) % 256) rfl rfl rfl) <| w_a rfl (o_buildSlice' (kd := kU8) (css := [[.int .u8 ((48 + ((Int.tmod r_ 10) % 256)) % 256)]]) (xs := [(48 + ((Int.tmod r_ 10) % 256)) % 256]) (parts := [(0, .int .u8 ((48 + ((Int.tmod r_ 10) % 256)) % 256))]) Tryz.underlying52 ti5 rfl ⟨_, _, rfl, rfl, rfl⟩ ⟨rfl, trivial⟩ rfl (by decide)) ?_
  rintro v38 _ _ ⟨i39, rfl, rfl, h40⟩
  refine rK he fun c41 he => w_a rfl (o_append' (kd := kU8) (F := fun z_ => i39 :: z_ :: bx b_a [.bool a_0, v_a_1] 24 :: L) Tryz.underlying52 Tryz.underlying52 ti5 rfl (by first | omega | (simp only [List.nil_append, List.length_cons, List.length_nil]; omega)) rfl rfl h_out (h40.src .here) (fun _ => .h1)) ?_
  rintro v42 _ _ ⟨i43, rfl, rfl, h44⟩
  refine wA v42 rfl rfl <| Qb <| QU rfl <| wM (.int .u32 r_) rfl rfl <| w_d rfl (Jj (c := (Int.tdiv r_ 10) % 4294967296) rfl rfl (by decide) rfl) <| wA (.int .u32 ((Int.tdiv r_ 10) % 4294967296)) rfl rfl <| Qb <| XC <| QU rfl <| wM (.int .i64 k_) rfl rfl <| w_d rfl (XR (c := w64 (k_ + 1)) rfl rfl rfl) <| wA (.int .i64 (w64 (k_ + 1))) rfl rfl ?_
  refine Qb <| XL <| YB .here <| w_sl 1 (pt b_a) rfl <| w_sl 2 (.string t2) rfl <| w_sl 3 (v42) rfl <| w_sl 4 (v_w) rfl <| w_sl 5 (.int .u32 ((Int.tdiv r_ 10) % 4294967296)) rfl <| w_sl 6 (.int .i64 (w64 (k_ + 1))) rfl <| hh.l1 hle he h_a_1 h44 h_w
 ·
  refine QF rfl (Bool.eq_false_iff.2 c37) <| X8 rfl <| XC <| XL <| w_sl 1 (pt b_a) rfl <| w_sl 2 (.string t2) rfl <| w_sl 3 (v_out) rfl <| w_sl 4 (v_w) rfl <| hh.l0 hle he h_a_1 h_out h_w
theorem Qp.ok : ∀ k, Qp.OK (Qp.hs k)
 | 0 => ⟨(by intros; exact nomatch (show none = some _ from by assumption)), (by intros; exact nomatch (show none = some _ from by assumption))⟩
 | k + 1 => ⟨Qp.b0_ok (k := k) (Qp.ok k), Qp.b1_ok (k := k) (Qp.ok k)⟩
theorem Qp.calls (k : Nat) {H : Hp} {L : Items} {a : Qs} {v0_a : Value} {r : ByteArray} (he : Qp.f k a = some r) (h0_a : Ro kU32 H v0_a a.f_w) : Ct Tryz.prog 87 ⟨[(Qc a v0_a)]⟩ H L (fun v H' L' => L = L' ∧ H = H' ∧ v = .string r) := by
 refine Yj (O := Qp.out r) (fun _ _ h => h) ?_
 have hle : H.le H := .refl _
 have hh := Qp.ok k
 unfold Qp.f at he
 refine QV (args := [_]) fn_87 rfl nt_87 rfl <| wR rfl <| wB (Qc a v0_a) rfl rfl rfl <| fun b1 => wA (.string str_0) rfl rfl <| wE <| wR rfl <| w_d rfl (Q9 (o' := 1) Tryz.underlying24 rfl sz22 rfl rfl rfl) <| wL v0_a ty22 rfl rfl .here rfl rfl <| w_d rfl (Xr Tryz.underlying22 rfl h0_a.src) ?_
 refine w_d rfl (Zh rfl rfl) <| Qb ?_
 rcases its he with ⟨c2, he⟩ | ⟨c2, he⟩
 ·
  refine QE rfl (dt c2) <| wR rfl <| wA (.string str_2) rfl rfl <| Qb ?_
  obtain rfl := sj he
  refine Qn fn_87 rs_87 (.tmp (v := .string str_2) rfl .nil) <| ⟨⟨[_], rfl⟩, hle, rfl⟩
 ·
  refine QF rfl (df c2) <| QH <| wR rfl <| wA (.slice none 0 0) rfl rfl <| wE <| wR rfl <| w_d rfl (Q9 (o' := 1) Tryz.underlying24 rfl sz22 rfl rfl rfl) <| wL v0_a ty22 rfl rfl .here rfl rfl <| wA v0_a rfl rfl ?_
  refine Qb <| Xa <| X9 <| Yx <| w_sl 1 (pt b1) rfl <| w_sl 2 (.string str_0) rfl <| w_sl 3 (.slice none 0 0) rfl <| w_sl 4 (v0_a) rfl <| hh.l0 hle he h0_a (Ji _ _ _) h0_a
noncomputable def Xu.C : Code := (Tryz.f33.body).getD .skip
def Xu.out (r : ByteArray) (H : Hp) (v : Value) : Prop := v = .string r
noncomputable def Xu.f (k : Nat) (a : Qg) : Option ByteArray := (Qp.f k a.f_n).bind fun y2 => if (y2.size + str_5.size : Int) ≤ 9223372036854775807 then ((Qy.f k a).bind fun y7 => (Qp.f k y7).bind fun y13 => if ((y2 ++ str_5).size + y13.size : Int) ≤ 9223372036854775807 then (some ((y2 ++ str_5) ++ y13)) else none) else none
theorem Xu.mono : ∀ k y0, LeO (Xu.f k y0) (Xu.f (k + 1) y0) := fun k _ => by unfold Xu.f; exact (LeO.bind (Qp.mono k _) fun _ => LeO.ite (LeO.bind (Qy.mono k _) fun _ => LeO.bind (Qp.mono k _) fun _ => LeO.ite (LeO.refl _) (LeO.refl _)) (LeO.refl _))
theorem Xu.calls (k : Nat) {H : Hp} {L : Items} {a : Qg} {v0_a v1_a : Value} {r : ByteArray} (he : Xu.f k a = some r) (h0_a : Ro kU32 H v0_a a.f_n.f_w) (h1_a : Ro kU32 H v1_a a.f_d.f_w) : Ct Tryz.prog 33 ⟨[(Qd a v0_a v1_a)]⟩ H L (fun v H' L' => L = L' ∧ H = H' ∧ v = .string r) := by
 refine Yj (O := Xu.out r) (fun _ _ h => h) ?_
 have hle : H.le H := .refl _
 unfold Xu.f at he
 refine QV (args := [_]) fn_33 rfl nt_33 rfl <| wR rfl <| wB (Qd a v0_a v1_a) rfl rfl rfl <| fun b1 => wA (.string str_0) rfl rfl <| wE <| bK he fun y2 hy3 he => rK he fun c6 he => bK he fun y7 hy8 he => bK he fun y13 hy14 he => Xy (p := 7) (tl := [7, 8]) [[], [(0, some 3)], [(1, some 4)], [(2, some 5)], [], [(4, some 7)], [(5, some 8)]] [some 3, some 4, some 5, some 6, some 7, some 8, some 9] (fctF (.is (pt b1) :: .is (Qc a.f_n v0_a) :: .is (.string y2) :: .is (.string (y2 ++ str_5)) :: .is (Qd a v0_a v1_a) :: .of (Qy.out y7) (Qy.out_mono _) :: .is (.string y13) :: [])) (fun m_ => bx b1 (QZ a v0_a v1_a) 26 :: L) (fun _ => none) mixed (by kernel_rfl) (by kernel_rfl) rfl (Xn (by kernel_rfl)) ⟨(fun H' m_ hH hm_ hu_ => dn <| s_d (m_ 0) rfl (Q9 (o' := 0) Tryz.underlying26 rfl sz24 rfl rfl rfl) (by exact rfl) rfl), (by rintro H' m_ hH hm_ hu_ _ rfl; exact dn <| s_d (m_ 1) rfl (QG (v := (Qc a.f_n v0_a)) ty24 rfl .here rfl rfl rfl rfl) (by exact rfl) rfl), (by rintro H' m_ hH hm_ hu_ _ rfl; exact dn <| s_d (m_ 2) rfl (Xx (Qm co87 (vs := [(Qc a.f_n v0_a)]) rfl (Qp.calls k (a := a.f_n) hy3 (h0_a.mono hH)))) (by exact rfl) rfl), (by rintro H' m_ hH hm_ hu_ _ rfl; exact dn <| s_d (m_ 3) rfl (Mb rfl rfl c6) (by exact rfl) rfl), (fun H' m_ hH hm_ hu_ => dn <| s_d (m_ 4) rfl (QG (v := (Qd a v0_a v1_a)) ty26 rfl .here rfl rfl rfl rfl) (by exact rfl) rfl), (by rintro H' m_ hH hm_ hu_ _ rfl; exact dn <| s_k (m_ 5) rfl (Qm co78 (vs := [(Qd a v0_a v1_a)]) rfl (Qy.calls k (a := a) hy8 (h0_a.mono hH) (h1_a.mono hH))) rfl (by rintro v_ H_ _ ⟨rfl, e_, h_⟩; exact ⟨rfl, e_, h_⟩)), (by rintro H' m_ hH hm_ hu_ _ ⟨v11, rfl, h12⟩; exact dn <| s_d (m_ 6) rfl (Xx (Qm co87 (vs := [(Qc y7 v11)]) rfl (Qp.calls k (a := y7) hy14 h12))) (by exact rfl) rfl), trivial⟩ ?_
 intro H17 e18
 rintro _ _ rfl _ _ rfl _ _ rfl _ _ rfl _ _ rfl _ _ ⟨v11, rfl, h12⟩ _ _ rfl
 refine rK he fun c19 he => w_d rfl (Mb rfl rfl c19) <| wA (.string ((y2 ++ str_5) ++ y13)) rfl rfl <| Qb ?_
 obtain rfl := sj he
 refine Qn fn_33 rs_33 (.tmp (v := .string ((y2 ++ str_5) ++ y13)) rfl .nil) <| ⟨⟨[_], rfl⟩, hle.trans e18, rfl⟩
noncomputable def XS.C : Code := (Tryz.f49.body).getD .skip
def XS.out (r : Bool) (H : Hp) (v : Value) : Prop := v = .bool r
noncomputable def XS.f (k : Nat)  : Option Bool := (Yq.f k 2 0).bind fun y1 => (Yq.f k 1 0).bind fun y10 => (QN.f k y1.1 y10.1 3).bind fun y19 => (Yi.f k [[(-1048576), 524288], [0, 1048576]]).bind fun y43 => (Xd.f k y43).bind fun y48 => (gd (((y1.2.isNone && y10.2.isNone) && y19.2.isNone) && y48.2.isNone) (Xu.f k y19.1) (ByteArray.empty)).bind fun y65 => (gd ((((y1.2.isNone && y10.2.isNone) && y19.2.isNone) && y48.2.isNone) && (decide (y65 = str_6))) (Xu.f k y48.1) (ByteArray.empty)).bind fun y72 => some (((((y1.2.isNone && y10.2.isNone) && y19.2.isNone) && y48.2.isNone) && (decide (y65 = str_6))) && (decide (y72 = str_7)))
theorem XS.mono : ∀ k, LeO (XS.f k) (XS.f (k + 1)) := fun k => by unfold XS.f; exact (LeO.bind (Yq.mono k _ _) fun _ => LeO.bind (Yq.mono k _ _) fun _ => LeO.bind (QN.mono k _ _ _) fun _ => LeO.bind (Yi.mono k _) fun _ => LeO.bind (Xd.mono k _) fun _ => LeO.bind (LeO.gd (Xu.mono k _)) fun _ => LeO.bind (LeO.gd (Xu.mono k _)) fun _ => LeO.refl _)
theorem XS.calls (k : Nat) {H : Hp} {L : Items} {r : Bool} (he : XS.f k  = some r) : Ct Tryz.prog 49 ⟨[]⟩ H L (fun v H' L' => L = L' ∧ H = H' ∧ v = .bool r) := by
 refine Yj (O := XS.out r) (fun _ _ h => h) ?_
 have hle : H.le H := .refl _
 unfold XS.f at he
 refine QV (args := []) fn_49 rfl nt_49 rfl <| wR rfl <| wA (.bool false) rfl rfl <| wQ rfl <| bK he fun y1 hy2 he => w_a rfl (Qm co18 (vs := [.int .i64 2, .int .i64 0]) rfl (Yq.calls k hy2)) ?_
 rintro _ H3 _ ⟨rfl, e4, v5, v7, rfl, h6, h8⟩
 refine wM (.tuple ⟨[(Qd y1.1 v5 v7), errV 104 y1.2]⟩) rfl rfl <| w_d rfl (Q6 rfl rfl) <| w_d rfl (Q6 rfl rfl) <| wN zr26 rfl rfl fun b9 => wS (Qd y1.1 v5 v7) sz26 rfl rfl rfl rfl rfl (XV h6 h8) .here u4 <| wA (errV 104 y1.2) rfl rfl <| wQ rfl <| bK he fun y10 hy11 he => w_a rfl (Qm co18 (vs := [.int .i64 1, .int .i64 0]) rfl (Yq.calls k hy11)) ?_
 rintro _ H12 _ ⟨rfl, e13, v14, v16, rfl, h15, h17⟩
 refine wM (.tuple ⟨[(Qd y10.1 v14 v16), errV 104 y10.2]⟩) rfl rfl <| w_d rfl (Q6 rfl rfl) <| w_d rfl (Q6 rfl rfl) <| wN zr26 rfl rfl fun b18 => wS (Qd y10.1 v14 v16) sz26 rfl rfl rfl rfl rfl (XV h15 h17) .here u4 <| wA (errV 104 y10.2) rfl rfl <| wQ rfl <| wL (Qd y1.1 v5 v7) ty26 rfl rfl .h1 rfl rfl <| wL (Qd y10.1 v14 v16) ty26 rfl rfl .here rfl rfl <| bK he fun y19 hy20 he => ?_
 refine w_a rfl (Qm co57 (vs := [(Qd y1.1 v5 v7), (Qd y10.1 v14 v16), .int .i64 3]) rfl (QN.calls k (times := y1.1) (more := y10.1) hy20 (h6.mono e13) (h8.mono e13) h15 h17)) ?_
 rintro _ H21 _ ⟨rfl, e22, v23, v25, rfl, h24, h26⟩
 refine wM (.tuple ⟨[(Qd y19.1 v23 v25), errV 104 y19.2]⟩) rfl rfl <| w_d rfl (Q6 rfl rfl) <| w_d rfl (Q6 rfl rfl) <| wN zr26 rfl rfl fun b27 => wS (Qd y19.1 v23 v25) sz26 rfl rfl rfl rfl rfl (XV h24 h26) .here u4 <| wA (errV 104 y19.2) rfl rfl <| wQ rfl <| w_a rfl (o_buildSlice' (kd := kI64) (css := [[.int .i64 (-1048576)], [.int .i64 524288]]) (xs := [(-1048576), 524288]) (parts := [(0, .int .i64 (-1048576)), (1, .int .i64 524288)]) Tryz.underlying72 ti2 rfl ⟨_, _, rfl, rfl, ⟨_, _, rfl, rfl, rfl⟩⟩ ⟨rfl, ⟨rfl, trivial⟩⟩ rfl (by decide)) ?_
 rintro v28 _ _ ⟨i29, rfl, rfl, h30⟩
 refine w_a rfl (o_buildSlice' (kd := kI64) (css := [[.int .i64 0], [.int .i64 1048576]]) (xs := [0, 1048576]) (parts := [(0, .int .i64 0), (1, .int .i64 1048576)]) Tryz.underlying72 ti2 rfl ⟨_, _, rfl, rfl, ⟨_, _, rfl, rfl, rfl⟩⟩ ⟨rfl, ⟨rfl, trivial⟩⟩ rfl (by decide)) ?_
 rintro v31 _ _ ⟨i32, rfl, rfl, h33⟩
 refine YA h30 .h1 ?_
 intro H34 e35 h36
 refine YA (h33.mono e35) .here ?_
 intro H37 e38 h39
 refine w_a rfl (o_buildSlice' (kd := (Kd.slice kI64)) (css := [[v28], [v31]]) (xs := [[(-1048576), 524288], [0, 1048576]]) (parts := [(0, v28), (1, v31)]) Tryz.underlying71 ti72 rfl ⟨_, _, rfl, h36.cells, ⟨_, _, rfl, h39.cells, rfl⟩⟩ ⟨⟨_, rfl, (h36.mono e38)⟩, ⟨⟨_, rfl, h39⟩, trivial⟩⟩ rfl (by decide)) ?_
 rintro v40 _ _ ⟨i41, rfl, rfl, h42⟩
 refine bK he fun y43 hy44 he => w_d rfl (Xx (Qm co39 (vs := [v40]) rfl (Yi.calls k hy44 (h42.src .here)))) <| wN zr75 rfl rfl fun b47 => wS (.agg ⟨(.int .i64 y43.f_Rows :: .int .i64 y43.f_Cols :: .int .i64 y43.f_A.e0 :: .int .i64 y43.f_A.e1 :: .int .i64 y43.f_A.e2 :: .int .i64 y43.f_A.e3 :: .int .i64 y43.f_A.e4 :: .int .i64 y43.f_A.e5 :: .int .i64 y43.f_A.e6 :: .int .i64 y43.f_A.e7 :: .int .i64 y43.f_A.e8 :: .int .i64 y43.f_A.e9 :: .int .i64 y43.f_A.e10 :: .int .i64 y43.f_A.e11 :: .int .i64 y43.f_A.e12 :: .int .i64 y43.f_A.e13 :: .int .i64 y43.f_A.e14 :: .int .i64 y43.f_A.e15 :: .int .i64 y43.f_A.e16 :: .int .i64 y43.f_A.e17 :: .int .i64 y43.f_A.e18 :: .int .i64 y43.f_A.e19 :: .int .i64 y43.f_A.e20 :: .int .i64 y43.f_A.e21 :: .int .i64 y43.f_A.e22 :: .int .i64 y43.f_A.e23 :: .int .i64 y43.f_A.e24 :: .int .i64 y43.f_A.e25 :: .int .i64 y43.f_A.e26 :: .int .i64 y43.f_A.e27 :: .int .i64 y43.f_A.e28 :: .int .i64 y43.f_A.e29 :: .int .i64 y43.f_A.e30 :: .int .i64 y43.f_A.e31 :: .int .i64 y43.f_A.e32 :: .int .i64 y43.f_A.e33 :: .int .i64 y43.f_A.e34 :: .int .i64 y43.f_A.e35 :: [])⟩) sz75 rfl rfl rfl rfl rfl (oc rfl (oc rfl (oc rfl (oc rfl (oc rfl (oc rfl (oc rfl (oc rfl (oc rfl (oc rfl (oc rfl (oc rfl (oc rfl (oc rfl (oc rfl (oc rfl (oc rfl (oc rfl (oc rfl (oc rfl (oc rfl (oc rfl (oc rfl (oc rfl (oc rfl (oc rfl (oc rfl (oc rfl (oc rfl (oc rfl (oc rfl (oc rfl (oc rfl (oc rfl (oc rfl (oc rfl (oc rfl (oc rfl oz)))))))))))))))))))))))))))))))))))))) .here (.here (.here (.here (.here (.here (.here (.here (.here (.here (.here (.here (.here (.here (.here (.here (.here (.here (.here (.here (.here (.here (.here (.here (.here (.here (.here (.here (.here (.here (.here (.here (.here (.here (.here u4)))))))))))))))))))))))))))))))))) <| wQ rfl <| wL (.agg ⟨(.int .i64 y43.f_Rows :: .int .i64 y43.f_Cols :: .int .i64 y43.f_A.e0 :: .int .i64 y43.f_A.e1 :: .int .i64 y43.f_A.e2 :: .int .i64 y43.f_A.e3 :: .int .i64 y43.f_A.e4 :: .int .i64 y43.f_A.e5 :: .int .i64 y43.f_A.e6 :: .int .i64 y43.f_A.e7 :: .int .i64 y43.f_A.e8 :: .int .i64 y43.f_A.e9 :: .int .i64 y43.f_A.e10 :: .int .i64 y43.f_A.e11 :: .int .i64 y43.f_A.e12 :: .int .i64 y43.f_A.e13 :: .int .i64 y43.f_A.e14 :: .int .i64 y43.f_A.e15 :: .int .i64 y43.f_A.e16 :: .int .i64 y43.f_A.e17 :: .int .i64 y43.f_A.e18 :: .int .i64 y43.f_A.e19 :: .int .i64 y43.f_A.e20 :: .int .i64 y43.f_A.e21 :: .int .i64 y43.f_A.e22 :: .int .i64 y43.f_A.e23 :: .int .i64 y43.f_A.e24 :: .int .i64 y43.f_A.e25 :: .int .i64 y43.f_A.e26 :: .int .i64 y43.f_A.e27 :: .int .i64 y43.f_A.e28 :: .int .i64 y43.f_A.e29 :: .int .i64 y43.f_A.e30 :: .int .i64 y43.f_A.e31 :: .int .i64 y43.f_A.e32 :: .int .i64 y43.f_A.e33 :: .int .i64 y43.f_A.e34 :: .int .i64 y43.f_A.e35 :: [])⟩) ty75 rfl rfl .here rfl rfl <| bK he fun y48 hy49 he => w_a rfl (Qm co40 (vs := [.agg ⟨(.int .i64 y43.f_Rows :: .int .i64 y43.f_Cols :: .int .i64 y43.f_A.e0 :: .int .i64 y43.f_A.e1 :: .int .i64 y43.f_A.e2 :: .int .i64 y43.f_A.e3 :: .int .i64 y43.f_A.e4 :: .int .i64 y43.f_A.e5 :: .int .i64 y43.f_A.e6 :: .int .i64 y43.f_A.e7 :: .int .i64 y43.f_A.e8 :: .int .i64 y43.f_A.e9 :: .int .i64 y43.f_A.e10 :: .int .i64 y43.f_A.e11 :: .int .i64 y43.f_A.e12 :: .int .i64 y43.f_A.e13 :: .int .i64 y43.f_A.e14 :: .int .i64 y43.f_A.e15 :: .int .i64 y43.f_A.e16 :: .int .i64 y43.f_A.e17 :: .int .i64 y43.f_A.e18 :: .int .i64 y43.f_A.e19 :: .int .i64 y43.f_A.e20 :: .int .i64 y43.f_A.e21 :: .int .i64 y43.f_A.e22 :: .int .i64 y43.f_A.e23 :: .int .i64 y43.f_A.e24 :: .int .i64 y43.f_A.e25 :: .int .i64 y43.f_A.e26 :: .int .i64 y43.f_A.e27 :: .int .i64 y43.f_A.e28 :: .int .i64 y43.f_A.e29 :: .int .i64 y43.f_A.e30 :: .int .i64 y43.f_A.e31 :: .int .i64 y43.f_A.e32 :: .int .i64 y43.f_A.e33 :: .int .i64 y43.f_A.e34 :: .int .i64 y43.f_A.e35 :: [])⟩]) rfl (Xd.calls k (m := y43) hy49)) ?_
 rintro _ H50 _ ⟨rfl, e51, v52, v54, rfl, h53, h55⟩
 refine wM (.tuple ⟨[(Qd y48.1 v52 v54), errV 104 y48.2]⟩) rfl rfl <| w_d rfl (Q6 rfl rfl) <| w_d rfl (Q6 rfl rfl) <| wN zr26 rfl rfl fun b56 => wS (Qd y48.1 v52 v54) sz26 rfl rfl rfl rfl rfl (XV h53 h55) .here u4 <| wA (errV 104 y48.2) rfl rfl <| wQ rfl <| wM (errV 104 y1.2) rfl rfl <| w_d rfl (Jo (e := y1.2) Tryz.underlying30 rfl) <| wM (.bool y1.2.isNone) rfl rfl ?_
 refine w_g (g := y1.2.isNone) rfl rfl rfl wn_t (fun g57 => QW (v := errV 104 y10.2) rfl) <| w_g (g := y1.2.isNone) rfl rfl rfl wn_t (fun g58 => Jo (e := y10.2) Tryz.underlying30 (cvt g58)) <| w_d rfl (d_and' (b := y1.2.isNone) (p := y10.2.isNone) rfl rfl rfl) <| wM (.bool (y1.2.isNone && y10.2.isNone)) rfl rfl <| w_g (g := y1.2.isNone && y10.2.isNone) rfl rfl rfl wn_t (fun g59 => QW (v := errV 104 y19.2) rfl) <| w_g (g := y1.2.isNone && y10.2.isNone) rfl rfl rfl wn_t (fun g60 => Jo (e := y19.2) Tryz.underlying30 (cvt g60)) <| w_d rfl (d_and' (b := (y1.2.isNone && y10.2.isNone)) (p := y19.2.isNone) rfl rfl rfl) <| wM (.bool ((y1.2.isNone && y10.2.isNone) && y19.2.isNone)) rfl rfl <| w_g (g := (y1.2.isNone && y10.2.isNone) && y19.2.isNone) rfl rfl rfl wn_t (fun g61 => QW (v := errV 104 y48.2) rfl) <| w_g (g := (y1.2.isNone && y10.2.isNone) && y19.2.isNone) rfl rfl rfl wn_t (fun g62 => Jo (e := y48.2) Tryz.underlying30 (cvt g62)) <| w_d rfl (d_and' (b := ((y1.2.isNone && y10.2.isNone) && y19.2.isNone)) (p := y48.2.isNone) rfl rfl rfl) <| wM (.bool (((y1.2.isNone && y10.2.isNone) && y19.2.isNone) && y48.2.isNone)) rfl rfl ?_
 refine w_g (g := ((y1.2.isNone && y10.2.isNone) && y19.2.isNone) && y48.2.isNone) rfl rfl rfl wn_t (fun g63 => QG (v := (Qd y19.1 v23 v25)) ty26 rfl .h5 rfl rfl rfl rfl) <| bK he fun y65 hy66 he => w_g (g := ((y1.2.isNone && y10.2.isNone) && y19.2.isNone) && y48.2.isNone) rfl rfl rfl wn_t (fun g64 => Xx (Qm co33 (vs := [(Qd y19.1 v23 v25)]) (acons (cvt g64) (anil)) (Xu.calls k (a := y19.1) (gd_t g64 hy66) (h24.mono ((e35.trans e38).trans e51)) (h26.mono ((e35.trans e38).trans e51))))) <| w_g (g := ((y1.2.isNone && y10.2.isNone) && y19.2.isNone) && y48.2.isNone) rfl rfl rfl wn_t (fun g69 => GY (cvt g69) rfl) <| w_d rfl (d_and' (b := (((y1.2.isNone && y10.2.isNone) && y19.2.isNone) && y48.2.isNone)) (p := (decide (y65 = str_6))) rfl rfl rfl) <| wM (.bool ((((y1.2.isNone && y10.2.isNone) && y19.2.isNone) && y48.2.isNone) && (decide (y65 = str_6)))) rfl rfl <| w_g (g := (((y1.2.isNone && y10.2.isNone) && y19.2.isNone) && y48.2.isNone) && (decide (y65 = str_6))) rfl rfl rfl wn_t (fun g70 => QG (v := (Qd y48.1 v52 v54)) ty26 rfl .here rfl rfl rfl rfl) <| bK he fun y72 hy73 he => w_g (g := (((y1.2.isNone && y10.2.isNone) && y19.2.isNone) && y48.2.isNone) && (decide (y65 = str_6))) rfl rfl rfl wn_t (fun g71 => Xx (Qm co33 (vs := [(Qd y48.1 v52 v54)]) (acons (cvt g71) (anil)) (Xu.calls k (a := y48.1) (gd_t g71 hy73) h53 h55))) <| w_g (g := (((y1.2.isNone && y10.2.isNone) && y19.2.isNone) && y48.2.isNone) && (decide (y65 = str_6))) rfl rfl rfl wn_t (fun g76 => GY (cvt g76) rfl) <| w_d rfl (d_and' (b := ((((y1.2.isNone && y10.2.isNone) && y19.2.isNone) && y48.2.isNone) && (decide (y65 = str_6)))) (p := (decide (y72 = str_7))) rfl rfl rfl) <| wA (.bool (((((y1.2.isNone && y10.2.isNone) && y19.2.isNone) && y48.2.isNone) && (decide (y65 = str_6))) && (decide (y72 = str_7)))) rfl rfl ?_
 refine Qb ?_
 obtain rfl := sj he
 refine Qn fn_49 rs_49 (.tmp (v := .bool (((((y1.2.isNone && y10.2.isNone) && y19.2.isNone) && y48.2.isNone) && (decide (y65 = str_6))) && (decide (y72 = str_7)))) rfl .nil) <| ⟨⟨[_, _, _, _, _, _, _, _], rfl⟩, hle.trans (((((e4.trans e13).trans e22).trans e35).trans e38).trans e51), rfl⟩
noncomputable def Ym.C : Code := (Tryz.f103.body).getD .skip
def Ym.out (r : Qi) (H : Hp) (v : Value) : Prop := ∃ v0 v1, v = (Ql r v0 v1) ∧ Ro kI64 H v0 r.f_N.f_D ∧ Ro kI64 H v1 r.f_D.f_D
noncomputable def Ym.f (k : Nat)  : Option Qi := (Qv.f k 1).bind fun y2 => (QC.f k ⟨false, []⟩ y2).bind fun y8 => some (y8)
theorem Ym.calls (k : Nat) {H : Hp} {L : Items} {r : Qi} (he : Ym.f k  = some r) : Ct Tryz.prog 103 ⟨[]⟩ H L (cR H L (Ym.out r)) := by
 refine XO (O := Ym.out r) ?_
 have hle : H.le H := .refl _
 unfold Ym.f at he
 refine QV (args := []) fn_103 rfl nt_103 rfl <| wR rfl <| wN zr40 rfl rfl fun b1 => wQ rfl <| w_d rfl (XF (cs' := [.bool false, .slice none 0 0]) Tryz.underlying37 zr37 rfl (by kernel_rfl) (parts := []) rfl .nil) <| bK he fun y2 hy3 he => w_a rfl (Qm co16 (vs := [.int .i64 1]) rfl (Qv.calls k hy3)) ?_
 rintro _ H4 _ ⟨rfl, e5, v6, rfl, h7⟩
 refine bK he fun y8 hy9 he => w_a rfl (Qm co13 (vs := [.agg ⟨[.bool false, .slice none 0 0]⟩, (Qa y2 v6)]) rfl (QC.calls k (n := ⟨false, []⟩) (d := y2) hy9 (Xg _ _) h7)) ?_
 rintro _ H10 _ ⟨rfl, e11, v12, v14, rfl, h13, h15⟩
 refine wS (Ql y8 v12 v14) sz40 rfl rfl rfl rfl rfl (Yl h13 h15) .here u4 <| Qb ?_
 obtain rfl := sj he
 refine Qn fn_103 rs_103 (.box (v := (Ql y8 v12 v14)) rfl ty40 rfl rfl .here rfl .nil) <| ⟨⟨[_], rfl⟩, hle.trans (e5.trans e11), ⟨v12, v14, rfl, h13, h15⟩⟩
noncomputable def YH.C : Code := (Tryz.f146.body).getD .skip
def YH.out (r : Bool) (H : Hp) (v : Value) : Prop := v = .bool r
noncomputable def YH.f (k : Nat) (a : Qf) (bits : Int) : Option Bool := (Qr.f k bits).bind fun y2 => (QR.f k a.f_D y2.f_D).bind fun y12 => some (y12)
theorem YH.calls (k : Nat) {H : Hp} {L : Items} {a : Qf} {bits : Int} {v0_a : Value} {r : Bool} (he : YH.f k a bits = some r) (h0_a : Ro kI64 H v0_a a.f_D) : Ct Tryz.prog 146 ⟨[(Qa a v0_a), .int .i64 bits]⟩ H L (fun v H' L' => L = L' ∧ H = H' ∧ v = .bool r) := by
 refine Yj (O := YH.out r) (fun _ _ h => h) ?_
 have hle : H.le H := .refl _
 unfold YH.f at he
 refine QV (args := [_, _]) fn_146 rfl nt_146 rfl <| wR rfl <| wB (Qa a v0_a) rfl rfl rfl <| fun b1 => wA (.bool false) rfl rfl <| wE <| bK he fun y2 hy3 he => Xy (p := 5) (tl := [5, 6]) [[], [(0, some 5)], [], [(2, some 7)], [(3, some 8)]] [some 5, some 6, some 7, some 8, some 9] (fctF (.is (po b1 1) :: .is (v0_a) :: .is (.int .i64 bits) :: .of (Qr.out y2) (Qr.out_mono _) :: .ro kI64 (y2.f_D) :: [])) (fun m_ => bx b1 (QB a v0_a) 37 :: L) (fun _ => none) mixed (by kernel_rfl) (by kernel_rfl) rfl (Xn (by kernel_rfl)) ⟨(fun H' m_ hH hm_ hu_ => dn <| s_d (m_ 0) rfl (Q9 (o' := 1) Tryz.underlying37 rfl sz35 rfl rfl rfl) (by exact rfl) rfl), (by rintro H' m_ hH hm_ hu_ _ rfl; exact dn <| s_d (m_ 1) rfl (QG (v := v0_a) ty35 rfl .here rfl rfl rfl rfl) (by exact rfl) rfl), (fun H' m_ hH hm_ hu_ => dn <| s_d (m_ 2) rfl (QW (v := .int .i64 bits) rfl) (by exact rfl) rfl), (by rintro H' m_ hH hm_ hu_ _ rfl; exact dn <| s_k (m_ 3) rfl (Qm co12 (vs := [.int .i64 bits]) rfl (Qr.calls k hy3)) rfl (by rintro v_ H_ _ ⟨rfl, e_, h_⟩; exact ⟨rfl, e_, h_⟩)), (by rintro H' m_ hH hm_ hu_ _ ⟨v6, rfl, h7⟩; exact dn <| s_d (m_ 4) rfl (V8 (v := v6) Tryz.underlying37 rfl ty35 rfl rfl rfl rfl rfl) (by exact h7) rfl), trivial⟩ ?_
 intro H10 e11
 rintro _ _ rfl _ _ rfl _ _ rfl _ _ ⟨v6, rfl, h7⟩ v8 _ (h9 : Ro kI64 H10 v8 y2.f_D)
 refine bK he fun y12 hy13 he => w_d rfl (Xx (Qm co69 (vs := [v0_a, v8]) rfl (QR.calls k hy13 ((h0_a.mono e11).src) h9.src))) <| wA (.bool y12) rfl rfl <| Qb ?_
 obtain rfl := sj he
 refine Qn fn_146 rs_146 (.tmp (v := .bool y12) rfl .nil) <| ⟨⟨[_], rfl⟩, hle.trans e11, rfl⟩
noncomputable def QT.C : Code := (Tryz.f132.body).getD .skip
def QT.out (r : Bool) (H : Hp) (v : Value) : Prop := v = .bool r
abbrev QT.R (H0 : Hp) (L : Items) (r : Bool) := fR H0 L (QT.out r)
structure QT.Hs where
 l0 : (List Qf) → Bool → Int → Option Bool
noncomputable def QT.b0 (k : Nat) (h : QT.Hs) (l : List Qf) (t2 : Bool) (i : Int) : Option Bool := if i < (l.length : Int) then (if (0 : Int) ≤ i ∧ i < (l.length : Int) then ((YH.f k (rd l i) 4096).bind fun y7 => if (!y7) = true then (some (false)) else (h.l0 l t2 (w64 (i + 1)))) else none) else (some (true))
noncomputable def QT.hs : Nat → QT.Hs
 | 0 => ⟨fun _ _ _ => none⟩
 | k + 1 => ⟨fun x0 x1 x2 => QT.b0 k (QT.hs k) x0 x1 x2⟩
noncomputable def QT.f (k : Nat) (l : List Qf) : Option Bool := (fun h : QT.Hs => h.l0 l false 0) (QT.hs k)
noncomputable def QT.Kl0 : List Item := .code (lopB (blkB (seqR (seqL (seqR QT.C))))) :: .inLoop (lopB (blkB (seqR (seqL (seqR QT.C))))) :: .inBlock 0 :: .code (seqR (seqR QT.C)) :: []
structure QT.OK (h : QT.Hs) : Prop where
 l0 : ∀ {H0 H : Hp} {L : Items} {r : Bool} {jk_ : Nat → Value} {l : List Qf} {t2 : Bool} {i : Int} {v_l : Value} (_ : H0.le H) (_he : h.l0 l t2 i = some r) (_h_l : Src Yb H L v_l l), Wp Tryz.prog 132 16 QT.Kl0 (upd (upd (upd jk_ 0 (v_l)) 2 (.bool t2)) 3 (.int .i64 i)) H (L) (QT.R H0 L r)
theorem QT.b0_ok {k : Nat} {h : QT.Hs} (hh : QT.OK h) {H0 H : Hp} {L : Items} {r : Bool} {jk_ : Nat → Value} {l : List Qf} {t2 : Bool} {i : Int} {v_l : Value} (hle : H0.le H) (he : QT.b0 k h l t2 i = some r) (h_l : Src Yb H L v_l l) : Wp Tryz.prog 132 16 QT.Kl0 (upd (upd (upd jk_ 0 (v_l)) 2 (.bool t2)) 3 (.int .i64 i)) H (L) (QT.R H0 L r) := by
 unfold QT.b0 at he
 unfold QT.Kl0
 refine Q0 <| wR rfl <| wM (.int .i64 i) rfl rfl <| wM v_l rfl rfl <| w_d rfl (Xr Tryz.underlying185 rfl h_l) <| w_d rfl (XY rfl rfl) <| Qb ?_
 rcases its he with ⟨c1, he⟩ | ⟨c1, he⟩
 ·
  refine QE rfl (dt c1) <| QH <| Q0 <| Xa <| wR rfl <| wM v_l rfl rfl <| wM (.int .i64 i) rfl rfl <| rK he fun c2 he => w_d rfl (XK (sz := 2) Tryz.underlying185 sz37 rfl h_l rfl c2) ?_
  obtain ⟨_, l3, r4⟩ := Z5 (kd := Yb) h_l c2
  obtain ⟨v5, rfl, h6⟩ := Zw r4
  refine w_d rfl (ZE (v := .agg ⟨[.bool ((rd l i).f_Neg), v5]⟩) (cs := [.bool ((rd l i).f_Neg), v5]) ty37 rfl rfl (by decide) l3 rfl) <| bK he fun y7 hy8 he => w_d rfl (Xx (Qm co146 (vs := [.agg ⟨[.bool ((rd l i).f_Neg), v5]⟩, .int .i64 4096]) rfl (YH.calls k (a := (rd l i)) hy8 h6))) <| w_d rfl (Zp (b := y7) rfl) <| Qb ?_
  rcases its he with ⟨c11, he⟩ | ⟨c11, he⟩
  ·
   refine QE rfl c11 <| wR rfl <| wA (.bool false) rfl rfl <| Qb ?_
   obtain rfl := sj he
   refine Qn fn_132 rs_132 (.tmp (v := .bool false) rfl .nil) <| ⟨⟨[], rfl⟩, hle, rfl⟩
  ·
   refine QF rfl (Bool.eq_false_iff.2 c11) <| QH <| XC <| QU rfl <| wM (.int .i64 i) rfl rfl <| w_d rfl (XR (c := w64 (i + 1)) rfl rfl rfl) <| wA (.int .i64 (w64 (i + 1))) rfl rfl <| Qb <| XL <| w_sl 0 (v_l) rfl <| w_sl 2 (.bool t2) rfl <| w_sl 3 (.int .i64 (w64 (i + 1))) rfl <| hh.l0 hle he h_l
 ·
  refine QF rfl (df c1) <| X8 rfl <| wR rfl <| wA (.bool true) rfl rfl <| Qb ?_
  obtain rfl := sj he
  refine Qn fn_132 rs_132 (.tmp (v := .bool true) rfl .nil) <| ⟨⟨[], rfl⟩, hle, rfl⟩
theorem QT.ok : ∀ k, QT.OK (QT.hs k)
 | 0 => ⟨(by intros; exact nomatch (show none = some _ from by assumption))⟩
 | k + 1 => ⟨QT.b0_ok (k := k) (QT.ok k)⟩
theorem QT.calls (k : Nat) {H : Hp} {L : Items} {l : List Qf} {v0_l : Value} {r : Bool} (he : QT.f k l = some r) (h0_l : Src Yb H L v0_l l) : Ct Tryz.prog 132 ⟨[v0_l]⟩ H L (fun v H' L' => L = L' ∧ H = H' ∧ v = .bool r) := by
 refine Yj (O := QT.out r) (fun _ _ h => h) ?_
 have hle : H.le H := .refl _
 have hh := QT.ok k
 unfold QT.f at he
 refine QV (args := [_]) fn_132 rfl nt_132 rfl <| wR rfl <| wA (.bool false) rfl rfl <| wE <| wR rfl <| wA (.int .i64 0) rfl rfl <| Qb <| Xa <| X9 ?_
 refine w_sl 0 (v0_l) rfl <| w_sl 2 (.bool false) rfl <| w_sl 3 (.int .i64 0) rfl <| hh.l0 hle he h0_l
noncomputable def Xe.C : Code := (Tryz.f88.body).getD .skip
def Xe.out (r : Qi × Int) (H : Hp) (v : Value) : Prop := ∃ v0 v1, v = .tuple ⟨[(Ql r.1 v0 v1), .int .i64 r.2]⟩ ∧ Ro kI64 H v0 r.1.f_N.f_D ∧ Ro kI64 H v1 r.1.f_D.f_D
theorem Xe.out_mono (r : Qi × Int) {H H' : Hp} {v : Value} (hle : H.le H') (h : Xe.out r H v) : Xe.out r H' v := by
 obtain ⟨v0, v1, rfl, h0, h1⟩ := h; exact ⟨v0, v1, rfl, h0.mono hle, h1.mono hle⟩
abbrev Xe.R (H0 : Hp) (L : Items) (r : Qi × Int) := fR H0 L (Xe.out r)
noncomputable def Xe.j1 (k : Nat) (a_0 : Bool) (a_1 : List Int) (a_2 : Bool) (a_3 : List Int) (b_0 : Bool) (b_1 : List Int) (b_2 : Bool) (b_3 : List Int) (x_0 : Bool) (x_1 : List Int) (y_0 : Bool) (y_1 : List Int) : Option (Qi × Int) := (XT.f k ⟨x_0, x_1⟩ ⟨y_0, y_1⟩).bind fun y27 => (Qh.f k ⟨a_2, a_3⟩ ⟨b_2, b_3⟩).bind fun y33 => (QT.f k [⟨x_0, x_1⟩, ⟨y_0, y_1⟩, y27, y33]).bind fun y46 => if (!y46) = true then (some (⟨⟨false, []⟩, ⟨false, []⟩⟩, 12)) else ((QC.f k y27 y33).bind fun y51 => some (y51, 0))
noncomputable def Xe.f (k : Nat) (a b : Qi) (less : Bool) : Option (Qi × Int) := (Qh.f k a.f_N b.f_D).bind fun y4 => (Qh.f k b.f_N a.f_D).bind fun y10 => if less = true then ((XM.f k y10).bind fun y21 => Xe.j1 k a.f_N.f_Neg a.f_N.f_D a.f_D.f_Neg a.f_D.f_D b.f_N.f_Neg b.f_N.f_D b.f_D.f_Neg b.f_D.f_D y4.f_Neg y4.f_D y21.f_Neg y21.f_D) else (Xe.j1 k a.f_N.f_Neg a.f_N.f_D a.f_D.f_Neg a.f_D.f_D b.f_N.f_Neg b.f_N.f_D b.f_D.f_Neg b.f_D.f_D y4.f_Neg y4.f_D y10.f_Neg y10.f_D)
noncomputable def Xe.Kj1 : List Item := .code (seqR (seqR (seqR Xe.C))) :: []
theorem Xe.j1_ok {k : Nat} {H0 H : Hp} {L : Items} {r : Qi × Int} {jk_ : Nat → Value} {a_0 : Bool} {a_1 : List Int} {a_2 : Bool} {a_3 : List Int} {b_0 : Bool} {b_1 : List Int} {b_2 : Bool} {b_3 : List Int} {x_0 : Bool} {x_1 : List Int} {y_0 : Bool} {y_1 : List Int} {v_a_1 v_a_3 v_b_1 v_b_3 v_x_1 v_y_1 : Value} {b_a b_b b_t6 b_x b_y : Nat} (hle : H0.le H) (he : Xe.j1 k a_0 a_1 a_2 a_3 b_0 b_1 b_2 b_3 x_0 x_1 y_0 y_1 = some r) (h_a_1 : Ro kI64 H v_a_1 a_1) (h_a_3 : Ro kI64 H v_a_3 a_3) (h_b_1 : Ro kI64 H v_b_1 b_1) (h_b_3 : Ro kI64 H v_b_3 b_3) (h_x_1 : Ro kI64 H v_x_1 x_1) (h_y_1 : Ro kI64 H v_y_1 y_1) : Wp Tryz.prog 88 44 Xe.Kj1 (upd (upd (upd (upd (upd (upd jk_ 3 (pt b_a)) 4 (pt b_b)) 6 (pt b_t6)) 7 (.int .i64 0)) 8 (pt b_x)) 9 (pt b_y)) H (bx b_x [.bool x_0, v_x_1] 37 :: bx b_y [.bool y_0, v_y_1] 37 :: bx b_t6 z0c 40 :: bx b_b [.bool b_0, v_b_1, .bool b_2, v_b_3] 40 :: bx b_a [.bool a_0, v_a_1, .bool a_2, v_a_3] 40 :: L) (Xe.R H0 L r) := by
 unfold Xe.j1 at he
 unfold Xe.Kj1
 refine Q0 <| bK he fun y27 hy28 he => bK he fun y33 hy34 he => ?_
 refine Yx (Yx (?_))
 refine Xy (p := 10) (tl := [10, 11]) [[], [], [(0, some 25), (1, some 26)], [], [(3, some 28)], [], [(5, some 30)], [(4, some 29), (6, some 31)], [], []] [some 25, some 26, some 27, some 28, some 29, some 30, some 31, some 32, some 10, some 11] (fctF (.is (.agg ⟨[.bool x_0, v_x_1]⟩) :: .is (.agg ⟨[.bool y_0, v_y_1]⟩) :: .of (XT.out y27) (XT.out_mono _) :: .is (po b_a 2) :: .is (.agg ⟨[.bool a_2, v_a_3]⟩) :: .is (po b_b 2) :: .is (.agg ⟨[.bool b_2, v_b_3]⟩) :: .of (Qh.out y33) (Qh.out_mono _) :: .box 37 [.bool false, .slice none 0 0] :: .box 37 [.bool false, .slice none 0 0] :: [])) (fun m_ => m_ 8 :: m_ 9 :: bx b_x [.bool x_0, v_x_1] 37 :: bx b_y [.bool y_0, v_y_1] 37 :: bx b_t6 z0c 40 :: bx b_b [.bool b_0, v_b_1, .bool b_2, v_b_3] 40 :: bx b_a [.bool a_0, v_a_1, .bool a_2, v_a_3] 40 :: L) (fun _ => none) mixed (by kernel_rfl) (by kernel_rfl) rfl (Xn (by kernel_rfl)) ⟨(fun H' m_ hH hm_ hu_ => dn <| s_d (m_ 0) rfl (QG (v := .agg ⟨[.bool x_0, v_x_1]⟩) ty37 rfl .h2 rfl rfl rfl rfl) (by exact rfl) rfl), (fun H' m_ hH hm_ hu_ => dn <| s_d (m_ 1) rfl (QG (v := .agg ⟨[.bool y_0, v_y_1]⟩) ty37 rfl .h3 rfl rfl rfl rfl) (by exact rfl) rfl), (by rintro H' m_ hH hm_ hu_ _ rfl _ rfl; exact dn <| s_k (m_ 2) rfl (Qm co17 (vs := [.agg ⟨[.bool x_0, v_x_1]⟩, .agg ⟨[.bool y_0, v_y_1]⟩]) rfl (XT.calls k (a := ⟨x_0, x_1⟩) (b := ⟨y_0, y_1⟩) hy28 (h_x_1.mono hH) (h_y_1.mono hH))) rfl (by rintro v_ H_ _ ⟨rfl, e_, h_⟩; exact ⟨rfl, e_, h_⟩)), (fun H' m_ hH hm_ hu_ => dn <| s_d (m_ 3) rfl (Q9 (o' := 2) Tryz.underlying40 rfl sz37 rfl rfl rfl) (by exact rfl) rfl), (by rintro H' m_ hH hm_ hu_ _ rfl; exact dn <| s_d (m_ 4) rfl (QG (v := .agg ⟨[.bool a_2, v_a_3]⟩) ty37 rfl .h6 rfl rfl rfl rfl) (by exact rfl) rfl), (fun H' m_ hH hm_ hu_ => dn <| s_d (m_ 5) rfl (Q9 (o' := 2) Tryz.underlying40 rfl sz37 rfl rfl rfl) (by exact rfl) rfl), (by rintro H' m_ hH hm_ hu_ _ rfl; exact dn <| s_d (m_ 6) rfl (QG (v := .agg ⟨[.bool b_2, v_b_3]⟩) ty37 rfl .h5 rfl rfl rfl rfl) (by exact rfl) rfl), (by rintro H' m_ hH hm_ hu_ _ rfl _ rfl; exact dn <| s_k (m_ 7) rfl (Qm co15 (vs := [.agg ⟨[.bool a_2, v_a_3]⟩, .agg ⟨[.bool b_2, v_b_3]⟩]) rfl (Qh.calls k (a := ⟨a_2, a_3⟩) (b := ⟨b_2, b_3⟩) hy34 (h_a_3.mono hH) (h_b_3.mono hH))) rfl (by rintro v_ H_ _ ⟨rfl, e_, h_⟩; exact ⟨rfl, e_, h_⟩)), (fun H' m_ hH hm_ hu_ => dn <| YV hm_ rfl rfl (YI zr37 rfl) rfl (fun _ => .here) (by exact fun b_ => ⟨b_, rfl, rfl⟩)), (fun H' m_ hH hm_ hu_ => dn <| YV hm_ rfl rfl (YI zr37 rfl) rfl (fun _ => .h1) (by exact fun b_ => ⟨b_, rfl, rfl⟩)), trivial⟩ ?_
 intro H41 e42
 rintro _ _ rfl _ _ rfl _ _ ⟨v31, rfl, h32⟩ _ _ rfl _ _ rfl _ _ rfl _ _ rfl _ _ ⟨v37, rfl, h38⟩ _ _ ⟨b39, rfl, rfl⟩ _ _ ⟨b40, rfl, rfl⟩
 refine wS (Qa y27 v31) sz37 rfl rfl rfl rfl rfl (Q7 h32) .here u2 <| wS (Qa y33 v37) sz37 rfl rfl rfl rfl rfl (Q7 h38) .h1 u2 <| wE <| wR rfl <| wL (.agg ⟨[.bool x_0, v_x_1]⟩) ty37 rfl rfl .h2 rfl rfl <| wL (.agg ⟨[.bool y_0, v_y_1]⟩) ty37 rfl rfl .h3 rfl rfl <| wL (Qa y27 v31) ty37 rfl rfl .here rfl rfl <| wL (Qa y33 v37) ty37 rfl rfl .h1 rfl rfl <| w_a rfl (o_buildSlice' (kd := Yb) (css := [[.bool x_0, v_x_1], [.bool y_0, v_y_1], (QB y27 v31), (QB y33 v37)]) (xs := [(⟨x_0, x_1⟩ : Qf), (⟨y_0, y_1⟩ : Qf), y27, y33]) (parts := [(0, .agg ⟨[.bool x_0, v_x_1]⟩), (1, .agg ⟨[.bool y_0, v_y_1]⟩), (2, (Qa y27 v31)), (3, (Qa y33 v37))]) Tryz.underlying185 ti37 rfl ⟨_, _, rfl, rfl, ⟨_, _, rfl, rfl, ⟨_, _, rfl, rfl, ⟨_, _, rfl, rfl, rfl⟩⟩⟩⟩ ⟨(Yn (x := ⟨x_0, x_1⟩) (h_x_1.mono e42)), ⟨(Yn (x := ⟨y_0, y_1⟩) (h_y_1.mono e42)), ⟨(Yn (x := y27) h32), ⟨(Yn (x := y33) h38), trivial⟩⟩⟩⟩ rfl (by decide)) ?_
 rintro v43 _ _ ⟨i44, rfl, rfl, h45⟩
 refine bK he fun y46 hy47 he => w_d rfl (Xx (Qm co132 (vs := [v43]) rfl (QT.calls k hy47 (h45.src .here)))) <| w_d rfl (Zp (b := y46) rfl) <| Qb ?_
 rcases its he with ⟨c50, he⟩ | ⟨c50, he⟩
 ·
  refine QE rfl c50 <| wR rfl <| w_d rfl (XF (cs' := z0c) Tryz.underlying40 zr40 rfl (by kernel_rfl) (parts := []) rfl .nil) <| wS (.agg ⟨z0c⟩) sz40 rfl rfl rfl rfl rfl (oc rfl (oc rfl (oc rfl (oc rfl oz)))) .h5 u4 <| wA (.int .i64 12) rfl rfl <| Qb ?_
  obtain rfl := sj he
  refine Qn fn_88 rs_88 (.box (v := .agg ⟨z0c⟩) rfl ty40 rfl rfl .h5 rfl (.tmp (v := .int .i64 12) rfl .nil)) <| ⟨⟨[_, _, _, _, _, _, _, _], rfl⟩, hle.trans e42, ⟨.slice none 0 0, .slice none 0 0, rfl, (Xg _ _), (Xg _ _)⟩⟩
 ·
  refine QF rfl (Bool.eq_false_iff.2 c50) <| QH <| wR rfl <| wL (Qa y27 v31) ty37 rfl rfl .h1 rfl rfl <| wL (Qa y33 v37) ty37 rfl rfl .h2 rfl rfl <| bK he fun y51 hy52 he => w_a rfl (Qm co13 (vs := [(Qa y27 v31), (Qa y33 v37)]) rfl (QC.calls k (n := y27) (d := y33) hy52 h32 h38)) ?_
  rintro _ H53 _ ⟨rfl, e54, v55, v57, rfl, h56, h58⟩
  refine wS (Ql y51 v55 v57) sz40 rfl rfl rfl rfl rfl (Yl h56 h58) .h5 u4 <| wA (.int .i64 0) rfl rfl <| Qb ?_
  obtain rfl := sj he
  refine Qn fn_88 rs_88 (.box (v := (Ql y51 v55 v57)) rfl ty40 rfl rfl .h5 rfl (.tmp (v := .int .i64 0) rfl .nil)) <| ⟨⟨[_, _, _, _, _, _, _, _], rfl⟩, hle.trans (e42.trans e54), ⟨v55, v57, rfl, h56, h58⟩⟩
theorem Xe.calls (k : Nat) {H : Hp} {L : Items} {a b : Qi} {less : Bool} {v0_a v1_a v2_b v3_b : Value} {r : Qi × Int} (he : Xe.f k a b less = some r) (h0_a : Ro kI64 H v0_a a.f_N.f_D) (h1_a : Ro kI64 H v1_a a.f_D.f_D) (h2_b : Ro kI64 H v2_b b.f_N.f_D) (h3_b : Ro kI64 H v3_b b.f_D.f_D) : Ct Tryz.prog 88 ⟨[(Ql a v0_a v1_a), (Ql b v2_b v3_b), .bool less]⟩ H L (cR H L (Xe.out r)) := by
 refine XO (O := Xe.out r) ?_
 have hle : H.le H := .refl _
 unfold Xe.f at he
 refine QV (args := [_, _, _]) fn_88 rfl nt_88 rfl <| wR rfl <| wB (Ql a v0_a v1_a) rfl rfl rfl <| fun b1 => wB (Ql b v2_b v3_b) rfl rfl rfl <| fun b2 => wN zr40 rfl rfl fun b3 => wA (.int .i64 0) rfl rfl <| wE <| bK he fun y4 hy5 he => bK he fun y10 hy11 he => ?_
 refine Yx (Yx (?_))
 refine Xy (p := 12) (tl := [12, 13]) [[], [(0, some 12)], [], [(2, some 14)], [(1, some 13), (3, some 15)], [], [(5, some 17)], [], [(7, some 19)], [(6, some 18), (8, some 20)], [], []] [some 12, some 13, some 14, some 15, some 16, some 17, some 18, some 19, some 20, some 21, some 8, some 9] (fctF (.is (pt b1) :: .is (Qa a.f_N v0_a) :: .is (po b2 2) :: .is (Qa b.f_D v3_b) :: .of (Qh.out y4) (Qh.out_mono _) :: .is (pt b2) :: .is (Qa b.f_N v2_b) :: .is (po b1 2) :: .is (Qa a.f_D v1_a) :: .of (Qh.out y10) (Qh.out_mono _) :: .box 37 [.bool false, .slice none 0 0] :: .box 37 [.bool false, .slice none 0 0] :: [])) (fun m_ => m_ 10 :: m_ 11 :: bx b3 z0c 40 :: bx b2 (XA b v2_b v3_b) 40 :: bx b1 (XA a v0_a v1_a) 40 :: L) (fun _ => none) mixed (by kernel_rfl) (by kernel_rfl) rfl (Xn (by kernel_rfl)) ⟨(fun H' m_ hH hm_ hu_ => dn <| s_d (m_ 0) rfl (Q9 (o' := 0) Tryz.underlying40 rfl sz37 rfl rfl rfl) (by exact rfl) rfl), (by rintro H' m_ hH hm_ hu_ _ rfl; exact dn <| s_d (m_ 1) rfl (QG (v := (Qa a.f_N v0_a)) ty37 rfl .h4 rfl rfl rfl rfl) (by exact rfl) rfl), (fun H' m_ hH hm_ hu_ => dn <| s_d (m_ 2) rfl (Q9 (o' := 2) Tryz.underlying40 rfl sz37 rfl rfl rfl) (by exact rfl) rfl), (by rintro H' m_ hH hm_ hu_ _ rfl; exact dn <| s_d (m_ 3) rfl (QG (v := (Qa b.f_D v3_b)) ty37 rfl .h3 rfl rfl rfl rfl) (by exact rfl) rfl), (by rintro H' m_ hH hm_ hu_ _ rfl _ rfl; exact dn <| s_k (m_ 4) rfl (Qm co15 (vs := [(Qa a.f_N v0_a), (Qa b.f_D v3_b)]) rfl (Qh.calls k (a := a.f_N) (b := b.f_D) hy5 (h0_a.mono hH) (h3_b.mono hH))) rfl (by rintro v_ H_ _ ⟨rfl, e_, h_⟩; exact ⟨rfl, e_, h_⟩)), (fun H' m_ hH hm_ hu_ => dn <| s_d (m_ 5) rfl (Q9 (o' := 0) Tryz.underlying40 rfl sz37 rfl rfl rfl) (by exact rfl) rfl), (by rintro H' m_ hH hm_ hu_ _ rfl; exact dn <| s_d (m_ 6) rfl (QG (v := (Qa b.f_N v2_b)) ty37 rfl .h3 rfl rfl rfl rfl) (by exact rfl) rfl), (fun H' m_ hH hm_ hu_ => dn <| s_d (m_ 7) rfl (Q9 (o' := 2) Tryz.underlying40 rfl sz37 rfl rfl rfl) (by exact rfl) rfl), (by rintro H' m_ hH hm_ hu_ _ rfl; exact dn <| s_d (m_ 8) rfl (QG (v := (Qa a.f_D v1_a)) ty37 rfl .h4 rfl rfl rfl rfl) (by exact rfl) rfl), (by rintro H' m_ hH hm_ hu_ _ rfl _ rfl; exact dn <| s_k (m_ 9) rfl (Qm co15 (vs := [(Qa b.f_N v2_b), (Qa a.f_D v1_a)]) rfl (Qh.calls k (a := b.f_N) (b := a.f_D) hy11 (h2_b.mono hH) (h1_a.mono hH))) rfl (by rintro v_ H_ _ ⟨rfl, e_, h_⟩; exact ⟨rfl, e_, h_⟩)), (fun H' m_ hH hm_ hu_ => dn <| YV hm_ rfl rfl (YI zr37 rfl) rfl (fun _ => .here) (by exact fun b_ => ⟨b_, rfl, rfl⟩)), (fun H' m_ hH hm_ hu_ => dn <| YV hm_ rfl rfl (YI zr37 rfl) rfl (fun _ => .h1) (by exact fun b_ => ⟨b_, rfl, rfl⟩)), trivial⟩ ?_
 intro H18 e19
 rintro _ _ rfl _ _ rfl _ _ rfl _ _ rfl _ _ ⟨v8, rfl, h9⟩ _ _ rfl _ _ rfl _ _ rfl _ _ rfl _ _ ⟨v14, rfl, h15⟩ _ _ ⟨b16, rfl, rfl⟩ _ _ ⟨b17, rfl, rfl⟩
 refine wS (Qa y4 v8) sz37 rfl rfl rfl rfl rfl (Q7 h9) .here u2 <| wS (Qa y10 v14) sz37 rfl rfl rfl rfl rfl (Q7 h15) .h1 u2 <| wE <| wR rfl <| wM (.bool less) rfl rfl <| Qb ?_
 rcases its he with ⟨c20, he⟩ | ⟨c20, he⟩
 ·
  refine QE rfl c20 <| QU rfl <| wL (Qa y10 v14) ty37 rfl rfl .h1 rfl rfl <| bK he fun y21 hy22 he => w_a rfl (Qm co63 (vs := [(Qa y10 v14)]) rfl (XM.calls k (a := y10) hy22 h15)) ?_
  rintro _ H23 _ ⟨rfl, e24, v25, rfl, h26⟩
  refine wS (Qa y21 v25) sz37 rfl rfl rfl rfl rfl (Q7 h26) .h1 u2 <| Qb <| w_sl 3 (pt b1) rfl <| w_sl 4 (pt b2) rfl <| w_sl 6 (pt b3) rfl <| w_sl 7 (.int .i64 0) rfl <| w_sl 8 (pt b16) rfl <| w_sl 9 (pt b17) rfl <| Xe.j1_ok (k := k) (hle.trans (e19.trans e24)) he (h0_a.mono (e19.trans e24)) (h1_a.mono (e19.trans e24)) (h2_b.mono (e19.trans e24)) (h3_b.mono (e19.trans e24)) (h9.mono e24) h26
 ·
  refine QF rfl (Bool.eq_false_iff.2 c20) <| QH <| w_sl 3 (pt b1) rfl <| w_sl 4 (pt b2) rfl <| w_sl 6 (pt b3) rfl <| w_sl 7 (.int .i64 0) rfl <| w_sl 8 (pt b16) rfl <| w_sl 9 (pt b17) rfl <| Xe.j1_ok (k := k) (hle.trans e19) he (h0_a.mono e19) (h1_a.mono e19) (h2_b.mono e19) (h3_b.mono e19) h9 h15
noncomputable def YP.C : Code := (Tryz.f100.body).getD .skip
def YP.out (r : Int) (H : Hp) (v : Value) : Prop := v = .int .i64 r
noncomputable def YP.f (k : Nat) (a b : Qf) : Option Int := (Yy.f k a b).bind fun y3 => (XX.f k y3).bind fun y9 => some (y9)
theorem YP.calls (k : Nat) {H : Hp} {L : Items} {a b : Qf} {v0_a v1_b : Value} {r : Int} (he : YP.f k a b = some r) (h0_a : Ro kI64 H v0_a a.f_D) (h1_b : Ro kI64 H v1_b b.f_D) : Ct Tryz.prog 100 ⟨[(Qa a v0_a), (Qa b v1_b)]⟩ H L (fun v H' L' => L = L' ∧ H = H' ∧ v = .int .i64 r) := by
 refine Yj (O := YP.out r) (fun _ _ h => h) ?_
 have hle : H.le H := .refl _
 unfold YP.f at he
 refine QV (args := [_, _]) fn_100 rfl nt_100 rfl <| wR rfl <| wB (Qa a v0_a) rfl rfl rfl <| fun b1 => wB (Qa b v1_b) rfl rfl rfl <| fun b2 => wA (.int .i64 0) rfl rfl <| wQ rfl <| wL (Qa a v0_a) ty37 rfl rfl .h1 rfl rfl <| wL (Qa b v1_b) ty37 rfl rfl .here rfl rfl <| bK he fun y3 hy4 he => ?_
 refine w_a rfl (Qm co14 (vs := [(Qa a v0_a), (Qa b v1_b)]) rfl (Yy.calls k (a := a) (b := b) hy4 h0_a h1_b)) ?_
 rintro _ H5 _ ⟨rfl, e6, v7, rfl, h8⟩
 refine bK he fun y9 hy10 he => w_d rfl (Xx (Qm co62 (vs := [(Qa y3 v7)]) rfl (XX.calls k (a := y3) hy10 h8))) <| wA (.int .i64 y9) rfl rfl <| Qb ?_
 obtain rfl := sj he
 refine Qn fn_100 rs_100 (.tmp (v := .int .i64 y9) rfl .nil) <| ⟨⟨[_, _], rfl⟩, hle.trans e6, rfl⟩
end Go.Proofs.YtkccpkccdbfomaaGreatDoor.GBA

/- printed by gen.py -/
import Derived.Test.YtkccpkccdbfomaaGreatDoorGBAx1
namespace Go.Proofs.YtkccpkccdbfomaaGreatDoor.GBA
open Go Go.RowKit Go.Proofs.YtkccpkccdbfomaaGreatDoorK Go.Proofs.YtkccpkccdbfomaaGreatDoor
set_option maxRecDepth 100000
set_option maxHeartbeats 2000000
set_option linter.unusedVariables false
set_option linter.unusedSimpArgs false
noncomputable def Q1.C : Code := (Tryz.f134.body).getD .skip
def Q1.out (r : Qs × (Option Int)) (H : Hp) (v : Value) : Prop := ∃ v0, v = .tuple ⟨[(Qc r.1 v0), errV 104 r.2]⟩ ∧ Ro kU32 H v0 r.1.f_w
abbrev Q1.R (H0 : Hp) (L : Items) (r : Qs × (Option Int)) := fR H0 L (Q1.out r)
structure Q1.Hs where
 l0 : Bool → (List Int) → (List Int) → Int → Int → Option (Qs × (Option Int))
noncomputable def Q1.j1 (k : Nat) (h : Q1.Hs) (t : ByteArray) (neg : Bool) : Option (Qs × (Option Int)) := (Xi.f k t).bind fun y8 => if ((!y8) || (neg && (decide (t = str_2)))) = true then (some (⟨false, []⟩, some 3)) else (h.l0 neg [] (bytesOf t) ((bytesOf t).length : Int) 0)
noncomputable def Q1.b0 (k : Nat) (h : Q1.Hs) (neg : Bool) (w t34 : List Int) (t35 t36 : Int) : Option (Qs × (Option Int)) := if t36 < t35 then (if (0 : Int) ≤ t36 ∧ t36 < (t34.length : Int) then ((QA.f k w [10]).bind fun y27 => (QS.f k [(((rd t34 t36) - 48) % 256) % 4294967296]).bind fun y39 => (Qw.f k y27 y39).bind fun y45 => (QS.f k y45).bind fun y51 => h.l0 neg y51 t34 t35 (w64 (t36 + 1))) else none) else ((XG.f k neg w).bind fun y57 => some (y57.1, y57.2))
noncomputable def Q1.hs : Nat → Q1.Hs
 | 0 => ⟨fun _ _ _ _ _ => none⟩
 | k + 1 => ⟨fun x0 x1 x2 x3 x4 => Q1.b0 k (Q1.hs k) x0 x1 x2 x3 x4⟩
noncomputable def Q1.f (k : Nat) (s : ByteArray) : Option (Qs × (Option Int)) := (fun h : Q1.Hs => if (decide (1 < (s.size : Int))) = true → (0 : Int) ≤ 0 ∧ 0 < (s.size : Int) then (if ((decide (1 < (s.size : Int))) && (decide ((bt s 0) = 45))) = true then (if (0 : Int) ≤ 1 ∧ (1 : Int) ≤ (s.size : Int) ∧ (s.size : Int) ≤ (s.size : Int) then (Q1.j1 k h (scut s 1 (s.size : Int)) ((decide (1 < (s.size : Int))) && (decide ((bt s 0) = 45)))) else none) else (Q1.j1 k h s ((decide (1 < (s.size : Int))) && (decide ((bt s 0) = 45))))) else none) (Q1.hs k)
noncomputable def Q1.Kj1 : List Item := .code (seqR (seqR (seqR (seqR Q1.C)))) :: []
noncomputable def Q1.Kl0 : List Item := .code (lopB (blkB (seqR (seqL (seqR (seqR (seqR (seqR (seqR (seqR Q1.C)))))))))) :: .inLoop (lopB (blkB (seqR (seqL (seqR (seqR (seqR (seqR (seqR (seqR Q1.C)))))))))) :: .inBlock 0 :: .code (seqR (seqR (seqR (seqR (seqR (seqR (seqR Q1.C))))))) :: []
structure Q1.OK (h : Q1.Hs) : Prop where
 l0 : ∀ {H0 H : Hp} {L : Items} {r : Qs × (Option Int)} {jk_ : Nat → Value} {neg : Bool} {w : List Int} {t34 : List Int} {t35 : Int} {t36 : Int} {v_w : Value} {v_t34 : Value} {b_t2 : Nat} (_ : H0.le H) (_he : h.l0 neg w t34 t35 t36 = some r) (_h_w : Ro kU32 H v_w w) (_h_t34 : Ro kU8 H v_t34 t34), Wp Tryz.prog 134 56 Q1.Kl0 (upd (upd (upd (upd (upd (upd (upd jk_ 2 (pt b_t2)) 3 (errV 104 none)) 5 (.bool neg)) 6 (v_w)) 34 (v_t34)) 35 (.int .i64 t35)) 36 (.int .i64 t36)) H (bx b_t2 [.bool false, .slice none 0 0] 24 :: L) (Q1.R H0 L r)
theorem Q1.j1_ok {k : Nat} {h : Q1.Hs} (hh : Q1.OK h) {H0 H : Hp} {L : Items} {r : Qs × (Option Int)} {jk_ : Nat → Value} {t : ByteArray} {neg : Bool} {b_t2 : Nat} (hle : H0.le H) (he : Q1.j1 k h t neg = some r) : Wp Tryz.prog 134 56 Q1.Kj1 (upd (upd (upd (upd jk_ 2 (pt b_t2)) 3 (errV 104 none)) 4 (.string t)) 5 (.bool neg)) H (bx b_t2 [.bool false, .slice none 0 0] 24 :: L) (Q1.R H0 L r) := by
 unfold Q1.j1 at he
 unfold Q1.Kj1
 refine Q0 <| wR rfl <| wM (.string t) rfl rfl <| bK he fun y8 hy9 he => w_d rfl (Xx (Qm co147 (vs := [.string t]) rfl (Xi.calls k hy9))) <| w_d rfl (Zp (b := y8) rfl) <| wM (.bool (!y8)) rfl rfl <| w_g (g := !(!y8)) rfl rfl rfl wn_f (fun g12 => QW (v := .bool neg) rfl) <| w_g (g := !(!y8)) rfl rfl rfl wn_f (fun g13 => QW (v := .bool neg) (cvt g13)) <| w_g (g := (!(!y8)) && neg) rfl rfl rfl G6 (fun g14 => QW (v := .string t) rfl) <| w_g (g := (!(!y8)) && neg) rfl rfl rfl G6 (fun g15 => GY (cvt g15) rfl) ?_
 refine w_g (g := !(!y8)) rfl rfl rfl wn_f (fun g16 => d_and' (b := neg) (p := (decide (t = str_2))) (cvt g16) (cva g16) rfl) <| w_d rfl (d_or' (b := (!y8)) (p := (neg && (decide (t = str_2)))) rfl rfl rfl) <| Qb ?_
 rcases its he with ⟨c17, he⟩ | ⟨c17, he⟩
 ·
  refine QE rfl c17 <| wR rfl <| w_d rfl (XF (cs' := [.bool false, .slice none 0 0]) Tryz.underlying24 zr24 rfl (by kernel_rfl) (parts := []) rfl .nil) <| w_d rfl (Zk (v := .int .i64 3) Tryz.underlying104 rfl rfl) <| wS (.agg ⟨[.bool false, .slice none 0 0]⟩) sz24 rfl rfl rfl rfl rfl (oc rfl (oc rfl oz)) .here u2 <| wA (errV 104 (some 3)) rfl rfl <| Qb ?_
  obtain rfl := sj he
  refine Qn fn_134 rs_134 (.box (v := .agg ⟨[.bool false, .slice none 0 0]⟩) rfl ty24 rfl rfl .here rfl (.tmp (v := errV 104 (some 3)) rfl .nil)) <| ⟨⟨[_], rfl⟩, hle, ⟨.slice none 0 0, rfl, (Xg _ _)⟩⟩
 ·
  refine QF rfl (Bool.eq_false_iff.2 c17) <| QH <| wR rfl <| wA (.slice none 0 0) rfl rfl <| wE <| wR rfl <| wM (.string t) rfl rfl <| w_a rfl (N9 Tryz.underlying9 Tryz.underlying52 Tryz.underlying5 rfl) ?_
  rintro v18 H19 _ ⟨rfl, e20, h21⟩
  refine w_d rfl (Xr Tryz.underlying52 rfl h21.src) <| wM (.int .i64 0) rfl rfl <| Qb <| Xa <| X9 <| w_sl 2 (pt b_t2) rfl <| w_sl 3 (errV 104 none) rfl <| w_sl 5 (.bool neg) rfl <| w_sl 6 (.slice none 0 0) rfl <| w_sl 34 (v18) rfl <| w_sl 35 (.int .i64 ((bytesOf t).length : Int)) rfl <| w_sl 36 (.int .i64 0) rfl <| hh.l0 (hle.trans e20) he (Xg _ _) h21
theorem Q1.b0_ok {k : Nat} {h : Q1.Hs} (hh : Q1.OK h) {H0 H : Hp} {L : Items} {r : Qs × (Option Int)} {jk_ : Nat → Value} {neg : Bool} {w t34 : List Int} {t35 t36 : Int} {v_w v_t34 : Value} {b_t2 : Nat} (hle : H0.le H) (he : Q1.b0 k h neg w t34 t35 t36 = some r) (h_w : Ro kU32 H v_w w) (h_t34 : Ro kU8 H v_t34 t34) : Wp Tryz.prog 134 56 Q1.Kl0 (upd (upd (upd (upd (upd (upd (upd jk_ 2 (pt b_t2)) 3 (errV 104 none)) 5 (.bool neg)) 6 (v_w)) 34 (v_t34)) 35 (.int .i64 t35)) 36 (.int .i64 t36)) H (bx b_t2 [.bool false, .slice none 0 0] 24 :: L) (Q1.R H0 L r) := by
 unfold Q1.b0 at he
 unfold Q1.Kl0
 refine wR rfl <| w_d rfl (XY rfl rfl) <| wE ?_
 rcases its he with ⟨c22, he⟩ | ⟨c22, he⟩
 ·
  refine QE rfl (dt c22) <| QH <| Q0 <| Xa <| wR rfl <| rK he fun c23 he => w_d rfl (XK (sz := 1) Tryz.underlying52 sz5 rfl h_t34.src rfl c23) <| w_d rfl (XP ty5 rfl h_t34.src c23) <| wA (.int .u8 (rd t34 t36)) rfl rfl <| Qb <| QU rfl ?_
  refine wM v_w rfl rfl <| w_a rfl (o_buildSlice' (kd := kU32) (css := [[.int .u32 10]]) (xs := [10]) (parts := [(0, .int .u32 10)]) Tryz.underlying22 ti167 rfl ⟨_, _, rfl, rfl, rfl⟩ ⟨rfl, trivial⟩ rfl (by decide)) ?_
  rintro v24 _ _ ⟨i25, rfl, rfl, h26⟩
  refine bK he fun y27 hy28 he => w_a rfl (Qm co145 (vs := [v_w, v24]) rfl (QA.calls k hy28 h_w.src (h26.src .here))) ?_
  rintro v31 H29 _ ⟨rfl, e30, h32⟩
  refine wM (.int .u8 (rd t34 t36)) rfl rfl <| w_d rfl (YD (c := ((rd t34 t36) - 48) % 256) rfl rfl rfl) <| w_d rfl (X7 (c := (((rd t34 t36) - 48) % 256) % 4294967296) Tryz.underlying5 Tryz.underlying167 rfl rfl) <| w_a rfl (o_buildSlice' (kd := kU32) (css := [[.int .u32 ((((rd t34 t36) - 48) % 256) % 4294967296)]]) (xs := [(((rd t34 t36) - 48) % 256) % 4294967296]) (parts := [(0, .int .u32 ((((rd t34 t36) - 48) % 256) % 4294967296))]) Tryz.underlying22 ti167 rfl ⟨_, _, rfl, rfl, rfl⟩ ⟨rfl, trivial⟩ rfl (by decide)) ?_
  rintro v33 _ _ ⟨i34, rfl, rfl, h35⟩
  refine YA h35 .here ?_
  intro H36 e37 h38
  refine bK he fun y39 hy40 he => w_a rfl (Qm co113 (vs := [v33]) rfl (QS.calls k hy40 h38)) ?_
  rintro v43 H41 _ ⟨rfl, e42, h44⟩
  refine bK he fun y45 hy46 he => w_a rfl (Qm co144 (vs := [v31, v43]) rfl (Qw.calls k hy46 ((h32.mono (e37.trans e42)).src) h44.src)) ?_
  rintro v49 H47 _ ⟨rfl, e48, h50⟩
  refine bK he fun y51 hy52 he => w_a rfl (Qm co113 (vs := [v49]) rfl (QS.calls k hy52 h50)) ?_
  rintro v55 H53 _ ⟨rfl, e54, h56⟩
  refine wA v55 rfl rfl <| Qb <| XC <| QU rfl <| w_d rfl (XR (c := w64 (t36 + 1)) rfl rfl rfl) <| wM (.int .i64 (w64 (t36 + 1))) rfl rfl <| Qb <| XL <| YB .h1 <| YB .here <| w_sl 2 (pt b_t2) rfl <| w_sl 3 (errV 104 none) rfl ?_
  refine w_sl 5 (.bool neg) rfl <| w_sl 6 (v55) rfl <| w_sl 34 (v_t34) rfl <| w_sl 35 (.int .i64 t35) rfl <| w_sl 36 (.int .i64 (w64 (t36 + 1))) rfl <| hh.l0 (hle.trans ((((e30.trans e37).trans e42).trans e48).trans e54)) he h56 (h_t34.mono ((((e30.trans e37).trans e42).trans e48).trans e54))
 ·
  refine QF rfl (df c22) <| X8 rfl <| wR rfl <| wM (.bool neg) rfl rfl <| wM v_w rfl rfl <| bK he fun y57 hy58 he => w_a rfl (Qm co115 (vs := [.bool neg, v_w]) rfl (XG.calls k hy58 h_w)) ?_
  rintro _ H59 _ ⟨rfl, e60, v61, rfl, h62⟩
  refine w_d rfl (Q6 rfl rfl) <| w_d rfl (Q6 rfl rfl) <| wS (Qc y57.1 v61) sz24 rfl rfl rfl rfl rfl (XD h62) .here u2 <| wA (errV 104 y57.2) rfl rfl <| Qb ?_
  obtain rfl := sj he
  refine Qn fn_134 rs_134 (.box (v := (Qc y57.1 v61)) rfl ty24 rfl rfl .here rfl (.tmp (v := errV 104 y57.2) rfl .nil)) <| ⟨⟨[_], rfl⟩, hle.trans e60, ⟨v61, rfl, h62⟩⟩
theorem Q1.ok : ∀ k, Q1.OK (Q1.hs k)
 | 0 => ⟨(by intros; exact nomatch (show none = some _ from by assumption))⟩
 | k + 1 => ⟨Q1.b0_ok (k := k) (Q1.ok k)⟩
theorem Q1.calls (k : Nat) {H : Hp} {L : Items} {s : ByteArray} {r : Qs × (Option Int)} (he : Q1.f k s = some r) : Ct Tryz.prog 134 ⟨[.string s]⟩ H L (cR H L (Q1.out r)) := by
 refine XO (O := Q1.out r) ?_
 have hle : H.le H := .refl _
 have hh := Q1.ok k
 unfold Q1.f at he
 refine QV (args := [_]) fn_134 rfl nt_134 rfl <| wR rfl <| wN zr24 rfl rfl fun b1 => wA (errV 104 none) rfl rfl <| wQ rfl <| wM (.string s) rfl rfl <| wA (.string s) rfl rfl <| wE ?_
 refine QU rfl <| wM (.string s) rfl rfl <| w_d rfl (G4 Tryz.underlying9 rfl) <| w_d rfl (YR rfl rfl) <| wM (.bool (decide (1 < (s.size : Int)))) rfl rfl <| w_g (g := decide (1 < (s.size : Int))) rfl rfl rfl wn_t (fun g2 => QW (v := .string s) rfl) <| rK he fun c4 he => w_g (g := decide (1 < (s.size : Int))) rfl rfl rfl wn_t (fun g3 => d_bt Tryz.underlying9 (cvt g3) rfl (c4 g3)) <| w_g (g := decide (1 < (s.size : Int))) rfl rfl rfl wn_t (fun g5 => Zh (cvt g5) rfl) <| w_d rfl (d_and' (b := (decide (1 < (s.size : Int)))) (p := (decide ((bt s 0) = 45))) rfl rfl rfl) <| wA (.bool ((decide (1 < (s.size : Int))) && (decide ((bt s 0) = 45)))) rfl rfl <| Qb ?_
 refine Q0 <| wR rfl <| wM (.bool ((decide (1 < (s.size : Int))) && (decide ((bt s 0) = 45)))) rfl rfl <| Qb ?_
 rcases its he with ⟨c6, he⟩ | ⟨c6, he⟩
 ·
  refine QE rfl c6 <| QU rfl <| wM (.string s) rfl rfl <| rK he fun c7 he => w_d rfl (UN Tryz.underlying9 rfl (.inr ⟨_, _, rfl, rfl⟩) (.inl ⟨rfl, rfl⟩) c7) <| wA (.string (scut s 1 (s.size : Int))) rfl rfl <| Qb <| w_sl 2 (pt b1) rfl <| w_sl 3 (errV 104 none) rfl <| w_sl 4 (.string (scut s 1 (s.size : Int))) rfl <| w_sl 5 (.bool ((decide (1 < (s.size : Int))) && (decide ((bt s 0) = 45)))) rfl <| Q1.j1_ok (k := k) hh hle he
 ·
  refine QF rfl (Bool.eq_false_iff.2 c6) <| QH <| w_sl 2 (pt b1) rfl <| w_sl 3 (errV 104 none) rfl <| w_sl 4 (.string s) rfl <| w_sl 5 (.bool ((decide (1 < (s.size : Int))) && (decide ((bt s 0) = 45)))) rfl <| Q1.j1_ok (k := k) hh hle he
noncomputable def XI.C : Code := (Tryz.f97.body).getD .skip
def XI.out (r : Qs) (H : Hp) (v : Value) : Prop := ∃ v0, v = (Qc r v0) ∧ Ro kU32 H v0 r.f_w
theorem XI.out_mono (r : Qs) {H H' : Hp} {v : Value} (hle : H.le H') (h : XI.out r H v) : XI.out r H' v := by
 obtain ⟨v0, rfl, h0⟩ := h; exact ⟨v0, rfl, h0.mono hle⟩
noncomputable def XI.f (k : Nat) (a : Qf) : Option Qs := (Qq.f k a).bind fun y3 => (Q1.f k y3).bind fun y7 => some (y7.1)
theorem XI.calls (k : Nat) {H : Hp} {L : Items} {a : Qf} {v0_a : Value} {r : Qs} (he : XI.f k a = some r) (h0_a : Ro kI64 H v0_a a.f_D) : Ct Tryz.prog 97 ⟨[(Qa a v0_a)]⟩ H L (cR H L (XI.out r)) := by
 refine XO (O := XI.out r) ?_
 have hle : H.le H := .refl _
 unfold XI.f at he
 refine QV (args := [_]) fn_97 rfl nt_97 rfl <| wR rfl <| wB (Qa a v0_a) rfl rfl rfl <| fun b1 => wN zr24 rfl rfl fun b2 => wQ rfl <| wL (Qa a v0_a) ty37 rfl rfl .h1 rfl rfl <| bK he fun y3 hy4 he => w_d rfl (Xx (Qm co99 (vs := [(Qa a v0_a)]) rfl (Qq.calls k (a := a) hy4 h0_a))) <| bK he fun y7 hy8 he => ?_
 refine w_a rfl (Qm co134 (vs := [.string y3]) rfl (Q1.calls k hy8)) ?_
 rintro _ H9 _ ⟨rfl, e10, v11, rfl, h12⟩
 refine wM (.tuple ⟨[(Qc y7.1 v11), errV 104 y7.2]⟩) rfl rfl <| w_d rfl (Q6 rfl rfl) <| w_d rfl (Q6 rfl rfl) <| wN zr24 rfl rfl fun b13 => wS (Qc y7.1 v11) sz24 rfl rfl rfl rfl rfl (XD h12) .here u2 <| wA (errV 104 y7.2) rfl rfl <| wQ rfl <| wL (Qc y7.1 v11) ty24 rfl rfl .here rfl rfl <| wS (Qc y7.1 v11) sz24 rfl rfl rfl rfl rfl (XD h12) .h1 u2 <| Qb ?_
 obtain rfl := sj he
 refine Qn fn_97 rs_97 (.box (v := (Qc y7.1 v11)) rfl ty24 rfl rfl .h1 rfl .nil) <| ⟨⟨[_, _, _], rfl⟩, hle.trans e10, ⟨v11, rfl, h12⟩⟩
noncomputable def Xo.C : Code := (Tryz.f84.body).getD .skip
def Xo.out (r : Int) (H : Hp) (v : Value) : Prop := v = .int .i64 r
noncomputable def Xo.f (k : Nat) (a : Qs) : Option Int := if (a.f_w.length : Int) = 0 then (some (0)) else (if a.f_neg = true then (some ((-1))) else (some (1)))
theorem Xo.mono : ∀ k y0, LeO (Xo.f k y0) (Xo.f (k + 1) y0) := fun k _ => by unfold Xo.f; exact (LeO.ite (LeO.refl _) (LeO.ite (LeO.refl _) (LeO.refl _)))
theorem Xo.calls (k : Nat) {H : Hp} {L : Items} {a : Qs} {v0_a : Value} {r : Int} (he : Xo.f k a = some r) (h0_a : Ro kU32 H v0_a a.f_w) : Ct Tryz.prog 84 ⟨[(Qc a v0_a)]⟩ H L (fun v H' L' => L = L' ∧ H = H' ∧ v = .int .i64 r) := by
 refine Yj (O := Xo.out r) (fun _ _ h => h) ?_
 have hle : H.le H := .refl _
 unfold Xo.f at he
 refine QV (args := [_]) fn_84 rfl nt_84 rfl <| wR rfl <| wB (Qc a v0_a) rfl rfl rfl <| fun b1 => wA (.int .i64 0) rfl rfl <| wE <| Xa <| wR rfl <| w_d rfl (Q9 (o' := 1) Tryz.underlying24 rfl sz22 rfl rfl rfl) <| wL v0_a ty22 rfl rfl .here rfl rfl ?_
 refine w_d rfl (Xr Tryz.underlying22 rfl h0_a.src) <| w_d rfl (Zh rfl rfl) <| wA (.bool (decide ((a.f_w.length : Int) = 0))) rfl rfl <| Qb ?_
 rcases its he with ⟨c2, he⟩ | ⟨c2, he⟩
 ·
  refine QE rfl (dt c2) <| wR rfl <| wA (.int .i64 0) rfl rfl <| Qb ?_
  obtain rfl := sj he
  refine Qn fn_84 rs_84 (.tmp (v := .int .i64 0) rfl .nil) <| ⟨⟨[_], rfl⟩, hle, rfl⟩
 ·
  refine QF rfl (df c2) <| wR rfl <| w_d rfl (Q9 (o' := 0) Tryz.underlying24 rfl sz4 rfl rfl rfl) <| wL (.bool a.f_neg) ty4 rfl rfl .here rfl rfl <| wA (.bool a.f_neg) rfl rfl <| Qb ?_
  rcases its he with ⟨c3, he⟩ | ⟨c3, he⟩
  ·
   refine QE rfl c3 <| wR rfl <| wA (.int .i64 (-1)) rfl rfl <| Qb ?_
   obtain rfl := sj he
   refine Qn fn_84 rs_84 (.tmp (v := .int .i64 (-1)) rfl .nil) <| ⟨⟨[_], rfl⟩, hle, rfl⟩
  ·
   refine QF rfl (Bool.eq_false_iff.2 c3) <| QH <| XC <| wR rfl <| wA (.int .i64 1) rfl rfl <| Qb ?_
   obtain rfl := sj he
   refine Qn fn_84 rs_84 (.tmp (v := .int .i64 1) rfl .nil) <| ⟨⟨[_], rfl⟩, hle, rfl⟩
noncomputable def Xv.C : Code := (Tryz.f121.body).getD .skip
def Xv.out (r : Qs) (H : Hp) (v : Value) : Prop := ∃ v0, v = (Qc r v0) ∧ Ro kU32 H v0 r.f_w
theorem Xv.out_mono (r : Qs) {H H' : Hp} {v : Value} (hle : H.le H') (h : Xv.out r H v) : Xv.out r H' v := by
 obtain ⟨v0, rfl, h0⟩ := h; exact ⟨v0, rfl, h0.mono hle⟩
noncomputable def Xv.f (k : Nat) (a : Qs) : Option Qs := some (⟨(!a.f_neg) && (decide (0 < (a.f_w.length : Int))), a.f_w⟩)
theorem Xv.mono : ∀ k y0, LeO (Xv.f k y0) (Xv.f (k + 1) y0) := fun k _ => by unfold Xv.f; exact (LeO.refl _)
theorem Xv.calls (k : Nat) {H : Hp} {L : Items} {a : Qs} {v0_a : Value} {r : Qs} (he : Xv.f k a = some r) (h0_a : Ro kU32 H v0_a a.f_w) : Ct Tryz.prog 121 ⟨[(Qc a v0_a)]⟩ H L (cR H L (Xv.out r)) := by
 refine XO (O := Xv.out r) ?_
 have hle : H.le H := .refl _
 unfold Xv.f at he
 refine QV (args := [_]) fn_121 rfl nt_121 rfl <| wR rfl <| wB (Qc a v0_a) rfl rfl rfl <| fun b1 => wN zr24 rfl rfl fun b2 => wQ rfl <| w_d rfl (Q9 (o' := 0) Tryz.underlying24 rfl sz4 rfl rfl rfl) <| wL (.bool a.f_neg) ty4 rfl rfl .h1 rfl rfl <| w_d rfl (Zp (b := a.f_neg) rfl) <| wM (.bool (!a.f_neg)) rfl rfl ?_
 refine w_g (g := !a.f_neg) rfl rfl rfl wn_t (fun g3 => Q9 (o' := 1) Tryz.underlying24 rfl sz22 rfl rfl rfl) <| w_g (g := !a.f_neg) rfl rfl rfl wn_t (fun g4 => QG (v := v0_a) ty22 (cvt g4) .h1 rfl rfl rfl rfl) <| w_g (g := !a.f_neg) rfl rfl rfl wn_t (fun g5 => Xr Tryz.underlying22 (cvt g5) h0_a.src) <| w_g (g := !a.f_neg) rfl rfl rfl wn_t (fun g6 => YR (cvt g6) rfl) <| w_d rfl (d_and' (b := (!a.f_neg)) (p := (decide (0 < (a.f_w.length : Int)))) rfl rfl rfl) <| w_d rfl (Q9 (o' := 1) Tryz.underlying24 rfl sz22 rfl rfl rfl) <| wL v0_a ty22 rfl rfl .h1 rfl rfl <| w_d rfl (XF (cs' := [.bool ((!a.f_neg) && (decide (0 < (a.f_w.length : Int)))), v0_a]) Tryz.underlying24 zr24 rfl (by kernel_rfl) (parts := [(0, .bool ((!a.f_neg) && (decide (0 < (a.f_w.length : Int))))), (1, v0_a)]) rfl (.cons (YF rfl sz4 rfl) rfl rfl u1 (.cons (YF rfl sz22 rfl) h0_a.cells rfl (.there u1) .nil))) <| wS (.agg ⟨[.bool ((!a.f_neg) && (decide (0 < (a.f_w.length : Int)))), v0_a]⟩) sz24 rfl rfl rfl rfl rfl (oc rfl (oc (h0_a.one) oz)) .here u2 <| Qb ?_
 obtain rfl := sj he
 refine Qn fn_121 rs_121 (.box (v := .agg ⟨[.bool ((!a.f_neg) && (decide (0 < (a.f_w.length : Int)))), v0_a]⟩) rfl ty24 rfl rfl .here rfl .nil) <| ⟨⟨[_, _], rfl⟩, hle, ⟨v0_a, rfl, h0_a⟩⟩
noncomputable def Yv.C : Code := (Tryz.f123.body).getD .skip
def Yv.out (r : Qs) (H : Hp) (v : Value) : Prop := ∃ v0, v = (Qc r v0) ∧ Ro kU32 H v0 r.f_w
theorem Yv.out_mono (r : Qs) {H H' : Hp} {v : Value} (hle : H.le H') (h : Yv.out r H v) : Yv.out r H' v := by
 obtain ⟨v0, rfl, h0⟩ := h; exact ⟨v0, rfl, h0.mono hle⟩
noncomputable def Yv.f (k : Nat) (a : Qs) : Option Qs := (Xo.f k a).bind fun y3 => if y3 < 0 then ((Xv.f k a).bind fun y8 => some (y8)) else (some (a))
theorem Yv.mono : ∀ k y0, LeO (Yv.f k y0) (Yv.f (k + 1) y0) := fun k _ => by unfold Yv.f; exact (LeO.bind (Xo.mono k _) fun _ => LeO.ite (LeO.bind (Xv.mono k _) fun _ => LeO.refl _) (LeO.refl _))
theorem Yv.calls (k : Nat) {H : Hp} {L : Items} {a : Qs} {v0_a : Value} {r : Qs} (he : Yv.f k a = some r) (h0_a : Ro kU32 H v0_a a.f_w) : Ct Tryz.prog 123 ⟨[(Qc a v0_a)]⟩ H L (cR H L (Yv.out r)) := by
 refine XO (O := Yv.out r) ?_
 have hle : H.le H := .refl _
 unfold Yv.f at he
 refine QV (args := [_]) fn_123 rfl nt_123 rfl <| wR rfl <| wB (Qc a v0_a) rfl rfl rfl <| fun b1 => wN zr24 rfl rfl fun b2 => wE <| wR rfl <| wL (Qc a v0_a) ty24 rfl rfl .h1 rfl rfl <| bK he fun y3 hy4 he => w_d rfl (Xx (Qm co84 (vs := [(Qc a v0_a)]) rfl (Xo.calls k (a := a) hy4 h0_a))) ?_
 refine w_d rfl (XY rfl rfl) <| Qb ?_
 rcases its he with ⟨c7, he⟩ | ⟨c7, he⟩
 ·
  refine QE rfl (dt c7) <| wR rfl <| wL (Qc a v0_a) ty24 rfl rfl .h1 rfl rfl <| bK he fun y8 hy9 he => w_a rfl (Qm co121 (vs := [(Qc a v0_a)]) rfl (Xv.calls k (a := a) hy9 h0_a)) ?_
  rintro _ H10 _ ⟨rfl, e11, v12, rfl, h13⟩
  refine wS (Qc y8 v12) sz24 rfl rfl rfl rfl rfl (XD h13) .here u2 <| Qb ?_
  obtain rfl := sj he
  refine Qn fn_123 rs_123 (.box (v := (Qc y8 v12)) rfl ty24 rfl rfl .here rfl .nil) <| ⟨⟨[_, _], rfl⟩, hle.trans e11, ⟨v12, rfl, h13⟩⟩
 ·
  refine QF rfl (df c7) <| QH <| wR rfl <| wL (Qc a v0_a) ty24 rfl rfl .h1 rfl rfl <| wS (Qc a v0_a) sz24 rfl rfl rfl rfl rfl (XD h0_a) .here u2 <| Qb ?_
  obtain rfl := sj he
  refine Qn fn_123 rs_123 (.box (v := (Qc a v0_a)) rfl ty24 rfl rfl .here rfl .nil) <| ⟨⟨[_, _], rfl⟩, hle, ⟨v0_a, rfl, h0_a⟩⟩
noncomputable def Yk.C : Code := (Tryz.f153.body).getD .skip
def Yk.out (r : Bool) (H : Hp) (v : Value) : Prop := v = .bool r
noncomputable def Yk.f (k : Nat) (x : Int) : Option Bool := some (!decide (x = x))
theorem Yk.mono : ∀ k y0, LeO (Yk.f k y0) (Yk.f (k + 1) y0) := fun k _ => by unfold Yk.f; exact (LeO.refl _)
theorem Yk.calls (k : Nat) {H : Hp} {L : Items} {x : Int} {r : Bool} (he : Yk.f k x = some r) : Ct Tryz.prog 153 ⟨[.int .i64 x]⟩ H L (fun v H' L' => L = L' ∧ H = H' ∧ v = .bool r) := by
 refine Yj (O := Yk.out r) (fun _ _ h => h) ?_
 have hle : H.le H := .refl _
 unfold Yk.f at he
 refine QV (args := [_]) fn_153 rfl nt_153 rfl <| wR rfl <| wA (.bool false) rfl rfl <| wQ rfl <| wM (.int .i64 x) rfl rfl <| wM (.int .i64 x) rfl rfl <| w_d rfl (Zs rfl rfl) <| wA (.bool (!decide (x = x))) rfl rfl <| Qb ?_
 obtain rfl := sj he
 refine Qn fn_153 rs_153 (.tmp (v := .bool (!decide (x = x))) rfl .nil) <| ⟨⟨[], rfl⟩, hle, rfl⟩
noncomputable def X5.C : Code := (Tryz.f136.body).getD .skip
def X5.out (r : Int) (H : Hp) (v : Value) : Prop := v = .int .i64 r
noncomputable def X5.f (k : Nat) (x y : Int) : Option Int := (Yk.f k x).bind fun y1 => (Yk.f k y).bind fun y5 => if y1 = true then (if y5 = true then (some (0)) else (some ((-1)))) else (if y5 = true then (some (1)) else (if x < y then (some ((-1))) else (if y < x then (some (1)) else (some (0)))))
theorem X5.mono : ∀ k y0 y1, LeO (X5.f k y0 y1) (X5.f (k + 1) y0 y1) := fun k _ _ => by unfold X5.f; exact (LeO.bind (Yk.mono k _) fun _ => LeO.bind (Yk.mono k _) fun _ => LeO.ite (LeO.ite (LeO.refl _) (LeO.refl _)) (LeO.ite (LeO.refl _) (LeO.ite (LeO.refl _) (LeO.ite (LeO.refl _) (LeO.refl _)))))
theorem X5.calls (k : Nat) {H : Hp} {L : Items} {x y r : Int} (he : X5.f k x y = some r) : Ct Tryz.prog 136 ⟨[.int .i64 x, .int .i64 y]⟩ H L (fun v H' L' => L = L' ∧ H = H' ∧ v = .int .i64 r) := by
 refine Yj (O := X5.out r) (fun _ _ h => h) ?_
 have hle : H.le H := .refl _
 unfold X5.f at he
 refine QV (args := [_, _]) fn_136 rfl nt_136 rfl <| wR rfl <| wA (.int .i64 0) rfl rfl <| wQ rfl <| wM (.int .i64 x) rfl rfl <| bK he fun y1 hy2 he => w_d rfl (Xx (Qm co153 (vs := [.int .i64 x]) rfl (Yk.calls k hy2))) <| wA (.bool y1) rfl rfl <| Qb ?_
 refine wR rfl <| wM (.int .i64 y) rfl rfl <| bK he fun y5 hy6 he => w_d rfl (Xx (Qm co153 (vs := [.int .i64 y]) rfl (Yk.calls k hy6))) <| wA (.bool y5) rfl rfl <| wE <| wR rfl <| wM (.bool y1) rfl rfl <| Qb ?_
 rcases its he with ⟨c9, he⟩ | ⟨c9, he⟩
 ·
  refine QE rfl c9 <| Q0 <| wR rfl <| wM (.bool y5) rfl rfl <| Qb ?_
  rcases its he with ⟨c10, he⟩ | ⟨c10, he⟩
  ·
   refine QE rfl c10 <| wR rfl <| wA (.int .i64 0) rfl rfl <| Qb ?_
   obtain rfl := sj he
   refine Qn fn_136 rs_136 (.tmp (v := .int .i64 0) rfl .nil) <| ⟨⟨[], rfl⟩, hle, rfl⟩
  ·
   refine QF rfl (Bool.eq_false_iff.2 c10) <| QH <| wR rfl <| wA (.int .i64 (-1)) rfl rfl <| Qb ?_
   obtain rfl := sj he
   refine Qn fn_136 rs_136 (.tmp (v := .int .i64 (-1)) rfl .nil) <| ⟨⟨[], rfl⟩, hle, rfl⟩
 ·
  refine QF rfl (Bool.eq_false_iff.2 c9) <| QH <| Q0 <| wR rfl <| wM (.bool y5) rfl rfl <| Qb ?_
  rcases its he with ⟨c11, he⟩ | ⟨c11, he⟩
  ·
   refine QE rfl c11 <| wR rfl <| wA (.int .i64 1) rfl rfl <| Qb ?_
   obtain rfl := sj he
   refine Qn fn_136 rs_136 (.tmp (v := .int .i64 1) rfl .nil) <| ⟨⟨[], rfl⟩, hle, rfl⟩
  ·
   refine QF rfl (Bool.eq_false_iff.2 c11) <| QH <| Q0 <| wR rfl <| wM (.int .i64 x) rfl rfl <| wM (.int .i64 y) rfl rfl <| w_d rfl (XY rfl rfl) <| Qb ?_
   rcases its he with ⟨c12, he⟩ | ⟨c12, he⟩
   ·
    refine QE rfl (dt c12) <| wR rfl <| wA (.int .i64 (-1)) rfl rfl <| Qb ?_
    obtain rfl := sj he
    refine Qn fn_136 rs_136 (.tmp (v := .int .i64 (-1)) rfl .nil) <| ⟨⟨[], rfl⟩, hle, rfl⟩
   ·
    refine QF rfl (df c12) <| QH <| Q0 <| wR rfl <| wM (.int .i64 x) rfl rfl <| wM (.int .i64 y) rfl rfl <| w_d rfl (YR rfl rfl) <| Qb ?_
    rcases its he with ⟨c13, he⟩ | ⟨c13, he⟩
    ·
     refine QE rfl (dt c13) <| wR rfl <| wA (.int .i64 1) rfl rfl <| Qb ?_
     obtain rfl := sj he
     refine Qn fn_136 rs_136 (.tmp (v := .int .i64 1) rfl .nil) <| ⟨⟨[], rfl⟩, hle, rfl⟩
    ·
     refine QF rfl (df c13) <| QH <| wR rfl <| wA (.int .i64 0) rfl rfl <| Qb ?_
     obtain rfl := sj he
     refine Qn fn_136 rs_136 (.tmp (v := .int .i64 0) rfl .nil) <| ⟨⟨[], rfl⟩, hle, rfl⟩
noncomputable def X2.C : Code := (Tryz.f166.body).getD .skip
def X2.out (r : Bool) (H : Hp) (v : Value) : Prop := v = .bool r
noncomputable def X2.f (k : Nat) (x : Int) : Option Bool := some (!decide (x = x))
theorem X2.mono : ∀ k y0, LeO (X2.f k y0) (X2.f (k + 1) y0) := fun k _ => by unfold X2.f; exact (LeO.refl _)
theorem X2.calls (k : Nat) {H : Hp} {L : Items} {x : Int} {r : Bool} (he : X2.f k x = some r) : Ct Tryz.prog 166 ⟨[.int .u32 x]⟩ H L (fun v H' L' => L = L' ∧ H = H' ∧ v = .bool r) := by
 refine Yj (O := X2.out r) (fun _ _ h => h) ?_
 have hle : H.le H := .refl _
 unfold X2.f at he
 refine QV (args := [_]) fn_166 rfl nt_166 rfl <| wR rfl <| wA (.bool false) rfl rfl <| wQ rfl <| wM (.int .u32 x) rfl rfl <| wM (.int .u32 x) rfl rfl <| w_d rfl (Zs rfl rfl) <| wA (.bool (!decide (x = x))) rfl rfl <| Qb ?_
 obtain rfl := sj he
 refine Qn fn_166 rs_166 (.tmp (v := .bool (!decide (x = x))) rfl .nil) <| ⟨⟨[], rfl⟩, hle, rfl⟩
noncomputable def X3.C : Code := (Tryz.f154.body).getD .skip
def X3.out (r : Int) (H : Hp) (v : Value) : Prop := v = .int .i64 r
noncomputable def X3.f (k : Nat) (x y : Int) : Option Int := (X2.f k x).bind fun y1 => (X2.f k y).bind fun y5 => if y1 = true then (if y5 = true then (some (0)) else (some ((-1)))) else (if y5 = true then (some (1)) else (if x < y then (some ((-1))) else (if y < x then (some (1)) else (some (0)))))
theorem X3.mono : ∀ k y0 y1, LeO (X3.f k y0 y1) (X3.f (k + 1) y0 y1) := fun k _ _ => by unfold X3.f; exact (LeO.bind (X2.mono k _) fun _ => LeO.bind (X2.mono k _) fun _ => LeO.ite (LeO.ite (LeO.refl _) (LeO.refl _)) (LeO.ite (LeO.refl _) (LeO.ite (LeO.refl _) (LeO.ite (LeO.refl _) (LeO.refl _)))))
theorem X3.calls (k : Nat) {H : Hp} {L : Items} {x y r : Int} (he : X3.f k x y = some r) : Ct Tryz.prog 154 ⟨[.int .u32 x, .int .u32 y]⟩ H L (fun v H' L' => L = L' ∧ H = H' ∧ v = .int .i64 r) := by
 refine Yj (O := X3.out r) (fun _ _ h => h) ?_
 have hle : H.le H := .refl _
 unfold X3.f at he
 refine QV (args := [_, _]) fn_154 rfl nt_154 rfl <| wR rfl <| wA (.int .i64 0) rfl rfl <| wQ rfl <| wM (.int .u32 x) rfl rfl <| bK he fun y1 hy2 he => w_d rfl (Xx (Qm co166 (vs := [.int .u32 x]) rfl (X2.calls k hy2))) <| wA (.bool y1) rfl rfl <| Qb ?_
 refine wR rfl <| wM (.int .u32 y) rfl rfl <| bK he fun y5 hy6 he => w_d rfl (Xx (Qm co166 (vs := [.int .u32 y]) rfl (X2.calls k hy6))) <| wA (.bool y5) rfl rfl <| wE <| wR rfl <| wM (.bool y1) rfl rfl <| Qb ?_
 rcases its he with ⟨c9, he⟩ | ⟨c9, he⟩
 ·
  refine QE rfl c9 <| Q0 <| wR rfl <| wM (.bool y5) rfl rfl <| Qb ?_
  rcases its he with ⟨c10, he⟩ | ⟨c10, he⟩
  ·
   refine QE rfl c10 <| wR rfl <| wA (.int .i64 0) rfl rfl <| Qb ?_
   obtain rfl := sj he
   refine Qn fn_154 rs_154 (.tmp (v := .int .i64 0) rfl .nil) <| ⟨⟨[], rfl⟩, hle, rfl⟩
  ·
   refine QF rfl (Bool.eq_false_iff.2 c10) <| QH <| wR rfl <| wA (.int .i64 (-1)) rfl rfl <| Qb ?_
   obtain rfl := sj he
   refine Qn fn_154 rs_154 (.tmp (v := .int .i64 (-1)) rfl .nil) <| ⟨⟨[], rfl⟩, hle, rfl⟩
 ·
  refine QF rfl (Bool.eq_false_iff.2 c9) <| QH <| Q0 <| wR rfl <| wM (.bool y5) rfl rfl <| Qb ?_
  rcases its he with ⟨c11, he⟩ | ⟨c11, he⟩
  ·
   refine QE rfl c11 <| wR rfl <| wA (.int .i64 1) rfl rfl <| Qb ?_
   obtain rfl := sj he
   refine Qn fn_154 rs_154 (.tmp (v := .int .i64 1) rfl .nil) <| ⟨⟨[], rfl⟩, hle, rfl⟩
  ·
   refine QF rfl (Bool.eq_false_iff.2 c11) <| QH <| Q0 <| wR rfl <| wM (.int .u32 x) rfl rfl <| wM (.int .u32 y) rfl rfl <| w_d rfl (XY rfl rfl) <| Qb ?_
   rcases its he with ⟨c12, he⟩ | ⟨c12, he⟩
   ·
    refine QE rfl (dt c12) <| wR rfl <| wA (.int .i64 (-1)) rfl rfl <| Qb ?_
    obtain rfl := sj he
    refine Qn fn_154 rs_154 (.tmp (v := .int .i64 (-1)) rfl .nil) <| ⟨⟨[], rfl⟩, hle, rfl⟩
   ·
    refine QF rfl (df c12) <| QH <| Q0 <| wR rfl <| wM (.int .u32 x) rfl rfl <| wM (.int .u32 y) rfl rfl <| w_d rfl (YR rfl rfl) <| Qb ?_
    rcases its he with ⟨c13, he⟩ | ⟨c13, he⟩
    ·
     refine QE rfl (dt c13) <| wR rfl <| wA (.int .i64 1) rfl rfl <| Qb ?_
     obtain rfl := sj he
     refine Qn fn_154 rs_154 (.tmp (v := .int .i64 1) rfl .nil) <| ⟨⟨[], rfl⟩, hle, rfl⟩
    ·
     refine QF rfl (df c13) <| QH <| wR rfl <| wA (.int .i64 0) rfl rfl <| Qb ?_
     obtain rfl := sj he
     refine Qn fn_154 rs_154 (.tmp (v := .int .i64 0) rfl .nil) <| ⟨⟨[], rfl⟩, hle, rfl⟩
noncomputable def Q2.C : Code := (Tryz.f137.body).getD .skip
def Q2.out (r : Int) (H : Hp) (v : Value) : Prop := v = .int .i64 r
abbrev Q2.R (H0 : Hp) (L : Items) (r : Int) := fR H0 L (Q2.out r)
structure Q2.Hs where
 l0 : (List Int) → (List Int) → Int → Int → Option Int
noncomputable def Q2.b0 (k : Nat) (h : Q2.Hs) (a b : List Int) (t4 i : Int) : Option Int := if 0 ≤ i then (if (0 : Int) ≤ i ∧ i < (a.length : Int) then (if (0 : Int) ≤ i ∧ i < (b.length : Int) then ((X3.f k (rd a i) (rd b i)).bind fun y11 => if y11 = 0 then (h.l0 a b t4 (w64 (i - 1))) else (some (y11))) else none) else none) else (some (0))
noncomputable def Q2.hs : Nat → Q2.Hs
 | 0 => ⟨fun _ _ _ _ => none⟩
 | k + 1 => ⟨fun x0 x1 x2 x3 => Q2.b0 k (Q2.hs k) x0 x1 x2 x3⟩
noncomputable def Q2.f (k : Nat) (a b : List Int) : Option Int := (fun h : Q2.Hs => (X5.f k (a.length : Int) (b.length : Int)).bind fun y1 => if y1 = 0 then (h.l0 a b 0 (w64 ((a.length : Int) - 1))) else (some (y1))) (Q2.hs k)
structure Q2.LE (h h' : Q2.Hs) : Prop where
 l0 : ∀ y0 y1 y2 y3, LeO (h.l0 y0 y1 y2 y3) (h'.l0 y0 y1 y2 y3)
theorem Q2.b0_mono {k : Nat} {h h' : Q2.Hs} (hl : Q2.LE h h') : ∀ y0 y1 y2 y3, LeO (Q2.b0 k h y0 y1 y2 y3) (Q2.b0 (k + 1) h' y0 y1 y2 y3) := fun _ _ _ _ => (LeO.ite (LeO.ite (LeO.ite (LeO.bind (X3.mono k _ _) fun _ => LeO.ite (hl.l0 _ _ _ _) (LeO.refl _)) (LeO.refl _)) (LeO.refl _)) (LeO.refl _))
theorem Q2.hs_mono : ∀ k, Q2.LE (Q2.hs k) (Q2.hs (k + 1))
 | 0 => ⟨fun _ _ _ _ => LeO.none _⟩
 | k + 1 => ⟨Q2.b0_mono (k := k) (Q2.hs_mono k)⟩
theorem Q2.mono : ∀ k y0 y1, LeO (Q2.f k y0 y1) (Q2.f (k + 1) y0 y1) := fun k _ _ => have hl := Q2.hs_mono k; by unfold Q2.f; exact (LeO.bind (X5.mono k _ _) fun _ => LeO.ite (hl.l0 _ _ _ _) (LeO.refl _))
noncomputable def Q2.Kl0 : List Item := .code (lopB (blkB (seqR (seqL (seqR (seqR Q2.C)))))) :: .inLoop (lopB (blkB (seqR (seqL (seqR (seqR Q2.C)))))) :: .inBlock 0 :: .code (seqR (seqR (seqR Q2.C))) :: []
structure Q2.OK (h : Q2.Hs) : Prop where
 l0 : ∀ {H0 H : Hp} {L : Items} {r : Int} {jk_ : Nat → Value} {a : List Int} {b : List Int} {t4 : Int} {i : Int} {v_a : Value} {v_b : Value} (_ : H0.le H) (_he : h.l0 a b t4 i = some r) (_h_a : Src kU32 H L v_a a) (_h_b : Src kU32 H L v_b b), Wp Tryz.prog 137 35 Q2.Kl0 (upd (upd (upd (upd jk_ 0 (v_a)) 1 (v_b)) 4 (.int .i64 t4)) 6 (.int .i64 i)) H (L) (Q2.R H0 L r)
theorem Q2.b0_ok {k : Nat} {h : Q2.Hs} (hh : Q2.OK h) {H0 H : Hp} {L : Items} {r : Int} {jk_ : Nat → Value} {a b : List Int} {t4 i : Int} {v_a v_b : Value} (hle : H0.le H) (he : Q2.b0 k h a b t4 i = some r) (h_a : Src kU32 H L v_a a) (h_b : Src kU32 H L v_b b) : Wp Tryz.prog 137 35 Q2.Kl0 (upd (upd (upd (upd jk_ 0 (v_a)) 1 (v_b)) 4 (.int .i64 t4)) 6 (.int .i64 i)) H (L) (Q2.R H0 L r) := by
 unfold Q2.b0 at he
 unfold Q2.Kl0
 refine Q0 <| wR rfl <| wM (.int .i64 i) rfl rfl <| w_d rfl (ZJ rfl rfl) <| Qb ?_
 rcases its he with ⟨c6, he⟩ | ⟨c6, he⟩
 ·
  refine QE rfl (dt c6) <| QH <| Q0 <| Xa <| Q0 <| rK he fun c7 he => rK he fun c8 he => Xy (p := 8) (tl := [8, 9]) [[], [], [(0, some 23), (1, some 24)], [(2, some 25)], [], [], [(4, some 27), (5, some 28)], [(6, some 29)]] [some 23, some 24, some 25, some 26, some 27, some 28, some 29, some 30] (fctF (.is (v_a) :: .is (.int .i64 i) :: .is (.pointer (some (pel v_a i 1))) :: .is (.int .u32 (rd a i)) :: .is (v_b) :: .is (.int .i64 i) :: .is (.pointer (some (pel v_b i 1))) :: .is (.int .u32 (rd b i)) :: [])) (fun m_ => L) (fun _ => none) mixed (by kernel_rfl) (by kernel_rfl) rfl (Xn (by kernel_rfl)) ⟨(fun H' m_ hH hm_ hu_ => dn <| s_d (m_ 0) rfl (QW (v := v_a) rfl) (by exact rfl) rfl), (fun H' m_ hH hm_ hu_ => dn <| s_d (m_ 1) rfl (QW (v := .int .i64 i) rfl) (by exact rfl) rfl), (by rintro H' m_ hH hm_ hu_ _ rfl _ rfl; exact dn <| s_d (m_ 2) rfl (XK (sz := 1) Tryz.underlying22 sz167 rfl (h_a.mono hH) rfl c7) (by exact rfl) rfl), (by rintro H' m_ hH hm_ hu_ _ rfl; exact dn <| s_d (m_ 3) rfl (XP ty167 rfl (h_a.mono hH) c7) (by exact rfl) rfl), (fun H' m_ hH hm_ hu_ => dn <| s_d (m_ 4) rfl (QW (v := v_b) rfl) (by exact rfl) rfl), (fun H' m_ hH hm_ hu_ => dn <| s_d (m_ 5) rfl (QW (v := .int .i64 i) rfl) (by exact rfl) rfl), (by rintro H' m_ hH hm_ hu_ _ rfl _ rfl; exact dn <| s_d (m_ 6) rfl (XK (sz := 1) Tryz.underlying22 sz167 rfl (h_b.mono hH) rfl c8) (by exact rfl) rfl), (by rintro H' m_ hH hm_ hu_ _ rfl; exact dn <| s_d (m_ 7) rfl (XP ty167 rfl (h_b.mono hH) c8) (by exact rfl) rfl), trivial⟩ ?_
  intro H9 e10
  rintro _ _ rfl _ _ rfl _ _ rfl _ _ rfl _ _ rfl _ _ rfl _ _ rfl _ _ rfl
  refine bK he fun y11 hy12 he => w_d rfl (Xx (Qm co154 (vs := [.int .u32 (rd a i), .int .u32 (rd b i)]) rfl (X3.calls k hy12))) <| wA (.int .i64 y11) rfl rfl <| wQ rfl <| wM (.int .i64 y11) rfl rfl <| w_d rfl (Zs rfl rfl) <| Qb ?_
  rcases its he with ⟨c15, he⟩ | ⟨c15, he⟩
  ·
   refine QF rfl (nd_t c15) <| QH <| XC <| QU rfl <| wM (.int .i64 i) rfl rfl <| w_d rfl (YD (c := w64 (i - 1)) rfl rfl rfl) <| wA (.int .i64 (w64 (i - 1))) rfl rfl <| Qb <| XL <| w_sl 0 (v_a) rfl <| w_sl 1 (v_b) rfl <| w_sl 4 (.int .i64 t4) rfl ?_
   refine w_sl 6 (.int .i64 (w64 (i - 1))) rfl <| hh.l0 (hle.trans e10) he (h_a.mono e10) (h_b.mono e10)
  ·
   refine QE rfl (nd_f c15) <| wR rfl <| wM (.int .i64 y11) rfl rfl <| wA (.int .i64 y11) rfl rfl <| Qb ?_
   obtain rfl := sj he
   refine Qn fn_137 rs_137 (.tmp (v := .int .i64 y11) rfl .nil) <| ⟨⟨[], rfl⟩, hle.trans e10, rfl⟩
 ·
  refine QF rfl (df c6) <| X8 rfl <| wR rfl <| wA (.int .i64 0) rfl rfl <| Qb ?_
  obtain rfl := sj he
  refine Qn fn_137 rs_137 (.tmp (v := .int .i64 0) rfl .nil) <| ⟨⟨[], rfl⟩, hle, rfl⟩
theorem Q2.ok : ∀ k, Q2.OK (Q2.hs k)
 | 0 => ⟨(by intros; exact nomatch (show none = some _ from by assumption))⟩
 | k + 1 => ⟨Q2.b0_ok (k := k) (Q2.ok k)⟩
theorem Q2.calls (k : Nat) {H : Hp} {L : Items} {a b : List Int} {v0_a v1_b : Value} {r : Int} (he : Q2.f k a b = some r) (h0_a : Src kU32 H L v0_a a) (h1_b : Src kU32 H L v1_b b) : Ct Tryz.prog 137 ⟨[v0_a, v1_b]⟩ H L (fun v H' L' => L = L' ∧ H = H' ∧ v = .int .i64 r) := by
 refine Yj (O := Q2.out r) (fun _ _ h => h) ?_
 have hle : H.le H := .refl _
 have hh := Q2.ok k
 unfold Q2.f at he
 refine QV (args := [_, _]) fn_137 rfl nt_137 rfl <| wR rfl <| wA (.int .i64 0) rfl rfl <| wE <| wR rfl <| wM v0_a rfl rfl <| w_d rfl (Xr Tryz.underlying22 rfl h0_a) <| wM v1_b rfl rfl <| w_d rfl (Xr Tryz.underlying22 rfl h1_b) ?_
 refine bK he fun y1 hy2 he => w_d rfl (Xx (Qm co136 (vs := [.int .i64 (a.length : Int), .int .i64 (b.length : Int)]) rfl (X5.calls k hy2))) <| wA (.int .i64 y1) rfl rfl <| wQ rfl <| wM (.int .i64 y1) rfl rfl <| w_d rfl (Zs rfl rfl) <| Qb ?_
 rcases its he with ⟨c5, he⟩ | ⟨c5, he⟩
 ·
  refine QF rfl (nd_t c5) <| QH <| Q0 <| wR rfl <| wM v0_a rfl rfl <| w_d rfl (Xr Tryz.underlying22 rfl h0_a) <| w_d rfl (YD (c := w64 ((a.length : Int) - 1)) rfl rfl rfl) <| wA (.int .i64 (w64 ((a.length : Int) - 1))) rfl rfl <| Qb <| Xa <| X9 ?_
  refine w_sl 0 (v0_a) rfl <| w_sl 1 (v1_b) rfl <| w_sl 4 (.int .i64 0) rfl <| w_sl 6 (.int .i64 (w64 ((a.length : Int) - 1))) rfl <| hh.l0 hle he h0_a h1_b
 ·
  refine QE rfl (nd_f c5) <| wR rfl <| wM (.int .i64 y1) rfl rfl <| wA (.int .i64 y1) rfl rfl <| Qb ?_
  obtain rfl := sj he
  refine Qn fn_137 rs_137 (.tmp (v := .int .i64 y1) rfl .nil) <| ⟨⟨[], rfl⟩, hle, rfl⟩
noncomputable def QY.C : Code := (Tryz.f130.body).getD .skip
def QY.out (r : (List Int) × Int) (H : Hp) (v : Value) : Prop := ∃ v0, v = .tuple ⟨[v0, .int .u32 r.2]⟩ ∧ Ro kU32 H v0 r.1
abbrev QY.R (H0 : Hp) (L : Items) (r : (List Int) × Int) := fR H0 L (QY.out r)
structure QY.Hs where
 l0 : (List Int) → Int → (List Int) → Int → Int → Option ((List Int) × Int)
noncomputable def QY.b0 (k : Nat) (h : QY.Hs) (a : List Int) (b : Int) (out : List Int) (rest i : Int) : Option ((List Int) × Int) := if 0 ≤ i then (if (0 : Int) ≤ i ∧ i < (a.length : Int) then (if ((b) % 18446744073709551616) ≠ 0 then (if (0 : Int) ≤ i ∧ i < (out.length : Int) then (if ((b) % 18446744073709551616) ≠ 0 then (h.l0 a b (out.set (i : Int).toNat (((Int.tdiv (ior .u64 ((rest * 4294967296) % 18446744073709551616) ((rd a i) % 18446744073709551616)) ((b) % 18446744073709551616)) % 18446744073709551616) % 4294967296)) (Int.tmod (ior .u64 ((rest * 4294967296) % 18446744073709551616) ((rd a i) % 18446744073709551616)) ((b) % 18446744073709551616)) (w64 (i - 1))) else none) else none) else none) else none) else ((QS.f k out).bind fun y15 => some (y15, (rest) % 4294967296))
noncomputable def QY.hs : Nat → QY.Hs
 | 0 => ⟨fun _ _ _ _ _ => none⟩
 | k + 1 => ⟨fun x0 x1 x2 x3 x4 => QY.b0 k (QY.hs k) x0 x1 x2 x3 x4⟩
noncomputable def QY.f (k : Nat) (a : List Int) (b : Int) : Option ((List Int) × Int) := (fun h : QY.Hs => if 0 ≤ (a.length : Int) ∧ (a.length : Int) ≤ 70368744177664 then (h.l0 a b (List.replicate ((a.length : Int) : Int).toNat (0 : Int)) 0 (w64 ((a.length : Int) - 1))) else none) (QY.hs k)
structure QY.LE (h h' : QY.Hs) : Prop where
 l0 : ∀ y0 y1 y2 y3 y4, LeO (h.l0 y0 y1 y2 y3 y4) (h'.l0 y0 y1 y2 y3 y4)
theorem QY.b0_mono {k : Nat} {h h' : QY.Hs} (hl : QY.LE h h') : ∀ y0 y1 y2 y3 y4, LeO (QY.b0 k h y0 y1 y2 y3 y4) (QY.b0 (k + 1) h' y0 y1 y2 y3 y4) := fun _ _ _ _ _ => (LeO.ite (LeO.ite (LeO.ite (LeO.ite (LeO.ite (hl.l0 _ _ _ _ _) (LeO.refl _)) (LeO.refl _)) (LeO.refl _)) (LeO.refl _)) (LeO.bind (QS.mono k _) fun _ => LeO.refl _))
theorem QY.hs_mono : ∀ k, QY.LE (QY.hs k) (QY.hs (k + 1))
 | 0 => ⟨fun _ _ _ _ _ => LeO.none _⟩
 | k + 1 => ⟨QY.b0_mono (k := k) (QY.hs_mono k)⟩
theorem QY.mono : ∀ k y0 y1, LeO (QY.f k y0 y1) (QY.f (k + 1) y0 y1) := fun k _ _ => have hl := QY.hs_mono k; by unfold QY.f; exact (LeO.ite (hl.l0 _ _ _ _ _) (LeO.refl _))
noncomputable def QY.Kl0 : List Item := .code (lopB (blkB (seqR (seqL (seqR (seqR (seqR QY.C))))))) :: .inLoop (lopB (blkB (seqR (seqL (seqR (seqR (seqR QY.C))))))) :: .inBlock 0 :: .code (seqR (seqR (seqR (seqR QY.C)))) :: []
structure QY.OK (h : QY.Hs) : Prop where
 l0 : ∀ {H0 H : Hp} {L : Items} {r : (List Int) × Int} {jk_ : Nat → Value} {a : List Int} {b : Int} {out : List Int} {rest : Int} {i : Int} {v_a : Value} {v_out : Value} {i_out : Item'} (_ : H0.le H) (_he : h.l0 a b out rest i = some r) (_h_a : Src kU32 H L v_a a) (_h_out : Sl kU32 H 167 i_out v_out out), Wp Tryz.prog 130 44 QY.Kl0 (upd (upd (upd (upd (upd (upd (upd jk_ 0 (v_a)) 1 (.int .u32 b)) 4 (.slice none 0 0)) 5 (.int .u32 0)) 6 (v_out)) 7 (.int .u64 rest)) 8 (.int .i64 i)) H (i_out :: L) (QY.R H0 L r)
theorem QY.b0_ok {k : Nat} {h : QY.Hs} (hh : QY.OK h) {H0 H : Hp} {L : Items} {r : (List Int) × Int} {jk_ : Nat → Value} {a : List Int} {b : Int} {out : List Int} {rest i : Int} {v_a v_out : Value} {i_out : Item'} (hle : H0.le H) (he : QY.b0 k h a b out rest i = some r) (h_a : Src kU32 H L v_a a) (h_out : Sl kU32 H 167 i_out v_out out) : Wp Tryz.prog 130 44 QY.Kl0 (upd (upd (upd (upd (upd (upd (upd jk_ 0 (v_a)) 1 (.int .u32 b)) 4 (.slice none 0 0)) 5 (.int .u32 0)) 6 (v_out)) 7 (.int .u64 rest)) 8 (.int .i64 i)) H (i_out :: L) (QY.R H0 L r) := by
 unfold QY.b0 at he
 unfold QY.Kl0
 refine Q0 <| wR rfl <| wM (.int .i64 i) rfl rfl <| w_d rfl (ZJ rfl rfl) <| Qb ?_
 rcases its he with ⟨c5, he⟩ | ⟨c5, he⟩
 ·
  refine QE rfl (dt c5) <| QH <| Q0 <| Xa <| wR rfl <| wM (.int .u64 rest) rfl rfl <| w_d rfl (Gm (c := (rest * 4294967296) % 18446744073709551616) rfl rfl (by decide) rfl) <| wM v_a rfl rfl <| wM (.int .i64 i) rfl rfl <| rK he fun c6 he => w_d rfl (XK (sz := 1) Tryz.underlying22 sz167 rfl h_a.th rfl c6) ?_
  refine w_d rfl (XP ty167 rfl h_a.th c6) <| w_d rfl (X7 (c := (rd a i) % 18446744073709551616) Tryz.underlying167 Tryz.underlying113 rfl rfl) <| w_d rfl (Gt rfl rfl) <| wA (.int .u64 (ior .u64 ((rest * 4294967296) % 18446744073709551616) ((rd a i) % 18446744073709551616))) rfl rfl <| wQ rfl <| wM v_out rfl rfl <| wM (.int .i64 i) rfl rfl <| wM (.int .u64 (ior .u64 ((rest * 4294967296) % 18446744073709551616) ((rd a i) % 18446744073709551616))) rfl rfl <| wM (.int .u32 b) rfl rfl <| w_d rfl (X7 (c := (b) % 18446744073709551616) Tryz.underlying167 Tryz.underlying113 rfl rfl) ?_
  refine rK he fun c7 he => w_d rfl (Jj (c := (Int.tdiv (ior .u64 ((rest * 4294967296) % 18446744073709551616) ((rd a i) % 18446744073709551616)) ((b) % 18446744073709551616)) % 18446744073709551616) rfl rfl c7 rfl) <| w_d rfl (X7 (c := ((Int.tdiv (ior .u64 ((rest * 4294967296) % 18446744073709551616) ((rd a i) % 18446744073709551616)) ((b) % 18446744073709551616)) % 18446744073709551616) % 4294967296) Tryz.underlying113 Tryz.underlying167 rfl rfl) <| rK he fun c8 he => w_d rfl (YK (sz := 1) Tryz.underlying22 sz167 rfl h_out.shp rfl c8) <| w_a0 rfl (Y1 (kd := kU32) (v := .int .u32 (((Int.tdiv (ior .u64 ((rest * 4294967296) % 18446744073709551616) ((rd a i) % 18446744073709551616)) ((b) % 18446744073709551616)) % 18446744073709551616) % 4294967296)) (F := fun z_ => z_ :: L) sz167 rfl rfl rfl rfl h_out c8 (fun _ => .here)) ?_
  rintro _ _ _ ⟨i9, rfl, rfl, rfl, h10⟩
  refine Qb <| QU rfl <| wM (.int .u64 (ior .u64 ((rest * 4294967296) % 18446744073709551616) ((rd a i) % 18446744073709551616))) rfl rfl <| wM (.int .u32 b) rfl rfl <| w_d rfl (X7 (c := (b) % 18446744073709551616) Tryz.underlying167 Tryz.underlying113 rfl rfl) <| rK he fun c11 he => w_d rfl (Jd rfl rfl c11) <| wA (.int .u64 (Int.tmod (ior .u64 ((rest * 4294967296) % 18446744073709551616) ((rd a i) % 18446744073709551616)) ((b) % 18446744073709551616))) rfl rfl <| Qb <| XC <| QU rfl <| wM (.int .i64 i) rfl rfl ?_
  refine w_d rfl (YD (c := w64 (i - 1)) rfl rfl rfl) <| wA (.int .i64 (w64 (i - 1))) rfl rfl <| Qb <| XL <| w_sl 0 (v_a) rfl <| w_sl 1 (.int .u32 b) rfl <| w_sl 4 (.slice none 0 0) rfl <| w_sl 5 (.int .u32 0) rfl <| w_sl 6 (v_out) rfl <| w_sl 7 (.int .u64 (Int.tmod (ior .u64 ((rest * 4294967296) % 18446744073709551616) ((rd a i) % 18446744073709551616)) ((b) % 18446744073709551616))) rfl <| w_sl 8 (.int .i64 (w64 (i - 1))) rfl <| hh.l0 hle he h_a h10
 ·
  refine QF rfl (df c5) <| X8 rfl <| wR rfl <| wM v_out rfl rfl <| YA h_out .here ?_
  intro H12 e13 h14
  refine bK he fun y15 hy16 he => w_a rfl (Qm co113 (vs := [v_out]) rfl (QS.calls k hy16 h14)) ?_
  rintro v19 H17 _ ⟨rfl, e18, h20⟩
  refine wM (.int .u64 rest) rfl rfl <| w_d rfl (X7 (c := (rest) % 4294967296) Tryz.underlying113 Tryz.underlying167 rfl rfl) <| wA v19 rfl rfl <| wA (.int .u32 ((rest) % 4294967296)) rfl rfl <| Qb ?_
  obtain rfl := sj he
  refine Qn fn_130 rs_130 (.tmp (v := v19) rfl (.tmp (v := .int .u32 ((rest) % 4294967296)) rfl .nil)) <| ⟨⟨[_], rfl⟩, hle.trans (e13.trans e18), ⟨v19, rfl, h20⟩⟩
theorem QY.ok : ∀ k, QY.OK (QY.hs k)
 | 0 => ⟨(by intros; exact nomatch (show none = some _ from by assumption))⟩
 | k + 1 => ⟨QY.b0_ok (k := k) (QY.ok k)⟩
theorem QY.calls (k : Nat) {H : Hp} {L : Items} {a : List Int} {b : Int} {v0_a : Value} {r : (List Int) × Int} (he : QY.f k a b = some r) (h0_a : Src kU32 H L v0_a a) : Ct Tryz.prog 130 ⟨[v0_a, .int .u32 b]⟩ H L (cR H L (QY.out r)) := by
 refine XO (O := QY.out r) ?_
 have hle : H.le H := .refl _
 have hh := QY.ok k
 unfold QY.f at he
 refine QV (args := [_, _]) fn_130 rfl nt_130 rfl <| wR rfl <| wA (.slice none 0 0) rfl rfl <| wA (.int .u32 0) rfl rfl <| wQ rfl <| wM v0_a rfl rfl <| w_d rfl (Xr Tryz.underlying22 rfl h0_a) <| rK he fun c1 he => w_a rfl (o_make' (kd := kU32) (z0 := 0) Tryz.underlying22 ti167 (zp167 _) rfl rfl (by omega) (by omega) (by omega)) ?_
 rintro v2 _ _ ⟨i3, rfl, rfl, h4⟩
 refine wA v2 rfl rfl <| wQ rfl <| wA (.int .u64 0) rfl rfl <| wE <| wR rfl <| wM v0_a rfl rfl <| w_d rfl (Xr Tryz.underlying22 rfl h0_a.th) <| w_d rfl (YD (c := w64 ((a.length : Int) - 1)) rfl rfl rfl) ?_
 refine wA (.int .i64 (w64 ((a.length : Int) - 1))) rfl rfl <| Qb <| Xa <| X9 <| w_sl 0 (v0_a) rfl <| w_sl 1 (.int .u32 b) rfl <| w_sl 4 (.slice none 0 0) rfl <| w_sl 5 (.int .u32 0) rfl <| w_sl 6 (v2) rfl <| w_sl 7 (.int .u64 0) rfl <| w_sl 8 (.int .i64 (w64 ((a.length : Int) - 1))) rfl <| hh.l0 hle he h0_a h4
noncomputable def Xb.C : Code := (Tryz.f167.body).getD .skip
def Xb.out (r : Int) (H : Hp) (v : Value) : Prop := v = .int .i64 r
abbrev Xb.R (H0 : Hp) (L : Items) (r : Int) := fR H0 L (Xb.out r)
noncomputable def Xb.j2 (k : Nat) (x n : Int) : Option Int := if (0 : Int) ≤ (x) % 256 ∧ (x) % 256 < (str_4.size : Int) then (some (w64 (n + (w64 (bt str_4 ((x) % 256)))))) else none
noncomputable def Xb.j1 (k : Nat) (x n : Int) : Option Int := if 256 ≤ x then (Xb.j2 k (x / 256) (w64 (n + 8))) else (Xb.j2 k x n)
noncomputable def Xb.f (k : Nat) (x : Int) : Option Int := if 65536 ≤ x then (Xb.j1 k (x / 65536) 16) else (Xb.j1 k x 0)
theorem Xb.j2_mono {k : Nat} : ∀ y0 y1, LeO (Xb.j2 k y0 y1) (Xb.j2 (k + 1) y0 y1) := fun _ _ => (LeO.ite (LeO.refl _) (LeO.refl _))
theorem Xb.j1_mono {k : Nat} : ∀ y0 y1, LeO (Xb.j1 k y0 y1) (Xb.j1 (k + 1) y0 y1) := fun _ _ => (LeO.ite (Xb.j2_mono (k := k)  _ _) (Xb.j2_mono (k := k)  _ _))
theorem Xb.mono : ∀ k y0, LeO (Xb.f k y0) (Xb.f (k + 1) y0) := fun k _ => by unfold Xb.f; exact (LeO.ite (Xb.j1_mono (k := k)  _ _) (Xb.j1_mono (k := k)  _ _))
noncomputable def Xb.Kj1 : List Item := .code (seqR (seqR Xb.C)) :: []
noncomputable def Xb.Kj2 : List Item := .code (seqR (seqR (seqR Xb.C))) :: []
theorem Xb.j2_ok {k : Nat} {H0 H : Hp} {L : Items} {r : Int} {jk_ : Nat → Value} {x n : Int} (hle : H0.le H) (he : Xb.j2 k x n = some r) : Wp Tryz.prog 167 19 Xb.Kj2 (upd (upd jk_ 0 (.int .u32 x)) 2 (.int .i64 n)) H (L) (Xb.R H0 L r) := by
 unfold Xb.j2 at he
 unfold Xb.Kj2
 refine wR rfl <| wM (.int .i64 n) rfl rfl <| wM (.int .u32 x) rfl rfl <| w_d rfl (X7 (c := (x) % 256) Tryz.underlying167 Tryz.underlying5 rfl rfl) <| rK he fun c3 he => w_d rfl (d_bt Tryz.underlying9 rfl rfl c3) <| w_d rfl (X7 (c := w64 (bt str_4 ((x) % 256))) Tryz.underlying5 Tryz.underlying3 rfl rfl) <| w_d rfl (XR (c := w64 (n + (w64 (bt str_4 ((x) % 256))))) rfl rfl rfl) <| wA (.int .i64 (w64 (n + (w64 (bt str_4 ((x) % 256)))))) rfl rfl <| Qb ?_
 obtain rfl := sj he
 refine Qn fn_167 rs_167 (.tmp (v := .int .i64 (w64 (n + (w64 (bt str_4 ((x) % 256)))))) rfl .nil) <| ⟨⟨[], rfl⟩, hle, rfl⟩
theorem Xb.j1_ok {k : Nat} {H0 H : Hp} {L : Items} {r : Int} {jk_ : Nat → Value} {x n : Int} (hle : H0.le H) (he : Xb.j1 k x n = some r) : Wp Tryz.prog 167 19 Xb.Kj1 (upd (upd jk_ 0 (.int .u32 x)) 2 (.int .i64 n)) H (L) (Xb.R H0 L r) := by
 unfold Xb.j1 at he
 unfold Xb.Kj1
 refine Q0 <| wR rfl <| wM (.int .u32 x) rfl rfl <| w_d rfl (ZJ rfl rfl) <| Qb ?_
 rcases its he with ⟨c2, he⟩ | ⟨c2, he⟩
 ·
  refine QE rfl (dt c2) <| wR rfl <| wM (.int .u32 x) rfl rfl <| w_d rfl (Z1 (c := x / 256) rfl rfl (by decide) rfl) <| wA (.int .u32 (x / 256)) rfl rfl <| Qb <| QU rfl <| wM (.int .i64 n) rfl rfl <| w_d rfl (XR (c := w64 (n + 8)) rfl rfl rfl) <| wA (.int .i64 (w64 (n + 8))) rfl rfl <| Qb ?_
  refine w_sl 0 (.int .u32 (x / 256)) rfl <| w_sl 2 (.int .i64 (w64 (n + 8))) rfl <| Xb.j2_ok (k := k) hle he
 ·
  refine QF rfl (df c2) <| QH <| w_sl 0 (.int .u32 x) rfl <| w_sl 2 (.int .i64 n) rfl <| Xb.j2_ok (k := k) hle he
theorem Xb.calls (k : Nat) {H : Hp} {L : Items} {x r : Int} (he : Xb.f k x = some r) : Ct Tryz.prog 167 ⟨[.int .u32 x]⟩ H L (fun v H' L' => L = L' ∧ H = H' ∧ v = .int .i64 r) := by
 refine Yj (O := Xb.out r) (fun _ _ h => h) ?_
 have hle : H.le H := .refl _
 unfold Xb.f at he
 refine QV (args := [_]) fn_167 rfl nt_167 rfl <| wR rfl <| wA (.int .i64 0) rfl rfl <| wE <| wR rfl <| wM (.int .u32 x) rfl rfl <| w_d rfl (ZJ rfl rfl) <| Qb ?_
 rcases its he with ⟨c1, he⟩ | ⟨c1, he⟩
 ·
  refine QE rfl (dt c1) <| wR rfl <| wM (.int .u32 x) rfl rfl <| w_d rfl (Z1 (c := x / 65536) rfl rfl (by decide) rfl) <| wA (.int .u32 (x / 65536)) rfl rfl <| Qb <| QU rfl <| wA (.int .i64 16) rfl rfl <| Qb <| w_sl 0 (.int .u32 (x / 65536)) rfl <| w_sl 2 (.int .i64 16) rfl <| Xb.j1_ok (k := k) hle he
 ·
  refine QF rfl (df c1) <| QH <| w_sl 0 (.int .u32 x) rfl <| w_sl 2 (.int .i64 0) rfl <| Xb.j1_ok (k := k) hle he
noncomputable def XU.C : Code := (Tryz.f155.body).getD .skip
def XU.out (r : Int) (H : Hp) (v : Value) : Prop := v = .int .i64 r
noncomputable def XU.f (k : Nat) (x : Int) : Option Int := (Xb.f k x).bind fun y1 => some (w64 (32 - y1))
theorem XU.mono : ∀ k y0, LeO (XU.f k y0) (XU.f (k + 1) y0) := fun k _ => by unfold XU.f; exact (LeO.bind (Xb.mono k _) fun _ => LeO.refl _)
theorem XU.calls (k : Nat) {H : Hp} {L : Items} {x r : Int} (he : XU.f k x = some r) : Ct Tryz.prog 155 ⟨[.int .u32 x]⟩ H L (fun v H' L' => L = L' ∧ H = H' ∧ v = .int .i64 r) := by
 refine Yj (O := XU.out r) (fun _ _ h => h) ?_
 have hle : H.le H := .refl _
 unfold XU.f at he
 refine QV (args := [_]) fn_155 rfl nt_155 rfl <| wR rfl <| wA (.int .i64 0) rfl rfl <| wQ rfl <| wM (.int .u32 x) rfl rfl <| bK he fun y1 hy2 he => w_d rfl (Xx (Qm co167 (vs := [.int .u32 x]) rfl (Xb.calls k hy2))) <| w_d rfl (YD (c := w64 (32 - y1)) rfl rfl rfl) <| wA (.int .i64 (w64 (32 - y1))) rfl rfl ?_
 refine Qb ?_
 obtain rfl := sj he
 refine Qn fn_155 rs_155 (.tmp (v := .int .i64 (w64 (32 - y1))) rfl .nil) <| ⟨⟨[], rfl⟩, hle, rfl⟩
noncomputable def Xl.C : Code := (Tryz.f114.body).getD .skip
abbrev Xl.out (r : (List Int)) (H : Hp) (v : Value) : Prop := Ro kU32 H v r
abbrev Xl.R (H0 : Hp) (L : Items) (r : (List Int)) : Value → Hp → Items → Prop := fun v H' L' => (∃ p it, L' = p ++ it :: L ∧ Sl kU32 H' 167 it v r) ∧ H0.le H'
structure Xl.Hs where
 l0 : Int → (List Int) → Int → (List Int) → Int → Int → Option (List Int)
noncomputable def Xl.b0 (k : Nat) (h : Xl.Hs) (n : Int) (out : List Int) (carry : Int) (t14 : List Int) (t15 t16 : Int) : Option (List Int) := if t16 < t15 then (if (0 : Int) ≤ t16 ∧ t16 < (t14.length : Int) then (if 0 ≤ n then (if out.length + 1 ≤ 35184372088704 then (h.l0 n (out ++ [(ior .u64 ((((rd t14 t16) % 18446744073709551616) * 2 ^ shn .u64 n) % 18446744073709551616) ((carry) % 18446744073709551616)) % 4294967296]) (((ior .u64 ((((rd t14 t16) % 18446744073709551616) * 2 ^ shn .u64 n) % 18446744073709551616) ((carry) % 18446744073709551616)) / 4294967296) % 4294967296) t14 t15 (w64 (t16 + 1))) else none) else none) else none) else (if out.length + 1 ≤ 35184372088704 then (some (out ++ [carry])) else none)
noncomputable def Xl.hs : Nat → Xl.Hs
 | 0 => ⟨fun _ _ _ _ _ _ => none⟩
 | k + 1 => ⟨fun x0 x1 x2 x3 x4 x5 => Xl.b0 k (Xl.hs k) x0 x1 x2 x3 x4 x5⟩
noncomputable def Xl.f (k : Nat) (w : List Int) (n : Int) : Option (List Int) := (fun h : Xl.Hs => if 0 ≤ 0 ∧ 0 ≤ w64 ((w.length : Int) + 1) ∧ w64 ((w.length : Int) + 1) ≤ 70368744177664 then (h.l0 n (List.replicate (0 : Int).toNat (0 : Int)) 0 w (w.length : Int) 0) else none) (Xl.hs k)
structure Xl.LE (h h' : Xl.Hs) : Prop where
 l0 : ∀ y0 y1 y2 y3 y4 y5, LeO (h.l0 y0 y1 y2 y3 y4 y5) (h'.l0 y0 y1 y2 y3 y4 y5)
theorem Xl.b0_mono {k : Nat} {h h' : Xl.Hs} (hl : Xl.LE h h') : ∀ y0 y1 y2 y3 y4 y5, LeO (Xl.b0 k h y0 y1 y2 y3 y4 y5) (Xl.b0 (k + 1) h' y0 y1 y2 y3 y4 y5) := fun _ _ _ _ _ _ => (LeO.ite (LeO.ite (LeO.ite (LeO.ite (hl.l0 _ _ _ _ _ _) (LeO.refl _)) (LeO.refl _)) (LeO.refl _)) (LeO.ite (LeO.refl _) (LeO.refl _)))
theorem Xl.hs_mono : ∀ k, Xl.LE (Xl.hs k) (Xl.hs (k + 1))
 | 0 => ⟨fun _ _ _ _ _ _ => LeO.none _⟩
 | k + 1 => ⟨Xl.b0_mono (k := k) (Xl.hs_mono k)⟩
theorem Xl.mono : ∀ k y0 y1, LeO (Xl.f k y0 y1) (Xl.f (k + 1) y0 y1) := fun k _ _ => have hl := Xl.hs_mono k; by unfold Xl.f; exact (LeO.ite (hl.l0 _ _ _ _ _ _) (LeO.refl _))
noncomputable def Xl.Kl0 : List Item := .code (lopB (blkB (seqR (seqL (seqR (seqR (seqR Xl.C))))))) :: .inLoop (lopB (blkB (seqR (seqL (seqR (seqR (seqR Xl.C))))))) :: .inBlock 0 :: .code (seqR (seqR (seqR (seqR Xl.C)))) :: []
structure Xl.OK (h : Xl.Hs) : Prop where
 l0 : ∀ {H0 H : Hp} {L : Items} {r : (List Int)} {jk_ : Nat → Value} {n : Int} {out : List Int} {carry : Int} {t14 : List Int} {t15 : Int} {t16 : Int} {v_out : Value} {v_t14 : Value} {i_out : Item'} (_ : H0.le H) (_he : h.l0 n out carry t14 t15 t16 = some r) (_h_out : Sl kU32 H 167 i_out v_out out) (_h_t14 : Src kU32 H L v_t14 t14), Wp Tryz.prog 114 40 Xl.Kl0 (upd (upd (upd (upd (upd (upd (upd jk_ 1 (.int .i64 n)) 4 (.slice none 0 0)) 5 (v_out)) 6 (.int .u32 carry)) 14 (v_t14)) 15 (.int .i64 t15)) 16 (.int .i64 t16)) H (i_out :: L) (Xl.R H0 L r)
theorem Xl.b0_ok {k : Nat} {h : Xl.Hs} (hh : Xl.OK h) {H0 H : Hp} {L : Items} {r : (List Int)} {jk_ : Nat → Value} {n : Int} {out : List Int} {carry : Int} {t14 : List Int} {t15 t16 : Int} {v_out v_t14 : Value} {i_out : Item'} (hle : H0.le H) (he : Xl.b0 k h n out carry t14 t15 t16 = some r) (h_out : Sl kU32 H 167 i_out v_out out) (h_t14 : Src kU32 H L v_t14 t14) : Wp Tryz.prog 114 40 Xl.Kl0 (upd (upd (upd (upd (upd (upd (upd jk_ 1 (.int .i64 n)) 4 (.slice none 0 0)) 5 (v_out)) 6 (.int .u32 carry)) 14 (v_t14)) 15 (.int .i64 t15)) 16 (.int .i64 t16)) H (i_out :: L) (Xl.R H0 L r) := by
 unfold Xl.b0 at he
 unfold Xl.Kl0
 refine wR rfl <| w_d rfl (XY rfl rfl) <| wE ?_
 rcases its he with ⟨c5, he⟩ | ⟨c5, he⟩
 ·
  refine QE rfl (dt c5) <| QH <| Q0 <| Xa <| wR rfl <| rK he fun c6 he => w_d rfl (XK (sz := 1) Tryz.underlying22 sz167 rfl h_t14.th rfl c6) <| w_d rfl (XP ty167 rfl h_t14.th c6) <| wA (.int .u32 (rd t14 t16)) rfl rfl <| wE ?_
  refine QU rfl <| wM (.int .u32 (rd t14 t16)) rfl rfl <| w_d rfl (X7 (c := (rd t14 t16) % 18446744073709551616) Tryz.underlying167 Tryz.underlying113 rfl rfl) <| wM (.int .i64 n) rfl rfl <| rK he fun c7 he => w_d rfl (Gm (c := (((rd t14 t16) % 18446744073709551616) * 2 ^ shn .u64 n) % 18446744073709551616) rfl rfl c7 rfl) <| wM (.int .u32 carry) rfl rfl <| w_d rfl (X7 (c := (carry) % 18446744073709551616) Tryz.underlying167 Tryz.underlying113 rfl rfl) <| w_d rfl (Gt rfl rfl) <| wA (.int .u64 (ior .u64 ((((rd t14 t16) % 18446744073709551616) * 2 ^ shn .u64 n) % 18446744073709551616) ((carry) % 18446744073709551616))) rfl rfl <| wE ?_
  refine QU rfl <| wM v_out rfl rfl <| wM (.int .u64 (ior .u64 ((((rd t14 t16) % 18446744073709551616) * 2 ^ shn .u64 n) % 18446744073709551616) ((carry) % 18446744073709551616))) rfl rfl <| w_d rfl (X7 (c := (ior .u64 ((((rd t14 t16) % 18446744073709551616) * 2 ^ shn .u64 n) % 18446744073709551616) ((carry) % 18446744073709551616)) % 4294967296) Tryz.underlying113 Tryz.underlying167 rfl rfl) <| w_a rfl (o_buildSlice' (kd := kU32) (css := [[.int .u32 ((ior .u64 ((((rd t14 t16) % 18446744073709551616) * 2 ^ shn .u64 n) % 18446744073709551616) ((carry) % 18446744073709551616)) % 4294967296)]]) (xs := [(ior .u64 ((((rd t14 t16) % 18446744073709551616) * 2 ^ shn .u64 n) % 18446744073709551616) ((carry) % 18446744073709551616)) % 4294967296]) (parts := [(0, .int .u32 ((ior .u64 ((((rd t14 t16) % 18446744073709551616) * 2 ^ shn .u64 n) % 18446744073709551616) ((carry) % 18446744073709551616)) % 4294967296))]) Tryz.underlying22 ti167 rfl ⟨_, _, rfl, rfl, rfl⟩ ⟨rfl, trivial⟩ rfl (by decide)) ?_
  rintro v8 _ _ ⟨i9, rfl, rfl, h10⟩
  refine rK he fun c11 he => w_a rfl (o_append' (kd := kU32) (F := fun z_ => i9 :: z_ :: L) Tryz.underlying22 Tryz.underlying22 ti167 rfl (by first | omega | (simp only [List.nil_append, List.length_cons, List.length_nil]; omega)) rfl rfl h_out (h10.src .here) (fun _ => .h1)) ?_
  rintro v12 _ _ ⟨i13, rfl, rfl, h14⟩
  refine wA v12 rfl rfl <| Qb <| QU rfl <| wM (.int .u64 (ior .u64 ((((rd t14 t16) % 18446744073709551616) * 2 ^ shn .u64 n) % 18446744073709551616) ((carry) % 18446744073709551616))) rfl rfl <| w_d rfl (Z1 (c := (ior .u64 ((((rd t14 t16) % 18446744073709551616) * 2 ^ shn .u64 n) % 18446744073709551616) ((carry) % 18446744073709551616)) / 4294967296) rfl rfl (by decide) rfl) <| w_d rfl (X7 (c := ((ior .u64 ((((rd t14 t16) % 18446744073709551616) * 2 ^ shn .u64 n) % 18446744073709551616) ((carry) % 18446744073709551616)) / 4294967296) % 4294967296) Tryz.underlying113 Tryz.underlying167 rfl rfl) <| wA (.int .u32 (((ior .u64 ((((rd t14 t16) % 18446744073709551616) * 2 ^ shn .u64 n) % 18446744073709551616) ((carry) % 18446744073709551616)) / 4294967296) % 4294967296)) rfl rfl <| Qb <| XC <| QU rfl <| w_d rfl (XR (c := w64 (t16 + 1)) rfl rfl rfl) <| wM (.int .i64 (w64 (t16 + 1))) rfl rfl ?_
  refine Qb <| XL <| YB .here <| w_sl 1 (.int .i64 n) rfl <| w_sl 4 (.slice none 0 0) rfl <| w_sl 5 (v12) rfl <| w_sl 6 (.int .u32 (((ior .u64 ((((rd t14 t16) % 18446744073709551616) * 2 ^ shn .u64 n) % 18446744073709551616) ((carry) % 18446744073709551616)) / 4294967296) % 4294967296)) rfl <| w_sl 14 (v_t14) rfl <| w_sl 15 (.int .i64 t15) rfl <| w_sl 16 (.int .i64 (w64 (t16 + 1))) rfl <| hh.l0 hle he h14 h_t14
 ·
  refine QF rfl (df c5) <| X8 rfl <| wR rfl <| wM v_out rfl rfl <| wM (.int .u32 carry) rfl rfl <| w_a rfl (o_buildSlice' (kd := kU32) (css := [[.int .u32 carry]]) (xs := [carry]) (parts := [(0, .int .u32 carry)]) Tryz.underlying22 ti167 rfl ⟨_, _, rfl, rfl, rfl⟩ ⟨rfl, trivial⟩ rfl (by decide)) ?_
  rintro v15 _ _ ⟨i16, rfl, rfl, h17⟩
  refine rK he fun c18 he => w_a rfl (o_append' (kd := kU32) (F := fun z_ => i16 :: z_ :: L) Tryz.underlying22 Tryz.underlying22 ti167 rfl (by first | omega | (simp only [List.nil_append, List.length_cons, List.length_nil]; omega)) rfl rfl h_out (h17.src .here) (fun _ => .h1)) ?_
  rintro v19 _ _ ⟨i20, rfl, rfl, h21⟩
  refine wA v19 rfl rfl <| Qb ?_
  obtain rfl := sj he
  refine YB .here <| Qn fn_114 rs_114 (.tmp (v := v19) rfl .nil) <| ⟨⟨[], _, rfl, h21⟩, hle⟩
theorem Xl.ok : ∀ k, Xl.OK (Xl.hs k)
 | 0 => ⟨(by intros; exact nomatch (show none = some _ from by assumption))⟩
 | k + 1 => ⟨Xl.b0_ok (k := k) (Xl.ok k)⟩
theorem Xl.calls (k : Nat) {H : Hp} {L : Items} {w : List Int} {n : Int} {v0_w : Value} {r : (List Int)} (he : Xl.f k w n = some r) (h0_w : Src kU32 H L v0_w w) : Ct Tryz.prog 114 ⟨[v0_w, .int .i64 n]⟩ H L (fun v H' L' => ∃ it, L' = it :: L ∧ H.le H' ∧ Sl kU32 H' 167 it v r) := by
 refine Uq ?_
 have hle : H.le H := .refl _
 have hh := Xl.ok k
 unfold Xl.f at he
 refine QV (args := [_, _]) fn_114 rfl nt_114 rfl <| wR rfl <| wA (.slice none 0 0) rfl rfl <| wQ rfl <| wM v0_w rfl rfl <| w_d rfl (Xr Tryz.underlying22 rfl h0_w) <| w_d rfl (XR (c := w64 ((w.length : Int) + 1)) rfl rfl rfl) <| rK he fun c1 he => w_a rfl (o_make' (kd := kU32) (z0 := 0) Tryz.underlying22 ti167 (zp167 _) rfl rfl (by omega) (by omega) (by omega)) ?_
 rintro v2 _ _ ⟨i3, rfl, rfl, h4⟩
 refine wA v2 rfl rfl <| wQ rfl <| wA (.int .u32 0) rfl rfl <| wE <| wR rfl <| wM v0_w rfl rfl <| w_d rfl (Xr Tryz.underlying22 rfl h0_w.th) <| wM (.int .i64 0) rfl rfl ?_
 refine Qb <| Xa <| X9 <| w_sl 1 (.int .i64 n) rfl <| w_sl 4 (.slice none 0 0) rfl <| w_sl 5 (v2) rfl <| w_sl 6 (.int .u32 0) rfl <| w_sl 14 (v0_w) rfl <| w_sl 15 (.int .i64 (w.length : Int)) rfl <| w_sl 16 (.int .i64 0) rfl <| hh.l0 hle he h4 h0_w
theorem Xl.callsR (k : Nat) {H : Hp} {L : Items} {w : List Int} {n : Int} {v0_w : Value} {r : (List Int)} (he : Xl.f k w n = some r) (h0_w : Src kU32 H L v0_w w) : Ct Tryz.prog 114 ⟨[v0_w, .int .i64 n]⟩ H L (cR H L (Xl.out r)) := VB (Xl.calls k he h0_w)
noncomputable def Q3.C : Code := (Tryz.f156.body).getD .skip
def Q3.out (r : Int) (H : Hp) (v : Value) : Prop := v = .int .u64 r
abbrev Q3.R (H0 : Hp) (L : Items) (r : Int) := fR H0 L (Q3.out r)
structure Q3.Hs where
 l0 : (List Int) → (List Int) → Int → Int → Int → Int → Option Int
noncomputable def Q3.b0 (k : Nat) (h : Q3.Hs) (r_ d : List Int) (i n q left : Int) : Option Int := if (!(decide (4294967296 ≤ q))) = true → (0 : Int) ≤ w64 (n - 2) ∧ w64 (n - 2) < (d.length : Int) then (if (!(decide (4294967296 ≤ q))) = true → (0 : Int) ≤ w64 ((w64 (i + n)) - 2) ∧ w64 ((w64 (i + n)) - 2) < (r_.length : Int) then (if ((decide (4294967296 ≤ q)) || (decide ((ior .u64 ((left * 4294967296) % 18446744073709551616) ((rd r_ (w64 ((w64 (i + n)) - 2))) % 18446744073709551616)) < ((q * ((rd d (w64 (n - 2))) % 18446744073709551616)) % 18446744073709551616)))) = true then (if (0 : Int) ≤ w64 (n - 1) ∧ w64 (n - 1) < (d.length : Int) then (if 4294967296 ≤ ((left + ((rd d (w64 (n - 1))) % 18446744073709551616)) % 18446744073709551616) then (some ((q - 1) % 18446744073709551616)) else (h.l0 r_ d i n ((q - 1) % 18446744073709551616) ((left + ((rd d (w64 (n - 1))) % 18446744073709551616)) % 18446744073709551616))) else none) else (some (q))) else none) else none
noncomputable def Q3.hs : Nat → Q3.Hs
 | 0 => ⟨fun _ _ _ _ _ _ => none⟩
 | k + 1 => ⟨fun x0 x1 x2 x3 x4 x5 => Q3.b0 k (Q3.hs k) x0 x1 x2 x3 x4 x5⟩
noncomputable def Q3.f (k : Nat) (r_ d : List Int) (i : Int) : Option Int := (fun h : Q3.Hs => if (0 : Int) ≤ w64 (i + (d.length : Int)) ∧ w64 (i + (d.length : Int)) < (r_.length : Int) then (if (0 : Int) ≤ w64 ((w64 (i + (d.length : Int))) - 1) ∧ w64 ((w64 (i + (d.length : Int))) - 1) < (r_.length : Int) then (if (0 : Int) ≤ w64 ((d.length : Int) - 1) ∧ w64 ((d.length : Int) - 1) < (d.length : Int) then (if ((rd d (w64 ((d.length : Int) - 1))) % 18446744073709551616) ≠ 0 then (if (0 : Int) ≤ w64 ((d.length : Int) - 1) ∧ w64 ((d.length : Int) - 1) < (d.length : Int) then (if ((rd d (w64 ((d.length : Int) - 1))) % 18446744073709551616) ≠ 0 then (h.l0 r_ d i (d.length : Int) ((Int.tdiv (ior .u64 ((((rd r_ (w64 (i + (d.length : Int)))) % 18446744073709551616) * 4294967296) % 18446744073709551616) ((rd r_ (w64 ((w64 (i + (d.length : Int))) - 1))) % 18446744073709551616)) ((rd d (w64 ((d.length : Int) - 1))) % 18446744073709551616)) % 18446744073709551616) (Int.tmod (ior .u64 ((((rd r_ (w64 (i + (d.length : Int)))) % 18446744073709551616) * 4294967296) % 18446744073709551616) ((rd r_ (w64 ((w64 (i + (d.length : Int))) - 1))) % 18446744073709551616)) ((rd d (w64 ((d.length : Int) - 1))) % 18446744073709551616))) else none) else none) else none) else none) else none) else none) (Q3.hs k)
structure Q3.LE (h h' : Q3.Hs) : Prop where
 l0 : ∀ y0 y1 y2 y3 y4 y5, LeO (h.l0 y0 y1 y2 y3 y4 y5) (h'.l0 y0 y1 y2 y3 y4 y5)
theorem Q3.b0_mono {k : Nat} {h h' : Q3.Hs} (hl : Q3.LE h h') : ∀ y0 y1 y2 y3 y4 y5, LeO (Q3.b0 k h y0 y1 y2 y3 y4 y5) (Q3.b0 (k + 1) h' y0 y1 y2 y3 y4 y5) := fun _ _ _ _ _ _ => (LeO.ite (LeO.ite (LeO.ite (LeO.ite (LeO.ite (LeO.refl _) (hl.l0 _ _ _ _ _ _)) (LeO.refl _)) (LeO.refl _)) (LeO.refl _)) (LeO.refl _))
theorem Q3.hs_mono : ∀ k, Q3.LE (Q3.hs k) (Q3.hs (k + 1))
 | 0 => ⟨fun _ _ _ _ _ _ => LeO.none _⟩
 | k + 1 => ⟨Q3.b0_mono (k := k) (Q3.hs_mono k)⟩
theorem Q3.mono : ∀ k y0 y1 y2, LeO (Q3.f k y0 y1 y2) (Q3.f (k + 1) y0 y1 y2) := fun k _ _ _ => have hl := Q3.hs_mono k; by unfold Q3.f; exact (LeO.ite (LeO.ite (LeO.ite (LeO.ite (LeO.ite (LeO.ite (hl.l0 _ _ _ _ _ _) (LeO.refl _)) (LeO.refl _)) (LeO.refl _)) (LeO.refl _)) (LeO.refl _)) (LeO.refl _))
noncomputable def Q3.Kl0 : List Item := .code (lopB (blkB (seqL (seqR (seqR (seqR (seqR Q3.C))))))) :: .inLoop (lopB (blkB (seqL (seqR (seqR (seqR (seqR Q3.C))))))) :: .inBlock 0 :: .code (seqR (seqR (seqR (seqR (seqR Q3.C))))) :: []
structure Q3.OK (h : Q3.Hs) : Prop where
 l0 : ∀ {H0 H : Hp} {L : Items} {r : Int} {jk_ : Nat → Value} {r_ : List Int} {d : List Int} {i : Int} {n : Int} {q : Int} {left : Int} {v_r_ : Value} {v_d : Value} (_ : H0.le H) (_he : h.l0 r_ d i n q left = some r) (_h_r_ : Src kU32 H L v_r_ r_) (_h_d : Src kU32 H L v_d d), Wp Tryz.prog 156 83 Q3.Kl0 (upd (upd (upd (upd (upd (upd (upd jk_ 0 (v_r_)) 1 (v_d)) 2 (.int .i64 i)) 6 (.int .u64 0)) 7 (.int .i64 n)) 9 (.int .u64 q)) 10 (.int .u64 left)) H (L) (Q3.R H0 L r)
theorem Q3.b0_ok {k : Nat} {h : Q3.Hs} (hh : Q3.OK h) {H0 H : Hp} {L : Items} {r : Int} {jk_ : Nat → Value} {r_ d : List Int} {i n q left : Int} {v_r_ v_d : Value} (hle : H0.le H) (he : Q3.b0 k h r_ d i n q left = some r) (h_r_ : Src kU32 H L v_r_ r_) (h_d : Src kU32 H L v_d d) : Wp Tryz.prog 156 83 Q3.Kl0 (upd (upd (upd (upd (upd (upd (upd jk_ 0 (v_r_)) 1 (v_d)) 2 (.int .i64 i)) 6 (.int .u64 0)) 7 (.int .i64 n)) 9 (.int .u64 q)) 10 (.int .u64 left)) H (L) (Q3.R H0 L r) := by
 unfold Q3.b0 at he
 unfold Q3.Kl0
 refine Q0 <| Q0 <| rK he fun c16 he => rK he fun c28 he => Xy (p := 22) (tl := [22, 23]) [[], [(0, some 46)], [(1, some 47)], [(2, some 48)], [(2, some 48)], [(2, some 48)], [(2, some 48), (5, some 51)], [(2, some 48), (4, some 50), (6, some 52)], [(2, some 48), (7, some 53)], [(2, some 48), (8, some 54)], [(2, some 48), (3, some 49), (9, some 55)], [(2, some 48)], [(2, some 48), (11, some 57)], [(2, some 48)], [(2, some 48)], [(2, some 48)], [(2, some 48), (14, some 60), (15, some 61)], [(2, some 48), (16, some 62)], [(2, some 48), (13, some 59), (17, some 63)], [(2, some 48), (18, some 64)], [(2, some 48), (19, some 65)], [(2, some 48), (12, some 58), (20, some 66)]] [some 46, some 47, some 48, some 49, some 50, some 51, some 52, some 53, some 54, some 55, some 56, some 57, some 58, some 59, some 60, some 61, some 62, some 63, some 64, some 65, some 66, some 67] (fctF (.is (.int .u64 q) :: .is (.bool (decide (4294967296 ≤ q))) :: .is (.bool (decide (4294967296 ≤ q))) :: .is (cond (!(decide (4294967296 ≤ q))) (.int .u64 q) undef) :: .is (cond (!(decide (4294967296 ≤ q))) v_d undef) :: .is (cond (!(decide (4294967296 ≤ q))) (.int .i64 n) undef) :: .is (cond (!(decide (4294967296 ≤ q))) (.int .i64 (w64 (n - 2))) undef) :: .is (cond (!(decide (4294967296 ≤ q))) (.pointer (some (pel v_d (w64 (n - 2)) 1))) undef) :: .is (cond (!(decide (4294967296 ≤ q))) (.int .u32 (rd d (w64 (n - 2)))) undef) :: .is (cond (!(decide (4294967296 ≤ q))) (.int .u64 ((rd d (w64 (n - 2))) % 18446744073709551616)) undef) :: .is (cond (!(decide (4294967296 ≤ q))) (.int .u64 ((q * ((rd d (w64 (n - 2))) % 18446744073709551616)) % 18446744073709551616)) undef) :: .is (cond (!(decide (4294967296 ≤ q))) (.int .u64 left) undef) :: .is (cond (!(decide (4294967296 ≤ q))) (.int .u64 ((left * 4294967296) % 18446744073709551616)) undef) :: .is (cond (!(decide (4294967296 ≤ q))) v_r_ undef) :: .is (cond (!(decide (4294967296 ≤ q))) (.int .i64 i) undef) :: .is (cond (!(decide (4294967296 ≤ q))) (.int .i64 n) undef) :: .is (cond (!(decide (4294967296 ≤ q))) (.int .i64 (w64 (i + n))) undef) :: .is (cond (!(decide (4294967296 ≤ q))) (.int .i64 (w64 ((w64 (i + n)) - 2))) undef) :: .is (cond (!(decide (4294967296 ≤ q))) (.pointer (some (pel v_r_ (w64 ((w64 (i + n)) - 2)) 1))) undef) :: .is (cond (!(decide (4294967296 ≤ q))) (.int .u32 (rd r_ (w64 ((w64 (i + n)) - 2)))) undef) :: .is (cond (!(decide (4294967296 ≤ q))) (.int .u64 ((rd r_ (w64 ((w64 (i + n)) - 2))) % 18446744073709551616)) undef) :: .is (cond (!(decide (4294967296 ≤ q))) (.int .u64 (ior .u64 ((left * 4294967296) % 18446744073709551616) ((rd r_ (w64 ((w64 (i + n)) - 2))) % 18446744073709551616))) undef) :: [])) (fun m_ => L) (fun _ => none) mixed (by kernel_rfl) (by kernel_rfl) rfl (Xn (by kernel_rfl)) ⟨(fun H' m_ hH hm_ hu_ => dn <| s_d (m_ 0) rfl (QW (v := .int .u64 q) rfl) (by exact rfl) rfl), (by rintro H' m_ hH hm_ hu_ _ rfl; exact dn <| s_d (m_ 1) rfl (ZJ rfl rfl) (by exact rfl) rfl), (by rintro H' m_ hH hm_ hu_ _ rfl; exact dn <| s_d (m_ 2) rfl (QW (v := .bool (decide (4294967296 ≤ q))) rfl) (by exact rfl) rfl), (by rintro H' m_ hH hm_ hu_ _ rfl; exact dn <| s_g (g := !(decide (4294967296 ≤ q))) (m_ 3) rfl rfl rfl wn_f (fun g11 => QW (v := .int .u64 q) rfl) rfl (by exact fun g_ => cvt g_) (by exact fun g_ => cnt g_)), (by rintro H' m_ hH hm_ hu_ _ rfl; exact dn <| s_g (g := !(decide (4294967296 ≤ q))) (m_ 4) rfl rfl rfl wn_f (fun g12 => QW (v := v_d) rfl) rfl (by exact fun g_ => cvt g_) (by exact fun g_ => cnt g_)), (by rintro H' m_ hH hm_ hu_ _ rfl; exact dn <| s_g (g := !(decide (4294967296 ≤ q))) (m_ 5) rfl rfl rfl wn_f (fun g13 => QW (v := .int .i64 n) rfl) rfl (by exact fun g_ => cvt g_) (by exact fun g_ => cnt g_)), (by rintro H' m_ hH hm_ hu_ _ rfl _ rfl; exact dn <| s_g (g := !(decide (4294967296 ≤ q))) (m_ 6) rfl rfl rfl wn_f (fun g14 => YD (c := w64 (n - 2)) (cvt g14) rfl rfl) rfl (by exact fun g_ => cvt g_) (by exact fun g_ => cnt g_)), (by rintro H' m_ hH hm_ hu_ _ rfl _ rfl _ rfl; exact dn <| s_g (g := !(decide (4294967296 ≤ q))) (m_ 7) rfl rfl rfl wn_f (fun g15 => XK (sz := 1) Tryz.underlying22 sz167 (cvt g15) (h_d.mono hH) (cvt g15) (c16 g15)) rfl (by exact fun g_ => cvt g_) (by exact fun g_ => cnt g_)), (by rintro H' m_ hH hm_ hu_ _ rfl _ rfl; exact dn <| s_g (g := !(decide (4294967296 ≤ q))) (m_ 8) rfl rfl rfl wn_f (fun g17 => XP ty167 (cvt g17) (h_d.mono hH) (c16 g17)) rfl (by exact fun g_ => cvt g_) (by exact fun g_ => cnt g_)), (by rintro H' m_ hH hm_ hu_ _ rfl _ rfl; exact dn <| s_g (g := !(decide (4294967296 ≤ q))) (m_ 9) rfl rfl rfl wn_f (fun g18 => X7 (c := (rd d (w64 (n - 2))) % 18446744073709551616) Tryz.underlying167 Tryz.underlying113 (cvt g18) rfl) rfl (by exact fun g_ => cvt g_) (by exact fun g_ => cnt g_)), (by rintro H' m_ hH hm_ hu_ _ rfl _ rfl _ rfl; exact dn <| s_g (g := !(decide (4294967296 ≤ q))) (m_ 10) rfl rfl rfl wn_f (fun g19 => Jw (c := (q * ((rd d (w64 (n - 2))) % 18446744073709551616)) % 18446744073709551616) (cvt g19) (cvt g19) rfl) rfl (by exact fun g_ => cvt g_) (by exact fun g_ => cnt g_)), (by rintro H' m_ hH hm_ hu_ _ rfl; exact dn <| s_g (g := !(decide (4294967296 ≤ q))) (m_ 11) rfl rfl rfl wn_f (fun g20 => QW (v := .int .u64 left) rfl) rfl (by exact fun g_ => cvt g_) (by exact fun g_ => cnt g_)), (by rintro H' m_ hH hm_ hu_ _ rfl _ rfl; exact dn <| s_g (g := !(decide (4294967296 ≤ q))) (m_ 12) rfl rfl rfl wn_f (fun g21 => Gm (c := (left * 4294967296) % 18446744073709551616) (cvt g21) rfl (by decide) rfl) rfl (by exact fun g_ => cvt g_) (by exact fun g_ => cnt g_)), (by rintro H' m_ hH hm_ hu_ _ rfl; exact dn <| s_g (g := !(decide (4294967296 ≤ q))) (m_ 13) rfl rfl rfl wn_f (fun g22 => QW (v := v_r_) rfl) rfl (by exact fun g_ => cvt g_) (by exact fun g_ => cnt g_)), (by rintro H' m_ hH hm_ hu_ _ rfl; exact dn <| s_g (g := !(decide (4294967296 ≤ q))) (m_ 14) rfl rfl rfl wn_f (fun g23 => QW (v := .int .i64 i) rfl) rfl (by exact fun g_ => cvt g_) (by exact fun g_ => cnt g_)), (by rintro H' m_ hH hm_ hu_ _ rfl; exact dn <| s_g (g := !(decide (4294967296 ≤ q))) (m_ 15) rfl rfl rfl wn_f (fun g24 => QW (v := .int .i64 n) rfl) rfl (by exact fun g_ => cvt g_) (by exact fun g_ => cnt g_)), (by rintro H' m_ hH hm_ hu_ _ rfl _ rfl _ rfl; exact dn <| s_g (g := !(decide (4294967296 ≤ q))) (m_ 16) rfl rfl rfl wn_f (fun g25 => XR (c := w64 (i + n)) (cvt g25) (cvt g25) rfl) rfl (by exact fun g_ => cvt g_) (by exact fun g_ => cnt g_)), (by rintro H' m_ hH hm_ hu_ _ rfl _ rfl; exact dn <| s_g (g := !(decide (4294967296 ≤ q))) (m_ 17) rfl rfl rfl wn_f (fun g26 => YD (c := w64 ((w64 (i + n)) - 2)) (cvt g26) rfl rfl) rfl (by exact fun g_ => cvt g_) (by exact fun g_ => cnt g_)), (by rintro H' m_ hH hm_ hu_ _ rfl _ rfl _ rfl; exact dn <| s_g (g := !(decide (4294967296 ≤ q))) (m_ 18) rfl rfl rfl wn_f (fun g27 => XK (sz := 1) Tryz.underlying22 sz167 (cvt g27) (h_r_.mono hH) (cvt g27) (c28 g27)) rfl (by exact fun g_ => cvt g_) (by exact fun g_ => cnt g_)), (by rintro H' m_ hH hm_ hu_ _ rfl _ rfl; exact dn <| s_g (g := !(decide (4294967296 ≤ q))) (m_ 19) rfl rfl rfl wn_f (fun g29 => XP ty167 (cvt g29) (h_r_.mono hH) (c28 g29)) rfl (by exact fun g_ => cvt g_) (by exact fun g_ => cnt g_)), (by rintro H' m_ hH hm_ hu_ _ rfl _ rfl; exact dn <| s_g (g := !(decide (4294967296 ≤ q))) (m_ 20) rfl rfl rfl wn_f (fun g30 => X7 (c := (rd r_ (w64 ((w64 (i + n)) - 2))) % 18446744073709551616) Tryz.underlying167 Tryz.underlying113 (cvt g30) rfl) rfl (by exact fun g_ => cvt g_) (by exact fun g_ => cnt g_)), (by rintro H' m_ hH hm_ hu_ _ rfl _ rfl _ rfl; exact dn <| s_g (g := !(decide (4294967296 ≤ q))) (m_ 21) rfl rfl rfl wn_f (fun g31 => Gt (cvt g31) (cvt g31)) rfl (by exact fun g_ => cvt g_) (by exact fun g_ => cnt g_)), trivial⟩ ?_
 intro H32 e33
 rintro _ _ rfl _ _ rfl _ _ rfl _ _ rfl _ _ rfl _ _ rfl _ _ rfl _ _ rfl _ _ rfl _ _ rfl _ _ rfl _ _ rfl _ _ rfl _ _ rfl _ _ rfl _ _ rfl _ _ rfl _ _ rfl _ _ rfl _ _ rfl _ _ rfl _ _ rfl
 refine w_g (g := !(decide (4294967296 ≤ q))) rfl rfl rfl wn_f (fun g34 => YR (cvt g34) (cvt g34)) <| w_d rfl (d_or' (b := (decide (4294967296 ≤ q))) (p := (decide ((ior .u64 ((left * 4294967296) % 18446744073709551616) ((rd r_ (w64 ((w64 (i + n)) - 2))) % 18446744073709551616)) < ((q * ((rd d (w64 (n - 2))) % 18446744073709551616)) % 18446744073709551616)))) rfl rfl rfl) <| Qb ?_
 rcases its he with ⟨c35, he⟩ | ⟨c35, he⟩
 ·
  refine QE rfl c35 <| QH <| Xa <| wR rfl <| wM (.int .u64 q) rfl rfl <| w_d rfl (YD (c := (q - 1) % 18446744073709551616) rfl rfl rfl) <| wA (.int .u64 ((q - 1) % 18446744073709551616)) rfl rfl <| wQ rfl <| wM (.int .u64 left) rfl rfl ?_
  refine wM v_d rfl rfl <| wM (.int .i64 n) rfl rfl <| w_d rfl (YD (c := w64 (n - 1)) rfl rfl rfl) <| rK he fun c36 he => w_d rfl (XK (sz := 1) Tryz.underlying22 sz167 rfl (h_d.mono e33) rfl c36) <| w_d rfl (XP ty167 rfl (h_d.mono e33) c36) <| w_d rfl (X7 (c := (rd d (w64 (n - 1))) % 18446744073709551616) Tryz.underlying167 Tryz.underlying113 rfl rfl) <| w_d rfl (XR (c := (left + ((rd d (w64 (n - 1))) % 18446744073709551616)) % 18446744073709551616) rfl rfl rfl) <| wA (.int .u64 ((left + ((rd d (w64 (n - 1))) % 18446744073709551616)) % 18446744073709551616)) rfl rfl <| wQ rfl ?_
  refine wM (.int .u64 ((left + ((rd d (w64 (n - 1))) % 18446744073709551616)) % 18446744073709551616)) rfl rfl <| w_d rfl (ZJ rfl rfl) <| Qb ?_
  rcases its he with ⟨c37, he⟩ | ⟨c37, he⟩
  ·
   refine QE rfl (dt c37) <| X8 rfl <| wR rfl <| wM (.int .u64 ((q - 1) % 18446744073709551616)) rfl rfl <| wA (.int .u64 ((q - 1) % 18446744073709551616)) rfl rfl <| Qb ?_
   obtain rfl := sj he
   refine Qn fn_156 rs_156 (.tmp (v := .int .u64 ((q - 1) % 18446744073709551616)) rfl .nil) <| ⟨⟨[], rfl⟩, hle.trans e33, rfl⟩
  ·
   refine QF rfl (df c37) <| QH <| XC <| XL <| w_sl 0 (v_r_) rfl <| w_sl 1 (v_d) rfl <| w_sl 2 (.int .i64 i) rfl <| w_sl 6 (.int .u64 0) rfl <| w_sl 7 (.int .i64 n) rfl <| w_sl 9 (.int .u64 ((q - 1) % 18446744073709551616)) rfl <| w_sl 10 (.int .u64 ((left + ((rd d (w64 (n - 1))) % 18446744073709551616)) % 18446744073709551616)) rfl <| hh.l0 (hle.trans e33) he (h_r_.mono e33) (h_d.mono e33)
 ·
  refine QF rfl (Bool.eq_false_iff.2 c35) <| X8 rfl <| wR rfl <| wM (.int .u64 q) rfl rfl <| wA (.int .u64 q) rfl rfl <| Qb ?_
  obtain rfl := sj he
  refine Qn fn_156 rs_156 (.tmp (v := .int .u64 q) rfl .nil) <| ⟨⟨[], rfl⟩, hle.trans e33, rfl⟩
theorem Q3.ok : ∀ k, Q3.OK (Q3.hs k)
 | 0 => ⟨(by intros; exact nomatch (show none = some _ from by assumption))⟩
 | k + 1 => ⟨Q3.b0_ok (k := k) (Q3.ok k)⟩
theorem Q3.calls (k : Nat) {H : Hp} {L : Items} {r_ d : List Int} {i : Int} {v0_r_ v1_d : Value} {r : Int} (he : Q3.f k r_ d i = some r) (h0_r_ : Src kU32 H L v0_r_ r_) (h1_d : Src kU32 H L v1_d d) : Ct Tryz.prog 156 ⟨[v0_r_, v1_d, .int .i64 i]⟩ H L (fun v H' L' => L = L' ∧ H = H' ∧ v = .int .u64 r) := by
 refine Yj (O := Q3.out r) (fun _ _ h => h) ?_
 have hle : H.le H := .refl _
 have hh := Q3.ok k
 unfold Q3.f at he
 refine QV (args := [_, _, _]) fn_156 rfl nt_156 rfl <| wR rfl <| wA (.int .u64 0) rfl rfl <| wQ rfl <| wM v1_d rfl rfl <| w_d rfl (Xr Tryz.underlying22 rfl h1_d) <| wA (.int .i64 (d.length : Int)) rfl rfl <| wE ?_
 refine rK he fun c1 he => rK he fun c2 he => Xy (p := 16) (tl := [16, 17]) [[], [], [], [(1, some 14), (2, some 15)], [(0, some 13), (3, some 16)], [(4, some 17)], [(5, some 18)], [(6, some 19)], [], [], [], [(9, some 22), (10, some 23)], [(11, some 24)], [(8, some 21), (12, some 25)], [(13, some 26)], [(14, some 27)]] [some 13, some 14, some 15, some 16, some 17, some 18, some 19, some 20, some 21, some 22, some 23, some 24, some 25, some 26, some 27, some 28] (fctF (.is (v0_r_) :: .is (.int .i64 i) :: .is (.int .i64 (d.length : Int)) :: .is (.int .i64 (w64 (i + (d.length : Int)))) :: .is (.pointer (some (pel v0_r_ (w64 (i + (d.length : Int))) 1))) :: .is (.int .u32 (rd r_ (w64 (i + (d.length : Int))))) :: .is (.int .u64 ((rd r_ (w64 (i + (d.length : Int)))) % 18446744073709551616)) :: .is (.int .u64 ((((rd r_ (w64 (i + (d.length : Int)))) % 18446744073709551616) * 4294967296) % 18446744073709551616)) :: .is (v0_r_) :: .is (.int .i64 i) :: .is (.int .i64 (d.length : Int)) :: .is (.int .i64 (w64 (i + (d.length : Int)))) :: .is (.int .i64 (w64 ((w64 (i + (d.length : Int))) - 1))) :: .is (.pointer (some (pel v0_r_ (w64 ((w64 (i + (d.length : Int))) - 1)) 1))) :: .is (.int .u32 (rd r_ (w64 ((w64 (i + (d.length : Int))) - 1)))) :: .is (.int .u64 ((rd r_ (w64 ((w64 (i + (d.length : Int))) - 1))) % 18446744073709551616)) :: [])) (fun m_ => L) (fun _ => none) mixed (by kernel_rfl) (by kernel_rfl) rfl (Xn (by kernel_rfl)) ⟨(fun H' m_ hH hm_ hu_ => dn <| s_d (m_ 0) rfl (QW (v := v0_r_) rfl) (by exact rfl) rfl), (fun H' m_ hH hm_ hu_ => dn <| s_d (m_ 1) rfl (QW (v := .int .i64 i) rfl) (by exact rfl) rfl), (fun H' m_ hH hm_ hu_ => dn <| s_d (m_ 2) rfl (QW (v := .int .i64 (d.length : Int)) rfl) (by exact rfl) rfl), (by rintro H' m_ hH hm_ hu_ _ rfl _ rfl; exact dn <| s_d (m_ 3) rfl (XR (c := w64 (i + (d.length : Int))) rfl rfl rfl) (by exact rfl) rfl), (by rintro H' m_ hH hm_ hu_ _ rfl _ rfl; exact dn <| s_d (m_ 4) rfl (XK (sz := 1) Tryz.underlying22 sz167 rfl (h0_r_.mono hH) rfl c1) (by exact rfl) rfl), (by rintro H' m_ hH hm_ hu_ _ rfl; exact dn <| s_d (m_ 5) rfl (XP ty167 rfl (h0_r_.mono hH) c1) (by exact rfl) rfl), (by rintro H' m_ hH hm_ hu_ _ rfl; exact dn <| s_d (m_ 6) rfl (X7 (c := (rd r_ (w64 (i + (d.length : Int)))) % 18446744073709551616) Tryz.underlying167 Tryz.underlying113 rfl rfl) (by exact rfl) rfl), (by rintro H' m_ hH hm_ hu_ _ rfl; exact dn <| s_d (m_ 7) rfl (Gm (c := (((rd r_ (w64 (i + (d.length : Int)))) % 18446744073709551616) * 4294967296) % 18446744073709551616) rfl rfl (by decide) rfl) (by exact rfl) rfl), (fun H' m_ hH hm_ hu_ => dn <| s_d (m_ 8) rfl (QW (v := v0_r_) rfl) (by exact rfl) rfl), (fun H' m_ hH hm_ hu_ => dn <| s_d (m_ 9) rfl (QW (v := .int .i64 i) rfl) (by exact rfl) rfl), (fun H' m_ hH hm_ hu_ => dn <| s_d (m_ 10) rfl (QW (v := .int .i64 (d.length : Int)) rfl) (by exact rfl) rfl), (by rintro H' m_ hH hm_ hu_ _ rfl _ rfl; exact dn <| s_d (m_ 11) rfl (XR (c := w64 (i + (d.length : Int))) rfl rfl rfl) (by exact rfl) rfl), (by rintro H' m_ hH hm_ hu_ _ rfl; exact dn <| s_d (m_ 12) rfl (YD (c := w64 ((w64 (i + (d.length : Int))) - 1)) rfl rfl rfl) (by exact rfl) rfl), (by rintro H' m_ hH hm_ hu_ _ rfl _ rfl; exact dn <| s_d (m_ 13) rfl (XK (sz := 1) Tryz.underlying22 sz167 rfl (h0_r_.mono hH) rfl c2) (by exact rfl) rfl), (by rintro H' m_ hH hm_ hu_ _ rfl; exact dn <| s_d (m_ 14) rfl (XP ty167 rfl (h0_r_.mono hH) c2) (by exact rfl) rfl), (by rintro H' m_ hH hm_ hu_ _ rfl; exact dn <| s_d (m_ 15) rfl (X7 (c := (rd r_ (w64 ((w64 (i + (d.length : Int))) - 1))) % 18446744073709551616) Tryz.underlying167 Tryz.underlying113 rfl rfl) (by exact rfl) rfl), trivial⟩ ?_
 intro H3 e4
 rintro _ _ rfl _ _ rfl _ _ rfl _ _ rfl _ _ rfl _ _ rfl _ _ rfl _ _ rfl _ _ rfl _ _ rfl _ _ rfl _ _ rfl _ _ rfl _ _ rfl _ _ rfl _ _ rfl
 refine w_d rfl (Gt rfl rfl) <| wA (.int .u64 (ior .u64 ((((rd r_ (w64 (i + (d.length : Int)))) % 18446744073709551616) * 4294967296) % 18446744073709551616) ((rd r_ (w64 ((w64 (i + (d.length : Int))) - 1))) % 18446744073709551616))) rfl rfl <| wE <| rK he fun c5 he => rK he fun c6 he => rK he fun c7 he => rK he fun c8 he => Xy (p := 17) (tl := [17]) [[], [], [], [(2, some 32)], [(1, some 31), (3, some 33)], [(4, some 34)], [(5, some 35)], [(0, some 30), (6, some 36)], [], [], [], [(10, some 40)], [(9, some 39), (11, some 41)], [(12, some 42)], [(13, some 43)], [(8, some 38), (14, some 44)], [(7, some 37)]] [some 30, some 31, some 32, some 33, some 34, some 35, some 36, some 37, some 38, some 39, some 40, some 41, some 42, some 43, some 44, some 45, some 9] (fctF (.is (.int .u64 (ior .u64 ((((rd r_ (w64 (i + (d.length : Int)))) % 18446744073709551616) * 4294967296) % 18446744073709551616) ((rd r_ (w64 ((w64 (i + (d.length : Int))) - 1))) % 18446744073709551616))) :: .is (v1_d) :: .is (.int .i64 (d.length : Int)) :: .is (.int .i64 (w64 ((d.length : Int) - 1))) :: .is (.pointer (some (pel v1_d (w64 ((d.length : Int) - 1)) 1))) :: .is (.int .u32 (rd d (w64 ((d.length : Int) - 1)))) :: .is (.int .u64 ((rd d (w64 ((d.length : Int) - 1))) % 18446744073709551616)) :: .is (.int .u64 ((Int.tdiv (ior .u64 ((((rd r_ (w64 (i + (d.length : Int)))) % 18446744073709551616) * 4294967296) % 18446744073709551616) ((rd r_ (w64 ((w64 (i + (d.length : Int))) - 1))) % 18446744073709551616)) ((rd d (w64 ((d.length : Int) - 1))) % 18446744073709551616)) % 18446744073709551616)) :: .is (.int .u64 (ior .u64 ((((rd r_ (w64 (i + (d.length : Int)))) % 18446744073709551616) * 4294967296) % 18446744073709551616) ((rd r_ (w64 ((w64 (i + (d.length : Int))) - 1))) % 18446744073709551616))) :: .is (v1_d) :: .is (.int .i64 (d.length : Int)) :: .is (.int .i64 (w64 ((d.length : Int) - 1))) :: .is (.pointer (some (pel v1_d (w64 ((d.length : Int) - 1)) 1))) :: .is (.int .u32 (rd d (w64 ((d.length : Int) - 1)))) :: .is (.int .u64 ((rd d (w64 ((d.length : Int) - 1))) % 18446744073709551616)) :: .is (.int .u64 (Int.tmod (ior .u64 ((((rd r_ (w64 (i + (d.length : Int)))) % 18446744073709551616) * 4294967296) % 18446744073709551616) ((rd r_ (w64 ((w64 (i + (d.length : Int))) - 1))) % 18446744073709551616)) ((rd d (w64 ((d.length : Int) - 1))) % 18446744073709551616))) :: .is (.int .u64 ((Int.tdiv (ior .u64 ((((rd r_ (w64 (i + (d.length : Int)))) % 18446744073709551616) * 4294967296) % 18446744073709551616) ((rd r_ (w64 ((w64 (i + (d.length : Int))) - 1))) % 18446744073709551616)) ((rd d (w64 ((d.length : Int) - 1))) % 18446744073709551616)) % 18446744073709551616)) :: [])) (fun m_ => L) (fun _ => none) mixed (by kernel_rfl) (by kernel_rfl) rfl (Xn (by kernel_rfl)) ⟨(fun H' m_ hH hm_ hu_ => dn <| s_d (m_ 0) rfl (QW (v := .int .u64 (ior .u64 ((((rd r_ (w64 (i + (d.length : Int)))) % 18446744073709551616) * 4294967296) % 18446744073709551616) ((rd r_ (w64 ((w64 (i + (d.length : Int))) - 1))) % 18446744073709551616))) rfl) (by exact rfl) rfl), (fun H' m_ hH hm_ hu_ => dn <| s_d (m_ 1) rfl (QW (v := v1_d) rfl) (by exact rfl) rfl), (fun H' m_ hH hm_ hu_ => dn <| s_d (m_ 2) rfl (QW (v := .int .i64 (d.length : Int)) rfl) (by exact rfl) rfl), (by rintro H' m_ hH hm_ hu_ _ rfl; exact dn <| s_d (m_ 3) rfl (YD (c := w64 ((d.length : Int) - 1)) rfl rfl rfl) (by exact rfl) rfl), (by rintro H' m_ hH hm_ hu_ _ rfl _ rfl; exact dn <| s_d (m_ 4) rfl (XK (sz := 1) Tryz.underlying22 sz167 rfl (h1_d.mono (e4.trans hH)) rfl c5) (by exact rfl) rfl), (by rintro H' m_ hH hm_ hu_ _ rfl; exact dn <| s_d (m_ 5) rfl (XP ty167 rfl (h1_d.mono (e4.trans hH)) c5) (by exact rfl) rfl), (by rintro H' m_ hH hm_ hu_ _ rfl; exact dn <| s_d (m_ 6) rfl (X7 (c := (rd d (w64 ((d.length : Int) - 1))) % 18446744073709551616) Tryz.underlying167 Tryz.underlying113 rfl rfl) (by exact rfl) rfl), (by rintro H' m_ hH hm_ hu_ _ rfl _ rfl; exact dn <| s_d (m_ 7) rfl (Jj (c := (Int.tdiv (ior .u64 ((((rd r_ (w64 (i + (d.length : Int)))) % 18446744073709551616) * 4294967296) % 18446744073709551616) ((rd r_ (w64 ((w64 (i + (d.length : Int))) - 1))) % 18446744073709551616)) ((rd d (w64 ((d.length : Int) - 1))) % 18446744073709551616)) % 18446744073709551616) rfl rfl c6 rfl) (by exact rfl) rfl), (fun H' m_ hH hm_ hu_ => dn <| s_d (m_ 8) rfl (QW (v := .int .u64 (ior .u64 ((((rd r_ (w64 (i + (d.length : Int)))) % 18446744073709551616) * 4294967296) % 18446744073709551616) ((rd r_ (w64 ((w64 (i + (d.length : Int))) - 1))) % 18446744073709551616))) rfl) (by exact rfl) rfl), (fun H' m_ hH hm_ hu_ => dn <| s_d (m_ 9) rfl (QW (v := v1_d) rfl) (by exact rfl) rfl), (fun H' m_ hH hm_ hu_ => dn <| s_d (m_ 10) rfl (QW (v := .int .i64 (d.length : Int)) rfl) (by exact rfl) rfl), (by rintro H' m_ hH hm_ hu_ _ rfl; exact dn <| s_d (m_ 11) rfl (YD (c := w64 ((d.length : Int) - 1)) rfl rfl rfl) (by exact rfl) rfl), (by rintro H' m_ hH hm_ hu_ _ rfl _ rfl; exact dn <| s_d (m_ 12) rfl (XK (sz := 1) Tryz.underlying22 sz167 rfl (h1_d.mono (e4.trans hH)) rfl c7) (by exact rfl) rfl), (by rintro H' m_ hH hm_ hu_ _ rfl; exact dn <| s_d (m_ 13) rfl (XP ty167 rfl (h1_d.mono (e4.trans hH)) c7) (by exact rfl) rfl), (by rintro H' m_ hH hm_ hu_ _ rfl; exact dn <| s_d (m_ 14) rfl (X7 (c := (rd d (w64 ((d.length : Int) - 1))) % 18446744073709551616) Tryz.underlying167 Tryz.underlying113 rfl rfl) (by exact rfl) rfl), (by rintro H' m_ hH hm_ hu_ _ rfl _ rfl; exact dn <| s_d (m_ 15) rfl (Jd rfl rfl c8) (by exact rfl) rfl), (by rintro H' m_ hH hm_ hu_ _ rfl; exact dn <| s_d (m_ 16) rfl (M0 (v := .int .u64 ((Int.tdiv (ior .u64 ((((rd r_ (w64 (i + (d.length : Int)))) % 18446744073709551616) * 4294967296) % 18446744073709551616) ((rd r_ (w64 ((w64 (i + (d.length : Int))) - 1))) % 18446744073709551616)) ((rd d (w64 ((d.length : Int) - 1))) % 18446744073709551616)) % 18446744073709551616)) rfl) (by exact rfl) rfl), trivial⟩ ?_
 intro H9 e10
 rintro _ _ rfl _ _ rfl _ _ rfl _ _ rfl _ _ rfl _ _ rfl _ _ rfl _ _ rfl _ _ rfl _ _ rfl _ _ rfl _ _ rfl _ _ rfl _ _ rfl _ _ rfl _ _ rfl _ _ rfl
 refine wA (.int .u64 (Int.tmod (ior .u64 ((((rd r_ (w64 (i + (d.length : Int)))) % 18446744073709551616) * 4294967296) % 18446744073709551616) ((rd r_ (w64 ((w64 (i + (d.length : Int))) - 1))) % 18446744073709551616)) ((rd d (w64 ((d.length : Int) - 1))) % 18446744073709551616))) rfl rfl <| wE <| Xa <| X9 <| w_sl 0 (v0_r_) rfl <| w_sl 1 (v1_d) rfl <| w_sl 2 (.int .i64 i) rfl <| w_sl 6 (.int .u64 0) rfl <| w_sl 7 (.int .i64 (d.length : Int)) rfl <| w_sl 9 (.int .u64 ((Int.tdiv (ior .u64 ((((rd r_ (w64 (i + (d.length : Int)))) % 18446744073709551616) * 4294967296) % 18446744073709551616) ((rd r_ (w64 ((w64 (i + (d.length : Int))) - 1))) % 18446744073709551616)) ((rd d (w64 ((d.length : Int) - 1))) % 18446744073709551616)) % 18446744073709551616)) rfl <| w_sl 10 (.int .u64 (Int.tmod (ior .u64 ((((rd r_ (w64 (i + (d.length : Int)))) % 18446744073709551616) * 4294967296) % 18446744073709551616) ((rd r_ (w64 ((w64 (i + (d.length : Int))) - 1))) % 18446744073709551616)) ((rd d (w64 ((d.length : Int) - 1))) % 18446744073709551616))) rfl <| hh.l0 (hle.trans (e4.trans e10)) he (h0_r_.mono (e4.trans e10)) (h1_d.mono (e4.trans e10))
noncomputable def Qx.C : Code := (Tryz.f157.body).getD .skip
def Qx.out (r : Bool × (List Int)) (H : Hp) (v : Value) : Prop := v = .bool r.1
abbrev Qx.R (vr_ : Value) (H0 : Hp) (L : Items) (r : Bool × (List Int)) : Value → Hp → Items → Prop := fun v H' L' => (∃ p it', L' = p ++ it' :: L ∧ Sl kU32 H' 167 it' vr_ r.2) ∧ H0.le H' ∧ v = .bool r.1
structure Qx.Hs where
 l0 : (List Int) → (List Int) → Int → Int → Int → Int → Int → Option (Bool × (List Int))
noncomputable def Qx.j2 (k : Nat) (h : Qx.Hs) (r_ d : List Int) (i q borrow carry j_ p : Int) : Option (Bool × (List Int)) := if (0 : Int) ≤ w64 (i + j_) ∧ w64 (i + j_) < (r_.length : Int) then (if (0 : Int) ≤ w64 (i + j_) ∧ w64 (i + j_) < (r_.length : Int) then (h.l0 (r_.set (w64 (i + j_) : Int).toNat ((w64 ((w64 ((w64 (rd r_ (w64 (i + j_)))) - (w64 ((p) % 4294967296)))) + borrow)) % 4294967296)) d i q ((w64 ((w64 ((w64 (rd r_ (w64 (i + j_)))) - (w64 ((p) % 4294967296)))) + borrow)) / 4294967296) (p / 4294967296) (w64 (j_ + 1))) else none) else none
noncomputable def Qx.b0 (k : Nat) (h : Qx.Hs) (r_ d : List Int) (i q borrow carry j_ : Int) : Option (Bool × (List Int)) := if j_ ≤ (d.length : Int) then (if j_ < (d.length : Int) then (if (0 : Int) ≤ j_ ∧ j_ < (d.length : Int) then (Qx.j2 k h r_ d i q borrow carry j_ ((carry + ((q * ((rd d j_) % 18446744073709551616)) % 18446744073709551616)) % 18446744073709551616)) else none) else (Qx.j2 k h r_ d i q borrow carry j_ carry)) else (some (decide (borrow < 0), r_))
noncomputable def Qx.hs : Nat → Qx.Hs
 | 0 => ⟨fun _ _ _ _ _ _ _ => none⟩
 | k + 1 => ⟨fun x0 x1 x2 x3 x4 x5 x6 => Qx.b0 k (Qx.hs k) x0 x1 x2 x3 x4 x5 x6⟩
noncomputable def Qx.f (k : Nat) (r_ d : List Int) (i q : Int) : Option (Bool × (List Int)) := (fun h : Qx.Hs => h.l0 r_ d i q 0 0 0) (Qx.hs k)
structure Qx.LE (h h' : Qx.Hs) : Prop where
 l0 : ∀ y0 y1 y2 y3 y4 y5 y6, LeO (h.l0 y0 y1 y2 y3 y4 y5 y6) (h'.l0 y0 y1 y2 y3 y4 y5 y6)
theorem Qx.j2_mono {k : Nat} {h h' : Qx.Hs} (hl : Qx.LE h h') : ∀ y0 y1 y2 y3 y4 y5 y6 y7, LeO (Qx.j2 k h y0 y1 y2 y3 y4 y5 y6 y7) (Qx.j2 (k + 1) h' y0 y1 y2 y3 y4 y5 y6 y7) := fun _ _ _ _ _ _ _ _ => (LeO.ite (LeO.ite (hl.l0 _ _ _ _ _ _ _) (LeO.refl _)) (LeO.refl _))
theorem Qx.b0_mono {k : Nat} {h h' : Qx.Hs} (hl : Qx.LE h h') : ∀ y0 y1 y2 y3 y4 y5 y6, LeO (Qx.b0 k h y0 y1 y2 y3 y4 y5 y6) (Qx.b0 (k + 1) h' y0 y1 y2 y3 y4 y5 y6) := fun _ _ _ _ _ _ _ => (LeO.ite (LeO.ite (LeO.ite (Qx.j2_mono (k := k) hl _ _ _ _ _ _ _ _) (LeO.refl _)) (Qx.j2_mono (k := k) hl _ _ _ _ _ _ _ _)) (LeO.refl _))
theorem Qx.hs_mono : ∀ k, Qx.LE (Qx.hs k) (Qx.hs (k + 1))
 | 0 => ⟨fun _ _ _ _ _ _ _ => LeO.none _⟩
 | k + 1 => ⟨Qx.b0_mono (k := k) (Qx.hs_mono k)⟩
theorem Qx.mono : ∀ k y0 y1 y2 y3, LeO (Qx.f k y0 y1 y2 y3) (Qx.f (k + 1) y0 y1 y2 y3) := fun k _ _ _ _ => have hl := Qx.hs_mono k; by unfold Qx.f; exact (hl.l0 _ _ _ _ _ _ _)
noncomputable def Qx.Kl0 : List Item := .code (lopB (blkB (seqR (seqL (seqR (seqR (seqR Qx.C))))))) :: .inLoop (lopB (blkB (seqR (seqL (seqR (seqR (seqR Qx.C))))))) :: .inBlock 0 :: .code (seqR (seqR (seqR (seqR Qx.C)))) :: []
noncomputable def Qx.Kj2 : List Item := .code (seqR (seqR (blkB (seqL (seqR (lopB (blkB (seqR (seqL (seqR (seqR (seqR Qx.C)))))))))))) :: .inBlock 1 :: .code (seqR (seqR (lopB (blkB (seqR (seqL (seqR (seqR (seqR Qx.C))))))))) :: .inLoop (lopB (blkB (seqR (seqL (seqR (seqR (seqR Qx.C))))))) :: .inBlock 0 :: .code (seqR (seqR (seqR (seqR Qx.C)))) :: []
structure Qx.OK (h : Qx.Hs) : Prop where
 l0 : ∀ {H0 H : Hp} {L : Items} {r : Bool × (List Int)} {jk_ : Nat → Value} {r_ : List Int} {d : List Int} {i : Int} {q : Int} {borrow : Int} {carry : Int} {j_ : Int} {vr_ : Value} {v_d : Value} {i_r_ : Item'} (_ : H0.le H) (_he : h.l0 r_ d i q borrow carry j_ = some r) (_h_r_ : Sl kU32 H 167 i_r_ vr_ r_) (_h_d : Src kU32 H L v_d d), Wp Tryz.prog 157 60 Qx.Kl0 (upd (upd (upd (upd (upd (upd (upd (upd jk_ 0 (vr_)) 1 (v_d)) 2 (.int .i64 i)) 3 (.int .u64 q)) 8 (.bool false)) 9 (.int .i64 borrow)) 10 (.int .u64 carry)) 11 (.int .i64 j_)) H (i_r_ :: L) (Qx.R vr_ H0 L r)
theorem Qx.j2_ok {k : Nat} {h : Qx.Hs} (hh : Qx.OK h) {H0 H : Hp} {L : Items} {r : Bool × (List Int)} {jk_ : Nat → Value} {r_ d : List Int} {i q borrow carry j_ p : Int} {vr_ v_d : Value} {i_r_ : Item'} (hle : H0.le H) (he : Qx.j2 k h r_ d i q borrow carry j_ p = some r) (h_r_ : Sl kU32 H 167 i_r_ vr_ r_) (h_d : Src kU32 H L v_d d) : Wp Tryz.prog 157 60 Qx.Kj2 (upd (upd (upd (upd (upd (upd (upd (upd (upd jk_ 0 (vr_)) 1 (v_d)) 2 (.int .i64 i)) 3 (.int .u64 q)) 8 (.bool false)) 9 (.int .i64 borrow)) 10 (.int .u64 carry)) 11 (.int .i64 j_)) 12 (.int .u64 p)) H (i_r_ :: L) (Qx.R vr_ H0 L r) := by
 unfold Qx.j2 at he
 unfold Qx.Kj2
 refine wR rfl <| wM (.int .u64 p) rfl rfl <| w_d rfl (Z1 (c := p / 4294967296) rfl rfl (by decide) rfl) <| wA (.int .u64 (p / 4294967296)) rfl rfl <| wQ rfl <| wM vr_ rfl rfl <| wM (.int .i64 i) rfl rfl <| wM (.int .i64 j_) rfl rfl <| w_d rfl (XR (c := w64 (i + j_)) rfl rfl rfl) ?_
 refine rK he fun c4 he => w_d rfl (YK (sz := 1) Tryz.underlying22 sz167 rfl h_r_.shp rfl c4) <| w_d rfl (XP ty167 rfl (h_r_.src .here) c4) <| w_d rfl (X7 (c := w64 (rd r_ (w64 (i + j_)))) Tryz.underlying167 Tryz.underlying2 rfl rfl) <| wM (.int .u64 p) rfl rfl <| w_d rfl (X7 (c := (p) % 4294967296) Tryz.underlying113 Tryz.underlying167 rfl rfl) <| w_d rfl (X7 (c := w64 ((p) % 4294967296)) Tryz.underlying167 Tryz.underlying2 rfl rfl) <| w_d rfl (YD (c := w64 ((w64 (rd r_ (w64 (i + j_)))) - (w64 ((p) % 4294967296)))) rfl rfl rfl) <| wM (.int .i64 borrow) rfl rfl <| w_d rfl (XR (c := w64 ((w64 ((w64 (rd r_ (w64 (i + j_)))) - (w64 ((p) % 4294967296)))) + borrow)) rfl rfl rfl) <| wA (.int .i64 (w64 ((w64 ((w64 (rd r_ (w64 (i + j_)))) - (w64 ((p) % 4294967296)))) + borrow))) rfl rfl <| Qb ?_
 refine wR rfl <| wM vr_ rfl rfl <| wM (.int .i64 i) rfl rfl <| wM (.int .i64 j_) rfl rfl <| w_d rfl (XR (c := w64 (i + j_)) rfl rfl rfl) <| wM (.int .i64 (w64 ((w64 ((w64 (rd r_ (w64 (i + j_)))) - (w64 ((p) % 4294967296)))) + borrow))) rfl rfl <| w_d rfl (X7 (c := (w64 ((w64 ((w64 (rd r_ (w64 (i + j_)))) - (w64 ((p) % 4294967296)))) + borrow)) % 4294967296) Tryz.underlying2 Tryz.underlying167 rfl rfl) <| rK he fun c5 he => w_d rfl (YK (sz := 1) Tryz.underlying22 sz167 rfl h_r_.shp rfl c5) <| w_a0 rfl (Y1 (kd := kU32) (v := .int .u32 ((w64 ((w64 ((w64 (rd r_ (w64 (i + j_)))) - (w64 ((p) % 4294967296)))) + borrow)) % 4294967296)) (F := fun z_ => z_ :: L) sz167 rfl rfl rfl rfl h_r_ c5 (fun _ => .here)) ?_
 rintro _ _ _ ⟨i6, rfl, rfl, rfl, h7⟩
 refine Qb <| QU rfl <| wM (.int .i64 (w64 ((w64 ((w64 (rd r_ (w64 (i + j_)))) - (w64 ((p) % 4294967296)))) + borrow))) rfl rfl <| w_d rfl (Z1 (c := (w64 ((w64 ((w64 (rd r_ (w64 (i + j_)))) - (w64 ((p) % 4294967296)))) + borrow)) / 4294967296) rfl rfl (by decide) rfl) <| wA (.int .i64 ((w64 ((w64 ((w64 (rd r_ (w64 (i + j_)))) - (w64 ((p) % 4294967296)))) + borrow)) / 4294967296)) rfl rfl <| Qb <| XC <| QU rfl <| wM (.int .i64 j_) rfl rfl <| w_d rfl (XR (c := w64 (j_ + 1)) rfl rfl rfl) <| wA (.int .i64 (w64 (j_ + 1))) rfl rfl <| Qb ?_
 refine XL <| w_sl 0 (vr_) rfl <| w_sl 1 (v_d) rfl <| w_sl 2 (.int .i64 i) rfl <| w_sl 3 (.int .u64 q) rfl <| w_sl 8 (.bool false) rfl <| w_sl 9 (.int .i64 ((w64 ((w64 ((w64 (rd r_ (w64 (i + j_)))) - (w64 ((p) % 4294967296)))) + borrow)) / 4294967296)) rfl <| w_sl 10 (.int .u64 (p / 4294967296)) rfl <| w_sl 11 (.int .i64 (w64 (j_ + 1))) rfl <| hh.l0 hle he h7 h_d
theorem Qx.b0_ok {k : Nat} {h : Qx.Hs} (hh : Qx.OK h) {H0 H : Hp} {L : Items} {r : Bool × (List Int)} {jk_ : Nat → Value} {r_ d : List Int} {i q borrow carry j_ : Int} {vr_ v_d : Value} {i_r_ : Item'} (hle : H0.le H) (he : Qx.b0 k h r_ d i q borrow carry j_ = some r) (h_r_ : Sl kU32 H 167 i_r_ vr_ r_) (h_d : Src kU32 H L v_d d) : Wp Tryz.prog 157 60 Qx.Kl0 (upd (upd (upd (upd (upd (upd (upd (upd jk_ 0 (vr_)) 1 (v_d)) 2 (.int .i64 i)) 3 (.int .u64 q)) 8 (.bool false)) 9 (.int .i64 borrow)) 10 (.int .u64 carry)) 11 (.int .i64 j_)) H (i_r_ :: L) (Qx.R vr_ H0 L r) := by
 unfold Qx.b0 at he
 unfold Qx.Kl0
 refine Q0 <| wR rfl <| wM (.int .i64 j_) rfl rfl <| wM v_d rfl rfl <| w_d rfl (Xr Tryz.underlying22 rfl h_d.th) <| w_d rfl (G9 rfl rfl) <| Qb ?_
 rcases its he with ⟨c1, he⟩ | ⟨c1, he⟩
 ·
  refine QE rfl (dt c1) <| QH <| Q0 <| Xa <| wR rfl <| wM (.int .u64 carry) rfl rfl <| wA (.int .u64 carry) rfl rfl <| wE <| wR rfl ?_
  refine wM (.int .i64 j_) rfl rfl <| wM v_d rfl rfl <| w_d rfl (Xr Tryz.underlying22 rfl h_d.th) <| w_d rfl (XY rfl rfl) <| Qb ?_
  rcases its he with ⟨c2, he⟩ | ⟨c2, he⟩
  ·
   refine QE rfl (dt c2) <| QU rfl <| wM (.int .u64 carry) rfl rfl <| wM (.int .u64 q) rfl rfl <| wM v_d rfl rfl <| wM (.int .i64 j_) rfl rfl <| rK he fun c3 he => w_d rfl (XK (sz := 1) Tryz.underlying22 sz167 rfl h_d.th rfl c3) <| w_d rfl (XP ty167 rfl h_d.th c3) <| w_d rfl (X7 (c := (rd d j_) % 18446744073709551616) Tryz.underlying167 Tryz.underlying113 rfl rfl) <| w_d rfl (Jw (c := (q * ((rd d j_) % 18446744073709551616)) % 18446744073709551616) rfl rfl rfl) <| w_d rfl (XR (c := (carry + ((q * ((rd d j_) % 18446744073709551616)) % 18446744073709551616)) % 18446744073709551616) rfl rfl rfl) ?_
   refine wA (.int .u64 ((carry + ((q * ((rd d j_) % 18446744073709551616)) % 18446744073709551616)) % 18446744073709551616)) rfl rfl <| Qb <| w_sl 0 (vr_) rfl <| w_sl 1 (v_d) rfl <| w_sl 2 (.int .i64 i) rfl <| w_sl 3 (.int .u64 q) rfl <| w_sl 8 (.bool false) rfl <| w_sl 9 (.int .i64 borrow) rfl <| w_sl 10 (.int .u64 carry) rfl <| w_sl 11 (.int .i64 j_) rfl <| w_sl 12 (.int .u64 ((carry + ((q * ((rd d j_) % 18446744073709551616)) % 18446744073709551616)) % 18446744073709551616)) rfl <| Qx.j2_ok (k := k) hh hle he h_r_ h_d
  ·
   refine QF rfl (df c2) <| QH <| w_sl 0 (vr_) rfl <| w_sl 1 (v_d) rfl <| w_sl 2 (.int .i64 i) rfl <| w_sl 3 (.int .u64 q) rfl <| w_sl 8 (.bool false) rfl <| w_sl 9 (.int .i64 borrow) rfl <| w_sl 10 (.int .u64 carry) rfl <| w_sl 11 (.int .i64 j_) rfl <| w_sl 12 (.int .u64 carry) rfl <| Qx.j2_ok (k := k) hh hle he h_r_ h_d
 ·
  refine QF rfl (df c1) <| X8 rfl <| wR rfl <| wM (.int .i64 borrow) rfl rfl <| w_d rfl (XY rfl rfl) <| wA (.bool (decide (borrow < 0))) rfl rfl <| Qb ?_
  obtain rfl := sj he
  refine Qn fn_157 rs_157 (.tmp (v := .bool (decide (borrow < 0))) rfl .nil) <| ⟨⟨[], _, rfl, h_r_⟩, hle, rfl⟩
theorem Qx.ok : ∀ k, Qx.OK (Qx.hs k)
 | 0 => ⟨(by intros; exact nomatch (show none = some _ from by assumption))⟩
 | k + 1 => ⟨Qx.b0_ok (k := k) (Qx.ok k)⟩
theorem Qx.calls (k : Nat) {H : Hp} {L : Items} {r_ d : List Int} {i q : Int} {vr_ : Value} {it_ : Item'} {v0_d : Value} {r : Bool × (List Int)} (he : Qx.f k r_ d i q = some r) (hr_ : Sl kU32 H 167 it_ vr_ r_) (h0_d : Src kU32 H L v0_d d) : Ct Tryz.prog 157 ⟨[vr_, v0_d, .int .i64 i, .int .u64 q]⟩ H (it_ :: L) (fun v H' L' => ∃ it', L' = it' :: L ∧ H.le H' ∧ Sl kU32 H' 167 it' vr_ r.2 ∧ v = .bool r.1) := by
 refine NE (Q := fun v => v = .bool r.1) ?_
 have hle : H.le H := .refl _
 have hh := Qx.ok k
 unfold Qx.f at he
 refine QV (args := [_, _, _, _]) fn_157 rfl nt_157 rfl <| wR rfl <| wA (.bool false) rfl rfl <| wQ rfl <| wA (.int .i64 0) rfl rfl <| wQ rfl <| wA (.int .u64 0) rfl rfl ?_
 refine wE <| wR rfl <| wA (.int .i64 0) rfl rfl <| Qb <| Xa <| X9 <| w_sl 0 (vr_) rfl <| w_sl 1 (v0_d) rfl <| w_sl 2 (.int .i64 i) rfl <| w_sl 3 (.int .u64 q) rfl ?_
 refine w_sl 8 (.bool false) rfl <| w_sl 9 (.int .i64 0) rfl <| w_sl 10 (.int .u64 0) rfl <| w_sl 11 (.int .i64 0) rfl <| hh.l0 hle he hr_ h0_d
noncomputable def Qt.C : Code := (Tryz.f158.body).getD .skip
def Qt.out (r : (List Int)) (H : Hp) (v : Value) : Prop := v = .tuple ⟨[]⟩
abbrev Qt.R (vr_ : Value) (H0 : Hp) (L : Items) (r : (List Int)) : Value → Hp → Items → Prop := fun v H' L' => (∃ p it', L' = p ++ it' :: L ∧ Sl kU32 H' 167 it' vr_ r) ∧ H0.le H' ∧ v = .tuple ⟨[]⟩
structure Qt.Hs where
 l0 : (List Int) → (List Int) → Int → Int → Int → Option (List Int)
noncomputable def Qt.j2 (k : Nat) (h : Qt.Hs) (r_ d : List Int) (i carry j_ s : Int) : Option (List Int) := if (0 : Int) ≤ w64 (i + j_) ∧ w64 (i + j_) < (r_.length : Int) then (h.l0 (r_.set (w64 (i + j_) : Int).toNat ((s) % 4294967296)) d i (s / 4294967296) (w64 (j_ + 1))) else none
noncomputable def Qt.b0 (k : Nat) (h : Qt.Hs) (r_ d : List Int) (i carry j_ : Int) : Option (List Int) := if j_ ≤ (d.length : Int) then (if (0 : Int) ≤ w64 (i + j_) ∧ w64 (i + j_) < (r_.length : Int) then (if j_ < (d.length : Int) then (if (0 : Int) ≤ j_ ∧ j_ < (d.length : Int) then (Qt.j2 k h r_ d i carry j_ ((((((rd r_ (w64 (i + j_))) % 18446744073709551616) + carry) % 18446744073709551616) + ((rd d j_) % 18446744073709551616)) % 18446744073709551616)) else none) else (Qt.j2 k h r_ d i carry j_ ((((rd r_ (w64 (i + j_))) % 18446744073709551616) + carry) % 18446744073709551616))) else none) else (some (r_))
noncomputable def Qt.hs : Nat → Qt.Hs
 | 0 => ⟨fun _ _ _ _ _ => none⟩
 | k + 1 => ⟨fun x0 x1 x2 x3 x4 => Qt.b0 k (Qt.hs k) x0 x1 x2 x3 x4⟩
noncomputable def Qt.f (k : Nat) (r_ d : List Int) (i : Int) : Option (List Int) := (fun h : Qt.Hs => h.l0 r_ d i 0 0) (Qt.hs k)
structure Qt.LE (h h' : Qt.Hs) : Prop where
 l0 : ∀ y0 y1 y2 y3 y4, LeO (h.l0 y0 y1 y2 y3 y4) (h'.l0 y0 y1 y2 y3 y4)
theorem Qt.j2_mono {k : Nat} {h h' : Qt.Hs} (hl : Qt.LE h h') : ∀ y0 y1 y2 y3 y4 y5, LeO (Qt.j2 k h y0 y1 y2 y3 y4 y5) (Qt.j2 (k + 1) h' y0 y1 y2 y3 y4 y5) := fun _ _ _ _ _ _ => (LeO.ite (hl.l0 _ _ _ _ _) (LeO.refl _))
theorem Qt.b0_mono {k : Nat} {h h' : Qt.Hs} (hl : Qt.LE h h') : ∀ y0 y1 y2 y3 y4, LeO (Qt.b0 k h y0 y1 y2 y3 y4) (Qt.b0 (k + 1) h' y0 y1 y2 y3 y4) := fun _ _ _ _ _ => (LeO.ite (LeO.ite (LeO.ite (LeO.ite (Qt.j2_mono (k := k) hl _ _ _ _ _ _) (LeO.refl _)) (Qt.j2_mono (k := k) hl _ _ _ _ _ _)) (LeO.refl _)) (LeO.refl _))
theorem Qt.hs_mono : ∀ k, Qt.LE (Qt.hs k) (Qt.hs (k + 1))
 | 0 => ⟨fun _ _ _ _ _ => LeO.none _⟩
 | k + 1 => ⟨Qt.b0_mono (k := k) (Qt.hs_mono k)⟩
theorem Qt.mono : ∀ k y0 y1 y2, LeO (Qt.f k y0 y1 y2) (Qt.f (k + 1) y0 y1 y2) := fun k _ _ _ => have hl := Qt.hs_mono k; by unfold Qt.f; exact (hl.l0 _ _ _ _ _)
noncomputable def Qt.Kl0 : List Item := .code (lopB (blkB (seqR (seqR Qt.C)))) :: .inLoop (lopB (blkB (seqR (seqR Qt.C)))) :: .inBlock 0 :: []
noncomputable def Qt.Kj2 : List Item := .code (seqR (seqR (blkB (seqL (seqR (lopB (blkB (seqR (seqR Qt.C))))))))) :: .inBlock 1 :: .code (seqR (seqR (lopB (blkB (seqR (seqR Qt.C)))))) :: .inLoop (lopB (blkB (seqR (seqR Qt.C)))) :: .inBlock 0 :: []
structure Qt.OK (h : Qt.Hs) : Prop where
 l0 : ∀ {H0 H : Hp} {L : Items} {r : (List Int)} {jk_ : Nat → Value} {r_ : List Int} {d : List Int} {i : Int} {carry : Int} {j_ : Int} {vr_ : Value} {v_d : Value} {i_r_ : Item'} (_ : H0.le H) (_he : h.l0 r_ d i carry j_ = some r) (_h_r_ : Sl kU32 H 167 i_r_ vr_ r_) (_h_d : Src kU32 H L v_d d), Wp Tryz.prog 158 44 Qt.Kl0 (upd (upd (upd (upd (upd jk_ 0 (vr_)) 1 (v_d)) 2 (.int .i64 i)) 6 (.int .u64 carry)) 7 (.int .i64 j_)) H (i_r_ :: L) (Qt.R vr_ H0 L r)
theorem Qt.j2_ok {k : Nat} {h : Qt.Hs} (hh : Qt.OK h) {H0 H : Hp} {L : Items} {r : (List Int)} {jk_ : Nat → Value} {r_ d : List Int} {i carry j_ s : Int} {vr_ v_d : Value} {i_r_ : Item'} (hle : H0.le H) (he : Qt.j2 k h r_ d i carry j_ s = some r) (h_r_ : Sl kU32 H 167 i_r_ vr_ r_) (h_d : Src kU32 H L v_d d) : Wp Tryz.prog 158 44 Qt.Kj2 (upd (upd (upd (upd (upd (upd jk_ 0 (vr_)) 1 (v_d)) 2 (.int .i64 i)) 6 (.int .u64 carry)) 7 (.int .i64 j_)) 8 (.int .u64 s)) H (i_r_ :: L) (Qt.R vr_ H0 L r) := by
 unfold Qt.j2 at he
 unfold Qt.Kj2
 refine wR rfl <| wM vr_ rfl rfl <| wM (.int .i64 i) rfl rfl <| wM (.int .i64 j_) rfl rfl <| w_d rfl (XR (c := w64 (i + j_)) rfl rfl rfl) <| wM (.int .u64 s) rfl rfl <| w_d rfl (X7 (c := (s) % 4294967296) Tryz.underlying113 Tryz.underlying167 rfl rfl) <| rK he fun c5 he => w_d rfl (YK (sz := 1) Tryz.underlying22 sz167 rfl h_r_.shp rfl c5) <| w_a0 rfl (Y1 (kd := kU32) (v := .int .u32 ((s) % 4294967296)) (F := fun z_ => z_ :: L) sz167 rfl rfl rfl rfl h_r_ c5 (fun _ => .here)) ?_
 rintro _ _ _ ⟨i6, rfl, rfl, rfl, h7⟩
 refine Qb <| QU rfl <| wM (.int .u64 s) rfl rfl <| w_d rfl (Z1 (c := s / 4294967296) rfl rfl (by decide) rfl) <| wA (.int .u64 (s / 4294967296)) rfl rfl <| Qb <| XC <| QU rfl <| wM (.int .i64 j_) rfl rfl <| w_d rfl (XR (c := w64 (j_ + 1)) rfl rfl rfl) <| wA (.int .i64 (w64 (j_ + 1))) rfl rfl <| Qb ?_
 refine XL <| w_sl 0 (vr_) rfl <| w_sl 1 (v_d) rfl <| w_sl 2 (.int .i64 i) rfl <| w_sl 6 (.int .u64 (s / 4294967296)) rfl <| w_sl 7 (.int .i64 (w64 (j_ + 1))) rfl <| hh.l0 hle he h7 h_d
theorem Qt.b0_ok {k : Nat} {h : Qt.Hs} (hh : Qt.OK h) {H0 H : Hp} {L : Items} {r : (List Int)} {jk_ : Nat → Value} {r_ d : List Int} {i carry j_ : Int} {vr_ v_d : Value} {i_r_ : Item'} (hle : H0.le H) (he : Qt.b0 k h r_ d i carry j_ = some r) (h_r_ : Sl kU32 H 167 i_r_ vr_ r_) (h_d : Src kU32 H L v_d d) : Wp Tryz.prog 158 44 Qt.Kl0 (upd (upd (upd (upd (upd jk_ 0 (vr_)) 1 (v_d)) 2 (.int .i64 i)) 6 (.int .u64 carry)) 7 (.int .i64 j_)) H (i_r_ :: L) (Qt.R vr_ H0 L r) := by
 unfold Qt.b0 at he
 unfold Qt.Kl0
 refine Q0 <| wR rfl <| wM (.int .i64 j_) rfl rfl <| wM v_d rfl rfl <| w_d rfl (Xr Tryz.underlying22 rfl h_d.th) <| w_d rfl (G9 rfl rfl) <| Qb ?_
 rcases its he with ⟨c1, he⟩ | ⟨c1, he⟩
 ·
  refine QE rfl (dt c1) <| QH <| Q0 <| Xa <| wR rfl <| wM vr_ rfl rfl <| wM (.int .i64 i) rfl rfl <| wM (.int .i64 j_) rfl rfl <| w_d rfl (XR (c := w64 (i + j_)) rfl rfl rfl) <| rK he fun c2 he => w_d rfl (YK (sz := 1) Tryz.underlying22 sz167 rfl h_r_.shp rfl c2) ?_
  refine w_d rfl (XP ty167 rfl (h_r_.src .here) c2) <| w_d rfl (X7 (c := (rd r_ (w64 (i + j_))) % 18446744073709551616) Tryz.underlying167 Tryz.underlying113 rfl rfl) <| wM (.int .u64 carry) rfl rfl <| w_d rfl (XR (c := (((rd r_ (w64 (i + j_))) % 18446744073709551616) + carry) % 18446744073709551616) rfl rfl rfl) <| wA (.int .u64 ((((rd r_ (w64 (i + j_))) % 18446744073709551616) + carry) % 18446744073709551616)) rfl rfl <| wE <| wR rfl <| wM (.int .i64 j_) rfl rfl <| wM v_d rfl rfl <| w_d rfl (Xr Tryz.underlying22 rfl h_d.th) ?_
  refine w_d rfl (XY rfl rfl) <| Qb ?_
  rcases its he with ⟨c3, he⟩ | ⟨c3, he⟩
  ·
   refine QE rfl (dt c3) <| QU rfl <| wM (.int .u64 ((((rd r_ (w64 (i + j_))) % 18446744073709551616) + carry) % 18446744073709551616)) rfl rfl <| wM v_d rfl rfl <| wM (.int .i64 j_) rfl rfl <| rK he fun c4 he => w_d rfl (XK (sz := 1) Tryz.underlying22 sz167 rfl h_d.th rfl c4) <| w_d rfl (XP ty167 rfl h_d.th c4) <| w_d rfl (X7 (c := (rd d j_) % 18446744073709551616) Tryz.underlying167 Tryz.underlying113 rfl rfl) <| w_d rfl (XR (c := (((((rd r_ (w64 (i + j_))) % 18446744073709551616) + carry) % 18446744073709551616) + ((rd d j_) % 18446744073709551616)) % 18446744073709551616) rfl rfl rfl) <| wA (.int .u64 ((((((rd r_ (w64 (i + j_))) % 18446744073709551616) + carry) % 18446744073709551616) + ((rd d j_) % 18446744073709551616)) % 18446744073709551616)) rfl rfl <| Qb ?_
   refine w_sl 0 (vr_) rfl <| w_sl 1 (v_d) rfl <| w_sl 2 (.int .i64 i) rfl <| w_sl 6 (.int .u64 carry) rfl <| w_sl 7 (.int .i64 j_) rfl <| w_sl 8 (.int .u64 ((((((rd r_ (w64 (i + j_))) % 18446744073709551616) + carry) % 18446744073709551616) + ((rd d j_) % 18446744073709551616)) % 18446744073709551616)) rfl <| Qt.j2_ok (k := k) hh hle he h_r_ h_d
  ·
   refine QF rfl (df c3) <| QH <| w_sl 0 (vr_) rfl <| w_sl 1 (v_d) rfl <| w_sl 2 (.int .i64 i) rfl <| w_sl 6 (.int .u64 carry) rfl <| w_sl 7 (.int .i64 j_) rfl <| w_sl 8 (.int .u64 ((((rd r_ (w64 (i + j_))) % 18446744073709551616) + carry) % 18446744073709551616)) rfl <| Qt.j2_ok (k := k) hh hle he h_r_ h_d
 ·
  refine QF rfl (df c1) <| X8 rfl ?_
  obtain rfl := sj he
  refine NI fn_158 rs_158 .nil <| ⟨⟨[], _, rfl, h_r_⟩, hle, rfl⟩
theorem Qt.ok : ∀ k, Qt.OK (Qt.hs k)
 | 0 => ⟨(by intros; exact nomatch (show none = some _ from by assumption))⟩
 | k + 1 => ⟨Qt.b0_ok (k := k) (Qt.ok k)⟩
theorem Qt.calls (k : Nat) {H : Hp} {L : Items} {r_ d : List Int} {i : Int} {vr_ : Value} {it_ : Item'} {v0_d : Value} {r : (List Int)} (he : Qt.f k r_ d i = some r) (hr_ : Sl kU32 H 167 it_ vr_ r_) (h0_d : Src kU32 H L v0_d d) : Ct Tryz.prog 158 ⟨[vr_, v0_d, .int .i64 i]⟩ H (it_ :: L) (fun v H' L' => ∃ it', L' = it' :: L ∧ H.le H' ∧ Sl kU32 H' 167 it' vr_ r ∧ v = .tuple ⟨[]⟩) := by
 refine NE (Q := fun v => v = .tuple ⟨[]⟩) ?_
 have hle : H.le H := .refl _
 have hh := Qt.ok k
 unfold Qt.f at he
 refine QV (args := [_, _, _]) fn_158 rfl nt_158 rfl <| wR rfl <| wA (.int .u64 0) rfl rfl <| wQ rfl <| wA (.int .i64 0) rfl rfl <| Qb <| Xa <| X9 <| w_sl 0 (vr_) rfl ?_
 refine w_sl 1 (v0_d) rfl <| w_sl 2 (.int .i64 i) rfl <| w_sl 6 (.int .u64 0) rfl <| w_sl 7 (.int .i64 0) rfl <| hh.l0 hle he hr_ h0_d
noncomputable def Q8.C : Code := (Tryz.f119.body).getD .skip
abbrev Q8.out (r : (List Int)) (H : Hp) (v : Value) : Prop := Ro kU32 H v r
noncomputable def Q8.f (k : Nat) (s : List Int) : Option (List Int) := if 0 + s.length ≤ 35184372088704 then (some (s)) else none
theorem Q8.mono : ∀ k y0, LeO (Q8.f k y0) (Q8.f (k + 1) y0) := fun k _ => by unfold Q8.f; exact (LeO.ite (LeO.refl _) (LeO.refl _))
theorem Q8.calls (k : Nat) {H : Hp} {L : Items} {s : List Int} {v0_s : Value} {r : (List Int)} (he : Q8.f k s = some r) (h0_s : Ro kU32 H v0_s s) : Ct Tryz.prog 119 ⟨[v0_s]⟩ H L (fun v H' L' => ∃ it, L' = it :: L ∧ H.le H' ∧ Sl kU32 H' 167 it v r) := by
 refine Uq ?_
 have hle : H.le H := .refl _
 unfold Q8.f at he
 obtain ⟨A_, n_, rfl, hc_, h1_⟩ := h0_s
 cases A_ with
 | none =>
  have e_ : s = [] := h1_.elim id fun h => (by obtain ⟨_, _, h, _⟩ := h; cases h)
  subst e_
  refine rK he fun _ he => QV (args := [.slice none 0 n_]) fn_119 rfl nt_119 rfl <| wR rfl <| wA (.slice none 0 0) rfl rfl <| wE <| wR rfl <| wM (.slice none 0 n_) rfl rfl <| w_d rfl (Up Tryz.underlying22 rfl) <| Qb ?_
  refine QE rfl rfl <| wR rfl <| wA (.slice none 0 0) rfl rfl <| Qb <| Yx ?_
  obtain rfl := sj he
  refine Qn fn_119 rs_119 (.tmp (v := .slice none 0 0) rfl .nil) <| ⟨⟨[], _, rfl, (Ji _ _ _)⟩, hle⟩
 | some a_ =>
  have h0_s : Ro kU32 H (.slice (some a_) s.length n_) s := ⟨some a_, n_, rfl, hc_, h1_⟩
  refine QV (args := [.slice (some a_) s.length n_]) fn_119 rfl nt_119 rfl <| wR rfl <| wA (.slice none 0 0) rfl rfl <| wE <| wR rfl <| wM (.slice (some a_) s.length n_) rfl rfl <| w_d rfl (OH Tryz.underlying22 rfl rfl) <| Qb <| QF rfl rfl ?_
  refine QH <| wR rfl <| w_a rfl (o_buildSlice' (kd := kU32) (css := []) (xs := []) (parts := []) Tryz.underlying22 ti167 rfl rfl trivial rfl (by decide)) ?_
  rintro v1 _ _ ⟨i2, rfl, rfl, h3⟩
  refine wM (.slice (some a_) s.length n_) rfl rfl <| rK he fun c4 he => w_a rfl (o_append' (kd := kU32) (F := fun z_ => z_ :: L) Tryz.underlying22 Tryz.underlying22 ti167 rfl (by first | omega | (simp only [List.nil_append, List.length_cons, List.length_nil]; omega)) rfl rfl h3 h0_s.src (fun _ => .here)) ?_
  rintro v5 _ _ ⟨i6, rfl, rfl, h7⟩
  refine wA v5 rfl rfl <| Qb ?_
  obtain rfl := sj he
  refine Qn fn_119 rs_119 (.tmp (v := v5) rfl .nil) <| ⟨⟨[], _, rfl, h7⟩, hle⟩
theorem Q8.callsR (k : Nat) {H : Hp} {L : Items} {s : List Int} {v0_s : Value} {r : (List Int)} (he : Q8.f k s = some r) (h0_s : Ro kU32 H v0_s s) : Ct Tryz.prog 119 ⟨[v0_s]⟩ H L (cR H L (Q8.out r)) := VB (Q8.calls k he h0_s)
end Go.Proofs.YtkccpkccdbfomaaGreatDoor.GBA

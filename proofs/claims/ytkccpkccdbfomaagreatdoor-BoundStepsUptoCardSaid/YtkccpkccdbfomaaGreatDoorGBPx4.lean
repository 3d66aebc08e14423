/- printed by gen.py -/
import Derived.Test.YtkccpkccdbfomaaGreatDoorGBPx3
namespace Go.Proofs.YtkccpkccdbfomaaGreatDoor.GBP
open Go Go.RowKit Go.Proofs.YtkccpkccdbfomaaGreatDoorK Go.Proofs.YtkccpkccdbfomaaGreatDoor
set_option maxRecDepth 100000
set_option maxHeartbeats 2000000
set_option linter.unusedVariables false
set_option linter.unusedSimpArgs false
noncomputable def Qu.C : Code := (Tryz.f16.body).getD .skip
def Qu.out (r : Qg) (H : Hp) (v : Value) : Prop := ∃ v0, v = (Qa r v0) ∧ Ro kI64 H v0 r.f_D
theorem Qu.out_mono (r : Qg) {H H' : Hp} {v : Value} (hle : H.le H') (h : Qu.out r H v) : Qu.out r H' v := by
 obtain ⟨v0, rfl, h0⟩ := h; exact ⟨v0, rfl, h0.mono hle⟩
abbrev Qu.R (H0 : Hp) (L : Items) (r : Qg) := fR H0 L (Qu.out r)
structure Qu.Hs where
 l0 : Int → Int → (List Int) → Option Qg
noncomputable def Qu.j1 (k : Nat) (h : Qu.Hs) (n v_ : Int) : Option Qg := h.l0 n v_ []
noncomputable def Qu.b0 (k : Nat) (h : Qu.Hs) (n v_ : Int) (d : List Int) : Option Qg := if 0 < v_ then (if d.length + 1 ≤ 17592186044288 then (h.l0 n ((Int.tdiv v_ 10) % 18446744073709551616) (d ++ [w64 (Int.tmod v_ 10)])) else none) else (some (⟨decide (n < 0), d⟩))
noncomputable def Qu.hs : Nat → Qu.Hs
 | 0 => ⟨fun _ _ _ => none⟩
 | k + 1 => ⟨fun x0 x1 x2 => Qu.b0 k (Qu.hs k) x0 x1 x2⟩
noncomputable def Qu.f (k : Nat) (n : Int) : Option Qg := (fun h : Qu.Hs => if n < 0 then (Qu.j1 k h n ((0 - ((n) % 18446744073709551616)) % 18446744073709551616)) else (Qu.j1 k h n ((n) % 18446744073709551616))) (Qu.hs k)
noncomputable def Qu.Kj1 : List Item := .code (seqR (seqR (seqR Qu.C))) :: []
noncomputable def Qu.Kl0 : List Item := .code (lopB (blkB (seqL (seqR (seqR (seqR (seqR Qu.C))))))) :: .inLoop (lopB (blkB (seqL (seqR (seqR (seqR (seqR Qu.C))))))) :: .inBlock 0 :: .code (seqR (seqR (seqR (seqR (seqR Qu.C))))) :: []
structure Qu.OK (h : Qu.Hs) : Prop where
 l0 : ∀ {H0 H : Hp} {L : Items} {r : Qg} {jk_ : Nat → Value} {n : Int} {v_ : Int} {d : List Int} {v_d : Value} {i_d : Item'} {b_t2 : Nat} (_ : H0.le H) (_he : h.l0 n v_ d = some r) (_h_d : Sl kI64 H 3 i_d v_d d), Wp Tryz.prog 16 25 Qu.Kl0 (upd (upd (upd (upd jk_ 0 (.int .i64 n)) 2 (pt b_t2)) 3 (.int .u64 v_)) 4 (v_d)) H (i_d :: bx b_t2 [.bool false, .slice none 0 0] 37 :: L) (Qu.R H0 L r)
theorem Qu.j1_ok {k : Nat} {h : Qu.Hs} (hh : Qu.OK h) {H0 H : Hp} {L : Items} {r : Qg} {jk_ : Nat → Value} {n v_ : Int} {b_t2 : Nat} (hle : H0.le H) (he : Qu.j1 k h n v_ = some r) : Wp Tryz.prog 16 25 Qu.Kj1 (upd (upd (upd jk_ 0 (.int .i64 n)) 2 (pt b_t2)) 3 (.int .u64 v_)) H (bx b_t2 [.bool false, .slice none 0 0] 37 :: L) (Qu.R H0 L r) := by
 unfold Qu.j1 at he
 unfold Qu.Kj1
 refine wR rfl <| wA (.slice none 0 0) rfl rfl <| wE <| Q2 <| X5 <| YG <| w_sl 0 (.int .i64 n) rfl <| w_sl 2 (pt b_t2) rfl <| w_sl 3 (.int .u64 v_) rfl <| w_sl 4 (.slice none 0 0) rfl <| hh.l0 hle he (ZW _ _ _)
theorem Qu.b0_ok {k : Nat} {h : Qu.Hs} (hh : Qu.OK h) {H0 H : Hp} {L : Items} {r : Qg} {jk_ : Nat → Value} {n v_ : Int} {d : List Int} {v_d : Value} {i_d : Item'} {b_t2 : Nat} (hle : H0.le H) (he : Qu.b0 k h n v_ d = some r) (h_d : Sl kI64 H 3 i_d v_d d) : Wp Tryz.prog 16 25 Qu.Kl0 (upd (upd (upd (upd jk_ 0 (.int .i64 n)) 2 (pt b_t2)) 3 (.int .u64 v_)) 4 (v_d)) H (i_d :: bx b_t2 [.bool false, .slice none 0 0] 37 :: L) (Qu.R H0 L r) := by
 unfold Qu.b0 at he
 unfold Qu.Kl0
 refine QX <| wR rfl <| wM (.int .u64 v_) rfl rfl <| w_d rfl (YV rfl rfl) <| Qb ?_
 rcases its he with ⟨c3, he⟩ | ⟨c3, he⟩
 ·
  refine QD rfl (dt c3) <| QF <| Q2 <| wR rfl <| wM v_d rfl rfl <| wM (.int .u64 v_) rfl rfl <| w_d rfl (Jj rfl rfl (by decide)) <| w_d rfl (Yd (c := w64 (Int.tmod v_ 10)) Tryz.underlying113 Tryz.underlying3 rfl rfl) <| w_a rfl (o_buildSlice' (kd := kI64) (css := [[.int .i64 (w64 (Int.tmod v_ 10))]]) (xs := [w64 (Int.tmod v_ 10)]) (parts := [(0, .int .i64 (w64 (Int.tmod v_ 10)))]) Tryz.underlying35 ti3 rfl ⟨_, _, rfl, rfl, rfl⟩ ⟨rfl, trivial⟩ rfl (by decide)) ?_
  rintro v4 _ _ ⟨i5, rfl, rfl, h6⟩
  refine rK he fun c7 he => w_a rfl (o_append' (kd := kI64) (F := fun z_ => i5 :: z_ :: bx b_t2 [.bool false, .slice none 0 0] 37 :: L) Tryz.underlying35 Tryz.underlying35 ti3 rfl (by first | omega | (simp only [List.nil_append, List.length_cons, List.length_nil]; omega)) rfl rfl h_d (h6.src .here) (fun _ => .h1)) ?_
  rintro v8 _ _ ⟨i9, rfl, rfl, h10⟩
  refine wA v8 rfl rfl <| Qb <| QL rfl <| wM (.int .u64 v_) rfl rfl <| w_d rfl (Jn (c := (Int.tdiv v_ 10) % 18446744073709551616) rfl rfl (by decide) rfl) <| wA (.int .u64 ((Int.tdiv v_ 10) % 18446744073709551616)) rfl rfl <| Qb <| Xw <| XG <| Yu .here <| w_sl 0 (.int .i64 n) rfl <| w_sl 2 (pt b_t2) rfl ?_
  refine w_sl 3 (.int .u64 ((Int.tdiv v_ 10) % 18446744073709551616)) rfl <| w_sl 4 (v8) rfl <| hh.l0 hle he h10
 ·
  refine QE rfl (df c3) <| X3 rfl <| wR rfl <| wM (.int .i64 n) rfl rfl <| w_d rfl (XW rfl rfl) <| wM v_d rfl rfl <| w_d rfl (XE (cs' := [.bool (decide (n < 0)), v_d]) Tryz.underlying37 zr37 rfl (by kernel_rfl) (parts := [(0, .bool (decide (n < 0))), (1, v_d)]) rfl (.cons (YH rfl sz4 rfl) rfl rfl u1 (.cons (YH rfl sz35 rfl) h_d.cells rfl (.there u1) .nil))) <| wS (.agg ⟨[.bool (decide (n < 0)), v_d]⟩) sz37 rfl rfl rfl rfl rfl (oc rfl (oc (h_d.one) oz)) .h1 u2 <| Qb <| Yx h_d .here ?_
  intro H11 e12 h13
  obtain rfl := sj he
  refine Ql fn_16 rs_16 (.box (v := .agg ⟨[.bool (decide (n < 0)), v_d]⟩) rfl ty37 rfl rfl .h1 rfl .nil) <| ⟨⟨[_, _], rfl⟩, hle.trans e12, ⟨v_d, rfl, h13⟩⟩
theorem Qu.ok : ∀ k, Qu.OK (Qu.hs k)
 | 0 => ⟨(by intros; exact nomatch (show none = some _ from by assumption))⟩
 | k + 1 => ⟨Qu.b0_ok (k := k) (Qu.ok k)⟩
theorem Qu.calls (k : Nat) {H : Hp} {L : Items} {n : Int} {r : Qg} (he : Qu.f k n = some r) : Ct Tryz.prog 16 ⟨[.int .i64 n]⟩ H L (cR H L (Qu.out r)) := by
 refine XN (O := Qu.out r) ?_
 have hle : H.le H := .refl _
 have hh := Qu.ok k
 unfold Qu.f at he
 refine QV (args := [_]) fn_16 rfl nt_16 rfl <| wR rfl <| wN zr37 rfl rfl fun b1 => wQ rfl <| wM (.int .i64 n) rfl rfl <| w_d rfl (Yd (c := (n) % 18446744073709551616) Tryz.underlying2 Tryz.underlying113 rfl rfl) <| wA (.int .u64 ((n) % 18446744073709551616)) rfl rfl <| wE ?_
 refine wR rfl <| wM (.int .i64 n) rfl rfl <| w_d rfl (XW rfl rfl) <| Qb ?_
 rcases its he with ⟨c2, he⟩ | ⟨c2, he⟩
 ·
  refine QD rfl (dt c2) <| QL rfl <| wM (.int .u64 ((n) % 18446744073709551616)) rfl rfl <| w_d rfl (YE (c := (0 - ((n) % 18446744073709551616)) % 18446744073709551616) rfl rfl rfl) <| wA (.int .u64 ((0 - ((n) % 18446744073709551616)) % 18446744073709551616)) rfl rfl <| Qb <| w_sl 0 (.int .i64 n) rfl <| w_sl 2 (pt b1) rfl <| w_sl 3 (.int .u64 ((0 - ((n) % 18446744073709551616)) % 18446744073709551616)) rfl <| Qu.j1_ok (k := k) hh hle he
 ·
  refine QE rfl (df c2) <| QF <| w_sl 0 (.int .i64 n) rfl <| w_sl 2 (pt b1) rfl <| w_sl 3 (.int .u64 ((n) % 18446744073709551616)) rfl <| Qu.j1_ok (k := k) hh hle he
noncomputable def QJ.C : Code := (Tryz.f67.body).getD .skip
abbrev QJ.out (r : (List Int)) (H : Hp) (v : Value) : Prop := Ro kI64 H v r
abbrev QJ.R (H0 : Hp) (L : Items) (r : (List Int)) := fR H0 L (QJ.out r)
structure QJ.Hs where
 l0 : (List Int) → Option (List Int)
noncomputable def QJ.b0 (k : Nat) (h : QJ.Hs) (d : List Int) : Option (List Int) := if (decide (0 < (d.length : Int))) = true → (0 : Int) ≤ w64 ((d.length : Int) - 1) ∧ w64 ((d.length : Int) - 1) < (d.length : Int) then (if ((decide (0 < (d.length : Int))) && (decide ((rd d (w64 ((d.length : Int) - 1))) = 0))) = true then (if (0 : Int) ≤ 0 ∧ (0 : Int) ≤ w64 ((d.length : Int) - 1) ∧ w64 ((d.length : Int) - 1) ≤ (d.length : Int) then (h.l0 (cut d 0 (w64 ((d.length : Int) - 1)))) else none) else (some (d))) else none
noncomputable def QJ.hs : Nat → QJ.Hs
 | 0 => ⟨fun _ => none⟩
 | k + 1 => ⟨fun x0 => QJ.b0 k (QJ.hs k) x0⟩
noncomputable def QJ.f (k : Nat) (d : List Int) : Option (List Int) := (fun h : QJ.Hs => h.l0 d) (QJ.hs k)
noncomputable def QJ.Kl0 : List Item := .code (lopB (blkB (seqL (seqR QJ.C)))) :: .inLoop (lopB (blkB (seqL (seqR QJ.C)))) :: .inBlock 0 :: .code (seqR (seqR QJ.C)) :: []
structure QJ.OK (h : QJ.Hs) : Prop where
 l0 : ∀ {H0 H : Hp} {L : Items} {r : (List Int)} {jk_ : Nat → Value} {d : List Int} {v_d : Value} (_ : H0.le H) (_he : h.l0 d = some r) (_h_d : Ro kI64 H v_d d), Wp Tryz.prog 67 21 QJ.Kl0 (upd (upd jk_ 0 (v_d)) 2 (.slice none 0 0)) H (L) (QJ.R H0 L r)
theorem QJ.b0_ok {k : Nat} {h : QJ.Hs} (hh : QJ.OK h) {H0 H : Hp} {L : Items} {r : (List Int)} {jk_ : Nat → Value} {d : List Int} {v_d : Value} (hle : H0.le H) (he : QJ.b0 k h d = some r) (h_d : Ro kI64 H v_d d) : Wp Tryz.prog 67 21 QJ.Kl0 (upd (upd jk_ 0 (v_d)) 2 (.slice none 0 0)) H (L) (QJ.R H0 L r) := by
 unfold QJ.b0 at he
 unfold QJ.Kl0
 refine QX <| wR rfl <| wM v_d rfl rfl <| w_d rfl (Xo Tryz.underlying35 rfl h_d.src) <| w_d rfl (YV rfl rfl) <| wM (.bool (decide (0 < (d.length : Int)))) rfl rfl <| w_g (g := decide (0 < (d.length : Int))) rfl rfl rfl wn_t (fun g1 => QT (v := v_d) rfl) <| w_g (g := decide (0 < (d.length : Int))) rfl rfl rfl wn_t (fun g2 => QT (v := v_d) rfl) <| w_g (g := decide (0 < (d.length : Int))) rfl rfl rfl wn_t (fun g3 => Xo Tryz.underlying35 (cvt g3) h_d.src) <| w_g (g := decide (0 < (d.length : Int))) rfl rfl rfl wn_t (fun g4 => YE (c := w64 ((d.length : Int) - 1)) (cvt g4) rfl rfl) <| rK he fun c6 he => ?_
 refine w_g (g := decide (0 < (d.length : Int))) rfl rfl rfl wn_t (fun g5 => XA (sz := 1) Tryz.underlying35 sz3 (cvt g5) h_d.src (cvt g5) (c6 g5)) <| w_g (g := decide (0 < (d.length : Int))) rfl rfl rfl wn_t (fun g7 => XR ty3 (cvt g7) h_d.src (c6 g7)) <| w_g (g := decide (0 < (d.length : Int))) rfl rfl rfl wn_t (fun g8 => YY (cvt g8) rfl) <| w_d rfl (d_and' (b := (decide (0 < (d.length : Int)))) (p := (decide ((rd d (w64 ((d.length : Int) - 1))) = 0))) rfl rfl rfl) <| Qb ?_
 rcases its he with ⟨c9, he⟩ | ⟨c9, he⟩
 ·
  refine QD rfl c9 <| QF <| Q2 <| QL rfl <| wM v_d rfl rfl <| wM v_d rfl rfl <| w_d rfl (Xo Tryz.underlying35 rfl h_d.src) <| w_d rfl (YE (c := w64 ((d.length : Int) - 1)) rfl rfl rfl) <| rK he fun c10 he => w_a rfl (Nc (kd := kI64) Tryz.underlying35 sz3 rfl h_d (.inl ⟨rfl, rfl⟩) (.inr ⟨_, _, rfl, rfl⟩) c10) ?_
  rintro v11 _ _ ⟨h12, rfl, rfl⟩
  refine wA v11 rfl rfl <| Qb <| Xw <| XG <| w_sl 0 (v11) rfl <| w_sl 2 (.slice none 0 0) rfl <| hh.l0 hle he h12
 ·
  refine QE rfl (Bool.eq_false_iff.2 c9) <| X3 rfl <| wR rfl <| wM v_d rfl rfl <| wA v_d rfl rfl <| Qb ?_
  obtain rfl := sj he
  refine Ql fn_67 rs_67 (.tmp (v := v_d) rfl .nil) <| ⟨⟨[], rfl⟩, hle, h_d⟩
theorem QJ.ok : ∀ k, QJ.OK (QJ.hs k)
 | 0 => ⟨(by intros; exact nomatch (show none = some _ from by assumption))⟩
 | k + 1 => ⟨QJ.b0_ok (k := k) (QJ.ok k)⟩
theorem QJ.calls (k : Nat) {H : Hp} {L : Items} {d : List Int} {v0_d : Value} {r : (List Int)} (he : QJ.f k d = some r) (h0_d : Ro kI64 H v0_d d) : Ct Tryz.prog 67 ⟨[v0_d]⟩ H L (cR H L (QJ.out r)) := by
 refine XN (O := QJ.out r) ?_
 have hle : H.le H := .refl _
 have hh := QJ.ok k
 unfold QJ.f at he
 refine QV (args := [_]) fn_67 rfl nt_67 rfl <| wR rfl <| wA (.slice none 0 0) rfl rfl <| wE <| Q2 <| X5 <| w_sl 0 (v0_d) rfl <| w_sl 2 (.slice none 0 0) rfl <| hh.l0 hle he h0_d
noncomputable def Xu.C : Code := (Tryz.f66.body).getD .skip
def Xu.out (r : Qg) (H : Hp) (v : Value) : Prop := ∃ v0, v = (Qa r v0) ∧ Ro kI64 H v0 r.f_D
theorem Xu.out_mono (r : Qg) {H H' : Hp} {v : Value} (hle : H.le H') (h : Xu.out r H v) : Xu.out r H' v := by
 obtain ⟨v0, rfl, h0⟩ := h; exact ⟨v0, rfl, h0.mono hle⟩
noncomputable def Xu.f (k : Nat) (neg : Bool) (d : List Int) : Option Qg := some (⟨neg && (decide (0 < (d.length : Int))), d⟩)
theorem Xu.calls (k : Nat) {H : Hp} {L : Items} {neg : Bool} {d : List Int} {v0_d : Value} {r : Qg} (he : Xu.f k neg d = some r) (h0_d : Ro kI64 H v0_d d) : Ct Tryz.prog 66 ⟨[.bool neg, v0_d]⟩ H L (cR H L (Xu.out r)) := by
 refine XN (O := Xu.out r) ?_
 have hle : H.le H := .refl _
 unfold Xu.f at he
 refine QV (args := [_, _]) fn_66 rfl nt_66 rfl <| wR rfl <| wN zr37 rfl rfl fun b1 => wQ rfl <| wM (.bool neg) rfl rfl <| wM (.bool neg) rfl rfl <| w_g (g := neg) rfl rfl rfl wn_t (fun g2 => QT (v := v0_d) rfl) <| w_g (g := neg) rfl rfl rfl wn_t (fun g3 => Xo Tryz.underlying35 (cvt g3) h0_d.src) <| w_g (g := neg) rfl rfl rfl wn_t (fun g4 => YV (cvt g4) rfl) ?_
 refine w_d rfl (d_and' (b := neg) (p := (decide (0 < (d.length : Int)))) rfl rfl rfl) <| wM v0_d rfl rfl <| w_d rfl (XE (cs' := [.bool (neg && (decide (0 < (d.length : Int)))), v0_d]) Tryz.underlying37 zr37 rfl (by kernel_rfl) (parts := [(0, .bool (neg && (decide (0 < (d.length : Int))))), (1, v0_d)]) rfl (.cons (YH rfl sz4 rfl) rfl rfl u1 (.cons (YH rfl sz35 rfl) h0_d.cells rfl (.there u1) .nil))) <| wS (.agg ⟨[.bool (neg && (decide (0 < (d.length : Int)))), v0_d]⟩) sz37 rfl rfl rfl rfl rfl (oc rfl (oc (h0_d.one) oz)) .here u2 <| Qb ?_
 obtain rfl := sj he
 refine Ql fn_66 rs_66 (.box (v := .agg ⟨[.bool (neg && (decide (0 < (d.length : Int)))), v0_d]⟩) rfl ty37 rfl rfl .here rfl .nil) <| ⟨⟨[_], rfl⟩, hle, ⟨v0_d, rfl, h0_d⟩⟩
noncomputable def Qi.C : Code := (Tryz.f15.body).getD .skip
def Qi.out (r : Qg) (H : Hp) (v : Value) : Prop := ∃ v0, v = (Qa r v0) ∧ Ro kI64 H v0 r.f_D
theorem Qi.out_mono (r : Qg) {H H' : Hp} {v : Value} (hle : H.le H') (h : Qi.out r H v) : Qi.out r H' v := by
 obtain ⟨v0, rfl, h0⟩ := h; exact ⟨v0, rfl, h0.mono hle⟩
abbrev Qi.R (H0 : Hp) (L : Items) (r : Qg) := fR H0 L (Qi.out r)
structure Qi.Hs where
 l0 : Bool → (List Int) → Bool → (List Int) → (List Int) → Int → Option Qg
 l1 : Bool → (List Int) → Bool → (List Int) → (List Int) → Int → Int → Int → Option Qg
noncomputable def Qi.b0 (k : Nat) (h : Qi.Hs) (a_0 : Bool) (a_1 : List Int) (b_0 : Bool) (b_1 out : List Int) (i : Int) : Option Qg := if i < (a_1.length : Int) then (h.l1 a_0 a_1 b_0 b_1 out i 0 0) else ((QJ.f k out).bind fun y12 => (Xu.f k (!(a_0 == b_0)) y12).bind fun y20 => some (y20))
noncomputable def Qi.j3 (k : Nat) (h : Qi.Hs) (a_0 : Bool) (a_1 : List Int) (b_0 : Bool) (b_1 out : List Int) (i c_ j_ v_ : Int) : Option Qg := if (0 : Int) ≤ w64 (i + j_) ∧ w64 (i + j_) < (out.length : Int) then (h.l1 a_0 a_1 b_0 b_1 (out.set (w64 (i + j_) : Int).toNat (Int.tmod v_ 10)) i (w64 (Int.tdiv v_ 10)) (w64 (j_ + 1))) else none
noncomputable def Qi.b1 (k : Nat) (h : Qi.Hs) (a_0 : Bool) (a_1 : List Int) (b_0 : Bool) (b_1 out : List Int) (i c_ j_ : Int) : Option Qg := if j_ ≤ (b_1.length : Int) then (if (0 : Int) ≤ w64 (i + j_) ∧ w64 (i + j_) < (out.length : Int) then (if j_ < (b_1.length : Int) then (if (0 : Int) ≤ i ∧ i < (a_1.length : Int) then (if (0 : Int) ≤ j_ ∧ j_ < (b_1.length : Int) then (Qi.j3 k h a_0 a_1 b_0 b_1 out i c_ j_ (w64 ((w64 ((rd out (w64 (i + j_))) + c_)) + (w64 ((rd a_1 i) * (rd b_1 j_)))))) else none) else none) else (Qi.j3 k h a_0 a_1 b_0 b_1 out i c_ j_ (w64 ((rd out (w64 (i + j_))) + c_)))) else none) else (h.l0 a_0 a_1 b_0 b_1 out (w64 (i + 1)))
noncomputable def Qi.hs : Nat → Qi.Hs
 | 0 => ⟨fun _ _ _ _ _ _ => none, fun _ _ _ _ _ _ _ _ => none⟩
 | k + 1 => ⟨fun x0 x1 x2 x3 x4 x5 => Qi.b0 k (Qi.hs k) x0 x1 x2 x3 x4 x5, fun x0 x1 x2 x3 x4 x5 x6 x7 => Qi.b1 k (Qi.hs k) x0 x1 x2 x3 x4 x5 x6 x7⟩
noncomputable def Qi.f (k : Nat) (a b : Qg) : Option Qg := (fun h : Qi.Hs => if 0 ≤ w64 ((w64 ((a.f_D.length : Int) + (b.f_D.length : Int))) + 1) ∧ w64 ((w64 ((a.f_D.length : Int) + (b.f_D.length : Int))) + 1) ≤ 35184372088832 then (h.l0 a.f_Neg a.f_D b.f_Neg b.f_D (List.replicate (w64 ((w64 ((a.f_D.length : Int) + (b.f_D.length : Int))) + 1) : Int).toNat (0 : Int)) 0) else none) (Qi.hs k)
noncomputable def Qi.Kl0 : List Item := .code (lopB (blkB (seqR (seqL (seqR (seqR Qi.C)))))) :: .inLoop (lopB (blkB (seqR (seqL (seqR (seqR Qi.C)))))) :: .inBlock 0 :: .code (seqR (seqR (seqR Qi.C))) :: []
noncomputable def Qi.Kl1 : List Item := .code (lopB (blkB (seqR (seqR (blkB (seqL (seqR (lopB (blkB (seqR (seqL (seqR (seqR Qi.C))))))))))))) :: .inLoop (lopB (blkB (seqR (seqR (blkB (seqL (seqR (lopB (blkB (seqR (seqL (seqR (seqR Qi.C))))))))))))) :: .inBlock 2 :: .inBlock 1 :: .code (seqR (seqR (lopB (blkB (seqR (seqL (seqR (seqR Qi.C)))))))) :: .inLoop (lopB (blkB (seqR (seqL (seqR (seqR Qi.C)))))) :: .inBlock 0 :: .code (seqR (seqR (seqR Qi.C))) :: []
noncomputable def Qi.Kj3 : List Item := .code (seqR (seqR (blkB (seqL (seqR (lopB (blkB (seqR (seqR (blkB (seqL (seqR (lopB (blkB (seqR (seqL (seqR (seqR Qi.C)))))))))))))))))) :: .inBlock 3 :: .code (seqR (seqR (lopB (blkB (seqR (seqR (blkB (seqL (seqR (lopB (blkB (seqR (seqL (seqR (seqR Qi.C))))))))))))))) :: .inLoop (lopB (blkB (seqR (seqR (blkB (seqL (seqR (lopB (blkB (seqR (seqL (seqR (seqR Qi.C))))))))))))) :: .inBlock 2 :: .inBlock 1 :: .code (seqR (seqR (lopB (blkB (seqR (seqL (seqR (seqR Qi.C)))))))) :: .inLoop (lopB (blkB (seqR (seqL (seqR (seqR Qi.C)))))) :: .inBlock 0 :: .code (seqR (seqR (seqR Qi.C))) :: []
structure Qi.OK (h : Qi.Hs) : Prop where
 l0 : ∀ {H0 H : Hp} {L : Items} {r : Qg} {jk_ : Nat → Value} {a_0 : Bool} {a_1 : List Int} {b_0 : Bool} {b_1 : List Int} {out : List Int} {i : Int} {v_a_1 : Value} {v_b_1 : Value} {v_out : Value} {i_out : Item'} {b_a : Nat} {b_b : Nat} {b_t4 : Nat} (_ : H0.le H) (_he : h.l0 a_0 a_1 b_0 b_1 out i = some r) (_h_a_1 : Ro kI64 H v_a_1 a_1) (_h_b_1 : Ro kI64 H v_b_1 b_1) (_h_out : Sl kI64 H 3 i_out v_out out), Wp Tryz.prog 15 76 Qi.Kl0 (upd (upd (upd (upd (upd jk_ 2 (pt b_a)) 3 (pt b_b)) 4 (pt b_t4)) 5 (v_out)) 6 (.int .i64 i)) H (i_out :: bx b_t4 [.bool false, .slice none 0 0] 37 :: bx b_b [.bool b_0, v_b_1] 37 :: bx b_a [.bool a_0, v_a_1] 37 :: L) (Qi.R H0 L r)
 l1 : ∀ {H0 H : Hp} {L : Items} {r : Qg} {jk_ : Nat → Value} {a_0 : Bool} {a_1 : List Int} {b_0 : Bool} {b_1 : List Int} {out : List Int} {i : Int} {c_ : Int} {j_ : Int} {v_a_1 : Value} {v_b_1 : Value} {v_out : Value} {i_out : Item'} {b_a : Nat} {b_b : Nat} {b_t4 : Nat} (_ : H0.le H) (_he : h.l1 a_0 a_1 b_0 b_1 out i c_ j_ = some r) (_h_a_1 : Ro kI64 H v_a_1 a_1) (_h_b_1 : Ro kI64 H v_b_1 b_1) (_h_out : Sl kI64 H 3 i_out v_out out), Wp Tryz.prog 15 76 Qi.Kl1 (upd (upd (upd (upd (upd (upd (upd jk_ 2 (pt b_a)) 3 (pt b_b)) 4 (pt b_t4)) 5 (v_out)) 6 (.int .i64 i)) 7 (.int .i64 c_)) 8 (.int .i64 j_)) H (i_out :: bx b_t4 [.bool false, .slice none 0 0] 37 :: bx b_b [.bool b_0, v_b_1] 37 :: bx b_a [.bool a_0, v_a_1] 37 :: L) (Qi.R H0 L r)
theorem Qi.b0_ok {k : Nat} {h : Qi.Hs} (hh : Qi.OK h) {H0 H : Hp} {L : Items} {r : Qg} {jk_ : Nat → Value} {a_0 : Bool} {a_1 : List Int} {b_0 : Bool} {b_1 out : List Int} {i : Int} {v_a_1 v_b_1 v_out : Value} {i_out : Item'} {b_a b_b b_t4 : Nat} (hle : H0.le H) (he : Qi.b0 k h a_0 a_1 b_0 b_1 out i = some r) (h_a_1 : Ro kI64 H v_a_1 a_1) (h_b_1 : Ro kI64 H v_b_1 b_1) (h_out : Sl kI64 H 3 i_out v_out out) : Wp Tryz.prog 15 76 Qi.Kl0 (upd (upd (upd (upd (upd jk_ 2 (pt b_a)) 3 (pt b_b)) 4 (pt b_t4)) 5 (v_out)) 6 (.int .i64 i)) H (i_out :: bx b_t4 [.bool false, .slice none 0 0] 37 :: bx b_b [.bool b_0, v_b_1] 37 :: bx b_a [.bool a_0, v_a_1] 37 :: L) (Qi.R H0 L r) := by
 unfold Qi.b0 at he
 unfold Qi.Kl0
 refine QX <| wR rfl <| wM (.int .i64 i) rfl rfl <| w_d rfl (Xi (o' := 1) Tryz.underlying37 rfl sz35 rfl rfl rfl) <| wL v_a_1 ty35 rfl rfl .h3 rfl rfl <| w_d rfl (Xo Tryz.underlying35 rfl h_a_1.src) <| w_d rfl (XW rfl rfl) <| Qb ?_
 rcases its he with ⟨c8, he⟩ | ⟨c8, he⟩
 ·
  refine QD rfl (dt c8) <| QF <| QX <| Q2 <| wR rfl <| wA (.int .i64 0) rfl rfl <| wQ rfl <| wA (.int .i64 0) rfl rfl <| Qb ?_
  refine Q2 <| X5 <| w_sl 2 (pt b_a) rfl <| w_sl 3 (pt b_b) rfl <| w_sl 4 (pt b_t4) rfl <| w_sl 5 (v_out) rfl <| w_sl 6 (.int .i64 i) rfl <| w_sl 7 (.int .i64 0) rfl <| w_sl 8 (.int .i64 0) rfl <| hh.l1 hle he h_a_1 h_b_1 h_out
 ·
  refine QE rfl (df c8) <| X3 rfl <| QX <| Yx h_out .here ?_
  intro H9 e10 h11
  refine bK he fun y12 hy13 he => XC (p := 7) (tl := [7, 8]) [[], [(0, some 68)], [], [(2, some 70)], [(1, some 69), (3, some 71)], [], [(5, some 73)]] [some 68, some 69, some 70, some 71, some 72, some 73, some 74] (fctF (.is (pt b_a) :: .is (.bool a_0) :: .is (pt b_b) :: .is (.bool b_0) :: .is (.bool (!(a_0 == b_0))) :: .is (v_out) :: .ro kI64 (y12) :: [])) (fun m_ => none :: bx b_t4 [.bool false, .slice none 0 0] 37 :: bx b_b [.bool b_0, v_b_1] 37 :: bx b_a [.bool a_0, v_a_1] 37 :: L) (fun _ => none) mixed (by kernel_rfl) (by kernel_rfl) rfl (Xq (by kernel_rfl)) ⟨(fun H' m_ hH hm_ hu_ => dn <| s_d (m_ 0) rfl (Xi (o' := 0) Tryz.underlying37 rfl sz4 rfl rfl rfl) (by exact rfl) rfl), (by rintro H' m_ hH hm_ hu_ _ rfl; exact dn <| s_d (m_ 1) rfl (QN (v := .bool a_0) ty4 rfl .h3 rfl rfl rfl rfl) (by exact rfl) rfl), (fun H' m_ hH hm_ hu_ => dn <| s_d (m_ 2) rfl (Xi (o' := 0) Tryz.underlying37 rfl sz4 rfl rfl rfl) (by exact rfl) rfl), (by rintro H' m_ hH hm_ hu_ _ rfl; exact dn <| s_d (m_ 3) rfl (QN (v := .bool b_0) ty4 rfl .h2 rfl rfl rfl rfl) (by exact rfl) rfl), (by rintro H' m_ hH hm_ hu_ _ rfl _ rfl; exact dn <| s_d (m_ 4) rfl (G9 (a := a_0) (b := b_0) Tryz.underlying4 rfl rfl) (by exact rfl) rfl), (fun H' m_ hH hm_ hu_ => dn <| s_d (m_ 5) rfl (QT (v := v_out) rfl) (by exact rfl) rfl), (by rintro H' m_ hH hm_ hu_ _ rfl; exact dn <| s_k (m_ 6) rfl (Qm co67 (vs := [v_out]) rfl (QJ.calls k hy13 (h11.mono hH))) rfl (by rintro v_ H_ _ ⟨rfl, e_, h_⟩; exact ⟨rfl, e_, h_⟩)), trivial⟩ ?_
  intro H18 e19
  rintro _ _ rfl _ _ rfl _ _ rfl _ _ rfl _ _ rfl _ _ rfl v16 _ (h17 : Ro kI64 H18 v16 y12)
  refine bK he fun y20 hy21 he => w_a rfl (Qm co66 (vs := [.bool (!(a_0 == b_0)), v16]) rfl (Xu.calls k hy21 h17)) ?_
  rintro _ H22 _ ⟨rfl, e23, v24, rfl, h25⟩
  refine wS (Qa y20 v24) sz37 rfl rfl rfl rfl rfl (Xe h25) .h1 u2 <| Qb ?_
  obtain rfl := sj he
  refine Ql fn_15 rs_15 (.box (v := (Qa y20 v24)) rfl ty37 rfl rfl .h1 rfl .nil) <| ⟨⟨[_, _, _, _], rfl⟩, hle.trans ((e10.trans e19).trans e23), ⟨v24, rfl, h25⟩⟩
theorem Qi.j3_ok {k : Nat} {h : Qi.Hs} (hh : Qi.OK h) {H0 H : Hp} {L : Items} {r : Qg} {jk_ : Nat → Value} {a_0 : Bool} {a_1 : List Int} {b_0 : Bool} {b_1 out : List Int} {i c_ j_ v_ : Int} {v_a_1 v_b_1 v_out : Value} {i_out : Item'} {b_a b_b b_t4 : Nat} (hle : H0.le H) (he : Qi.j3 k h a_0 a_1 b_0 b_1 out i c_ j_ v_ = some r) (h_a_1 : Ro kI64 H v_a_1 a_1) (h_b_1 : Ro kI64 H v_b_1 b_1) (h_out : Sl kI64 H 3 i_out v_out out) : Wp Tryz.prog 15 76 Qi.Kj3 (upd (upd (upd (upd (upd (upd (upd (upd jk_ 2 (pt b_a)) 3 (pt b_b)) 4 (pt b_t4)) 5 (v_out)) 6 (.int .i64 i)) 7 (.int .i64 c_)) 8 (.int .i64 j_)) 9 (.int .i64 v_)) H (i_out :: bx b_t4 [.bool false, .slice none 0 0] 37 :: bx b_b [.bool b_0, v_b_1] 37 :: bx b_a [.bool a_0, v_a_1] 37 :: L) (Qi.R H0 L r) := by
 unfold Qi.j3 at he
 unfold Qi.Kj3
 refine wR rfl <| wM v_out rfl rfl <| wM (.int .i64 i) rfl rfl <| wM (.int .i64 j_) rfl rfl <| w_d rfl (XQ (c := w64 (i + j_)) rfl rfl rfl) <| wM (.int .i64 v_) rfl rfl <| w_d rfl (Jj rfl rfl (by decide)) <| rK he fun c33 he => w_d rfl (YM (sz := 1) Tryz.underlying35 sz3 rfl h_out.shp rfl c33) <| w_a0 rfl (Y1 (kd := kI64) (v := .int .i64 (Int.tmod v_ 10)) (F := fun z_ => z_ :: bx b_t4 [.bool false, .slice none 0 0] 37 :: bx b_b [.bool b_0, v_b_1] 37 :: bx b_a [.bool a_0, v_a_1] 37 :: L) sz3 rfl rfl rfl rfl h_out c33 (fun _ => .here)) ?_
 rintro _ _ _ ⟨i34, rfl, rfl, rfl, h35⟩
 refine Qb <| QL rfl <| wM (.int .i64 v_) rfl rfl <| w_d rfl (Jn (c := w64 (Int.tdiv v_ 10)) rfl rfl (by decide) rfl) <| wA (.int .i64 (w64 (Int.tdiv v_ 10))) rfl rfl <| Qb <| Xw <| QL rfl <| wM (.int .i64 j_) rfl rfl <| w_d rfl (XQ (c := w64 (j_ + 1)) rfl rfl rfl) <| wA (.int .i64 (w64 (j_ + 1))) rfl rfl <| Qb ?_
 refine XG <| w_sl 2 (pt b_a) rfl <| w_sl 3 (pt b_b) rfl <| w_sl 4 (pt b_t4) rfl <| w_sl 5 (v_out) rfl <| w_sl 6 (.int .i64 i) rfl <| w_sl 7 (.int .i64 (w64 (Int.tdiv v_ 10))) rfl <| w_sl 8 (.int .i64 (w64 (j_ + 1))) rfl <| hh.l1 hle he h_a_1 h_b_1 h35
theorem Qi.b1_ok {k : Nat} {h : Qi.Hs} (hh : Qi.OK h) {H0 H : Hp} {L : Items} {r : Qg} {jk_ : Nat → Value} {a_0 : Bool} {a_1 : List Int} {b_0 : Bool} {b_1 out : List Int} {i c_ j_ : Int} {v_a_1 v_b_1 v_out : Value} {i_out : Item'} {b_a b_b b_t4 : Nat} (hle : H0.le H) (he : Qi.b1 k h a_0 a_1 b_0 b_1 out i c_ j_ = some r) (h_a_1 : Ro kI64 H v_a_1 a_1) (h_b_1 : Ro kI64 H v_b_1 b_1) (h_out : Sl kI64 H 3 i_out v_out out) : Wp Tryz.prog 15 76 Qi.Kl1 (upd (upd (upd (upd (upd (upd (upd jk_ 2 (pt b_a)) 3 (pt b_b)) 4 (pt b_t4)) 5 (v_out)) 6 (.int .i64 i)) 7 (.int .i64 c_)) 8 (.int .i64 j_)) H (i_out :: bx b_t4 [.bool false, .slice none 0 0] 37 :: bx b_b [.bool b_0, v_b_1] 37 :: bx b_a [.bool a_0, v_a_1] 37 :: L) (Qi.R H0 L r) := by
 unfold Qi.b1 at he
 unfold Qi.Kl1
 refine QX <| wR rfl <| wM (.int .i64 j_) rfl rfl <| w_d rfl (Xi (o' := 1) Tryz.underlying37 rfl sz35 rfl rfl rfl) <| wL v_b_1 ty35 rfl rfl .h2 rfl rfl <| w_d rfl (Xo Tryz.underlying35 rfl h_b_1.src) <| w_d rfl (MB rfl rfl) <| Qb ?_
 rcases its he with ⟨c26, he⟩ | ⟨c26, he⟩
 ·
  refine QD rfl (dt c26) <| QF <| QX <| Q2 <| wR rfl <| wM v_out rfl rfl <| wM (.int .i64 i) rfl rfl <| wM (.int .i64 j_) rfl rfl <| w_d rfl (XQ (c := w64 (i + j_)) rfl rfl rfl) <| rK he fun c27 he => w_d rfl (YM (sz := 1) Tryz.underlying35 sz3 rfl h_out.shp rfl c27) ?_
  refine w_d rfl (XR ty3 rfl (h_out.src .here) c27) <| wM (.int .i64 c_) rfl rfl <| w_d rfl (XQ (c := w64 ((rd out (w64 (i + j_))) + c_)) rfl rfl rfl) <| wA (.int .i64 (w64 ((rd out (w64 (i + j_))) + c_))) rfl rfl <| wE <| wR rfl <| wM (.int .i64 j_) rfl rfl <| w_d rfl (Xi (o' := 1) Tryz.underlying37 rfl sz35 rfl rfl rfl) <| wL v_b_1 ty35 rfl rfl .h2 rfl rfl <| w_d rfl (Xo Tryz.underlying35 rfl h_b_1.src) ?_
  refine w_d rfl (XW rfl rfl) <| Qb ?_
  rcases its he with ⟨c28, he⟩ | ⟨c28, he⟩
  ·
   refine QD rfl (dt c28) <| rK he fun c29 he => rK he fun c30 he => XC (p := 12) (tl := [12, 13]) [[], [], [(1, some 47)], [], [(2, some 48), (3, some 49)], [(4, some 50)], [], [(6, some 52)], [], [(7, some 53), (8, some 54)], [(9, some 55)], [(5, some 51), (10, some 56)]] [some 46, some 47, some 48, some 49, some 50, some 51, some 52, some 53, some 54, some 55, some 56, some 57] (fctF (.is (.int .i64 (w64 ((rd out (w64 (i + j_))) + c_))) :: .is (po b_a 1) :: .is (v_a_1) :: .is (.int .i64 i) :: .is (.pointer (some (pel v_a_1 i 1))) :: .is (.int .i64 (rd a_1 i)) :: .is (po b_b 1) :: .is (v_b_1) :: .is (.int .i64 j_) :: .is (.pointer (some (pel v_b_1 j_ 1))) :: .is (.int .i64 (rd b_1 j_)) :: .is (.int .i64 (w64 ((rd a_1 i) * (rd b_1 j_)))) :: [])) (fun m_ => i_out :: bx b_t4 [.bool false, .slice none 0 0] 37 :: bx b_b [.bool b_0, v_b_1] 37 :: bx b_a [.bool a_0, v_a_1] 37 :: L) (fun _ => none) mixed (by kernel_rfl) (by kernel_rfl) rfl (Xq (by kernel_rfl)) ⟨(fun H' m_ hH hm_ hu_ => dn <| s_d (m_ 0) rfl (QT (v := .int .i64 (w64 ((rd out (w64 (i + j_))) + c_))) rfl) (by exact rfl) rfl), (fun H' m_ hH hm_ hu_ => dn <| s_d (m_ 1) rfl (Xi (o' := 1) Tryz.underlying37 rfl sz35 rfl rfl rfl) (by exact rfl) rfl), (by rintro H' m_ hH hm_ hu_ _ rfl; exact dn <| s_d (m_ 2) rfl (QN (v := v_a_1) ty35 rfl .h3 rfl rfl rfl rfl) (by exact rfl) rfl), (fun H' m_ hH hm_ hu_ => dn <| s_d (m_ 3) rfl (QT (v := .int .i64 i) rfl) (by exact rfl) rfl), (by rintro H' m_ hH hm_ hu_ _ rfl _ rfl; exact dn <| s_d (m_ 4) rfl (XA (sz := 1) Tryz.underlying35 sz3 rfl (h_a_1.mono hH).src rfl c29) (by exact rfl) rfl), (by rintro H' m_ hH hm_ hu_ _ rfl; exact dn <| s_d (m_ 5) rfl (XR ty3 rfl (h_a_1.mono hH).src c29) (by exact rfl) rfl), (fun H' m_ hH hm_ hu_ => dn <| s_d (m_ 6) rfl (Xi (o' := 1) Tryz.underlying37 rfl sz35 rfl rfl rfl) (by exact rfl) rfl), (by rintro H' m_ hH hm_ hu_ _ rfl; exact dn <| s_d (m_ 7) rfl (QN (v := v_b_1) ty35 rfl .h2 rfl rfl rfl rfl) (by exact rfl) rfl), (fun H' m_ hH hm_ hu_ => dn <| s_d (m_ 8) rfl (QT (v := .int .i64 j_) rfl) (by exact rfl) rfl), (by rintro H' m_ hH hm_ hu_ _ rfl _ rfl; exact dn <| s_d (m_ 9) rfl (XA (sz := 1) Tryz.underlying35 sz3 rfl (h_b_1.mono hH).src rfl c30) (by exact rfl) rfl), (by rintro H' m_ hH hm_ hu_ _ rfl; exact dn <| s_d (m_ 10) rfl (XR ty3 rfl (h_b_1.mono hH).src c30) (by exact rfl) rfl), (by rintro H' m_ hH hm_ hu_ _ rfl _ rfl; exact dn <| s_d (m_ 11) rfl (JD (c := w64 ((rd a_1 i) * (rd b_1 j_))) rfl rfl rfl) (by exact rfl) rfl), trivial⟩ ?_
   intro H31 e32
   rintro _ _ rfl _ _ rfl _ _ rfl _ _ rfl _ _ rfl _ _ rfl _ _ rfl _ _ rfl _ _ rfl _ _ rfl _ _ rfl _ _ rfl
   refine w_d rfl (XQ (c := w64 ((w64 ((rd out (w64 (i + j_))) + c_)) + (w64 ((rd a_1 i) * (rd b_1 j_))))) rfl rfl rfl) <| wA (.int .i64 (w64 ((w64 ((rd out (w64 (i + j_))) + c_)) + (w64 ((rd a_1 i) * (rd b_1 j_)))))) rfl rfl <| Qb <| w_sl 2 (pt b_a) rfl <| w_sl 3 (pt b_b) rfl <| w_sl 4 (pt b_t4) rfl <| w_sl 5 (v_out) rfl <| w_sl 6 (.int .i64 i) rfl <| w_sl 7 (.int .i64 c_) rfl <| w_sl 8 (.int .i64 j_) rfl <| w_sl 9 (.int .i64 (w64 ((w64 ((rd out (w64 (i + j_))) + c_)) + (w64 ((rd a_1 i) * (rd b_1 j_)))))) rfl <| Qi.j3_ok (k := k) hh (hle.trans e32) he (h_a_1.mono e32) (h_b_1.mono e32) (h_out.mono e32)
  ·
   refine QE rfl (df c28) <| QF <| w_sl 2 (pt b_a) rfl <| w_sl 3 (pt b_b) rfl <| w_sl 4 (pt b_t4) rfl <| w_sl 5 (v_out) rfl <| w_sl 6 (.int .i64 i) rfl <| w_sl 7 (.int .i64 c_) rfl <| w_sl 8 (.int .i64 j_) rfl <| w_sl 9 (.int .i64 (w64 ((rd out (w64 (i + j_))) + c_))) rfl <| Qi.j3_ok (k := k) hh hle he h_a_1 h_b_1 h_out
 ·
  refine QE rfl (df c26) <| X3 rfl <| Xw <| QL rfl <| wM (.int .i64 i) rfl rfl <| w_d rfl (XQ (c := w64 (i + 1)) rfl rfl rfl) <| wA (.int .i64 (w64 (i + 1))) rfl rfl <| Qb <| XG <| w_sl 2 (pt b_a) rfl <| w_sl 3 (pt b_b) rfl <| w_sl 4 (pt b_t4) rfl ?_
  refine w_sl 5 (v_out) rfl <| w_sl 6 (.int .i64 (w64 (i + 1))) rfl <| hh.l0 hle he h_a_1 h_b_1 h_out
theorem Qi.ok : ∀ k, Qi.OK (Qi.hs k)
 | 0 => ⟨(by intros; exact nomatch (show none = some _ from by assumption)), (by intros; exact nomatch (show none = some _ from by assumption))⟩
 | k + 1 => ⟨Qi.b0_ok (k := k) (Qi.ok k), Qi.b1_ok (k := k) (Qi.ok k)⟩
theorem Qi.calls (k : Nat) {H : Hp} {L : Items} {a b : Qg} {v0_a v1_b : Value} {r : Qg} (he : Qi.f k a b = some r) (h0_a : Ro kI64 H v0_a a.f_D) (h1_b : Ro kI64 H v1_b b.f_D) : Ct Tryz.prog 15 ⟨[(Qa a v0_a), (Qa b v1_b)]⟩ H L (cR H L (Qi.out r)) := by
 refine XN (O := Qi.out r) ?_
 have hle : H.le H := .refl _
 have hh := Qi.ok k
 unfold Qi.f at he
 refine QV (args := [_, _]) fn_15 rfl nt_15 rfl <| wR rfl <| wB (Qa a v0_a) rfl rfl rfl <| fun b1 => wB (Qa b v1_b) rfl rfl rfl <| fun b2 => wN zr37 rfl rfl fun b3 => wQ rfl <| w_d rfl (Xi (o' := 1) Tryz.underlying37 rfl sz35 rfl rfl rfl) <| wL v0_a ty35 rfl rfl .h2 rfl rfl <| w_d rfl (Xo Tryz.underlying35 rfl h0_a.src) ?_
 refine w_d rfl (Xi (o' := 1) Tryz.underlying37 rfl sz35 rfl rfl rfl) <| wL v1_b ty35 rfl rfl .h1 rfl rfl <| w_d rfl (Xo Tryz.underlying35 rfl h1_b.src) <| w_d rfl (XQ (c := w64 ((a.f_D.length : Int) + (b.f_D.length : Int))) rfl rfl rfl) <| w_d rfl (XQ (c := w64 ((w64 ((a.f_D.length : Int) + (b.f_D.length : Int))) + 1)) rfl rfl rfl) <| rK he fun c4 he => w_a rfl (o_make' (kd := kI64) (z0 := 0) Tryz.underlying35 ti3 (zp3 _) rfl rfl (by omega) (by omega) (by omega)) ?_
 rintro v5 _ _ ⟨i6, rfl, rfl, h7⟩
 refine wA v5 rfl rfl <| wE <| wR rfl <| wA (.int .i64 0) rfl rfl <| Qb <| Q2 <| X5 <| w_sl 2 (pt b1) rfl <| w_sl 3 (pt b2) rfl <| w_sl 4 (pt b3) rfl ?_
 refine w_sl 5 (v5) rfl <| w_sl 6 (.int .i64 0) rfl <| hh.l0 hle he h0_a h1_b h7
noncomputable def Qo.C : Code := (Tryz.f68.body).getD .skip
abbrev Qo.out (r : (List Int)) (H : Hp) (v : Value) : Prop := Ro kI64 H v r
abbrev Qo.R (H0 : Hp) (L : Items) (r : (List Int)) := fR H0 L (Qo.out r)
structure Qo.Hs where
 l0 : (List Int) → (List Int) → (List Int) → Int → Int → Option (List Int)
noncomputable def Qo.j3 (k : Nat) (h : Qo.Hs) (a b out : List Int) (c_ i : Int) : Option (List Int) := if out.length + 1 ≤ 17592186044288 then (h.l0 a b (out ++ [Int.tmod c_ 10]) (w64 (Int.tdiv c_ 10)) (w64 (i + 1))) else none
noncomputable def Qo.j2 (k : Nat) (h : Qo.Hs) (a b out : List Int) (c_ i : Int) : Option (List Int) := if i < (b.length : Int) then (if (0 : Int) ≤ i ∧ i < (b.length : Int) then (Qo.j3 k h a b out (w64 (c_ + (rd b i))) i) else none) else (Qo.j3 k h a b out c_ i)
noncomputable def Qo.b0 (k : Nat) (h : Qo.Hs) (a b out : List Int) (c_ i : Int) : Option (List Int) := if ((decide (i < (a.length : Int))) || (decide (i < (b.length : Int)))) = true then (if i < (a.length : Int) then (if (0 : Int) ≤ i ∧ i < (a.length : Int) then (Qo.j2 k h a b out (w64 (c_ + (rd a i))) i) else none) else (Qo.j2 k h a b out c_ i)) else (if out.length + 1 ≤ 17592186044288 then ((QJ.f k (out ++ [c_])).bind fun y18 => some (y18)) else none)
noncomputable def Qo.hs : Nat → Qo.Hs
 | 0 => ⟨fun _ _ _ _ _ => none⟩
 | k + 1 => ⟨fun x0 x1 x2 x3 x4 => Qo.b0 k (Qo.hs k) x0 x1 x2 x3 x4⟩
noncomputable def Qo.f (k : Nat) (a b : List Int) : Option (List Int) := (fun h : Qo.Hs => h.l0 a b [] 0 0) (Qo.hs k)
noncomputable def Qo.Kl0 : List Item := .code (lopB (blkB (seqR (seqL (seqR (seqR (seqR Qo.C))))))) :: .inLoop (lopB (blkB (seqR (seqL (seqR (seqR (seqR Qo.C))))))) :: .inBlock 0 :: .code (seqR (seqR (seqR (seqR Qo.C)))) :: []
noncomputable def Qo.Kj2 : List Item := .code (seqR (blkB (seqL (seqR (lopB (blkB (seqR (seqL (seqR (seqR (seqR Qo.C))))))))))) :: .inBlock 1 :: .code (seqR (seqR (lopB (blkB (seqR (seqL (seqR (seqR (seqR Qo.C))))))))) :: .inLoop (lopB (blkB (seqR (seqL (seqR (seqR (seqR Qo.C))))))) :: .inBlock 0 :: .code (seqR (seqR (seqR (seqR Qo.C)))) :: []
noncomputable def Qo.Kj3 : List Item := .code (seqR (seqR (blkB (seqL (seqR (lopB (blkB (seqR (seqL (seqR (seqR (seqR Qo.C)))))))))))) :: .inBlock 1 :: .code (seqR (seqR (lopB (blkB (seqR (seqL (seqR (seqR (seqR Qo.C))))))))) :: .inLoop (lopB (blkB (seqR (seqL (seqR (seqR (seqR Qo.C))))))) :: .inBlock 0 :: .code (seqR (seqR (seqR (seqR Qo.C)))) :: []
structure Qo.OK (h : Qo.Hs) : Prop where
 l0 : ∀ {H0 H : Hp} {L : Items} {r : (List Int)} {jk_ : Nat → Value} {a : List Int} {b : List Int} {out : List Int} {c_ : Int} {i : Int} {v_a : Value} {v_b : Value} {v_out : Value} {i_out : Item'} (_ : H0.le H) (_he : h.l0 a b out c_ i = some r) (_h_a : Src kI64 H L v_a a) (_h_b : Src kI64 H L v_b b) (_h_out : Sl kI64 H 3 i_out v_out out), Wp Tryz.prog 68 52 Qo.Kl0 (upd (upd (upd (upd (upd (upd jk_ 0 (v_a)) 1 (v_b)) 4 (.slice none 0 0)) 5 (v_out)) 6 (.int .i64 c_)) 7 (.int .i64 i)) H (i_out :: L) (Qo.R H0 L r)
theorem Qo.j3_ok {k : Nat} {h : Qo.Hs} (hh : Qo.OK h) {H0 H : Hp} {L : Items} {r : (List Int)} {jk_ : Nat → Value} {a b out : List Int} {c_ i : Int} {v_a v_b v_out : Value} {i_out : Item'} (hle : H0.le H) (he : Qo.j3 k h a b out c_ i = some r) (h_a : Src kI64 H L v_a a) (h_b : Src kI64 H L v_b b) (h_out : Sl kI64 H 3 i_out v_out out) : Wp Tryz.prog 68 52 Qo.Kj3 (upd (upd (upd (upd (upd (upd jk_ 0 (v_a)) 1 (v_b)) 4 (.slice none 0 0)) 5 (v_out)) 6 (.int .i64 c_)) 7 (.int .i64 i)) H (i_out :: L) (Qo.R H0 L r) := by
 unfold Qo.j3 at he
 unfold Qo.Kj3
 refine wR rfl <| wM v_out rfl rfl <| wM (.int .i64 c_) rfl rfl <| w_d rfl (Jj rfl rfl (by decide)) <| w_a rfl (o_buildSlice' (kd := kI64) (css := [[.int .i64 (Int.tmod c_ 10)]]) (xs := [Int.tmod c_ 10]) (parts := [(0, .int .i64 (Int.tmod c_ 10))]) Tryz.underlying35 ti3 rfl ⟨_, _, rfl, rfl, rfl⟩ ⟨rfl, trivial⟩ rfl (by decide)) ?_
 rintro v26 _ _ ⟨i27, rfl, rfl, h28⟩
 refine rK he fun c29 he => w_a rfl (o_append' (kd := kI64) (F := fun z_ => i27 :: z_ :: L) Tryz.underlying35 Tryz.underlying35 ti3 rfl (by first | omega | (simp only [List.nil_append, List.length_cons, List.length_nil]; omega)) rfl rfl h_out (h28.src .here) (fun _ => .h1)) ?_
 rintro v30 _ _ ⟨i31, rfl, rfl, h32⟩
 refine wA v30 rfl rfl <| Qb <| QL rfl <| wM (.int .i64 c_) rfl rfl <| w_d rfl (Jn (c := w64 (Int.tdiv c_ 10)) rfl rfl (by decide) rfl) <| wA (.int .i64 (w64 (Int.tdiv c_ 10))) rfl rfl <| Qb <| Xw <| QL rfl <| wM (.int .i64 i) rfl rfl <| w_d rfl (XQ (c := w64 (i + 1)) rfl rfl rfl) <| wA (.int .i64 (w64 (i + 1))) rfl rfl ?_
 refine Qb <| XG <| Yu .here <| w_sl 0 (v_a) rfl <| w_sl 1 (v_b) rfl <| w_sl 4 (.slice none 0 0) rfl <| w_sl 5 (v30) rfl <| w_sl 6 (.int .i64 (w64 (Int.tdiv c_ 10))) rfl <| w_sl 7 (.int .i64 (w64 (i + 1))) rfl <| hh.l0 hle he h_a h_b h32
theorem Qo.j2_ok {k : Nat} {h : Qo.Hs} (hh : Qo.OK h) {H0 H : Hp} {L : Items} {r : (List Int)} {jk_ : Nat → Value} {a b out : List Int} {c_ i : Int} {v_a v_b v_out : Value} {i_out : Item'} (hle : H0.le H) (he : Qo.j2 k h a b out c_ i = some r) (h_a : Src kI64 H L v_a a) (h_b : Src kI64 H L v_b b) (h_out : Sl kI64 H 3 i_out v_out out) : Wp Tryz.prog 68 52 Qo.Kj2 (upd (upd (upd (upd (upd (upd jk_ 0 (v_a)) 1 (v_b)) 4 (.slice none 0 0)) 5 (v_out)) 6 (.int .i64 c_)) 7 (.int .i64 i)) H (i_out :: L) (Qo.R H0 L r) := by
 unfold Qo.j2 at he
 unfold Qo.Kj2
 refine QX <| wR rfl <| wM (.int .i64 i) rfl rfl <| wM v_b rfl rfl <| w_d rfl (Xo Tryz.underlying35 rfl h_b.th) <| w_d rfl (XW rfl rfl) <| Qb ?_
 rcases its he with ⟨c24, he⟩ | ⟨c24, he⟩
 ·
  refine QD rfl (dt c24) <| QL rfl <| wM (.int .i64 c_) rfl rfl <| wM v_b rfl rfl <| wM (.int .i64 i) rfl rfl <| rK he fun c25 he => w_d rfl (XA (sz := 1) Tryz.underlying35 sz3 rfl h_b.th rfl c25) <| w_d rfl (XR ty3 rfl h_b.th c25) <| w_d rfl (XQ (c := w64 (c_ + (rd b i))) rfl rfl rfl) <| wA (.int .i64 (w64 (c_ + (rd b i)))) rfl rfl <| Qb <| w_sl 0 (v_a) rfl ?_
  refine w_sl 1 (v_b) rfl <| w_sl 4 (.slice none 0 0) rfl <| w_sl 5 (v_out) rfl <| w_sl 6 (.int .i64 (w64 (c_ + (rd b i)))) rfl <| w_sl 7 (.int .i64 i) rfl <| Qo.j3_ok (k := k) hh hle he h_a h_b h_out
 ·
  refine QE rfl (df c24) <| QF <| w_sl 0 (v_a) rfl <| w_sl 1 (v_b) rfl <| w_sl 4 (.slice none 0 0) rfl <| w_sl 5 (v_out) rfl <| w_sl 6 (.int .i64 c_) rfl <| w_sl 7 (.int .i64 i) rfl <| Qo.j3_ok (k := k) hh hle he h_a h_b h_out
theorem Qo.b0_ok {k : Nat} {h : Qo.Hs} (hh : Qo.OK h) {H0 H : Hp} {L : Items} {r : (List Int)} {jk_ : Nat → Value} {a b out : List Int} {c_ i : Int} {v_a v_b v_out : Value} {i_out : Item'} (hle : H0.le H) (he : Qo.b0 k h a b out c_ i = some r) (h_a : Src kI64 H L v_a a) (h_b : Src kI64 H L v_b b) (h_out : Sl kI64 H 3 i_out v_out out) : Wp Tryz.prog 68 52 Qo.Kl0 (upd (upd (upd (upd (upd (upd jk_ 0 (v_a)) 1 (v_b)) 4 (.slice none 0 0)) 5 (v_out)) 6 (.int .i64 c_)) 7 (.int .i64 i)) H (i_out :: L) (Qo.R H0 L r) := by
 unfold Qo.b0 at he
 unfold Qo.Kl0
 refine QX <| wR rfl <| wM (.int .i64 i) rfl rfl <| wM v_a rfl rfl <| w_d rfl (Xo Tryz.underlying35 rfl h_a.th) <| w_d rfl (XW rfl rfl) <| wM (.bool (decide (i < (a.length : Int)))) rfl rfl <| w_g (g := !(decide (i < (a.length : Int)))) rfl rfl rfl wn_f (fun g1 => QT (v := .int .i64 i) rfl) <| w_g (g := !(decide (i < (a.length : Int)))) rfl rfl rfl wn_f (fun g2 => QT (v := v_b) rfl) <| w_g (g := !(decide (i < (a.length : Int)))) rfl rfl rfl wn_f (fun g3 => Xo Tryz.underlying35 (cvt g3) h_b.th) <| w_g (g := !(decide (i < (a.length : Int)))) rfl rfl rfl wn_f (fun g4 => XW (cvt g4) (cvt g4)) ?_
 refine w_d rfl (d_or' (b := (decide (i < (a.length : Int)))) (p := (decide (i < (b.length : Int)))) rfl rfl rfl) <| Qb ?_
 rcases its he with ⟨c5, he⟩ | ⟨c5, he⟩
 ·
  refine QD rfl c5 <| QF <| QX <| Q2 <| QX <| wR rfl <| wM (.int .i64 i) rfl rfl <| wM v_a rfl rfl <| w_d rfl (Xo Tryz.underlying35 rfl h_a.th) <| w_d rfl (XW rfl rfl) <| Qb ?_
  rcases its he with ⟨c6, he⟩ | ⟨c6, he⟩
  ·
   refine QD rfl (dt c6) <| QL rfl <| wM (.int .i64 c_) rfl rfl <| wM v_a rfl rfl <| wM (.int .i64 i) rfl rfl <| rK he fun c7 he => w_d rfl (XA (sz := 1) Tryz.underlying35 sz3 rfl h_a.th rfl c7) <| w_d rfl (XR ty3 rfl h_a.th c7) <| w_d rfl (XQ (c := w64 (c_ + (rd a i))) rfl rfl rfl) <| wA (.int .i64 (w64 (c_ + (rd a i)))) rfl rfl <| Qb <| w_sl 0 (v_a) rfl ?_
   refine w_sl 1 (v_b) rfl <| w_sl 4 (.slice none 0 0) rfl <| w_sl 5 (v_out) rfl <| w_sl 6 (.int .i64 (w64 (c_ + (rd a i)))) rfl <| w_sl 7 (.int .i64 i) rfl <| Qo.j2_ok (k := k) hh hle he h_a h_b h_out
  ·
   refine QE rfl (df c6) <| QF <| w_sl 0 (v_a) rfl <| w_sl 1 (v_b) rfl <| w_sl 4 (.slice none 0 0) rfl <| w_sl 5 (v_out) rfl <| w_sl 6 (.int .i64 c_) rfl <| w_sl 7 (.int .i64 i) rfl <| Qo.j2_ok (k := k) hh hle he h_a h_b h_out
 ·
  refine QE rfl (Bool.eq_false_iff.2 c5) <| X3 rfl <| wR rfl <| wM v_out rfl rfl <| wM (.int .i64 c_) rfl rfl <| w_a rfl (o_buildSlice' (kd := kI64) (css := [[.int .i64 c_]]) (xs := [c_]) (parts := [(0, .int .i64 c_)]) Tryz.underlying35 ti3 rfl ⟨_, _, rfl, rfl, rfl⟩ ⟨rfl, trivial⟩ rfl (by decide)) ?_
  rintro v8 _ _ ⟨i9, rfl, rfl, h10⟩
  refine rK he fun c11 he => w_a rfl (o_append' (kd := kI64) (F := fun z_ => i9 :: z_ :: L) Tryz.underlying35 Tryz.underlying35 ti3 rfl (by first | omega | (simp only [List.nil_append, List.length_cons, List.length_nil]; omega)) rfl rfl h_out (h10.src .here) (fun _ => .h1)) ?_
  rintro v12 _ _ ⟨i13, rfl, rfl, h14⟩
  refine Yx h14 .h1 ?_
  intro H15 e16 h17
  refine bK he fun y18 hy19 he => w_a rfl (Qm co67 (vs := [v12]) rfl (QJ.calls k hy19 h17)) ?_
  rintro v22 H20 _ ⟨rfl, e21, h23⟩
  refine wA v22 rfl rfl <| Qb ?_
  obtain rfl := sj he
  refine Ql fn_68 rs_68 (.tmp (v := v22) rfl .nil) <| ⟨⟨[_, _], rfl⟩, hle.trans (e16.trans e21), h23⟩
theorem Qo.ok : ∀ k, Qo.OK (Qo.hs k)
 | 0 => ⟨(by intros; exact nomatch (show none = some _ from by assumption))⟩
 | k + 1 => ⟨Qo.b0_ok (k := k) (Qo.ok k)⟩
theorem Qo.calls (k : Nat) {H : Hp} {L : Items} {a b : List Int} {v0_a v1_b : Value} {r : (List Int)} (he : Qo.f k a b = some r) (h0_a : Src kI64 H L v0_a a) (h1_b : Src kI64 H L v1_b b) : Ct Tryz.prog 68 ⟨[v0_a, v1_b]⟩ H L (cR H L (Qo.out r)) := by
 refine XN (O := Qo.out r) ?_
 have hle : H.le H := .refl _
 have hh := Qo.ok k
 unfold Qo.f at he
 refine QV (args := [_, _]) fn_68 rfl nt_68 rfl <| wR rfl <| wA (.slice none 0 0) rfl rfl <| wQ rfl <| wA (.slice none 0 0) rfl rfl <| wQ rfl <| wA (.int .i64 0) rfl rfl ?_
 refine wE <| wR rfl <| wA (.int .i64 0) rfl rfl <| Qb <| Q2 <| X5 <| YG <| w_sl 0 (v0_a) rfl <| w_sl 1 (v1_b) rfl <| w_sl 4 (.slice none 0 0) rfl ?_
 refine w_sl 5 (.slice none 0 0) rfl <| w_sl 6 (.int .i64 0) rfl <| w_sl 7 (.int .i64 0) rfl <| hh.l0 hle he h0_a h1_b (ZW _ _ _)
noncomputable def QS.C : Code := (Tryz.f69.body).getD .skip
def QS.out (r : Bool) (H : Hp) (v : Value) : Prop := v = .bool r
abbrev QS.R (H0 : Hp) (L : Items) (r : Bool) := fR H0 L (QS.out r)
structure QS.Hs where
 l0 : (List Int) → (List Int) → Bool → Int → Option Bool
noncomputable def QS.b0 (k : Nat) (h : QS.Hs) (a b : List Int) (t4 : Bool) (i : Int) : Option Bool := if 0 ≤ i then (if (0 : Int) ≤ i ∧ i < (a.length : Int) then (if (0 : Int) ≤ i ∧ i < (b.length : Int) then (if (rd a i) = (rd b i) then (h.l0 a b t4 (w64 (i - 1))) else (if (0 : Int) ≤ i ∧ i < (a.length : Int) then (if (0 : Int) ≤ i ∧ i < (b.length : Int) then (some (decide ((rd a i) < (rd b i)))) else none) else none)) else none) else none) else (some (false))
noncomputable def QS.hs : Nat → QS.Hs
 | 0 => ⟨fun _ _ _ _ => none⟩
 | k + 1 => ⟨fun x0 x1 x2 x3 => QS.b0 k (QS.hs k) x0 x1 x2 x3⟩
noncomputable def QS.f (k : Nat) (a b : List Int) : Option Bool := (fun h : QS.Hs => if (a.length : Int) = (b.length : Int) then (h.l0 a b false (w64 ((a.length : Int) - 1))) else (some (decide ((a.length : Int) < (b.length : Int))))) (QS.hs k)
noncomputable def QS.Kl0 : List Item := .code (lopB (blkB (seqR (seqL (seqR (seqR QS.C)))))) :: .inLoop (lopB (blkB (seqR (seqL (seqR (seqR QS.C)))))) :: .inBlock 0 :: .code (seqR (seqR (seqR QS.C))) :: []
structure QS.OK (h : QS.Hs) : Prop where
 l0 : ∀ {H0 H : Hp} {L : Items} {r : Bool} {jk_ : Nat → Value} {a : List Int} {b : List Int} {t4 : Bool} {i : Int} {v_a : Value} {v_b : Value} (_ : H0.le H) (_he : h.l0 a b t4 i = some r) (_h_a : Src kI64 H L v_a a) (_h_b : Src kI64 H L v_b b), Wp Tryz.prog 69 41 QS.Kl0 (upd (upd (upd (upd jk_ 0 (v_a)) 1 (v_b)) 4 (.bool t4)) 5 (.int .i64 i)) H (L) (QS.R H0 L r)
theorem QS.b0_ok {k : Nat} {h : QS.Hs} (hh : QS.OK h) {H0 H : Hp} {L : Items} {r : Bool} {jk_ : Nat → Value} {a b : List Int} {t4 : Bool} {i : Int} {v_a v_b : Value} (hle : H0.le H) (he : QS.b0 k h a b t4 i = some r) (h_a : Src kI64 H L v_a a) (h_b : Src kI64 H L v_b b) : Wp Tryz.prog 69 41 QS.Kl0 (upd (upd (upd (upd jk_ 0 (v_a)) 1 (v_b)) 4 (.bool t4)) 5 (.int .i64 i)) H (L) (QS.R H0 L r) := by
 unfold QS.b0 at he
 unfold QS.Kl0
 refine QX <| wR rfl <| wM (.int .i64 i) rfl rfl <| w_d rfl (ZO rfl rfl) <| Qb ?_
 rcases its he with ⟨c2, he⟩ | ⟨c2, he⟩
 ·
  refine QD rfl (dt c2) <| QF <| QX <| Q2 <| QX <| rK he fun c3 he => rK he fun c4 he => XC (p := 8) (tl := [8]) [[], [], [(0, some 23), (1, some 24)], [(2, some 25)], [], [], [(4, some 27), (5, some 28)], [(6, some 29)]] [some 23, some 24, some 25, some 26, some 27, some 28, some 29, some 30] (fctF (.is (v_a) :: .is (.int .i64 i) :: .is (.pointer (some (pel v_a i 1))) :: .is (.int .i64 (rd a i)) :: .is (v_b) :: .is (.int .i64 i) :: .is (.pointer (some (pel v_b i 1))) :: .is (.int .i64 (rd b i)) :: [])) (fun m_ => L) (fun _ => none) mixed (by kernel_rfl) (by kernel_rfl) rfl (Xq (by kernel_rfl)) ⟨(fun H' m_ hH hm_ hu_ => dn <| s_d (m_ 0) rfl (QT (v := v_a) rfl) (by exact rfl) rfl), (fun H' m_ hH hm_ hu_ => dn <| s_d (m_ 1) rfl (QT (v := .int .i64 i) rfl) (by exact rfl) rfl), (by rintro H' m_ hH hm_ hu_ _ rfl _ rfl; exact dn <| s_d (m_ 2) rfl (XA (sz := 1) Tryz.underlying35 sz3 rfl (h_a.mono hH) rfl c3) (by exact rfl) rfl), (by rintro H' m_ hH hm_ hu_ _ rfl; exact dn <| s_d (m_ 3) rfl (XR ty3 rfl (h_a.mono hH) c3) (by exact rfl) rfl), (fun H' m_ hH hm_ hu_ => dn <| s_d (m_ 4) rfl (QT (v := v_b) rfl) (by exact rfl) rfl), (fun H' m_ hH hm_ hu_ => dn <| s_d (m_ 5) rfl (QT (v := .int .i64 i) rfl) (by exact rfl) rfl), (by rintro H' m_ hH hm_ hu_ _ rfl _ rfl; exact dn <| s_d (m_ 6) rfl (XA (sz := 1) Tryz.underlying35 sz3 rfl (h_b.mono hH) rfl c4) (by exact rfl) rfl), (by rintro H' m_ hH hm_ hu_ _ rfl; exact dn <| s_d (m_ 7) rfl (XR ty3 rfl (h_b.mono hH) c4) (by exact rfl) rfl), trivial⟩ ?_
  intro H5 e6
  rintro _ _ rfl _ _ rfl _ _ rfl _ _ rfl _ _ rfl _ _ rfl _ _ rfl _ _ rfl
  refine w_d rfl (Zl rfl rfl) <| Qb ?_
  rcases its he with ⟨c7, he⟩ | ⟨c7, he⟩
  ·
   refine QE rfl (nd_t c7) <| QF <| Xw <| QL rfl <| wM (.int .i64 i) rfl rfl <| w_d rfl (YE (c := w64 (i - 1)) rfl rfl rfl) <| wA (.int .i64 (w64 (i - 1))) rfl rfl <| Qb <| XG <| w_sl 0 (v_a) rfl <| w_sl 1 (v_b) rfl <| w_sl 4 (.bool t4) rfl ?_
   refine w_sl 5 (.int .i64 (w64 (i - 1))) rfl <| hh.l0 (hle.trans e6) he (h_a.mono e6) (h_b.mono e6)
  ·
   refine QD rfl (nd_f c7) <| QX <| rK he fun c8 he => rK he fun c9 he => XC (p := 8) (tl := [8, 9]) [[], [], [(0, some 32), (1, some 33)], [(2, some 34)], [], [], [(4, some 36), (5, some 37)], [(6, some 38)]] [some 32, some 33, some 34, some 35, some 36, some 37, some 38, some 39] (fctF (.is (v_a) :: .is (.int .i64 i) :: .is (.pointer (some (pel v_a i 1))) :: .is (.int .i64 (rd a i)) :: .is (v_b) :: .is (.int .i64 i) :: .is (.pointer (some (pel v_b i 1))) :: .is (.int .i64 (rd b i)) :: [])) (fun m_ => L) (fun _ => none) mixed (by kernel_rfl) (by kernel_rfl) rfl (Xq (by kernel_rfl)) ⟨(fun H' m_ hH hm_ hu_ => dn <| s_d (m_ 0) rfl (QT (v := v_a) rfl) (by exact rfl) rfl), (fun H' m_ hH hm_ hu_ => dn <| s_d (m_ 1) rfl (QT (v := .int .i64 i) rfl) (by exact rfl) rfl), (by rintro H' m_ hH hm_ hu_ _ rfl _ rfl; exact dn <| s_d (m_ 2) rfl (XA (sz := 1) Tryz.underlying35 sz3 rfl (h_a.mono (e6.trans hH)) rfl c8) (by exact rfl) rfl), (by rintro H' m_ hH hm_ hu_ _ rfl; exact dn <| s_d (m_ 3) rfl (XR ty3 rfl (h_a.mono (e6.trans hH)) c8) (by exact rfl) rfl), (fun H' m_ hH hm_ hu_ => dn <| s_d (m_ 4) rfl (QT (v := v_b) rfl) (by exact rfl) rfl), (fun H' m_ hH hm_ hu_ => dn <| s_d (m_ 5) rfl (QT (v := .int .i64 i) rfl) (by exact rfl) rfl), (by rintro H' m_ hH hm_ hu_ _ rfl _ rfl; exact dn <| s_d (m_ 6) rfl (XA (sz := 1) Tryz.underlying35 sz3 rfl (h_b.mono (e6.trans hH)) rfl c9) (by exact rfl) rfl), (by rintro H' m_ hH hm_ hu_ _ rfl; exact dn <| s_d (m_ 7) rfl (XR ty3 rfl (h_b.mono (e6.trans hH)) c9) (by exact rfl) rfl), trivial⟩ ?_
   intro H10 e11
   rintro _ _ rfl _ _ rfl _ _ rfl _ _ rfl _ _ rfl _ _ rfl _ _ rfl _ _ rfl
   refine w_d rfl (XW rfl rfl) <| wA (.bool (decide ((rd a i) < (rd b i)))) rfl rfl <| Qb ?_
   obtain rfl := sj he
   refine Ql fn_69 rs_69 (.tmp (v := .bool (decide ((rd a i) < (rd b i)))) rfl .nil) <| ⟨⟨[], rfl⟩, hle.trans (e6.trans e11), rfl⟩
 ·
  refine QE rfl (df c2) <| X3 rfl <| wR rfl <| wA (.bool false) rfl rfl <| Qb ?_
  obtain rfl := sj he
  refine Ql fn_69 rs_69 (.tmp (v := .bool false) rfl .nil) <| ⟨⟨[], rfl⟩, hle, rfl⟩
theorem QS.ok : ∀ k, QS.OK (QS.hs k)
 | 0 => ⟨(by intros; exact nomatch (show none = some _ from by assumption))⟩
 | k + 1 => ⟨QS.b0_ok (k := k) (QS.ok k)⟩
theorem QS.calls (k : Nat) {H : Hp} {L : Items} {a b : List Int} {v0_a v1_b : Value} {r : Bool} (he : QS.f k a b = some r) (h0_a : Src kI64 H L v0_a a) (h1_b : Src kI64 H L v1_b b) : Ct Tryz.prog 69 ⟨[v0_a, v1_b]⟩ H L (fun v H' L' => L = L' ∧ H = H' ∧ v = .bool r) := by
 refine Yp (O := QS.out r) (fun _ _ h => h) ?_
 have hle : H.le H := .refl _
 have hh := QS.ok k
 unfold QS.f at he
 refine QV (args := [_, _]) fn_69 rfl nt_69 rfl <| wR rfl <| wA (.bool false) rfl rfl <| wE <| wR rfl <| wM v0_a rfl rfl <| w_d rfl (Xo Tryz.underlying35 rfl h0_a) <| wM v1_b rfl rfl <| w_d rfl (Xo Tryz.underlying35 rfl h1_b) ?_
 refine w_d rfl (Zl rfl rfl) <| Qb ?_
 rcases its he with ⟨c1, he⟩ | ⟨c1, he⟩
 ·
  refine QE rfl (nd_t c1) <| QF <| QX <| wR rfl <| wM v0_a rfl rfl <| w_d rfl (Xo Tryz.underlying35 rfl h0_a) <| w_d rfl (YE (c := w64 ((a.length : Int) - 1)) rfl rfl rfl) <| wA (.int .i64 (w64 ((a.length : Int) - 1))) rfl rfl <| Qb <| Q2 <| X5 ?_
  refine w_sl 0 (v0_a) rfl <| w_sl 1 (v1_b) rfl <| w_sl 4 (.bool false) rfl <| w_sl 5 (.int .i64 (w64 ((a.length : Int) - 1))) rfl <| hh.l0 hle he h0_a h1_b
 ·
  refine QD rfl (nd_f c1) <| wR rfl <| wM v0_a rfl rfl <| w_d rfl (Xo Tryz.underlying35 rfl h0_a) <| wM v1_b rfl rfl <| w_d rfl (Xo Tryz.underlying35 rfl h1_b) <| w_d rfl (XW rfl rfl) <| wA (.bool (decide ((a.length : Int) < (b.length : Int)))) rfl rfl <| Qb ?_
  obtain rfl := sj he
  refine Ql fn_69 rs_69 (.tmp (v := .bool (decide ((a.length : Int) < (b.length : Int)))) rfl .nil) <| ⟨⟨[], rfl⟩, hle, rfl⟩
noncomputable def Qj.C : Code := (Tryz.f70.body).getD .skip
abbrev Qj.out (r : (List Int)) (H : Hp) (v : Value) : Prop := Ro kI64 H v r
abbrev Qj.R (H0 : Hp) (L : Items) (r : (List Int)) := fR H0 L (Qj.out r)
structure Qj.Hs where
 l0 : (List Int) → (List Int) → (List Int) → Int → Int → Option (List Int)
noncomputable def Qj.j3 (k : Nat) (h : Qj.Hs) (a b out : List Int) (c_ i v_ : Int) : Option (List Int) := if out.length + 1 ≤ 17592186044288 then (h.l0 a b (out ++ [v_]) c_ (w64 (i + 1))) else none
noncomputable def Qj.j2 (k : Nat) (h : Qj.Hs) (a b out : List Int) (c_ i v_ : Int) : Option (List Int) := if v_ < 0 then (Qj.j3 k h a b out 1 i (w64 (v_ + 10))) else (Qj.j3 k h a b out 0 i v_)
noncomputable def Qj.b0 (k : Nat) (h : Qj.Hs) (a b out : List Int) (c_ i : Int) : Option (List Int) := if i < (a.length : Int) then (if (0 : Int) ≤ i ∧ i < (a.length : Int) then (if i < (b.length : Int) then (if (0 : Int) ≤ i ∧ i < (b.length : Int) then (Qj.j2 k h a b out c_ i (w64 ((w64 ((rd a i) - c_)) - (rd b i)))) else none) else (Qj.j2 k h a b out c_ i (w64 ((rd a i) - c_)))) else none) else ((QJ.f k out).bind fun y8 => some (y8))
noncomputable def Qj.hs : Nat → Qj.Hs
 | 0 => ⟨fun _ _ _ _ _ => none⟩
 | k + 1 => ⟨fun x0 x1 x2 x3 x4 => Qj.b0 k (Qj.hs k) x0 x1 x2 x3 x4⟩
noncomputable def Qj.f (k : Nat) (a b : List Int) : Option (List Int) := (fun h : Qj.Hs => h.l0 a b [] 0 0) (Qj.hs k)
noncomputable def Qj.Kl0 : List Item := .code (lopB (blkB (seqR (seqL (seqR (seqR (seqR Qj.C))))))) :: .inLoop (lopB (blkB (seqR (seqL (seqR (seqR (seqR Qj.C))))))) :: .inBlock 0 :: .code (seqR (seqR (seqR (seqR Qj.C)))) :: []
noncomputable def Qj.Kj2 : List Item := .code (seqR (seqR (blkB (seqL (seqR (lopB (blkB (seqR (seqL (seqR (seqR (seqR Qj.C)))))))))))) :: .inBlock 1 :: .code (seqR (seqR (lopB (blkB (seqR (seqL (seqR (seqR (seqR Qj.C))))))))) :: .inLoop (lopB (blkB (seqR (seqL (seqR (seqR (seqR Qj.C))))))) :: .inBlock 0 :: .code (seqR (seqR (seqR (seqR Qj.C)))) :: []
noncomputable def Qj.Kj3 : List Item := .code (seqR (seqR (seqR (seqR (blkB (seqL (seqR (lopB (blkB (seqR (seqL (seqR (seqR (seqR Qj.C)))))))))))))) :: .inBlock 1 :: .code (seqR (seqR (lopB (blkB (seqR (seqL (seqR (seqR (seqR Qj.C))))))))) :: .inLoop (lopB (blkB (seqR (seqL (seqR (seqR (seqR Qj.C))))))) :: .inBlock 0 :: .code (seqR (seqR (seqR (seqR Qj.C)))) :: []
structure Qj.OK (h : Qj.Hs) : Prop where
 l0 : ∀ {H0 H : Hp} {L : Items} {r : (List Int)} {jk_ : Nat → Value} {a : List Int} {b : List Int} {out : List Int} {c_ : Int} {i : Int} {v_a : Value} {v_b : Value} {v_out : Value} {i_out : Item'} (_ : H0.le H) (_he : h.l0 a b out c_ i = some r) (_h_a : Src kI64 H L v_a a) (_h_b : Src kI64 H L v_b b) (_h_out : Sl kI64 H 3 i_out v_out out), Wp Tryz.prog 70 41 Qj.Kl0 (upd (upd (upd (upd (upd (upd jk_ 0 (v_a)) 1 (v_b)) 4 (.slice none 0 0)) 5 (v_out)) 6 (.int .i64 c_)) 7 (.int .i64 i)) H (i_out :: L) (Qj.R H0 L r)
theorem Qj.j3_ok {k : Nat} {h : Qj.Hs} (hh : Qj.OK h) {H0 H : Hp} {L : Items} {r : (List Int)} {jk_ : Nat → Value} {a b out : List Int} {c_ i v_ : Int} {v_a v_b v_out : Value} {i_out : Item'} (hle : H0.le H) (he : Qj.j3 k h a b out c_ i v_ = some r) (h_a : Src kI64 H L v_a a) (h_b : Src kI64 H L v_b b) (h_out : Sl kI64 H 3 i_out v_out out) : Wp Tryz.prog 70 41 Qj.Kj3 (upd (upd (upd (upd (upd (upd (upd jk_ 0 (v_a)) 1 (v_b)) 4 (.slice none 0 0)) 5 (v_out)) 6 (.int .i64 c_)) 7 (.int .i64 i)) 8 (.int .i64 v_)) H (i_out :: L) (Qj.R H0 L r) := by
 unfold Qj.j3 at he
 unfold Qj.Kj3
 refine QL rfl <| wM v_out rfl rfl <| wM (.int .i64 v_) rfl rfl <| w_a rfl (o_buildSlice' (kd := kI64) (css := [[.int .i64 v_]]) (xs := [v_]) (parts := [(0, .int .i64 v_)]) Tryz.underlying35 ti3 rfl ⟨_, _, rfl, rfl, rfl⟩ ⟨rfl, trivial⟩ rfl (by decide)) ?_
 rintro v15 _ _ ⟨i16, rfl, rfl, h17⟩
 refine rK he fun c18 he => w_a rfl (o_append' (kd := kI64) (F := fun z_ => i16 :: z_ :: L) Tryz.underlying35 Tryz.underlying35 ti3 rfl (by first | omega | (simp only [List.nil_append, List.length_cons, List.length_nil]; omega)) rfl rfl h_out (h17.src .here) (fun _ => .h1)) ?_
 rintro v19 _ _ ⟨i20, rfl, rfl, h21⟩
 refine wA v19 rfl rfl <| Qb <| Xw <| QL rfl <| wM (.int .i64 i) rfl rfl <| w_d rfl (XQ (c := w64 (i + 1)) rfl rfl rfl) <| wA (.int .i64 (w64 (i + 1))) rfl rfl <| Qb <| XG <| Yu .here <| w_sl 0 (v_a) rfl <| w_sl 1 (v_b) rfl ?_
 refine w_sl 4 (.slice none 0 0) rfl <| w_sl 5 (v19) rfl <| w_sl 6 (.int .i64 c_) rfl <| w_sl 7 (.int .i64 (w64 (i + 1))) rfl <| hh.l0 hle he h_a h_b h21
theorem Qj.j2_ok {k : Nat} {h : Qj.Hs} (hh : Qj.OK h) {H0 H : Hp} {L : Items} {r : (List Int)} {jk_ : Nat → Value} {a b out : List Int} {c_ i v_ : Int} {v_a v_b v_out : Value} {i_out : Item'} (hle : H0.le H) (he : Qj.j2 k h a b out c_ i v_ = some r) (h_a : Src kI64 H L v_a a) (h_b : Src kI64 H L v_b b) (h_out : Sl kI64 H 3 i_out v_out out) : Wp Tryz.prog 70 41 Qj.Kj2 (upd (upd (upd (upd (upd (upd (upd jk_ 0 (v_a)) 1 (v_b)) 4 (.slice none 0 0)) 5 (v_out)) 6 (.int .i64 c_)) 7 (.int .i64 i)) 8 (.int .i64 v_)) H (i_out :: L) (Qj.R H0 L r) := by
 unfold Qj.j2 at he
 unfold Qj.Kj2
 refine wR rfl <| wA (.int .i64 0) rfl rfl <| wE <| wR rfl <| wM (.int .i64 v_) rfl rfl <| w_d rfl (XW rfl rfl) <| Qb ?_
 rcases its he with ⟨c14, he⟩ | ⟨c14, he⟩
 ·
  refine QD rfl (dt c14) <| wR rfl <| wM (.int .i64 v_) rfl rfl <| w_d rfl (XQ (c := w64 (v_ + 10)) rfl rfl rfl) <| wA (.int .i64 (w64 (v_ + 10))) rfl rfl <| Qb <| QL rfl <| wA (.int .i64 1) rfl rfl <| Qb <| w_sl 0 (v_a) rfl <| w_sl 1 (v_b) rfl ?_
  refine w_sl 4 (.slice none 0 0) rfl <| w_sl 5 (v_out) rfl <| w_sl 6 (.int .i64 1) rfl <| w_sl 7 (.int .i64 i) rfl <| w_sl 8 (.int .i64 (w64 (v_ + 10))) rfl <| Qj.j3_ok (k := k) hh hle he h_a h_b h_out
 ·
  refine QE rfl (df c14) <| QF <| w_sl 0 (v_a) rfl <| w_sl 1 (v_b) rfl <| w_sl 4 (.slice none 0 0) rfl <| w_sl 5 (v_out) rfl <| w_sl 6 (.int .i64 0) rfl <| w_sl 7 (.int .i64 i) rfl <| w_sl 8 (.int .i64 v_) rfl <| Qj.j3_ok (k := k) hh hle he h_a h_b h_out
theorem Qj.b0_ok {k : Nat} {h : Qj.Hs} (hh : Qj.OK h) {H0 H : Hp} {L : Items} {r : (List Int)} {jk_ : Nat → Value} {a b out : List Int} {c_ i : Int} {v_a v_b v_out : Value} {i_out : Item'} (hle : H0.le H) (he : Qj.b0 k h a b out c_ i = some r) (h_a : Src kI64 H L v_a a) (h_b : Src kI64 H L v_b b) (h_out : Sl kI64 H 3 i_out v_out out) : Wp Tryz.prog 70 41 Qj.Kl0 (upd (upd (upd (upd (upd (upd jk_ 0 (v_a)) 1 (v_b)) 4 (.slice none 0 0)) 5 (v_out)) 6 (.int .i64 c_)) 7 (.int .i64 i)) H (i_out :: L) (Qj.R H0 L r) := by
 unfold Qj.b0 at he
 unfold Qj.Kl0
 refine QX <| wR rfl <| wM (.int .i64 i) rfl rfl <| wM v_a rfl rfl <| w_d rfl (Xo Tryz.underlying35 rfl h_a.th) <| w_d rfl (XW rfl rfl) <| Qb ?_
 rcases its he with ⟨c1, he⟩ | ⟨c1, he⟩
 ·
  refine QD rfl (dt c1) <| QF <| QX <| Q2 <| wR rfl <| wM v_a rfl rfl <| wM (.int .i64 i) rfl rfl <| rK he fun c2 he => w_d rfl (XA (sz := 1) Tryz.underlying35 sz3 rfl h_a.th rfl c2) <| w_d rfl (XR ty3 rfl h_a.th c2) <| wM (.int .i64 c_) rfl rfl ?_
  refine w_d rfl (YE (c := w64 ((rd a i) - c_)) rfl rfl rfl) <| wA (.int .i64 (w64 ((rd a i) - c_))) rfl rfl <| wE <| wR rfl <| wM (.int .i64 i) rfl rfl <| wM v_b rfl rfl <| w_d rfl (Xo Tryz.underlying35 rfl h_b.th) <| w_d rfl (XW rfl rfl) <| Qb ?_
  rcases its he with ⟨c3, he⟩ | ⟨c3, he⟩
  ·
   refine QD rfl (dt c3) <| QL rfl <| wM (.int .i64 (w64 ((rd a i) - c_))) rfl rfl <| wM v_b rfl rfl <| wM (.int .i64 i) rfl rfl <| rK he fun c4 he => w_d rfl (XA (sz := 1) Tryz.underlying35 sz3 rfl h_b.th rfl c4) <| w_d rfl (XR ty3 rfl h_b.th c4) <| w_d rfl (YE (c := w64 ((w64 ((rd a i) - c_)) - (rd b i))) rfl rfl rfl) <| wA (.int .i64 (w64 ((w64 ((rd a i) - c_)) - (rd b i)))) rfl rfl <| Qb <| w_sl 0 (v_a) rfl ?_
   refine w_sl 1 (v_b) rfl <| w_sl 4 (.slice none 0 0) rfl <| w_sl 5 (v_out) rfl <| w_sl 6 (.int .i64 c_) rfl <| w_sl 7 (.int .i64 i) rfl <| w_sl 8 (.int .i64 (w64 ((w64 ((rd a i) - c_)) - (rd b i)))) rfl <| Qj.j2_ok (k := k) hh hle he h_a h_b h_out
  ·
   refine QE rfl (df c3) <| QF <| w_sl 0 (v_a) rfl <| w_sl 1 (v_b) rfl <| w_sl 4 (.slice none 0 0) rfl <| w_sl 5 (v_out) rfl <| w_sl 6 (.int .i64 c_) rfl <| w_sl 7 (.int .i64 i) rfl <| w_sl 8 (.int .i64 (w64 ((rd a i) - c_))) rfl <| Qj.j2_ok (k := k) hh hle he h_a h_b h_out
 ·
  refine QE rfl (df c1) <| X3 rfl <| wR rfl <| wM v_out rfl rfl <| Yx h_out .here ?_
  intro H5 e6 h7
  refine bK he fun y8 hy9 he => w_a rfl (Qm co67 (vs := [v_out]) rfl (QJ.calls k hy9 h7)) ?_
  rintro v12 H10 _ ⟨rfl, e11, h13⟩
  refine wA v12 rfl rfl <| Qb ?_
  obtain rfl := sj he
  refine Ql fn_70 rs_70 (.tmp (v := v12) rfl .nil) <| ⟨⟨[_], rfl⟩, hle.trans (e6.trans e11), h13⟩
theorem Qj.ok : ∀ k, Qj.OK (Qj.hs k)
 | 0 => ⟨(by intros; exact nomatch (show none = some _ from by assumption))⟩
 | k + 1 => ⟨Qj.b0_ok (k := k) (Qj.ok k)⟩
theorem Qj.calls (k : Nat) {H : Hp} {L : Items} {a b : List Int} {v0_a v1_b : Value} {r : (List Int)} (he : Qj.f k a b = some r) (h0_a : Src kI64 H L v0_a a) (h1_b : Src kI64 H L v1_b b) : Ct Tryz.prog 70 ⟨[v0_a, v1_b]⟩ H L (cR H L (Qj.out r)) := by
 refine XN (O := Qj.out r) ?_
 have hle : H.le H := .refl _
 have hh := Qj.ok k
 unfold Qj.f at he
 refine QV (args := [_, _]) fn_70 rfl nt_70 rfl <| wR rfl <| wA (.slice none 0 0) rfl rfl <| wQ rfl <| wA (.slice none 0 0) rfl rfl <| wQ rfl <| wA (.int .i64 0) rfl rfl ?_
 refine wE <| wR rfl <| wA (.int .i64 0) rfl rfl <| Qb <| Q2 <| X5 <| YG <| w_sl 0 (v0_a) rfl <| w_sl 1 (v1_b) rfl <| w_sl 4 (.slice none 0 0) rfl ?_
 refine w_sl 5 (.slice none 0 0) rfl <| w_sl 6 (.int .i64 0) rfl <| w_sl 7 (.int .i64 0) rfl <| hh.l0 hle he h0_a h1_b (ZW _ _ _)
noncomputable def XT.C : Code := (Tryz.f17.body).getD .skip
def XT.out (r : Qg) (H : Hp) (v : Value) : Prop := ∃ v0, v = (Qa r v0) ∧ Ro kI64 H v0 r.f_D
theorem XT.out_mono (r : Qg) {H H' : Hp} {v : Value} (hle : H.le H') (h : XT.out r H v) : XT.out r H' v := by
 obtain ⟨v0, rfl, h0⟩ := h; exact ⟨v0, rfl, h0.mono hle⟩
noncomputable def XT.f (k : Nat) (a b : Qg) : Option Qg := if (a.f_Neg == b.f_Neg) = true then ((Qo.f k a.f_D b.f_D).bind fun y5 => (Xu.f k a.f_Neg y5).bind fun y13 => some (y13)) else ((QS.f k a.f_D b.f_D).bind fun y19 => if y19 = true then ((Qj.f k b.f_D a.f_D).bind fun y24 => (Xu.f k b.f_Neg y24).bind fun y32 => some (y32)) else ((Qj.f k a.f_D b.f_D).bind fun y38 => (Xu.f k a.f_Neg y38).bind fun y46 => some (y46)))
theorem XT.calls (k : Nat) {H : Hp} {L : Items} {a b : Qg} {v0_a v1_b : Value} {r : Qg} (he : XT.f k a b = some r) (h0_a : Ro kI64 H v0_a a.f_D) (h1_b : Ro kI64 H v1_b b.f_D) : Ct Tryz.prog 17 ⟨[(Qa a v0_a), (Qa b v1_b)]⟩ H L (cR H L (XT.out r)) := by
 refine XN (O := XT.out r) ?_
 have hle : H.le H := .refl _
 unfold XT.f at he
 refine QV (args := [_, _]) fn_17 rfl nt_17 rfl <| wR rfl <| wB (Qa a v0_a) rfl rfl rfl <| fun b1 => wB (Qa b v1_b) rfl rfl rfl <| fun b2 => wN zr37 rfl rfl fun b3 => wE <| wR rfl <| w_d rfl (Xi (o' := 0) Tryz.underlying37 rfl sz4 rfl rfl rfl) <| wL (.bool a.f_Neg) ty4 rfl rfl .h2 rfl rfl ?_
 refine w_d rfl (Xi (o' := 0) Tryz.underlying37 rfl sz4 rfl rfl rfl) <| wL (.bool b.f_Neg) ty4 rfl rfl .h1 rfl rfl <| w_d rfl (Wi (a := a.f_Neg) (b := b.f_Neg) Tryz.underlying4 rfl rfl) <| Qb ?_
 rcases its he with ⟨c4, he⟩ | ⟨c4, he⟩
 ·
  refine QD rfl c4 <| QX <| bK he fun y5 hy6 he => XC (p := 7) (tl := [7, 8]) [[], [(0, some 10)], [], [(2, some 12)], [], [(4, some 14)], [(3, some 13), (5, some 15)]] [some 10, some 11, some 12, some 13, some 14, some 15, some 16] (fctF (.is (pt b1) :: .is (.bool a.f_Neg) :: .is (po b1 1) :: .is (v0_a) :: .is (po b2 1) :: .is (v1_b) :: .ro kI64 (y5) :: [])) (fun m_ => bx b3 [.bool false, .slice none 0 0] 37 :: bx b2 (QH b v1_b) 37 :: bx b1 (QH a v0_a) 37 :: L) (fun _ => none) mixed (by kernel_rfl) (by kernel_rfl) rfl (Xq (by kernel_rfl)) ⟨(fun H' m_ hH hm_ hu_ => dn <| s_d (m_ 0) rfl (Xi (o' := 0) Tryz.underlying37 rfl sz4 rfl rfl rfl) (by exact rfl) rfl), (by rintro H' m_ hH hm_ hu_ _ rfl; exact dn <| s_d (m_ 1) rfl (QN (v := .bool a.f_Neg) ty4 rfl .h2 rfl rfl rfl rfl) (by exact rfl) rfl), (fun H' m_ hH hm_ hu_ => dn <| s_d (m_ 2) rfl (Xi (o' := 1) Tryz.underlying37 rfl sz35 rfl rfl rfl) (by exact rfl) rfl), (by rintro H' m_ hH hm_ hu_ _ rfl; exact dn <| s_d (m_ 3) rfl (QN (v := v0_a) ty35 rfl .h2 rfl rfl rfl rfl) (by exact rfl) rfl), (fun H' m_ hH hm_ hu_ => dn <| s_d (m_ 4) rfl (Xi (o' := 1) Tryz.underlying37 rfl sz35 rfl rfl rfl) (by exact rfl) rfl), (by rintro H' m_ hH hm_ hu_ _ rfl; exact dn <| s_d (m_ 5) rfl (QN (v := v1_b) ty35 rfl .h1 rfl rfl rfl rfl) (by exact rfl) rfl), (by rintro H' m_ hH hm_ hu_ _ rfl _ rfl; exact dn <| s_k (m_ 6) rfl (Qm co68 (vs := [v0_a, v1_b]) rfl (Qo.calls k hy6 ((h0_a.mono hH).src) ((h1_b.mono hH).src))) rfl (by rintro v_ H_ _ ⟨rfl, e_, h_⟩; exact ⟨rfl, e_, h_⟩)), trivial⟩ ?_
  intro H11 e12
  rintro _ _ rfl _ _ rfl _ _ rfl _ _ rfl _ _ rfl _ _ rfl v9 _ (h10 : Ro kI64 H11 v9 y5)
  refine bK he fun y13 hy14 he => w_a rfl (Qm co66 (vs := (QH a v9)) rfl (Xu.calls k hy14 h10)) ?_
  rintro _ H15 _ ⟨rfl, e16, v17, rfl, h18⟩
  refine wS (Qa y13 v17) sz37 rfl rfl rfl rfl rfl (Xe h18) .here u2 <| Qb ?_
  obtain rfl := sj he
  refine Ql fn_17 rs_17 (.box (v := (Qa y13 v17)) rfl ty37 rfl rfl .here rfl .nil) <| ⟨⟨[_, _, _], rfl⟩, hle.trans (e12.trans e16), ⟨v17, rfl, h18⟩⟩
 ·
  refine QE rfl (Bool.eq_false_iff.2 c4) <| QF <| QX <| wR rfl <| w_d rfl (Xi (o' := 1) Tryz.underlying37 rfl sz35 rfl rfl rfl) <| wL v0_a ty35 rfl rfl .h2 rfl rfl <| w_d rfl (Xi (o' := 1) Tryz.underlying37 rfl sz35 rfl rfl rfl) <| wL v1_b ty35 rfl rfl .h1 rfl rfl <| bK he fun y19 hy20 he => w_d rfl (Xx (Qm co69 (vs := [v0_a, v1_b]) rfl (QS.calls k hy20 h0_a.src h1_b.src))) <| Qb ?_
  rcases its he with ⟨c23, he⟩ | ⟨c23, he⟩
  ·
   refine QD rfl c23 <| QX <| bK he fun y24 hy25 he => XC (p := 7) (tl := [7, 8]) [[], [(0, some 23)], [], [(2, some 25)], [], [(4, some 27)], [(3, some 26), (5, some 28)]] [some 23, some 24, some 25, some 26, some 27, some 28, some 29] (fctF (.is (pt b2) :: .is (.bool b.f_Neg) :: .is (po b2 1) :: .is (v1_b) :: .is (po b1 1) :: .is (v0_a) :: .ro kI64 (y24) :: [])) (fun m_ => bx b3 [.bool false, .slice none 0 0] 37 :: bx b2 (QH b v1_b) 37 :: bx b1 (QH a v0_a) 37 :: L) (fun _ => none) mixed (by kernel_rfl) (by kernel_rfl) rfl (Xq (by kernel_rfl)) ⟨(fun H' m_ hH hm_ hu_ => dn <| s_d (m_ 0) rfl (Xi (o' := 0) Tryz.underlying37 rfl sz4 rfl rfl rfl) (by exact rfl) rfl), (by rintro H' m_ hH hm_ hu_ _ rfl; exact dn <| s_d (m_ 1) rfl (QN (v := .bool b.f_Neg) ty4 rfl .h1 rfl rfl rfl rfl) (by exact rfl) rfl), (fun H' m_ hH hm_ hu_ => dn <| s_d (m_ 2) rfl (Xi (o' := 1) Tryz.underlying37 rfl sz35 rfl rfl rfl) (by exact rfl) rfl), (by rintro H' m_ hH hm_ hu_ _ rfl; exact dn <| s_d (m_ 3) rfl (QN (v := v1_b) ty35 rfl .h1 rfl rfl rfl rfl) (by exact rfl) rfl), (fun H' m_ hH hm_ hu_ => dn <| s_d (m_ 4) rfl (Xi (o' := 1) Tryz.underlying37 rfl sz35 rfl rfl rfl) (by exact rfl) rfl), (by rintro H' m_ hH hm_ hu_ _ rfl; exact dn <| s_d (m_ 5) rfl (QN (v := v0_a) ty35 rfl .h2 rfl rfl rfl rfl) (by exact rfl) rfl), (by rintro H' m_ hH hm_ hu_ _ rfl _ rfl; exact dn <| s_k (m_ 6) rfl (Qm co70 (vs := [v1_b, v0_a]) rfl (Qj.calls k hy25 ((h1_b.mono hH).src) ((h0_a.mono hH).src))) rfl (by rintro v_ H_ _ ⟨rfl, e_, h_⟩; exact ⟨rfl, e_, h_⟩)), trivial⟩ ?_
   intro H30 e31
   rintro _ _ rfl _ _ rfl _ _ rfl _ _ rfl _ _ rfl _ _ rfl v28 _ (h29 : Ro kI64 H30 v28 y24)
   refine bK he fun y32 hy33 he => w_a rfl (Qm co66 (vs := (QH b v28)) rfl (Xu.calls k hy33 h29)) ?_
   rintro _ H34 _ ⟨rfl, e35, v36, rfl, h37⟩
   refine wS (Qa y32 v36) sz37 rfl rfl rfl rfl rfl (Xe h37) .here u2 <| Qb ?_
   obtain rfl := sj he
   refine Ql fn_17 rs_17 (.box (v := (Qa y32 v36)) rfl ty37 rfl rfl .here rfl .nil) <| ⟨⟨[_, _, _], rfl⟩, hle.trans (e31.trans e35), ⟨v36, rfl, h37⟩⟩
  ·
   refine QE rfl (Bool.eq_false_iff.2 c23) <| QF <| QX <| bK he fun y38 hy39 he => XC (p := 7) (tl := [7, 8]) [[], [(0, some 31)], [], [(2, some 33)], [], [(4, some 35)], [(3, some 34), (5, some 36)]] [some 31, some 32, some 33, some 34, some 35, some 36, some 37] (fctF (.is (pt b1) :: .is (.bool a.f_Neg) :: .is (po b1 1) :: .is (v0_a) :: .is (po b2 1) :: .is (v1_b) :: .ro kI64 (y38) :: [])) (fun m_ => bx b3 [.bool false, .slice none 0 0] 37 :: bx b2 (QH b v1_b) 37 :: bx b1 (QH a v0_a) 37 :: L) (fun _ => none) mixed (by kernel_rfl) (by kernel_rfl) rfl (Xq (by kernel_rfl)) ⟨(fun H' m_ hH hm_ hu_ => dn <| s_d (m_ 0) rfl (Xi (o' := 0) Tryz.underlying37 rfl sz4 rfl rfl rfl) (by exact rfl) rfl), (by rintro H' m_ hH hm_ hu_ _ rfl; exact dn <| s_d (m_ 1) rfl (QN (v := .bool a.f_Neg) ty4 rfl .h2 rfl rfl rfl rfl) (by exact rfl) rfl), (fun H' m_ hH hm_ hu_ => dn <| s_d (m_ 2) rfl (Xi (o' := 1) Tryz.underlying37 rfl sz35 rfl rfl rfl) (by exact rfl) rfl), (by rintro H' m_ hH hm_ hu_ _ rfl; exact dn <| s_d (m_ 3) rfl (QN (v := v0_a) ty35 rfl .h2 rfl rfl rfl rfl) (by exact rfl) rfl), (fun H' m_ hH hm_ hu_ => dn <| s_d (m_ 4) rfl (Xi (o' := 1) Tryz.underlying37 rfl sz35 rfl rfl rfl) (by exact rfl) rfl), (by rintro H' m_ hH hm_ hu_ _ rfl; exact dn <| s_d (m_ 5) rfl (QN (v := v1_b) ty35 rfl .h1 rfl rfl rfl rfl) (by exact rfl) rfl), (by rintro H' m_ hH hm_ hu_ _ rfl _ rfl; exact dn <| s_k (m_ 6) rfl (Qm co70 (vs := [v0_a, v1_b]) rfl (Qj.calls k hy39 ((h0_a.mono hH).src) ((h1_b.mono hH).src))) rfl (by rintro v_ H_ _ ⟨rfl, e_, h_⟩; exact ⟨rfl, e_, h_⟩)), trivial⟩ ?_
   intro H44 e45
   rintro _ _ rfl _ _ rfl _ _ rfl _ _ rfl _ _ rfl _ _ rfl v42 _ (h43 : Ro kI64 H44 v42 y38)
   refine bK he fun y46 hy47 he => w_a rfl (Qm co66 (vs := (QH a v42)) rfl (Xu.calls k hy47 h43)) ?_
   rintro _ H48 _ ⟨rfl, e49, v50, rfl, h51⟩
   refine wS (Qa y46 v50) sz37 rfl rfl rfl rfl rfl (Xe h51) .here u2 <| Qb ?_
   obtain rfl := sj he
   refine Ql fn_17 rs_17 (.box (v := (Qa y46 v50)) rfl ty37 rfl rfl .here rfl .nil) <| ⟨⟨[_, _, _], rfl⟩, hle.trans (e45.trans e49), ⟨v50, rfl, h51⟩⟩
noncomputable def Qq.C : Code := (Tryz.f12.body).getD .skip
def Qq.out (r : Qg) (H : Hp) (v : Value) : Prop := ∃ v0, v = (Qa r v0) ∧ Ro kI64 H v0 r.f_D
theorem Qq.out_mono (r : Qg) {H H' : Hp} {v : Value} (hle : H.le H') (h : Qq.out r H v) : Qq.out r H' v := by
 obtain ⟨v0, rfl, h0⟩ := h; exact ⟨v0, rfl, h0.mono hle⟩
abbrev Qq.R (H0 : Hp) (L : Items) (r : Qg) := fR H0 L (Qq.out r)
structure Qq.Hs where
 l0 : Int → Bool → (List Int) → Int → Option Qg
 l1 : Int → Bool → (List Int) → Int → Option Qg
noncomputable def Qq.b0 (k : Nat) (h : Qq.Hs) (n : Int) (x_0 : Bool) (x_1 : List Int) (i : Int) : Option Qg := if (w64 (i + 30)) ≤ n then ((Qu.f k 1073741824).bind fun y10 => (Qi.f k ⟨x_0, x_1⟩ y10).bind fun y18 => h.l0 n y18.f_Neg y18.f_D (w64 (i + 30))) else (h.l1 n x_0 x_1 0)
noncomputable def Qq.b1 (k : Nat) (h : Qq.Hs) (n : Int) (x_0 : Bool) (x_1 : List Int) (i : Int) : Option Qg := if i < (Int.tmod n 30) then ((XT.f k ⟨x_0, x_1⟩ ⟨x_0, x_1⟩).bind fun y25 => h.l1 n y25.f_Neg y25.f_D (w64 (i + 1))) else (some (⟨x_0, x_1⟩))
noncomputable def Qq.hs : Nat → Qq.Hs
 | 0 => ⟨fun _ _ _ _ => none, fun _ _ _ _ => none⟩
 | k + 1 => ⟨fun x0 x1 x2 x3 => Qq.b0 k (Qq.hs k) x0 x1 x2 x3, fun x0 x1 x2 x3 => Qq.b1 k (Qq.hs k) x0 x1 x2 x3⟩
noncomputable def Qq.f (k : Nat) (n : Int) : Option Qg := (fun h : Qq.Hs => (Qu.f k 1).bind fun y2 => h.l0 n y2.f_Neg y2.f_D 0) (Qq.hs k)
noncomputable def Qq.Kl0 : List Item := .code (lopB (blkB (seqR (seqL (seqR (seqR Qq.C)))))) :: .inLoop (lopB (blkB (seqR (seqL (seqR (seqR Qq.C)))))) :: .inBlock 0 :: .code (seqR (seqR (seqR Qq.C))) :: []
noncomputable def Qq.Kl1 : List Item := .code (lopB (blkB (seqR (seqL (seqR (seqR (seqR Qq.C))))))) :: .inLoop (lopB (blkB (seqR (seqL (seqR (seqR (seqR Qq.C))))))) :: .inBlock 2 :: .code (seqR (seqR (seqR (seqR Qq.C)))) :: []
structure Qq.OK (h : Qq.Hs) : Prop where
 l0 : ∀ {H0 H : Hp} {L : Items} {r : Qg} {jk_ : Nat → Value} {n : Int} {x_0 : Bool} {x_1 : List Int} {i : Int} {v_x_1 : Value} {b_t2 : Nat} {b_x : Nat} (_ : H0.le H) (_he : h.l0 n x_0 x_1 i = some r) (_h_x_1 : Ro kI64 H v_x_1 x_1), Wp Tryz.prog 12 26 Qq.Kl0 (upd (upd (upd (upd jk_ 0 (.int .i64 n)) 2 (pt b_t2)) 3 (pt b_x)) 4 (.int .i64 i)) H (bx b_x [.bool x_0, v_x_1] 37 :: bx b_t2 [.bool false, .slice none 0 0] 37 :: L) (Qq.R H0 L r)
 l1 : ∀ {H0 H : Hp} {L : Items} {r : Qg} {jk_ : Nat → Value} {n : Int} {x_0 : Bool} {x_1 : List Int} {i : Int} {v_x_1 : Value} {b_t2 : Nat} {b_x : Nat} (_ : H0.le H) (_he : h.l1 n x_0 x_1 i = some r) (_h_x_1 : Ro kI64 H v_x_1 x_1), Wp Tryz.prog 12 26 Qq.Kl1 (upd (upd (upd (upd jk_ 0 (.int .i64 n)) 2 (pt b_t2)) 3 (pt b_x)) 5 (.int .i64 i)) H (bx b_x [.bool x_0, v_x_1] 37 :: bx b_t2 [.bool false, .slice none 0 0] 37 :: L) (Qq.R H0 L r)
theorem Qq.b0_ok {k : Nat} {h : Qq.Hs} (hh : Qq.OK h) {H0 H : Hp} {L : Items} {r : Qg} {jk_ : Nat → Value} {n : Int} {x_0 : Bool} {x_1 : List Int} {i : Int} {v_x_1 : Value} {b_t2 b_x : Nat} (hle : H0.le H) (he : Qq.b0 k h n x_0 x_1 i = some r) (h_x_1 : Ro kI64 H v_x_1 x_1) : Wp Tryz.prog 12 26 Qq.Kl0 (upd (upd (upd (upd jk_ 0 (.int .i64 n)) 2 (pt b_t2)) 3 (pt b_x)) 4 (.int .i64 i)) H (bx b_x [.bool x_0, v_x_1] 37 :: bx b_t2 [.bool false, .slice none 0 0] 37 :: L) (Qq.R H0 L r) := by
 unfold Qq.b0 at he
 unfold Qq.Kl0
 refine QX <| wR rfl <| wM (.int .i64 i) rfl rfl <| w_d rfl (XQ (c := w64 (i + 30)) rfl rfl rfl) <| wM (.int .i64 n) rfl rfl <| w_d rfl (MB rfl rfl) <| Qb ?_
 rcases its he with ⟨c9, he⟩ | ⟨c9, he⟩
 ·
  refine QD rfl (dt c9) <| QF <| QX <| Q2 <| bK he fun y10 hy11 he => XC (p := 2) (tl := [2, 3]) [[], []] [some 13, some 14] (fctF (.is (.agg ⟨[.bool x_0, v_x_1]⟩) :: .of (Qu.out y10) (Qu.out_mono _) :: [])) (fun m_ => bx b_x [.bool x_0, v_x_1] 37 :: bx b_t2 [.bool false, .slice none 0 0] 37 :: L) (fun _ => none) mixed (by kernel_rfl) (by kernel_rfl) rfl (Xq (by kernel_rfl)) ⟨(fun H' m_ hH hm_ hu_ => dn <| s_d (m_ 0) rfl (QN (v := .agg ⟨[.bool x_0, v_x_1]⟩) ty37 rfl .here rfl rfl rfl rfl) (by exact rfl) rfl), (fun H' m_ hH hm_ hu_ => dn <| s_k (m_ 1) rfl (Qm co16 (vs := [.int .i64 1073741824]) rfl (Qu.calls k hy11)) rfl (by rintro v_ H_ _ ⟨rfl, e_, h_⟩; exact ⟨rfl, e_, h_⟩)), trivial⟩ ?_
  intro H16 e17
  rintro _ _ rfl _ _ ⟨v14, rfl, h15⟩
  refine bK he fun y18 hy19 he => w_a rfl (Qm co15 (vs := [.agg ⟨[.bool x_0, v_x_1]⟩, (Qa y10 v14)]) rfl (Qi.calls k (a := ⟨x_0, x_1⟩) (b := y10) hy19 (h_x_1.mono e17) h15)) ?_
  rintro _ H20 _ ⟨rfl, e21, v22, rfl, h23⟩
  refine wS (Qa y18 v22) sz37 rfl rfl rfl rfl rfl (Xe h23) .here u2 <| Qb <| Xw <| QL rfl <| wM (.int .i64 i) rfl rfl <| w_d rfl (XQ (c := w64 (i + 30)) rfl rfl rfl) <| wA (.int .i64 (w64 (i + 30))) rfl rfl <| Qb <| XG <| w_sl 0 (.int .i64 n) rfl <| w_sl 2 (pt b_t2) rfl <| w_sl 3 (pt b_x) rfl ?_
  refine w_sl 4 (.int .i64 (w64 (i + 30))) rfl <| hh.l0 (hle.trans (e17.trans e21)) he h23
 ·
  refine QE rfl (df c9) <| X3 rfl <| QX <| wR rfl <| wA (.int .i64 0) rfl rfl <| Qb <| Q2 <| X5 <| w_sl 0 (.int .i64 n) rfl <| w_sl 2 (pt b_t2) rfl <| w_sl 3 (pt b_x) rfl ?_
  refine w_sl 5 (.int .i64 0) rfl <| hh.l1 hle he h_x_1
theorem Qq.b1_ok {k : Nat} {h : Qq.Hs} (hh : Qq.OK h) {H0 H : Hp} {L : Items} {r : Qg} {jk_ : Nat → Value} {n : Int} {x_0 : Bool} {x_1 : List Int} {i : Int} {v_x_1 : Value} {b_t2 b_x : Nat} (hle : H0.le H) (he : Qq.b1 k h n x_0 x_1 i = some r) (h_x_1 : Ro kI64 H v_x_1 x_1) : Wp Tryz.prog 12 26 Qq.Kl1 (upd (upd (upd (upd jk_ 0 (.int .i64 n)) 2 (pt b_t2)) 3 (pt b_x)) 5 (.int .i64 i)) H (bx b_x [.bool x_0, v_x_1] 37 :: bx b_t2 [.bool false, .slice none 0 0] 37 :: L) (Qq.R H0 L r) := by
 unfold Qq.b1 at he
 unfold Qq.Kl1
 refine QX <| wR rfl <| wM (.int .i64 i) rfl rfl <| wM (.int .i64 n) rfl rfl <| w_d rfl (Jj rfl rfl (by decide)) <| w_d rfl (XW rfl rfl) <| Qb ?_
 rcases its he with ⟨c24, he⟩ | ⟨c24, he⟩
 ·
  refine QD rfl (dt c24) <| QF <| QX <| Q2 <| QL rfl <| wL (.agg ⟨[.bool x_0, v_x_1]⟩) ty37 rfl rfl .here rfl rfl <| wL (.agg ⟨[.bool x_0, v_x_1]⟩) ty37 rfl rfl .here rfl rfl <| bK he fun y25 hy26 he => w_a rfl (Qm co17 (vs := [.agg ⟨[.bool x_0, v_x_1]⟩, .agg ⟨[.bool x_0, v_x_1]⟩]) rfl (XT.calls k (a := ⟨x_0, x_1⟩) (b := ⟨x_0, x_1⟩) hy26 h_x_1 h_x_1)) ?_
  rintro _ H27 _ ⟨rfl, e28, v29, rfl, h30⟩
  refine wS (Qa y25 v29) sz37 rfl rfl rfl rfl rfl (Xe h30) .here u2 <| Qb <| Xw <| QL rfl <| wM (.int .i64 i) rfl rfl <| w_d rfl (XQ (c := w64 (i + 1)) rfl rfl rfl) <| wA (.int .i64 (w64 (i + 1))) rfl rfl <| Qb <| XG <| w_sl 0 (.int .i64 n) rfl <| w_sl 2 (pt b_t2) rfl <| w_sl 3 (pt b_x) rfl ?_
  refine w_sl 5 (.int .i64 (w64 (i + 1))) rfl <| hh.l1 (hle.trans e28) he h30
 ·
  refine QE rfl (df c24) <| X3 rfl <| wR rfl <| wL (.agg ⟨[.bool x_0, v_x_1]⟩) ty37 rfl rfl .here rfl rfl <| wS (.agg ⟨[.bool x_0, v_x_1]⟩) sz37 rfl rfl rfl rfl rfl (oc rfl (oc (h_x_1.one) oz)) .h1 u2 <| Qb ?_
  obtain rfl := sj he
  refine Ql fn_12 rs_12 (.box (v := .agg ⟨[.bool x_0, v_x_1]⟩) rfl ty37 rfl rfl .h1 rfl .nil) <| ⟨⟨[_, _], rfl⟩, hle, ⟨v_x_1, rfl, h_x_1⟩⟩
theorem Qq.ok : ∀ k, Qq.OK (Qq.hs k)
 | 0 => ⟨(by intros; exact nomatch (show none = some _ from by assumption)), (by intros; exact nomatch (show none = some _ from by assumption))⟩
 | k + 1 => ⟨Qq.b0_ok (k := k) (Qq.ok k), Qq.b1_ok (k := k) (Qq.ok k)⟩
theorem Qq.calls (k : Nat) {H : Hp} {L : Items} {n : Int} {r : Qg} (he : Qq.f k n = some r) : Ct Tryz.prog 12 ⟨[.int .i64 n]⟩ H L (cR H L (Qq.out r)) := by
 refine XN (O := Qq.out r) ?_
 have hle : H.le H := .refl _
 have hh := Qq.ok k
 unfold Qq.f at he
 refine QV (args := [_]) fn_12 rfl nt_12 rfl <| wR rfl <| wN zr37 rfl rfl fun b1 => wQ rfl <| bK he fun y2 hy3 he => w_a rfl (Qm co16 (vs := [.int .i64 1]) rfl (Qu.calls k hy3)) ?_
 rintro _ H4 _ ⟨rfl, e5, v6, rfl, h7⟩
 refine wN zr37 rfl rfl fun b8 => wS (Qa y2 v6) sz37 rfl rfl rfl rfl rfl (Xe h7) .here u2 <| wE <| wR rfl <| wA (.int .i64 0) rfl rfl <| Qb <| Q2 <| X5 <| w_sl 0 (.int .i64 n) rfl <| w_sl 2 (pt b1) rfl ?_
 refine w_sl 3 (pt b8) rfl <| w_sl 4 (.int .i64 0) rfl <| hh.l0 (hle.trans e5) he h7
noncomputable def X2.C : Code := (Tryz.f62.body).getD .skip
def X2.out (r : Int) (H : Hp) (v : Value) : Prop := v = .int .i64 r
noncomputable def X2.f (k : Nat) (a : Qg) : Option Int := if (a.f_D.length : Int) = 0 then (some (0)) else (if a.f_Neg = true then (some ((-1))) else (some (1)))
theorem X2.calls (k : Nat) {H : Hp} {L : Items} {a : Qg} {v0_a : Value} {r : Int} (he : X2.f k a = some r) (h0_a : Ro kI64 H v0_a a.f_D) : Ct Tryz.prog 62 ⟨[(Qa a v0_a)]⟩ H L (fun v H' L' => L = L' ∧ H = H' ∧ v = .int .i64 r) := by
 refine Yp (O := X2.out r) (fun _ _ h => h) ?_
 have hle : H.le H := .refl _
 unfold X2.f at he
 refine QV (args := [_]) fn_62 rfl nt_62 rfl <| wR rfl <| wB (Qa a v0_a) rfl rfl rfl <| fun b1 => wA (.int .i64 0) rfl rfl <| wE <| wR rfl <| w_d rfl (Xi (o' := 1) Tryz.underlying37 rfl sz35 rfl rfl rfl) <| wL v0_a ty35 rfl rfl .here rfl rfl <| w_d rfl (Xo Tryz.underlying35 rfl h0_a.src) ?_
 refine w_d rfl (YY rfl rfl) <| Qb ?_
 rcases its he with ⟨c2, he⟩ | ⟨c2, he⟩
 ·
  refine QD rfl (dt c2) <| wR rfl <| wA (.int .i64 0) rfl rfl <| Qb ?_
  obtain rfl := sj he
  refine Ql fn_62 rs_62 (.tmp (v := .int .i64 0) rfl .nil) <| ⟨⟨[_], rfl⟩, hle, rfl⟩
 ·
  refine QE rfl (df c2) <| QF <| QX <| wR rfl <| w_d rfl (Xi (o' := 0) Tryz.underlying37 rfl sz4 rfl rfl rfl) <| wL (.bool a.f_Neg) ty4 rfl rfl .here rfl rfl <| Qb ?_
  rcases its he with ⟨c3, he⟩ | ⟨c3, he⟩
  ·
   refine QD rfl c3 <| wR rfl <| wA (.int .i64 (-1)) rfl rfl <| Qb ?_
   obtain rfl := sj he
   refine Ql fn_62 rs_62 (.tmp (v := .int .i64 (-1)) rfl .nil) <| ⟨⟨[_], rfl⟩, hle, rfl⟩
  ·
   refine QE rfl (Bool.eq_false_iff.2 c3) <| QF <| wR rfl <| wA (.int .i64 1) rfl rfl <| Qb ?_
   obtain rfl := sj he
   refine Ql fn_62 rs_62 (.tmp (v := .int .i64 1) rfl .nil) <| ⟨⟨[_], rfl⟩, hle, rfl⟩
noncomputable def XS.C : Code := (Tryz.f63.body).getD .skip
def XS.out (r : Qg) (H : Hp) (v : Value) : Prop := ∃ v0, v = (Qa r v0) ∧ Ro kI64 H v0 r.f_D
theorem XS.out_mono (r : Qg) {H H' : Hp} {v : Value} (hle : H.le H') (h : XS.out r H v) : XS.out r H' v := by
 obtain ⟨v0, rfl, h0⟩ := h; exact ⟨v0, rfl, h0.mono hle⟩
noncomputable def XS.f (k : Nat) (a : Qg) : Option Qg := (Xu.f k (!a.f_Neg) a.f_D).bind fun y3 => some (y3)
theorem XS.calls (k : Nat) {H : Hp} {L : Items} {a : Qg} {v0_a : Value} {r : Qg} (he : XS.f k a = some r) (h0_a : Ro kI64 H v0_a a.f_D) : Ct Tryz.prog 63 ⟨[(Qa a v0_a)]⟩ H L (cR H L (XS.out r)) := by
 refine XN (O := XS.out r) ?_
 have hle : H.le H := .refl _
 unfold XS.f at he
 refine QV (args := [_]) fn_63 rfl nt_63 rfl <| wR rfl <| wB (Qa a v0_a) rfl rfl rfl <| fun b1 => wN zr37 rfl rfl fun b2 => wQ rfl <| w_d rfl (Xi (o' := 0) Tryz.underlying37 rfl sz4 rfl rfl rfl) <| wL (.bool a.f_Neg) ty4 rfl rfl .h1 rfl rfl <| w_d rfl (Zs (b := a.f_Neg) rfl) <| w_d rfl (Xi (o' := 1) Tryz.underlying37 rfl sz35 rfl rfl rfl) ?_
 refine wL v0_a ty35 rfl rfl .h1 rfl rfl <| bK he fun y3 hy4 he => w_a rfl (Qm co66 (vs := [.bool (!a.f_Neg), v0_a]) rfl (Xu.calls k hy4 h0_a)) ?_
 rintro _ H5 _ ⟨rfl, e6, v7, rfl, h8⟩
 refine wS (Qa y3 v7) sz37 rfl rfl rfl rfl rfl (Xe h8) .here u2 <| Qb ?_
 obtain rfl := sj he
 refine Ql fn_63 rs_63 (.box (v := (Qa y3 v7)) rfl ty37 rfl rfl .here rfl .nil) <| ⟨⟨[_, _], rfl⟩, hle.trans e6, ⟨v7, rfl, h8⟩⟩
noncomputable def Ye.C : Code := (Tryz.f64.body).getD .skip
def Ye.out (r : Qg) (H : Hp) (v : Value) : Prop := ∃ v0, v = (Qa r v0) ∧ Ro kI64 H v0 r.f_D
theorem Ye.out_mono (r : Qg) {H H' : Hp} {v : Value} (hle : H.le H') (h : Ye.out r H v) : Ye.out r H' v := by
 obtain ⟨v0, rfl, h0⟩ := h; exact ⟨v0, rfl, h0.mono hle⟩
noncomputable def Ye.f (k : Nat) (a : Qg) : Option Qg := some (⟨false, a.f_D⟩)
theorem Ye.calls (k : Nat) {H : Hp} {L : Items} {a : Qg} {v0_a : Value} {r : Qg} (he : Ye.f k a = some r) (h0_a : Ro kI64 H v0_a a.f_D) : Ct Tryz.prog 64 ⟨[(Qa a v0_a)]⟩ H L (cR H L (Ye.out r)) := by
 refine XN (O := Ye.out r) ?_
 have hle : H.le H := .refl _
 unfold Ye.f at he
 refine QV (args := [_]) fn_64 rfl nt_64 rfl <| wR rfl <| wB (Qa a v0_a) rfl rfl rfl <| fun b1 => wN zr37 rfl rfl fun b2 => wQ rfl <| w_d rfl (Xi (o' := 1) Tryz.underlying37 rfl sz35 rfl rfl rfl) <| wL v0_a ty35 rfl rfl .h1 rfl rfl <| w_d rfl (XE (cs' := [.bool false, v0_a]) Tryz.underlying37 zr37 rfl (by kernel_rfl) (parts := [(1, v0_a)]) rfl (.cons (YH rfl sz35 rfl) h0_a.cells rfl (.there u1) .nil)) <| wS (.agg ⟨[.bool false, v0_a]⟩) sz37 rfl rfl rfl rfl rfl (oc rfl (oc (h0_a.one) oz)) .here u2 ?_
 refine Qb ?_
 obtain rfl := sj he
 refine Ql fn_64 rs_64 (.box (v := .agg ⟨[.bool false, v0_a]⟩) rfl ty37 rfl rfl .here rfl .nil) <| ⟨⟨[_, _], rfl⟩, hle, ⟨v0_a, rfl, h0_a⟩⟩
noncomputable def YA.C : Code := (Tryz.f14.body).getD .skip
def YA.out (r : Qg) (H : Hp) (v : Value) : Prop := ∃ v0, v = (Qa r v0) ∧ Ro kI64 H v0 r.f_D
noncomputable def YA.f (k : Nat) (a b : Qg) : Option Qg := (XS.f k b).bind fun y4 => (XT.f k a y4).bind fun y12 => some (y12)
theorem YA.calls (k : Nat) {H : Hp} {L : Items} {a b : Qg} {v0_a v1_b : Value} {r : Qg} (he : YA.f k a b = some r) (h0_a : Ro kI64 H v0_a a.f_D) (h1_b : Ro kI64 H v1_b b.f_D) : Ct Tryz.prog 14 ⟨[(Qa a v0_a), (Qa b v1_b)]⟩ H L (cR H L (YA.out r)) := by
 refine XN (O := YA.out r) ?_
 have hle : H.le H := .refl _
 unfold YA.f at he
 refine QV (args := [_, _]) fn_14 rfl nt_14 rfl <| wR rfl <| wB (Qa a v0_a) rfl rfl rfl <| fun b1 => wB (Qa b v1_b) rfl rfl rfl <| fun b2 => wN zr37 rfl rfl fun b3 => wE <| bK he fun y4 hy5 he => XC (p := 3) (tl := [3, 4]) [[], [], [(1, some 6)]] [some 5, some 6, some 7] (fctF (.is (Qa a v0_a) :: .is (Qa b v1_b) :: .of (XS.out y4) (XS.out_mono _) :: [])) (fun m_ => bx b3 [.bool false, .slice none 0 0] 37 :: bx b2 (QH b v1_b) 37 :: bx b1 (QH a v0_a) 37 :: L) (fun _ => none) mixed (by kernel_rfl) (by kernel_rfl) rfl (Xq (by kernel_rfl)) ⟨(fun H' m_ hH hm_ hu_ => dn <| s_d (m_ 0) rfl (QN (v := (Qa a v0_a)) ty37 rfl .h2 rfl rfl rfl rfl) (by exact rfl) rfl), (fun H' m_ hH hm_ hu_ => dn <| s_d (m_ 1) rfl (QN (v := (Qa b v1_b)) ty37 rfl .h1 rfl rfl rfl rfl) (by exact rfl) rfl), (by rintro H' m_ hH hm_ hu_ _ rfl; exact dn <| s_k (m_ 2) rfl (Qm co63 (vs := [(Qa b v1_b)]) rfl (XS.calls k (a := b) hy5 (h1_b.mono hH))) rfl (by rintro v_ H_ _ ⟨rfl, e_, h_⟩; exact ⟨rfl, e_, h_⟩)), trivial⟩ ?_
 intro H10 e11
 rintro _ _ rfl _ _ rfl _ _ ⟨v8, rfl, h9⟩
 refine bK he fun y12 hy13 he => w_a rfl (Qm co17 (vs := [(Qa a v0_a), (Qa y4 v8)]) rfl (XT.calls k (a := a) (b := y4) hy13 (h0_a.mono e11) h9)) ?_
 rintro _ H14 _ ⟨rfl, e15, v16, rfl, h17⟩
 refine wS (Qa y12 v16) sz37 rfl rfl rfl rfl rfl (Xe h17) .here u2 <| Qb ?_
 obtain rfl := sj he
 refine Ql fn_14 rs_14 (.box (v := (Qa y12 v16)) rfl ty37 rfl rfl .here rfl .nil) <| ⟨⟨[_, _, _], rfl⟩, hle.trans (e11.trans e15), ⟨v16, rfl, h17⟩⟩
end Go.Proofs.YtkccpkccdbfomaaGreatDoor.GBP

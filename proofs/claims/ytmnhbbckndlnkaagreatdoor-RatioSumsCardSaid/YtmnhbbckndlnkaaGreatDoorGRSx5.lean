/- A text of this session, written by a program (wip/k/gen.py): Go functions as Lean functions, and proofs that the code comes to them. -/
import Derived.Test.YtmnhbbckndlnkaaGreatDoorGRSx4
namespace Go.Proofs.YtmnhbbckndlnkaaGreatDoor.GRS
open Go Go.RowKit Go.Proofs.YtmnhbbckndlnkaaGreatDoorK Go.Proofs.YtmnhbbckndlnkaaGreatDoor
set_option maxRecDepth 100000
set_option maxHeartbeats 2000000
set_option linter.unusedVariables false
set_option linter.unusedSimpArgs false
/-! ### (radome/ratio.Ratio).Cmp -/
noncomputable def ratio_Ratio_Cmp.C : Code := (Tryz.f24.body).getD .skip
def ratio_Ratio_Cmp.out (r : Int × (Option Int)) (H : Hp) (v : Value) : Prop := v = .tuple ⟨[.int .i64 r.1, errV 71 r.2]⟩
abbrev ratio_Ratio_Cmp.R (H0 : Hp) (L : Items) (r : Int × (Option Int)) : Value → Hp → Items → Prop := fun v H' L' => (∃ p, L' = p ++ L) ∧ H0.le H' ∧ ratio_Ratio_Cmp.out r H' v
noncomputable def ratio_Ratio_Cmp.f (k : Nat) (a : ratio_Ratio) (b : ratio_Ratio) : Option (Int × (Option Int)) := (ratio_Ratio_cross.f k (⟨(⟨a.f_n.f_neg, a.f_n.f_w⟩ : wide_Int), (⟨a.f_d.f_neg, a.f_d.f_w⟩ : wide_Int)⟩ : ratio_Ratio) (⟨(⟨b.f_n.f_neg, b.f_n.f_w⟩ : wide_Int), (⟨b.f_d.f_neg, b.f_d.f_w⟩ : wide_Int)⟩ : ratio_Ratio)).bind fun y3 => if y3.2.2.isSome = true then (some (0, y3.2.2)) else ((wide_Int_Cmp.f k (⟨y3.1.f_neg, y3.1.f_w⟩ : wide_Int) (⟨y3.2.1.f_neg, y3.2.1.f_w⟩ : wide_Int)).bind fun y14 => some (y14, none))
theorem ratio_Ratio_Cmp.mono : ∀ k y0 y1, LeO (ratio_Ratio_Cmp.f k y0 y1) (ratio_Ratio_Cmp.f (k + 1) y0 y1) := fun k _ _ => by unfold ratio_Ratio_Cmp.f; exact (LeO.bind (ratio_Ratio_cross.mono k _ _) fun _ => LeO.ite (LeO.refl _) (LeO.bind (wide_Int_Cmp.mono k _ _) fun _ => LeO.refl _))
theorem ratio_Ratio_Cmp.calls (k : Nat) {H : Hp} {L : Items} {a : ratio_Ratio} {b : ratio_Ratio} {v0_a : Value} {v1_a : Value} {v2_b : Value} {v3_b : Value} {r : Int × (Option Int)} (he : ratio_Ratio_Cmp.f k a b = some r) (h0_a : Ro (Kd.int .u32) H v0_a a.f_n.f_w) (h1_a : Ro (Kd.int .u32) H v1_a a.f_d.f_w) (h2_b : Ro (Kd.int .u32) H v2_b b.f_n.f_w) (h3_b : Ro (Kd.int .u32) H v3_b b.f_d.f_w) : Ct Tryz.prog 24 ⟨[.agg ⟨[.bool a.f_n.f_neg, v0_a, .bool a.f_d.f_neg, v1_a]⟩, .agg ⟨[.bool b.f_n.f_neg, v2_b, .bool b.f_d.f_neg, v3_b]⟩]⟩ H L (fun v H' L' => L = L' ∧ H = H' ∧ v = .tuple ⟨[.int .i64 r.1, errV 71 r.2]⟩) := by
 refine ct_outs (O := ratio_Ratio_Cmp.out r) (fun _ _ h => h) ?_
 have hle : H.le H := .refl _
 unfold ratio_Ratio_Cmp.f at he
 refine ct_enter (args := [.agg ⟨[.bool a.f_n.f_neg, v0_a, .bool a.f_d.f_neg, v1_a]⟩, .agg ⟨[.bool b.f_n.f_neg, v2_b, .bool b.f_d.f_neg, v3_b]⟩]) fn_24 rfl nt_24 rfl <| w_seq <| w_region rfl <| w_a rfl (o_box (v := .agg ⟨[.bool a.f_n.f_neg, v0_a, .bool a.f_d.f_neg, v1_a]⟩) rfl rfl) ?_
 rintro _ _ _ ⟨b1, rfl, rfl, rfl⟩
 refine w_a rfl (o_box (v := .agg ⟨[.bool b.f_n.f_neg, v2_b, .bool b.f_d.f_neg, v3_b]⟩) rfl rfl) ?_
 rintro _ _ _ ⟨b2, rfl, rfl, rfl⟩
 refine w_d rfl (d_assign (v := .int .i64 0) rfl) <| w_d rfl (d_assign (v := errV 71 none) rfl) <| w_done <| w_seq <| w_region rfl <| w_d rfl (d_loado (v := .agg ⟨[.bool a.f_n.f_neg, v0_a, .bool a.f_d.f_neg, v1_a]⟩) ty38 rfl (.there .here) rfl rfl rfl rfl) <| w_d rfl (d_loado (v := .agg ⟨[.bool b.f_n.f_neg, v2_b, .bool b.f_d.f_neg, v3_b]⟩) ty38 rfl .here rfl rfl rfl rfl) ?_
 obtain ⟨y3, hy4, he⟩ := Option.bind_eq_some_iff.1 he
 refine w_a rfl (o_call co53 (vs := [.agg ⟨[.bool a.f_n.f_neg, v0_a, .bool a.f_d.f_neg, v1_a]⟩, .agg ⟨[.bool b.f_n.f_neg, v2_b, .bool b.f_d.f_neg, v3_b]⟩]) rfl (ratio_Ratio_cross.calls k (a := ⟨⟨a.f_n.f_neg, a.f_n.f_w⟩, ⟨a.f_d.f_neg, a.f_d.f_w⟩⟩) (b := ⟨⟨b.f_n.f_neg, b.f_n.f_w⟩, ⟨b.f_d.f_neg, b.f_d.f_w⟩⟩) hy4 h0_a h1_a h2_b h3_b)) ?_
 rintro _ H5 _ ⟨rfl, e6, ⟨v7, v9, rfl, h8, h10⟩⟩
 refine w_d rfl (d_move (v := .tuple ⟨[.agg ⟨[.bool y3.1.f_neg, v7]⟩, .agg ⟨[.bool y3.2.1.f_neg, v9]⟩, errV 71 y3.2.2]⟩) rfl) <| w_d rfl (d_ext (vs := [.agg ⟨[.bool y3.1.f_neg, v7]⟩, .agg ⟨[.bool y3.2.1.f_neg, v9]⟩, errV 71 y3.2.2]) rfl rfl) <| w_d rfl (d_ext (vs := [.agg ⟨[.bool y3.1.f_neg, v7]⟩, .agg ⟨[.bool y3.2.1.f_neg, v9]⟩, errV 71 y3.2.2]) rfl rfl) <| w_d rfl (d_ext (vs := [.agg ⟨[.bool y3.1.f_neg, v7]⟩, .agg ⟨[.bool y3.2.1.f_neg, v9]⟩, errV 71 y3.2.2]) rfl rfl) <| w_a rfl (o_alloc zr36 rfl) ?_
 rintro _ _ _ ⟨b11, rfl, rfl, rfl⟩
 refine w_a rfl (o_alloc zr36 rfl) ?_
 rintro _ _ _ ⟨b12, rfl, rfl, rfl⟩
 refine w_a0 rfl (o_store (v := .agg ⟨[.bool y3.1.f_neg, v7]⟩) sz36 rfl rfl rfl rfl (one_cons rfl (one_cons (h8.one) one_nil)) (.there .here) (.here (.here .done))) ?_
 rintro _ _ _ ⟨rfl, rfl, rfl⟩
 refine w_a0 rfl (o_store (v := .agg ⟨[.bool y3.2.1.f_neg, v9]⟩) sz36 rfl rfl rfl rfl (one_cons rfl (one_cons (h10.one) one_nil)) .here (.here (.here .done))) ?_
 rintro _ _ _ ⟨rfl, rfl, rfl⟩
 refine w_d rfl (d_assign (v := errV 71 y3.2.2) rfl) <| w_done <| w_seq <| w_seq <| w_region rfl <| w_d rfl (d_move (v := errV 71 y3.2.2) rfl) <| w_d rfl (d_nenil (e := y3.2.2) Tryz.underlying32 rfl) <| w_done ?_
 rcases its he with ⟨c13, he⟩ | ⟨c13, he⟩
 ·
  refine w_then rfl c13 <| w_seq <| w_region rfl <| w_d rfl (d_move (v := errV 71 y3.2.2) rfl) <| w_d rfl (d_assign (v := .int .i64 0) rfl) <| w_d rfl (d_assign (v := errV 71 y3.2.2) rfl) <| w_done ?_
  obtain rfl := Option.some.inj he
  refine w_return fn_24 rs_24 (.tmp (v := .int .i64 0) rfl (.tmp (v := errV 71 y3.2.2) rfl .nil)) <| ⟨⟨[_, _, _, _], rfl⟩, hle.trans e6, rfl⟩
 ·
  refine w_else rfl (Bool.eq_false_iff.2 c13) <| w_skip <| w_seq <| w_region rfl <| w_d rfl (d_loado (v := .agg ⟨[.bool y3.1.f_neg, v7]⟩) ty36 rfl (.there .here) rfl rfl rfl rfl) <| w_d rfl (d_loado (v := .agg ⟨[.bool y3.2.1.f_neg, v9]⟩) ty36 rfl .here rfl rfl rfl rfl) ?_
  obtain ⟨y14, hy15, he⟩ := Option.bind_eq_some_iff.1 he
  refine w_d rfl (call_d (o_call co36 (vs := [.agg ⟨[.bool y3.1.f_neg, v7]⟩, .agg ⟨[.bool y3.2.1.f_neg, v9]⟩]) rfl (wide_Int_Cmp.calls k (a := ⟨y3.1.f_neg, y3.1.f_w⟩) (b := ⟨y3.2.1.f_neg, y3.2.1.f_w⟩) hy15 h8 h10))) <| w_d rfl (d_assign (v := .int .i64 y14) rfl) <| w_d rfl (d_assign (v := errV 71 none) rfl) <| w_done ?_
  obtain rfl := Option.some.inj he
  refine w_return fn_24 rs_24 (.tmp (v := .int .i64 y14) rfl (.tmp (v := errV 71 none) rfl .nil)) <| ⟨⟨[_, _, _, _], rfl⟩, hle.trans e6, rfl⟩
/-! ### radome/radomeref01.Two -/
noncomputable def radomeref01_Two.C : Code := (Tryz.f17.body).getD .skip
def radomeref01_Two.out (r : radomeref01_Num) (H : Hp) (v : Value) : Prop := ∃ v0, v = .agg ⟨[.bool r.f_Neg, v0]⟩ ∧ Ro (Kd.int .i64) H v0 r.f_D
theorem radomeref01_Two.out_mono (r : radomeref01_Num) {H H' : Hp} {v : Value} (hle : H.le H') (h : radomeref01_Two.out r H v) : radomeref01_Two.out r H' v := by
 obtain ⟨v0, rfl, h0⟩ := h; exact ⟨v0, rfl, h0.mono hle⟩
abbrev radomeref01_Two.R (H0 : Hp) (L : Items) (r : radomeref01_Num) : Value → Hp → Items → Prop := fun v H' L' => (∃ p, L' = p ++ L) ∧ H0.le H' ∧ radomeref01_Two.out r H' v
structure radomeref01_Two.Hs where
 l0 : Int → Bool → (List Int) → Int → Option radomeref01_Num
 l1 : Int → Bool → (List Int) → Int → Option radomeref01_Num
noncomputable def radomeref01_Two.b0 (k : Nat) (h : radomeref01_Two.Hs)  (n : Int) (x_0 : Bool) (x_1 : List Int) (i : Int) : Option radomeref01_Num := if (w64 (i + 30)) ≤ n then ((radomeref01_Of.f k 1073741824).bind fun y10 => (radomeref01_Mul.f k (⟨x_0, x_1⟩ : radomeref01_Num) (⟨y10.f_Neg, y10.f_D⟩ : radomeref01_Num)).bind fun y18 => h.l0 n y18.f_Neg y18.f_D (w64 (i + 30))) else (h.l1 n x_0 x_1 0)
noncomputable def radomeref01_Two.b1 (k : Nat) (h : radomeref01_Two.Hs)  (n : Int) (x_0 : Bool) (x_1 : List Int) (i : Int) : Option radomeref01_Num := if i < (Int.tmod n 30) then ((radomeref01_Add.f k (⟨x_0, x_1⟩ : radomeref01_Num) (⟨x_0, x_1⟩ : radomeref01_Num)).bind fun y25 => h.l1 n y25.f_Neg y25.f_D (w64 (i + 1))) else (some ((⟨x_0, x_1⟩ : radomeref01_Num)))
noncomputable def radomeref01_Two.hs : Nat → radomeref01_Two.Hs
 | 0 => ⟨fun _ _ _ _ => none, fun _ _ _ _ => none⟩
 | k + 1 => ⟨fun x0 x1 x2 x3 => radomeref01_Two.b0 k (radomeref01_Two.hs k) x0 x1 x2 x3, fun x0 x1 x2 x3 => radomeref01_Two.b1 k (radomeref01_Two.hs k) x0 x1 x2 x3⟩
noncomputable def radomeref01_Two.f (k : Nat) (n : Int) : Option radomeref01_Num := (fun h : radomeref01_Two.Hs => (radomeref01_Of.f k 1).bind fun y2 => h.l0 n y2.f_Neg y2.f_D 0) (radomeref01_Two.hs k)
structure radomeref01_Two.LE (h h' : radomeref01_Two.Hs) : Prop where
 l0 : ∀ y0 y1 y2 y3, LeO (h.l0 y0 y1 y2 y3) (h'.l0 y0 y1 y2 y3)
 l1 : ∀ y0 y1 y2 y3, LeO (h.l1 y0 y1 y2 y3) (h'.l1 y0 y1 y2 y3)
theorem radomeref01_Two.b0_mono {k : Nat} {h h' : radomeref01_Two.Hs} (hl : radomeref01_Two.LE h h') : ∀ y0 y1 y2 y3, LeO (radomeref01_Two.b0 k h y0 y1 y2 y3) (radomeref01_Two.b0 (k + 1) h' y0 y1 y2 y3) := fun _ _ _ _ => (LeO.ite (LeO.bind (radomeref01_Of.mono k _) fun _ => LeO.bind (radomeref01_Mul.mono k _ _) fun _ => hl.l0 _ _ _ _) (hl.l1 _ _ _ _))
theorem radomeref01_Two.b1_mono {k : Nat} {h h' : radomeref01_Two.Hs} (hl : radomeref01_Two.LE h h') : ∀ y0 y1 y2 y3, LeO (radomeref01_Two.b1 k h y0 y1 y2 y3) (radomeref01_Two.b1 (k + 1) h' y0 y1 y2 y3) := fun _ _ _ _ => (LeO.ite (LeO.bind (radomeref01_Add.mono k _ _) fun _ => hl.l1 _ _ _ _) (LeO.refl _))
theorem radomeref01_Two.hs_mono : ∀ k, radomeref01_Two.LE (radomeref01_Two.hs k) (radomeref01_Two.hs (k + 1))
 | 0 => ⟨fun _ _ _ _ => LeO.none _, fun _ _ _ _ => LeO.none _⟩
 | k + 1 => ⟨radomeref01_Two.b0_mono (k := k) (radomeref01_Two.hs_mono k), radomeref01_Two.b1_mono (k := k) (radomeref01_Two.hs_mono k)⟩
theorem radomeref01_Two.mono : ∀ k y0, LeO (radomeref01_Two.f k y0) (radomeref01_Two.f (k + 1) y0) := fun k _ => have hl := radomeref01_Two.hs_mono k; by unfold radomeref01_Two.f; exact (LeO.bind (radomeref01_Of.mono k _) fun _ => hl.l0 _ _ _ _)
noncomputable def radomeref01_Two.Kl0 : List Item := .code (lopB (blkB (seqR (seqL (seqR (seqR radomeref01_Two.C)))))) :: .inLoop (lopB (blkB (seqR (seqL (seqR (seqR radomeref01_Two.C)))))) :: .inBlock 0 :: .code (seqR (seqR (seqR radomeref01_Two.C))) :: []
noncomputable def radomeref01_Two.Kl1 : List Item := .code (lopB (blkB (seqR (seqL (seqR (seqR (seqR radomeref01_Two.C))))))) :: .inLoop (lopB (blkB (seqR (seqL (seqR (seqR (seqR radomeref01_Two.C))))))) :: .inBlock 2 :: .code (seqR (seqR (seqR (seqR radomeref01_Two.C)))) :: []
structure radomeref01_Two.OK (h : radomeref01_Two.Hs) : Prop where
 l0 : ∀ {H0 H : Hp} {L : Items} {r : radomeref01_Num} {jk_ : Nat → Value} {n : Int} {x_0 : Bool} {x_1 : List Int} {i : Int} {v_x_1 : Value} {b_t2 : Nat} {b_x : Nat} (_ : H0.le H) (_he : h.l0 n x_0 x_1 i = some r) (_h_x_1 : Ro (Kd.int .i64) H v_x_1 x_1), Wp Tryz.prog 17 26 radomeref01_Two.Kl0 (upd (upd (upd (upd jk_ 0 (.int .i64 n)) 2 (.pointer (some ⟨b_t2, 0, none⟩))) 3 (.pointer (some ⟨b_x, 0, none⟩))) 4 (.int .i64 i)) H (some (b_x, .cells ⟨[.bool x_0, v_x_1]⟩ 27 (0, 0)) :: some (b_t2, .cells ⟨[.bool false, .slice none 0 0]⟩ 27 (0, 0)) :: L) (radomeref01_Two.R H0 L r)
 l1 : ∀ {H0 H : Hp} {L : Items} {r : radomeref01_Num} {jk_ : Nat → Value} {n : Int} {x_0 : Bool} {x_1 : List Int} {i : Int} {v_x_1 : Value} {b_t2 : Nat} {b_x : Nat} (_ : H0.le H) (_he : h.l1 n x_0 x_1 i = some r) (_h_x_1 : Ro (Kd.int .i64) H v_x_1 x_1), Wp Tryz.prog 17 26 radomeref01_Two.Kl1 (upd (upd (upd (upd jk_ 0 (.int .i64 n)) 2 (.pointer (some ⟨b_t2, 0, none⟩))) 3 (.pointer (some ⟨b_x, 0, none⟩))) 5 (.int .i64 i)) H (some (b_x, .cells ⟨[.bool x_0, v_x_1]⟩ 27 (0, 0)) :: some (b_t2, .cells ⟨[.bool false, .slice none 0 0]⟩ 27 (0, 0)) :: L) (radomeref01_Two.R H0 L r)
theorem radomeref01_Two.b0_ok {k : Nat} {h : radomeref01_Two.Hs} (hh : radomeref01_Two.OK h) {H0 H : Hp} {L : Items} {r : radomeref01_Num} {jk_ : Nat → Value} {n : Int} {x_0 : Bool} {x_1 : List Int} {i : Int} {v_x_1 : Value} {b_t2 : Nat} {b_x : Nat} (hle : H0.le H) (he : radomeref01_Two.b0 k h n x_0 x_1 i = some r) (h_x_1 : Ro (Kd.int .i64) H v_x_1 x_1) : Wp Tryz.prog 17 26 radomeref01_Two.Kl0 (upd (upd (upd (upd jk_ 0 (.int .i64 n)) 2 (.pointer (some ⟨b_t2, 0, none⟩))) 3 (.pointer (some ⟨b_x, 0, none⟩))) 4 (.int .i64 i)) H (some (b_x, .cells ⟨[.bool x_0, v_x_1]⟩ 27 (0, 0)) :: some (b_t2, .cells ⟨[.bool false, .slice none 0 0]⟩ 27 (0, 0)) :: L) (radomeref01_Two.R H0 L r) := by
 unfold radomeref01_Two.b0 at he
 unfold radomeref01_Two.Kl0
 refine w_seq <| w_seq <| w_region rfl <| w_d rfl (d_move (v := .int .i64 i) rfl) <| w_d rfl (d_add (c := w64 (i + 30)) rfl rfl rfl) <| w_d rfl (d_move (v := .int .i64 n) rfl) <| w_d rfl (d_leq rfl rfl) <| w_done ?_
 rcases its he with ⟨c9, he⟩ | ⟨c9, he⟩
 ·
  refine w_then rfl (decide_eq_true c9) <| w_skip <| w_seq <| w_block ?_
  obtain ⟨y10, hy11, he⟩ := Option.bind_eq_some_iff.1 he
  refine w_drawn (p := 2) (tl := [2, 3]) [[], []] [some 13, some 14] (fctF (.is (.agg ⟨[.bool x_0, v_x_1]⟩) :: .of (radomeref01_Of.out y10) (radomeref01_Of.out_mono _) :: [])) (fun m_ => some (b_x, .cells ⟨[.bool x_0, v_x_1]⟩ 27 (0, 0)) :: some (b_t2, .cells ⟨[.bool false, .slice none 0 0]⟩ 27 (0, 0)) :: L) (fun _ => none) mixed (by kernel_rfl) (by kernel_rfl) rfl (fct_mono (by kernel_rfl)) ⟨(fun H' m_ hH hm_ hu_ => depK_nil <| s_d (m_ 0) rfl (d_loado (v := .agg ⟨[.bool x_0, v_x_1]⟩) ty27 rfl .here rfl rfl rfl rfl) (by exact rfl) rfl), (fun H' m_ hH hm_ hu_ => depK_nil <| s_k (m_ 1) rfl (o_call co16 (vs := [.int .i64 1073741824]) rfl (radomeref01_Of.calls k hy11)) rfl (by rintro v_ H_ _ ⟨rfl, e_, h_⟩; exact ⟨rfl, e_, h_⟩)), trivial⟩ ?_
  intro H16 e17
  rintro _ _ rfl _ _ ⟨v14, rfl, h15⟩
  obtain ⟨y18, hy19, he⟩ := Option.bind_eq_some_iff.1 he
  refine w_a rfl (o_call co41 (vs := [.agg ⟨[.bool x_0, v_x_1]⟩, .agg ⟨[.bool y10.f_Neg, v14]⟩]) rfl (radomeref01_Mul.calls k (a := ⟨x_0, x_1⟩) (b := ⟨y10.f_Neg, y10.f_D⟩) hy19 (h_x_1.mono e17) h15)) ?_
  rintro _ H20 _ ⟨rfl, e21, ⟨v22, rfl, h23⟩⟩
  refine w_a0 rfl (o_store (v := .agg ⟨[.bool y18.f_Neg, v22]⟩) sz27 rfl rfl rfl rfl (one_cons rfl (one_cons (h23.one) one_nil)) .here (.here (.here .done))) ?_
  rintro _ _ _ ⟨rfl, rfl, rfl⟩
  refine w_done <| w_inBlock <| w_region rfl <| w_d rfl (d_move (v := .int .i64 i) rfl) <| w_d rfl (d_add (c := w64 (i + 30)) rfl rfl rfl) <| w_d rfl (d_assign (v := .int .i64 (w64 (i + 30))) rfl) <| w_done <| w_inLoop <| w_sl 0 (.int .i64 n) rfl <| w_sl 2 (.pointer (some ⟨b_t2, 0, none⟩)) rfl <| w_sl 3 (.pointer (some ⟨b_x, 0, none⟩)) rfl <| w_sl 4 (.int .i64 (w64 (i + 30))) rfl <| hh.l0 (hle.trans (e17.trans e21)) he h23
 ·
  refine w_else rfl (decide_eq_false c9) <| w_exit rfl <| w_seq <| w_seq <| w_region rfl <| w_d rfl (d_assign (v := .int .i64 0) rfl) <| w_done <| w_block <| w_loop <| w_sl 0 (.int .i64 n) rfl <| w_sl 2 (.pointer (some ⟨b_t2, 0, none⟩)) rfl <| w_sl 3 (.pointer (some ⟨b_x, 0, none⟩)) rfl ?_
  refine w_sl 5 (.int .i64 0) rfl <| hh.l1 hle he h_x_1
theorem radomeref01_Two.b1_ok {k : Nat} {h : radomeref01_Two.Hs} (hh : radomeref01_Two.OK h) {H0 H : Hp} {L : Items} {r : radomeref01_Num} {jk_ : Nat → Value} {n : Int} {x_0 : Bool} {x_1 : List Int} {i : Int} {v_x_1 : Value} {b_t2 : Nat} {b_x : Nat} (hle : H0.le H) (he : radomeref01_Two.b1 k h n x_0 x_1 i = some r) (h_x_1 : Ro (Kd.int .i64) H v_x_1 x_1) : Wp Tryz.prog 17 26 radomeref01_Two.Kl1 (upd (upd (upd (upd jk_ 0 (.int .i64 n)) 2 (.pointer (some ⟨b_t2, 0, none⟩))) 3 (.pointer (some ⟨b_x, 0, none⟩))) 5 (.int .i64 i)) H (some (b_x, .cells ⟨[.bool x_0, v_x_1]⟩ 27 (0, 0)) :: some (b_t2, .cells ⟨[.bool false, .slice none 0 0]⟩ 27 (0, 0)) :: L) (radomeref01_Two.R H0 L r) := by
 unfold radomeref01_Two.b1 at he
 unfold radomeref01_Two.Kl1
 refine w_seq <| w_seq <| w_region rfl <| w_d rfl (d_move (v := .int .i64 i) rfl) <| w_d rfl (d_move (v := .int .i64 n) rfl) <| w_d rfl (d_rem rfl rfl (by decide)) <| w_d rfl (d_lss rfl rfl) <| w_done ?_
 rcases its he with ⟨c24, he⟩ | ⟨c24, he⟩
 ·
  refine w_then rfl (decide_eq_true c24) <| w_skip <| w_seq <| w_block <| w_region rfl <| w_d rfl (d_loado (v := .agg ⟨[.bool x_0, v_x_1]⟩) ty27 rfl .here rfl rfl rfl rfl) <| w_d rfl (d_loado (v := .agg ⟨[.bool x_0, v_x_1]⟩) ty27 rfl .here rfl rfl rfl rfl) ?_
  obtain ⟨y25, hy26, he⟩ := Option.bind_eq_some_iff.1 he
  refine w_a rfl (o_call co45 (vs := [.agg ⟨[.bool x_0, v_x_1]⟩, .agg ⟨[.bool x_0, v_x_1]⟩]) rfl (radomeref01_Add.calls k (a := ⟨x_0, x_1⟩) (b := ⟨x_0, x_1⟩) hy26 h_x_1 h_x_1)) ?_
  rintro _ H27 _ ⟨rfl, e28, ⟨v29, rfl, h30⟩⟩
  refine w_a0 rfl (o_store (v := .agg ⟨[.bool y25.f_Neg, v29]⟩) sz27 rfl rfl rfl rfl (one_cons rfl (one_cons (h30.one) one_nil)) .here (.here (.here .done))) ?_
  rintro _ _ _ ⟨rfl, rfl, rfl⟩
  refine w_done <| w_inBlock <| w_region rfl <| w_d rfl (d_move (v := .int .i64 i) rfl) <| w_d rfl (d_add (c := w64 (i + 1)) rfl rfl rfl) <| w_d rfl (d_assign (v := .int .i64 (w64 (i + 1))) rfl) <| w_done <| w_inLoop <| w_sl 0 (.int .i64 n) rfl <| w_sl 2 (.pointer (some ⟨b_t2, 0, none⟩)) rfl <| w_sl 3 (.pointer (some ⟨b_x, 0, none⟩)) rfl <| w_sl 5 (.int .i64 (w64 (i + 1))) rfl <| hh.l1 (hle.trans e28) he h30
 ·
  refine w_else rfl (decide_eq_false c24) <| w_exit rfl <| w_seq <| w_region rfl <| w_d rfl (d_loado (v := .agg ⟨[.bool x_0, v_x_1]⟩) ty27 rfl .here rfl rfl rfl rfl) <| w_a0 rfl (o_store (v := .agg ⟨[.bool x_0, v_x_1]⟩) sz27 rfl rfl rfl rfl (one_cons rfl (one_cons (h_x_1.one) one_nil)) (.there .here) (.here (.here .done))) ?_
  rintro _ _ _ ⟨rfl, rfl, rfl⟩
  refine w_done ?_
  obtain rfl := Option.some.inj he
  refine w_return fn_17 rs_17 (.box (v := .agg ⟨[.bool x_0, v_x_1]⟩) rfl ty27 rfl rfl (.there .here) rfl .nil) <| ⟨⟨[_, _], rfl⟩, hle, ⟨v_x_1, rfl, h_x_1⟩⟩
theorem radomeref01_Two.ok : ∀ k, radomeref01_Two.OK (radomeref01_Two.hs k)
 | 0 => ⟨(by intros; exact nomatch (show none = some _ from by assumption)), (by intros; exact nomatch (show none = some _ from by assumption))⟩
 | k + 1 => ⟨radomeref01_Two.b0_ok (k := k) (radomeref01_Two.ok k), radomeref01_Two.b1_ok (k := k) (radomeref01_Two.ok k)⟩
theorem radomeref01_Two.calls (k : Nat) {H : Hp} {L : Items} {n : Int} {r : radomeref01_Num} (he : radomeref01_Two.f k n = some r) : Ct Tryz.prog 17 ⟨[.int .i64 n]⟩ H L (fun v H' L' => L = L' ∧ H.le H' ∧ radomeref01_Two.out r H' v) := by
 refine ct_out (O := radomeref01_Two.out r) ?_
 have hle : H.le H := .refl _
 have hh := radomeref01_Two.ok k
 unfold radomeref01_Two.f at he
 refine ct_enter (args := [.int .i64 n]) fn_17 rfl nt_17 rfl <| w_seq <| w_region rfl <| w_a rfl (o_alloc zr27 rfl) ?_
 rintro _ _ _ ⟨b1, rfl, rfl, rfl⟩
 refine w_done <| w_seq <| w_region rfl ?_
 obtain ⟨y2, hy3, he⟩ := Option.bind_eq_some_iff.1 he
 refine w_a rfl (o_call co16 (vs := [.int .i64 1]) rfl (radomeref01_Of.calls k hy3)) ?_
 rintro _ H4 _ ⟨rfl, e5, ⟨v6, rfl, h7⟩⟩
 refine w_a rfl (o_alloc zr27 rfl) ?_
 rintro _ _ _ ⟨b8, rfl, rfl, rfl⟩
 refine w_a0 rfl (o_store (v := .agg ⟨[.bool y2.f_Neg, v6]⟩) sz27 rfl rfl rfl rfl (one_cons rfl (one_cons (h7.one) one_nil)) .here (.here (.here .done))) ?_
 rintro _ _ _ ⟨rfl, rfl, rfl⟩
 refine w_done <| w_seq <| w_seq <| w_region rfl <| w_d rfl (d_assign (v := .int .i64 0) rfl) <| w_done <| w_block <| w_loop <| w_sl 0 (.int .i64 n) rfl <| w_sl 2 (.pointer (some ⟨b1, 0, none⟩)) rfl <| w_sl 3 (.pointer (some ⟨b8, 0, none⟩)) rfl <| w_sl 4 (.int .i64 0) rfl <| hh.l0 (hle.trans e5) he h7
/-! ### radome/radomeref01.Fits -/
noncomputable def radomeref01_Fits.C : Code := (Tryz.f44.body).getD .skip
def radomeref01_Fits.out (r : Bool) (H : Hp) (v : Value) : Prop := v = .bool r
abbrev radomeref01_Fits.R (H0 : Hp) (L : Items) (r : Bool) : Value → Hp → Items → Prop := fun v H' L' => (∃ p, L' = p ++ L) ∧ H0.le H' ∧ radomeref01_Fits.out r H' v
noncomputable def radomeref01_Fits.f (k : Nat) (a : radomeref01_Num) (bits : Int) : Option Bool := (radomeref01_Two.f k bits).bind fun y2 => (radomeref01_Less.f k a.f_D y2.f_D).bind fun y12 => some (y12)
theorem radomeref01_Fits.mono : ∀ k y0 y1, LeO (radomeref01_Fits.f k y0 y1) (radomeref01_Fits.f (k + 1) y0 y1) := fun k _ _ => by unfold radomeref01_Fits.f; exact (LeO.bind (radomeref01_Two.mono k _) fun _ => LeO.bind (radomeref01_Less.mono k _ _) fun _ => LeO.refl _)
theorem radomeref01_Fits.calls (k : Nat) {H : Hp} {L : Items} {a : radomeref01_Num} {bits : Int} {v0_a : Value} {r : Bool} (he : radomeref01_Fits.f k a bits = some r) (h0_a : Ro (Kd.int .i64) H v0_a a.f_D) : Ct Tryz.prog 44 ⟨[.agg ⟨[.bool a.f_Neg, v0_a]⟩, .int .i64 bits]⟩ H L (fun v H' L' => L = L' ∧ H = H' ∧ v = .bool r) := by
 refine ct_outs (O := radomeref01_Fits.out r) (fun _ _ h => h) ?_
 have hle : H.le H := .refl _
 unfold radomeref01_Fits.f at he
 refine ct_enter (args := [.agg ⟨[.bool a.f_Neg, v0_a]⟩, .int .i64 bits]) fn_44 rfl nt_44 rfl <| w_seq <| w_region rfl <| w_a rfl (o_box (v := .agg ⟨[.bool a.f_Neg, v0_a]⟩) rfl rfl) ?_
 rintro _ _ _ ⟨b1, rfl, rfl, rfl⟩
 refine w_d rfl (d_assign (v := .bool false) rfl) <| w_done <| w_seq ?_
 obtain ⟨y2, hy3, he⟩ := Option.bind_eq_some_iff.1 he
 refine w_drawn (p := 5) (tl := [5, 6]) [[], [(0, some 5)], [], [(2, some 7)], [(3, some 8)]] [some 5, some 6, some 7, some 8, some 9] (fctF (.is (.pointer (some ⟨b1, 1, none⟩)) :: .is (v0_a) :: .is (.int .i64 bits) :: .of (radomeref01_Two.out y2) (radomeref01_Two.out_mono _) :: .ro (Kd.int .i64) (y2.f_D) :: [])) (fun m_ => some (b1, .cells ⟨[.bool a.f_Neg, v0_a]⟩ 27 (0, 0)) :: L) (fun _ => none) mixed (by kernel_rfl) (by kernel_rfl) rfl (fct_mono (by kernel_rfl)) ⟨(fun H' m_ hH hm_ hu_ => depK_nil <| s_d (m_ 0) rfl (d_fld (o' := 1) Tryz.underlying27 rfl sz25 rfl rfl rfl) (by exact rfl) rfl), (by rintro H' m_ hH hm_ hu_ _ rfl; exact depK_nil <| s_d (m_ 1) rfl (d_loado (v := v0_a) ty25 rfl .here rfl rfl rfl rfl) (by exact rfl) rfl), (fun H' m_ hH hm_ hu_ => depK_nil <| s_d (m_ 2) rfl (d_move (v := .int .i64 bits) rfl) (by exact rfl) rfl), (by rintro H' m_ hH hm_ hu_ _ rfl; exact depK_nil <| s_k (m_ 3) rfl (o_call co17 (vs := [.int .i64 bits]) rfl (radomeref01_Two.calls k hy3)) rfl (by rintro v_ H_ _ ⟨rfl, e_, h_⟩; exact ⟨rfl, e_, h_⟩)), (by rintro H' m_ hH hm_ hu_ _ ⟨v6, rfl, h7⟩; exact depK_nil <| s_d (m_ 4) rfl (d_field (v := v6) Tryz.underlying27 rfl ty25 rfl rfl rfl rfl rfl) (by exact h7) rfl), trivial⟩ ?_
 intro H10 e11
 rintro _ _ rfl _ _ rfl _ _ rfl _ _ ⟨v6, rfl, h7⟩ v8 _ (h9 : Ro (Kd.int .i64) H10 v8 y2.f_D)
 obtain ⟨y12, hy13, he⟩ := Option.bind_eq_some_iff.1 he
 refine w_d rfl (call_d (o_call co80 (vs := [v0_a, v8]) rfl (radomeref01_Less.calls k hy13 ((h0_a.mono e11).src) h9.src))) <| w_d rfl (d_assign (v := .bool y12) rfl) <| w_done ?_
 obtain rfl := Option.some.inj he
 refine w_return fn_44 rs_44 (.tmp (v := .bool y12) rfl .nil) <| ⟨⟨[_], rfl⟩, hle.trans e11, rfl⟩
/-! ### radome/radomeref02.Fits -/
noncomputable def radomeref02_Fits.C : Code := (Tryz.f54.body).getD .skip
def radomeref02_Fits.out (r : Bool) (H : Hp) (v : Value) : Prop := v = .bool r
abbrev radomeref02_Fits.R (H0 : Hp) (L : Items) (r : Bool) : Value → Hp → Items → Prop := fun v H' L' => (∃ p, L' = p ++ L) ∧ H0.le H' ∧ radomeref02_Fits.out r H' v
structure radomeref02_Fits.Hs where
 l0 : (List radomeref01_Num) → Bool → Int → Option Bool
noncomputable def radomeref02_Fits.b0 (k : Nat) (h : radomeref02_Fits.Hs)  (l : List radomeref01_Num) (t2 : Bool) (i : Int) : Option Bool := if i < (l.length : Int) then (if (0 : Int) ≤ i ∧ i < (l.length : Int) then ((radomeref01_Fits.f k (⟨(rd l i).f_Neg, (rd l i).f_D⟩ : radomeref01_Num) 4096).bind fun y7 => if (!y7) = true then (some (false)) else (h.l0 l t2 (w64 (i + 1)))) else none) else (some (true))
noncomputable def radomeref02_Fits.hs : Nat → radomeref02_Fits.Hs
 | 0 => ⟨fun _ _ _ => none⟩
 | k + 1 => ⟨fun x0 x1 x2 => radomeref02_Fits.b0 k (radomeref02_Fits.hs k) x0 x1 x2⟩
noncomputable def radomeref02_Fits.f (k : Nat) (l : List radomeref01_Num) : Option Bool := (fun h : radomeref02_Fits.Hs => h.l0 l false 0) (radomeref02_Fits.hs k)
structure radomeref02_Fits.LE (h h' : radomeref02_Fits.Hs) : Prop where
 l0 : ∀ y0 y1 y2, LeO (h.l0 y0 y1 y2) (h'.l0 y0 y1 y2)
theorem radomeref02_Fits.b0_mono {k : Nat} {h h' : radomeref02_Fits.Hs} (hl : radomeref02_Fits.LE h h') : ∀ y0 y1 y2, LeO (radomeref02_Fits.b0 k h y0 y1 y2) (radomeref02_Fits.b0 (k + 1) h' y0 y1 y2) := fun _ _ _ => (LeO.ite (LeO.ite (LeO.bind (radomeref01_Fits.mono k _ _) fun _ => LeO.ite (LeO.refl _) (hl.l0 _ _ _)) (LeO.refl _)) (LeO.refl _))
theorem radomeref02_Fits.hs_mono : ∀ k, radomeref02_Fits.LE (radomeref02_Fits.hs k) (radomeref02_Fits.hs (k + 1))
 | 0 => ⟨fun _ _ _ => LeO.none _⟩
 | k + 1 => ⟨radomeref02_Fits.b0_mono (k := k) (radomeref02_Fits.hs_mono k)⟩
theorem radomeref02_Fits.mono : ∀ k y0, LeO (radomeref02_Fits.f k y0) (radomeref02_Fits.f (k + 1) y0) := fun k _ => have hl := radomeref02_Fits.hs_mono k; by unfold radomeref02_Fits.f; exact (hl.l0 _ _ _)
noncomputable def radomeref02_Fits.Kl0 : List Item := .code (lopB (blkB (seqR (seqL (seqR radomeref02_Fits.C))))) :: .inLoop (lopB (blkB (seqR (seqL (seqR radomeref02_Fits.C))))) :: .inBlock 0 :: .code (seqR (seqR radomeref02_Fits.C)) :: []
structure radomeref02_Fits.OK (h : radomeref02_Fits.Hs) : Prop where
 l0 : ∀ {H0 H : Hp} {L : Items} {r : Bool} {jk_ : Nat → Value} {l : List radomeref01_Num} {t2 : Bool} {i : Int} {v_l : Value} (_ : H0.le H) (_he : h.l0 l t2 i = some r) (_h_l : Src k_radomeref01_Num H L v_l l), Wp Tryz.prog 54 16 radomeref02_Fits.Kl0 (upd (upd (upd jk_ 0 (v_l)) 2 (.bool t2)) 3 (.int .i64 i)) H (L) (radomeref02_Fits.R H0 L r)
theorem radomeref02_Fits.b0_ok {k : Nat} {h : radomeref02_Fits.Hs} (hh : radomeref02_Fits.OK h) {H0 H : Hp} {L : Items} {r : Bool} {jk_ : Nat → Value} {l : List radomeref01_Num} {t2 : Bool} {i : Int} {v_l : Value} (hle : H0.le H) (he : radomeref02_Fits.b0 k h l t2 i = some r) (h_l : Src k_radomeref01_Num H L v_l l) : Wp Tryz.prog 54 16 radomeref02_Fits.Kl0 (upd (upd (upd jk_ 0 (v_l)) 2 (.bool t2)) 3 (.int .i64 i)) H (L) (radomeref02_Fits.R H0 L r) := by
 unfold radomeref02_Fits.b0 at he
 unfold radomeref02_Fits.Kl0
 refine w_seq <| w_seq <| w_region rfl <| w_d rfl (d_move (v := .int .i64 i) rfl) <| w_d rfl (d_move (v := v_l) rfl) <| w_d rfl (d_len Tryz.underlying99 rfl h_l) <| w_d rfl (d_lss rfl rfl) <| w_done ?_
 rcases its he with ⟨c1, he⟩ | ⟨c1, he⟩
 ·
  refine w_then rfl (decide_eq_true c1) <| w_skip <| w_seq <| w_block <| w_seq <| w_region rfl <| w_d rfl (d_move (v := v_l) rfl) <| w_d rfl (d_move (v := .int .i64 i) rfl) ?_
  obtain ⟨c2, he⟩ := rq he
  refine w_d rfl (d_index (sz := 2) Tryz.underlying99 sz27 rfl h_l rfl c2) ?_
  obtain ⟨_, l3, r4⟩ := el_of (kd := k_radomeref01_Num) h_l c2
  obtain ⟨v5, rfl, h6⟩ := k_radomeref01_Num_out r4
  refine w_d rfl (d_load (v := .agg ⟨[.bool ((rd l i).f_Neg), v5]⟩) (cs := [.bool ((rd l i).f_Neg), v5]) ty27 rfl rfl (by decide) l3 rfl) ?_
  obtain ⟨y7, hy8, he⟩ := Option.bind_eq_some_iff.1 he
  refine w_d rfl (call_d (o_call co44 (vs := [.agg ⟨[.bool ((rd l i).f_Neg), v5]⟩, .int .i64 4096]) rfl (radomeref01_Fits.calls k (a := ⟨(rd l i).f_Neg, (rd l i).f_D⟩) hy8 h6))) <| w_d rfl (d_not (b := y7) rfl) <| w_done ?_
  rcases its he with ⟨c11, he⟩ | ⟨c11, he⟩
  ·
   refine w_then rfl c11 <| w_seq <| w_region rfl <| w_d rfl (d_assign (v := .bool false) rfl) <| w_done ?_
   obtain rfl := Option.some.inj he
   refine w_return fn_54 rs_54 (.tmp (v := .bool false) rfl .nil) <| ⟨⟨[], rfl⟩, hle, rfl⟩
  ·
   refine w_else rfl (Bool.eq_false_iff.2 c11) <| w_skip <| w_inBlock <| w_region rfl <| w_d rfl (d_move (v := .int .i64 i) rfl) <| w_d rfl (d_add (c := w64 (i + 1)) rfl rfl rfl) <| w_d rfl (d_assign (v := .int .i64 (w64 (i + 1))) rfl) <| w_done <| w_inLoop <| w_sl 0 (v_l) rfl <| w_sl 2 (.bool t2) rfl <| w_sl 3 (.int .i64 (w64 (i + 1))) rfl <| hh.l0 hle he h_l
 ·
  refine w_else rfl (decide_eq_false c1) <| w_exit rfl <| w_seq <| w_region rfl <| w_d rfl (d_assign (v := .bool true) rfl) <| w_done ?_
  obtain rfl := Option.some.inj he
  refine w_return fn_54 rs_54 (.tmp (v := .bool true) rfl .nil) <| ⟨⟨[], rfl⟩, hle, rfl⟩
theorem radomeref02_Fits.ok : ∀ k, radomeref02_Fits.OK (radomeref02_Fits.hs k)
 | 0 => ⟨(by intros; exact nomatch (show none = some _ from by assumption))⟩
 | k + 1 => ⟨radomeref02_Fits.b0_ok (k := k) (radomeref02_Fits.ok k)⟩
theorem radomeref02_Fits.calls (k : Nat) {H : Hp} {L : Items} {l : List radomeref01_Num} {v0_l : Value} {r : Bool} (he : radomeref02_Fits.f k l = some r) (h0_l : Src k_radomeref01_Num H L v0_l l) : Ct Tryz.prog 54 ⟨[v0_l]⟩ H L (fun v H' L' => L = L' ∧ H = H' ∧ v = .bool r) := by
 refine ct_outs (O := radomeref02_Fits.out r) (fun _ _ h => h) ?_
 have hle : H.le H := .refl _
 have hh := radomeref02_Fits.ok k
 unfold radomeref02_Fits.f at he
 refine ct_enter (args := [v0_l]) fn_54 rfl nt_54 rfl <| w_seq <| w_region rfl <| w_d rfl (d_assign (v := .bool false) rfl) <| w_done <| w_seq <| w_seq <| w_region rfl <| w_d rfl (d_assign (v := .int .i64 0) rfl) <| w_done <| w_block <| w_loop ?_
 refine w_sl 0 (v0_l) rfl <| w_sl 2 (.bool false) rfl <| w_sl 3 (.int .i64 0) rfl <| hh.l0 hle he h0_l
/-! ### radome/radomeref02.Join -/
noncomputable def radomeref02_Join.C : Code := (Tryz.f25.body).getD .skip
def radomeref02_Join.out (r : radomeref02_Ratio × Int) (H : Hp) (v : Value) : Prop := ∃ v0, ∃ v1, v = .tuple ⟨[.agg ⟨[.bool r.1.f_N.f_Neg, v0, .bool r.1.f_D.f_Neg, v1]⟩, .int .i64 r.2]⟩ ∧ Ro (Kd.int .i64) H v0 r.1.f_N.f_D ∧ Ro (Kd.int .i64) H v1 r.1.f_D.f_D
theorem radomeref02_Join.out_mono (r : radomeref02_Ratio × Int) {H H' : Hp} {v : Value} (hle : H.le H') (h : radomeref02_Join.out r H v) : radomeref02_Join.out r H' v := by
 obtain ⟨v0, v1, rfl, h0, h1⟩ := h; exact ⟨v0, v1, rfl, h0.mono hle, h1.mono hle⟩
abbrev radomeref02_Join.R (H0 : Hp) (L : Items) (r : radomeref02_Ratio × Int) : Value → Hp → Items → Prop := fun v H' L' => (∃ p, L' = p ++ L) ∧ H0.le H' ∧ radomeref02_Join.out r H' v
noncomputable def radomeref02_Join.j1 (k : Nat)  (a_0 : Bool) (a_1 : List Int) (a_2 : Bool) (a_3 : List Int) (b_0 : Bool) (b_1 : List Int) (b_2 : Bool) (b_3 : List Int) (x_0 : Bool) (x_1 : List Int) (y_0 : Bool) (y_1 : List Int) : Option (radomeref02_Ratio × Int) := (radomeref01_Add.f k (⟨x_0, x_1⟩ : radomeref01_Num) (⟨y_0, y_1⟩ : radomeref01_Num)).bind fun y27 => (radomeref01_Mul.f k (⟨a_2, a_3⟩ : radomeref01_Num) (⟨b_2, b_3⟩ : radomeref01_Num)).bind fun y33 => (radomeref02_Fits.f k [(⟨x_0, x_1⟩ : radomeref01_Num), (⟨y_0, y_1⟩ : radomeref01_Num), (⟨y27.f_Neg, y27.f_D⟩ : radomeref01_Num), (⟨y33.f_Neg, y33.f_D⟩ : radomeref01_Num)]).bind fun y46 => if (!y46) = true then (some ((⟨(⟨false, []⟩ : radomeref01_Num), (⟨false, []⟩ : radomeref01_Num)⟩ : radomeref02_Ratio), 12)) else ((radomeref02_Of.f k (⟨y27.f_Neg, y27.f_D⟩ : radomeref01_Num) (⟨y33.f_Neg, y33.f_D⟩ : radomeref01_Num)).bind fun y51 => some ((⟨(⟨y51.f_N.f_Neg, y51.f_N.f_D⟩ : radomeref01_Num), (⟨y51.f_D.f_Neg, y51.f_D.f_D⟩ : radomeref01_Num)⟩ : radomeref02_Ratio), 0))
noncomputable def radomeref02_Join.f (k : Nat) (a : radomeref02_Ratio) (b : radomeref02_Ratio) (less : Bool) : Option (radomeref02_Ratio × Int) := (radomeref01_Mul.f k (⟨a.f_N.f_Neg, a.f_N.f_D⟩ : radomeref01_Num) (⟨b.f_D.f_Neg, b.f_D.f_D⟩ : radomeref01_Num)).bind fun y4 => (radomeref01_Mul.f k (⟨b.f_N.f_Neg, b.f_N.f_D⟩ : radomeref01_Num) (⟨a.f_D.f_Neg, a.f_D.f_D⟩ : radomeref01_Num)).bind fun y10 => if less = true then ((radomeref01_Neg.f k (⟨y10.f_Neg, y10.f_D⟩ : radomeref01_Num)).bind fun y21 => radomeref02_Join.j1 k a.f_N.f_Neg a.f_N.f_D a.f_D.f_Neg a.f_D.f_D b.f_N.f_Neg b.f_N.f_D b.f_D.f_Neg b.f_D.f_D y4.f_Neg y4.f_D y21.f_Neg y21.f_D) else (radomeref02_Join.j1 k a.f_N.f_Neg a.f_N.f_D a.f_D.f_Neg a.f_D.f_D b.f_N.f_Neg b.f_N.f_D b.f_D.f_Neg b.f_D.f_D y4.f_Neg y4.f_D y10.f_Neg y10.f_D)
theorem radomeref02_Join.j1_mono {k : Nat} : ∀ y0 y1 y2 y3 y4 y5 y6 y7 y8 y9 y10 y11, LeO (radomeref02_Join.j1 k y0 y1 y2 y3 y4 y5 y6 y7 y8 y9 y10 y11) (radomeref02_Join.j1 (k + 1) y0 y1 y2 y3 y4 y5 y6 y7 y8 y9 y10 y11) := fun _ _ _ _ _ _ _ _ _ _ _ _ => (LeO.bind (radomeref01_Add.mono k _ _) fun _ => LeO.bind (radomeref01_Mul.mono k _ _) fun _ => LeO.bind (radomeref02_Fits.mono k _) fun _ => LeO.ite (LeO.refl _) (LeO.bind (radomeref02_Of.mono k _ _) fun _ => LeO.refl _))
theorem radomeref02_Join.mono : ∀ k y0 y1 y2, LeO (radomeref02_Join.f k y0 y1 y2) (radomeref02_Join.f (k + 1) y0 y1 y2) := fun k _ _ _ => by unfold radomeref02_Join.f; exact (LeO.bind (radomeref01_Mul.mono k _ _) fun _ => LeO.bind (radomeref01_Mul.mono k _ _) fun _ => LeO.ite (LeO.bind (radomeref01_Neg.mono k _) fun _ => radomeref02_Join.j1_mono (k := k)  _ _ _ _ _ _ _ _ _ _ _ _) (radomeref02_Join.j1_mono (k := k)  _ _ _ _ _ _ _ _ _ _ _ _))
noncomputable def radomeref02_Join.Kj1 : List Item := .code (seqR (seqR (seqR radomeref02_Join.C))) :: []
theorem radomeref02_Join.j1_ok {k : Nat} {H0 H : Hp} {L : Items} {r : radomeref02_Ratio × Int} {jk_ : Nat → Value} {a_0 : Bool} {a_1 : List Int} {a_2 : Bool} {a_3 : List Int} {b_0 : Bool} {b_1 : List Int} {b_2 : Bool} {b_3 : List Int} {x_0 : Bool} {x_1 : List Int} {y_0 : Bool} {y_1 : List Int} {v_a_1 : Value} {v_a_3 : Value} {v_b_1 : Value} {v_b_3 : Value} {v_x_1 : Value} {v_y_1 : Value} {b_a : Nat} {b_b : Nat} {b_t6 : Nat} {b_x : Nat} {b_y : Nat} (hle : H0.le H) (he : radomeref02_Join.j1 k a_0 a_1 a_2 a_3 b_0 b_1 b_2 b_3 x_0 x_1 y_0 y_1 = some r) (h_a_1 : Ro (Kd.int .i64) H v_a_1 a_1) (h_a_3 : Ro (Kd.int .i64) H v_a_3 a_3) (h_b_1 : Ro (Kd.int .i64) H v_b_1 b_1) (h_b_3 : Ro (Kd.int .i64) H v_b_3 b_3) (h_x_1 : Ro (Kd.int .i64) H v_x_1 x_1) (h_y_1 : Ro (Kd.int .i64) H v_y_1 y_1) : Wp Tryz.prog 25 44 radomeref02_Join.Kj1 (upd (upd (upd (upd (upd (upd jk_ 3 (.pointer (some ⟨b_a, 0, none⟩))) 4 (.pointer (some ⟨b_b, 0, none⟩))) 6 (.pointer (some ⟨b_t6, 0, none⟩))) 7 (.int .i64 0)) 8 (.pointer (some ⟨b_x, 0, none⟩))) 9 (.pointer (some ⟨b_y, 0, none⟩))) H (some (b_x, .cells ⟨[.bool x_0, v_x_1]⟩ 27 (0, 0)) :: some (b_y, .cells ⟨[.bool y_0, v_y_1]⟩ 27 (0, 0)) :: some (b_t6, .cells ⟨[.bool false, .slice none 0 0, .bool false, .slice none 0 0]⟩ 29 (0, 0)) :: some (b_b, .cells ⟨[.bool b_0, v_b_1, .bool b_2, v_b_3]⟩ 29 (0, 0)) :: some (b_a, .cells ⟨[.bool a_0, v_a_1, .bool a_2, v_a_3]⟩ 29 (0, 0)) :: L) (radomeref02_Join.R H0 L r) := by
 unfold radomeref02_Join.j1 at he
 unfold radomeref02_Join.Kj1
 refine w_seq ?_
 obtain ⟨y27, hy28, he⟩ := Option.bind_eq_some_iff.1 he
 obtain ⟨y33, hy34, he⟩ := Option.bind_eq_some_iff.1 he
 refine w_none (w_none (?_))
 refine w_drawn (p := 10) (tl := [10, 11]) [[], [], [(0, some 25), (1, some 26)], [], [(3, some 28)], [], [(5, some 30)], [(4, some 29), (6, some 31)], [], []] [some 25, some 26, some 27, some 28, some 29, some 30, some 31, some 32, some 10, some 11] (fctF (.is (.agg ⟨[.bool x_0, v_x_1]⟩) :: .is (.agg ⟨[.bool y_0, v_y_1]⟩) :: .of (radomeref01_Add.out y27) (radomeref01_Add.out_mono _) :: .is (.pointer (some ⟨b_a, 2, none⟩)) :: .is (.agg ⟨[.bool a_2, v_a_3]⟩) :: .is (.pointer (some ⟨b_b, 2, none⟩)) :: .is (.agg ⟨[.bool b_2, v_b_3]⟩) :: .of (radomeref01_Mul.out y33) (radomeref01_Mul.out_mono _) :: .box 27 [.bool false, .slice none 0 0] :: .box 27 [.bool false, .slice none 0 0] :: [])) (fun m_ => m_ 8 :: m_ 9 :: some (b_x, .cells ⟨[.bool x_0, v_x_1]⟩ 27 (0, 0)) :: some (b_y, .cells ⟨[.bool y_0, v_y_1]⟩ 27 (0, 0)) :: some (b_t6, .cells ⟨[.bool false, .slice none 0 0, .bool false, .slice none 0 0]⟩ 29 (0, 0)) :: some (b_b, .cells ⟨[.bool b_0, v_b_1, .bool b_2, v_b_3]⟩ 29 (0, 0)) :: some (b_a, .cells ⟨[.bool a_0, v_a_1, .bool a_2, v_a_3]⟩ 29 (0, 0)) :: L) (fun _ => none) mixed (by kernel_rfl) (by kernel_rfl) rfl (fct_mono (by kernel_rfl)) ⟨(fun H' m_ hH hm_ hu_ => depK_nil <| s_d (m_ 0) rfl (d_loado (v := .agg ⟨[.bool x_0, v_x_1]⟩) ty27 rfl (.there (.there .here)) rfl rfl rfl rfl) (by exact rfl) rfl), (fun H' m_ hH hm_ hu_ => depK_nil <| s_d (m_ 1) rfl (d_loado (v := .agg ⟨[.bool y_0, v_y_1]⟩) ty27 rfl (.there (.there (.there .here))) rfl rfl rfl rfl) (by exact rfl) rfl), (by rintro H' m_ hH hm_ hu_ _ rfl _ rfl; exact depK_nil <| s_k (m_ 2) rfl (o_call co45 (vs := [.agg ⟨[.bool x_0, v_x_1]⟩, .agg ⟨[.bool y_0, v_y_1]⟩]) rfl (radomeref01_Add.calls k (a := ⟨x_0, x_1⟩) (b := ⟨y_0, y_1⟩) hy28 (h_x_1.mono hH) (h_y_1.mono hH))) rfl (by rintro v_ H_ _ ⟨rfl, e_, h_⟩; exact ⟨rfl, e_, h_⟩)), (fun H' m_ hH hm_ hu_ => depK_nil <| s_d (m_ 3) rfl (d_fld (o' := 2) Tryz.underlying29 rfl sz27 rfl rfl rfl) (by exact rfl) rfl), (by rintro H' m_ hH hm_ hu_ _ rfl; exact depK_nil <| s_d (m_ 4) rfl (d_loado (v := .agg ⟨[.bool a_2, v_a_3]⟩) ty27 rfl (.there (.there (.there (.there (.there (.there .here)))))) rfl rfl rfl rfl) (by exact rfl) rfl), (fun H' m_ hH hm_ hu_ => depK_nil <| s_d (m_ 5) rfl (d_fld (o' := 2) Tryz.underlying29 rfl sz27 rfl rfl rfl) (by exact rfl) rfl), (by rintro H' m_ hH hm_ hu_ _ rfl; exact depK_nil <| s_d (m_ 6) rfl (d_loado (v := .agg ⟨[.bool b_2, v_b_3]⟩) ty27 rfl (.there (.there (.there (.there (.there .here))))) rfl rfl rfl rfl) (by exact rfl) rfl), (by rintro H' m_ hH hm_ hu_ _ rfl _ rfl; exact depK_nil <| s_k (m_ 7) rfl (o_call co41 (vs := [.agg ⟨[.bool a_2, v_a_3]⟩, .agg ⟨[.bool b_2, v_b_3]⟩]) rfl (radomeref01_Mul.calls k (a := ⟨a_2, a_3⟩) (b := ⟨b_2, b_3⟩) hy34 (h_a_3.mono hH) (h_b_3.mono hH))) rfl (by rintro v_ H_ _ ⟨rfl, e_, h_⟩; exact ⟨rfl, e_, h_⟩)), (fun H' m_ hH hm_ hu_ => depK_nil <| s_box hm_ rfl rfl (o_alloc zr27 rfl) rfl (fun _ => .here) (by exact fun b_ => ⟨b_, rfl, rfl⟩)), (fun H' m_ hH hm_ hu_ => depK_nil <| s_box hm_ rfl rfl (o_alloc zr27 rfl) rfl (fun _ => (.there .here)) (by exact fun b_ => ⟨b_, rfl, rfl⟩)), trivial⟩ ?_
 intro H41 e42
 rintro _ _ rfl _ _ rfl _ _ ⟨v31, rfl, h32⟩ _ _ rfl _ _ rfl _ _ rfl _ _ rfl _ _ ⟨v37, rfl, h38⟩ _ _ ⟨b39, rfl, rfl⟩ _ _ ⟨b40, rfl, rfl⟩
 refine w_a0 rfl (o_store (v := .agg ⟨[.bool y27.f_Neg, v31]⟩) sz27 rfl rfl rfl rfl (one_cons rfl (one_cons (h32.one) one_nil)) .here (.here (.here .done))) ?_
 rintro _ _ _ ⟨rfl, rfl, rfl⟩
 refine w_a0 rfl (o_store (v := .agg ⟨[.bool y33.f_Neg, v37]⟩) sz27 rfl rfl rfl rfl (one_cons rfl (one_cons (h38.one) one_nil)) (.there .here) (.here (.here .done))) ?_
 rintro _ _ _ ⟨rfl, rfl, rfl⟩
 refine w_done <| w_seq <| w_seq <| w_region rfl <| w_d rfl (d_loado (v := .agg ⟨[.bool x_0, v_x_1]⟩) ty27 rfl (.there (.there .here)) rfl rfl rfl rfl) <| w_d rfl (d_loado (v := .agg ⟨[.bool y_0, v_y_1]⟩) ty27 rfl (.there (.there (.there .here))) rfl rfl rfl rfl) <| w_d rfl (d_loado (v := .agg ⟨[.bool y27.f_Neg, v31]⟩) ty27 rfl .here rfl rfl rfl rfl) <| w_d rfl (d_loado (v := .agg ⟨[.bool y33.f_Neg, v37]⟩) ty27 rfl (.there .here) rfl rfl rfl rfl) <| w_a rfl (o_buildSlice' (kd := k_radomeref01_Num) (css := [[.bool x_0, v_x_1], [.bool y_0, v_y_1], [.bool y27.f_Neg, v31], [.bool y33.f_Neg, v37]]) (xs := [(⟨x_0, x_1⟩ : radomeref01_Num), (⟨y_0, y_1⟩ : radomeref01_Num), (⟨y27.f_Neg, y27.f_D⟩ : radomeref01_Num), (⟨y33.f_Neg, y33.f_D⟩ : radomeref01_Num)]) (parts := [(0, .agg ⟨[.bool x_0, v_x_1]⟩), (1, .agg ⟨[.bool y_0, v_y_1]⟩), (2, .agg ⟨[.bool y27.f_Neg, v31]⟩), (3, .agg ⟨[.bool y33.f_Neg, v37]⟩)]) Tryz.underlying99 ti27 rfl ⟨_, _, rfl, rfl, ⟨_, _, rfl, rfl, ⟨_, _, rfl, rfl, ⟨_, _, rfl, rfl, rfl⟩⟩⟩⟩ ⟨(k_radomeref01_Num_in (x := ⟨x_0, x_1⟩) (h_x_1.mono e42)), ⟨(k_radomeref01_Num_in (x := ⟨y_0, y_1⟩) (h_y_1.mono e42)), ⟨(k_radomeref01_Num_in (x := ⟨y27.f_Neg, y27.f_D⟩) h32), ⟨(k_radomeref01_Num_in (x := ⟨y33.f_Neg, y33.f_D⟩) h38), trivial⟩⟩⟩⟩ rfl (by decide)) ?_
 rintro v43 _ _ ⟨i44, rfl, rfl, h45⟩
 obtain ⟨y46, hy47, he⟩ := Option.bind_eq_some_iff.1 he
 refine w_d rfl (call_d (o_call co54 (vs := [v43]) rfl (radomeref02_Fits.calls k hy47 (h45.src .here)))) <| w_d rfl (d_not (b := y46) rfl) <| w_done ?_
 rcases its he with ⟨c50, he⟩ | ⟨c50, he⟩
 ·
  refine w_then rfl c50 <| w_seq <| w_region rfl <| w_d rfl (d_build (cs' := [.bool false, .slice none 0 0, .bool false, .slice none 0 0]) Tryz.underlying29 zr29 rfl (by kernel_rfl) (parts := []) rfl .nil) <| w_a0 rfl (o_store (v := .agg ⟨[.bool false, .slice none 0 0, .bool false, .slice none 0 0]⟩) sz29 rfl rfl rfl rfl (one_cons rfl (one_cons rfl (one_cons rfl (one_cons rfl one_nil)))) (.there (.there (.there (.there (.there .here))))) (.here (.here (.here (.here .done))))) ?_
  rintro _ _ _ ⟨rfl, rfl, rfl⟩
  refine w_d rfl (d_assign (v := .int .i64 12) rfl) <| w_done ?_
  obtain rfl := Option.some.inj he
  refine w_return fn_25 rs_25 (.box (v := .agg ⟨[.bool false, .slice none 0 0, .bool false, .slice none 0 0]⟩) rfl ty29 rfl rfl (.there (.there (.there (.there (.there .here))))) rfl (.tmp (v := .int .i64 12) rfl .nil)) <| ⟨⟨[_, _, _, _, _, _, _, _], rfl⟩, hle.trans e42, ⟨.slice none 0 0, .slice none 0 0, rfl, (ro_nil _ _), (ro_nil _ _)⟩⟩
 ·
  refine w_else rfl (Bool.eq_false_iff.2 c50) <| w_skip <| w_seq <| w_region rfl <| w_d rfl (d_loado (v := .agg ⟨[.bool y27.f_Neg, v31]⟩) ty27 rfl (.there .here) rfl rfl rfl rfl) <| w_d rfl (d_loado (v := .agg ⟨[.bool y33.f_Neg, v37]⟩) ty27 rfl (.there (.there .here)) rfl rfl rfl rfl) ?_
  obtain ⟨y51, hy52, he⟩ := Option.bind_eq_some_iff.1 he
  refine w_a rfl (o_call co15 (vs := [.agg ⟨[.bool y27.f_Neg, v31]⟩, .agg ⟨[.bool y33.f_Neg, v37]⟩]) rfl (radomeref02_Of.calls k (n := ⟨y27.f_Neg, y27.f_D⟩) (d := ⟨y33.f_Neg, y33.f_D⟩) hy52 h32 h38)) ?_
  rintro _ H53 _ ⟨rfl, e54, ⟨v55, v57, rfl, h56, h58⟩⟩
  refine w_a0 rfl (o_store (v := .agg ⟨[.bool y51.f_N.f_Neg, v55, .bool y51.f_D.f_Neg, v57]⟩) sz29 rfl rfl rfl rfl (one_cons rfl (one_cons (h56.one) (one_cons rfl (one_cons (h58.one) one_nil)))) (.there (.there (.there (.there (.there .here))))) (.here (.here (.here (.here .done))))) ?_
  rintro _ _ _ ⟨rfl, rfl, rfl⟩
  refine w_d rfl (d_assign (v := .int .i64 0) rfl) <| w_done ?_
  obtain rfl := Option.some.inj he
  refine w_return fn_25 rs_25 (.box (v := .agg ⟨[.bool y51.f_N.f_Neg, v55, .bool y51.f_D.f_Neg, v57]⟩) rfl ty29 rfl rfl (.there (.there (.there (.there (.there .here))))) rfl (.tmp (v := .int .i64 0) rfl .nil)) <| ⟨⟨[_, _, _, _, _, _, _, _], rfl⟩, hle.trans (e42.trans e54), ⟨v55, v57, rfl, h56, h58⟩⟩
theorem radomeref02_Join.calls (k : Nat) {H : Hp} {L : Items} {a : radomeref02_Ratio} {b : radomeref02_Ratio} {less : Bool} {v0_a : Value} {v1_a : Value} {v2_b : Value} {v3_b : Value} {r : radomeref02_Ratio × Int} (he : radomeref02_Join.f k a b less = some r) (h0_a : Ro (Kd.int .i64) H v0_a a.f_N.f_D) (h1_a : Ro (Kd.int .i64) H v1_a a.f_D.f_D) (h2_b : Ro (Kd.int .i64) H v2_b b.f_N.f_D) (h3_b : Ro (Kd.int .i64) H v3_b b.f_D.f_D) : Ct Tryz.prog 25 ⟨[.agg ⟨[.bool a.f_N.f_Neg, v0_a, .bool a.f_D.f_Neg, v1_a]⟩, .agg ⟨[.bool b.f_N.f_Neg, v2_b, .bool b.f_D.f_Neg, v3_b]⟩, .bool less]⟩ H L (fun v H' L' => L = L' ∧ H.le H' ∧ radomeref02_Join.out r H' v) := by
 refine ct_out (O := radomeref02_Join.out r) ?_
 have hle : H.le H := .refl _
 unfold radomeref02_Join.f at he
 refine ct_enter (args := [.agg ⟨[.bool a.f_N.f_Neg, v0_a, .bool a.f_D.f_Neg, v1_a]⟩, .agg ⟨[.bool b.f_N.f_Neg, v2_b, .bool b.f_D.f_Neg, v3_b]⟩, .bool less]) fn_25 rfl nt_25 rfl <| w_seq <| w_region rfl <| w_a rfl (o_box (v := .agg ⟨[.bool a.f_N.f_Neg, v0_a, .bool a.f_D.f_Neg, v1_a]⟩) rfl rfl) ?_
 rintro _ _ _ ⟨b1, rfl, rfl, rfl⟩
 refine w_a rfl (o_box (v := .agg ⟨[.bool b.f_N.f_Neg, v2_b, .bool b.f_D.f_Neg, v3_b]⟩) rfl rfl) ?_
 rintro _ _ _ ⟨b2, rfl, rfl, rfl⟩
 refine w_a rfl (o_alloc zr29 rfl) ?_
 rintro _ _ _ ⟨b3, rfl, rfl, rfl⟩
 refine w_d rfl (d_assign (v := .int .i64 0) rfl) <| w_done <| w_seq ?_
 obtain ⟨y4, hy5, he⟩ := Option.bind_eq_some_iff.1 he
 obtain ⟨y10, hy11, he⟩ := Option.bind_eq_some_iff.1 he
 refine w_none (w_none (?_))
 refine w_drawn (p := 12) (tl := [12, 13]) [[], [(0, some 12)], [], [(2, some 14)], [(1, some 13), (3, some 15)], [], [(5, some 17)], [], [(7, some 19)], [(6, some 18), (8, some 20)], [], []] [some 12, some 13, some 14, some 15, some 16, some 17, some 18, some 19, some 20, some 21, some 8, some 9] (fctF (.is (.pointer (some ⟨b1, 0, none⟩)) :: .is (.agg ⟨[.bool a.f_N.f_Neg, v0_a]⟩) :: .is (.pointer (some ⟨b2, 2, none⟩)) :: .is (.agg ⟨[.bool b.f_D.f_Neg, v3_b]⟩) :: .of (radomeref01_Mul.out y4) (radomeref01_Mul.out_mono _) :: .is (.pointer (some ⟨b2, 0, none⟩)) :: .is (.agg ⟨[.bool b.f_N.f_Neg, v2_b]⟩) :: .is (.pointer (some ⟨b1, 2, none⟩)) :: .is (.agg ⟨[.bool a.f_D.f_Neg, v1_a]⟩) :: .of (radomeref01_Mul.out y10) (radomeref01_Mul.out_mono _) :: .box 27 [.bool false, .slice none 0 0] :: .box 27 [.bool false, .slice none 0 0] :: [])) (fun m_ => m_ 10 :: m_ 11 :: some (b3, .cells ⟨[.bool false, .slice none 0 0, .bool false, .slice none 0 0]⟩ 29 (0, 0)) :: some (b2, .cells ⟨[.bool b.f_N.f_Neg, v2_b, .bool b.f_D.f_Neg, v3_b]⟩ 29 (0, 0)) :: some (b1, .cells ⟨[.bool a.f_N.f_Neg, v0_a, .bool a.f_D.f_Neg, v1_a]⟩ 29 (0, 0)) :: L) (fun _ => none) mixed (by kernel_rfl) (by kernel_rfl) rfl (fct_mono (by kernel_rfl)) ⟨(fun H' m_ hH hm_ hu_ => depK_nil <| s_d (m_ 0) rfl (d_fld (o' := 0) Tryz.underlying29 rfl sz27 rfl rfl rfl) (by exact rfl) rfl), (by rintro H' m_ hH hm_ hu_ _ rfl; exact depK_nil <| s_d (m_ 1) rfl (d_loado (v := .agg ⟨[.bool a.f_N.f_Neg, v0_a]⟩) ty27 rfl (.there (.there (.there (.there .here)))) rfl rfl rfl rfl) (by exact rfl) rfl), (fun H' m_ hH hm_ hu_ => depK_nil <| s_d (m_ 2) rfl (d_fld (o' := 2) Tryz.underlying29 rfl sz27 rfl rfl rfl) (by exact rfl) rfl), (by rintro H' m_ hH hm_ hu_ _ rfl; exact depK_nil <| s_d (m_ 3) rfl (d_loado (v := .agg ⟨[.bool b.f_D.f_Neg, v3_b]⟩) ty27 rfl (.there (.there (.there .here))) rfl rfl rfl rfl) (by exact rfl) rfl), (by rintro H' m_ hH hm_ hu_ _ rfl _ rfl; exact depK_nil <| s_k (m_ 4) rfl (o_call co41 (vs := [.agg ⟨[.bool a.f_N.f_Neg, v0_a]⟩, .agg ⟨[.bool b.f_D.f_Neg, v3_b]⟩]) rfl (radomeref01_Mul.calls k (a := ⟨a.f_N.f_Neg, a.f_N.f_D⟩) (b := ⟨b.f_D.f_Neg, b.f_D.f_D⟩) hy5 (h0_a.mono hH) (h3_b.mono hH))) rfl (by rintro v_ H_ _ ⟨rfl, e_, h_⟩; exact ⟨rfl, e_, h_⟩)), (fun H' m_ hH hm_ hu_ => depK_nil <| s_d (m_ 5) rfl (d_fld (o' := 0) Tryz.underlying29 rfl sz27 rfl rfl rfl) (by exact rfl) rfl), (by rintro H' m_ hH hm_ hu_ _ rfl; exact depK_nil <| s_d (m_ 6) rfl (d_loado (v := .agg ⟨[.bool b.f_N.f_Neg, v2_b]⟩) ty27 rfl (.there (.there (.there .here))) rfl rfl rfl rfl) (by exact rfl) rfl), (fun H' m_ hH hm_ hu_ => depK_nil <| s_d (m_ 7) rfl (d_fld (o' := 2) Tryz.underlying29 rfl sz27 rfl rfl rfl) (by exact rfl) rfl), (by rintro H' m_ hH hm_ hu_ _ rfl; exact depK_nil <| s_d (m_ 8) rfl (d_loado (v := .agg ⟨[.bool a.f_D.f_Neg, v1_a]⟩) ty27 rfl (.there (.there (.there (.there .here)))) rfl rfl rfl rfl) (by exact rfl) rfl), (by rintro H' m_ hH hm_ hu_ _ rfl _ rfl; exact depK_nil <| s_k (m_ 9) rfl (o_call co41 (vs := [.agg ⟨[.bool b.f_N.f_Neg, v2_b]⟩, .agg ⟨[.bool a.f_D.f_Neg, v1_a]⟩]) rfl (radomeref01_Mul.calls k (a := ⟨b.f_N.f_Neg, b.f_N.f_D⟩) (b := ⟨a.f_D.f_Neg, a.f_D.f_D⟩) hy11 (h2_b.mono hH) (h1_a.mono hH))) rfl (by rintro v_ H_ _ ⟨rfl, e_, h_⟩; exact ⟨rfl, e_, h_⟩)), (fun H' m_ hH hm_ hu_ => depK_nil <| s_box hm_ rfl rfl (o_alloc zr27 rfl) rfl (fun _ => .here) (by exact fun b_ => ⟨b_, rfl, rfl⟩)), (fun H' m_ hH hm_ hu_ => depK_nil <| s_box hm_ rfl rfl (o_alloc zr27 rfl) rfl (fun _ => (.there .here)) (by exact fun b_ => ⟨b_, rfl, rfl⟩)), trivial⟩ ?_
 intro H18 e19
 rintro _ _ rfl _ _ rfl _ _ rfl _ _ rfl _ _ ⟨v8, rfl, h9⟩ _ _ rfl _ _ rfl _ _ rfl _ _ rfl _ _ ⟨v14, rfl, h15⟩ _ _ ⟨b16, rfl, rfl⟩ _ _ ⟨b17, rfl, rfl⟩
 refine w_a0 rfl (o_store (v := .agg ⟨[.bool y4.f_Neg, v8]⟩) sz27 rfl rfl rfl rfl (one_cons rfl (one_cons (h9.one) one_nil)) .here (.here (.here .done))) ?_
 rintro _ _ _ ⟨rfl, rfl, rfl⟩
 refine w_a0 rfl (o_store (v := .agg ⟨[.bool y10.f_Neg, v14]⟩) sz27 rfl rfl rfl rfl (one_cons rfl (one_cons (h15.one) one_nil)) (.there .here) (.here (.here .done))) ?_
 rintro _ _ _ ⟨rfl, rfl, rfl⟩
 refine w_done <| w_seq <| w_seq <| w_region rfl <| w_d rfl (d_move (v := .bool less) rfl) <| w_done ?_
 rcases its he with ⟨c20, he⟩ | ⟨c20, he⟩
 ·
  refine w_then rfl c20 <| w_region rfl <| w_d rfl (d_loado (v := .agg ⟨[.bool y10.f_Neg, v14]⟩) ty27 rfl (.there .here) rfl rfl rfl rfl) ?_
  obtain ⟨y21, hy22, he⟩ := Option.bind_eq_some_iff.1 he
  refine w_a rfl (o_call co48 (vs := [.agg ⟨[.bool y10.f_Neg, v14]⟩]) rfl (radomeref01_Neg.calls k (a := ⟨y10.f_Neg, y10.f_D⟩) hy22 h15)) ?_
  rintro _ H23 _ ⟨rfl, e24, ⟨v25, rfl, h26⟩⟩
  refine w_a0 rfl (o_store (v := .agg ⟨[.bool y21.f_Neg, v25]⟩) sz27 rfl rfl rfl rfl (one_cons rfl (one_cons (h26.one) one_nil)) (.there .here) (.here (.here .done))) ?_
  rintro _ _ _ ⟨rfl, rfl, rfl⟩
  refine w_done <| w_sl 3 (.pointer (some ⟨b1, 0, none⟩)) rfl <| w_sl 4 (.pointer (some ⟨b2, 0, none⟩)) rfl <| w_sl 6 (.pointer (some ⟨b3, 0, none⟩)) rfl <| w_sl 7 (.int .i64 0) rfl <| w_sl 8 (.pointer (some ⟨b16, 0, none⟩)) rfl <| w_sl 9 (.pointer (some ⟨b17, 0, none⟩)) rfl <| radomeref02_Join.j1_ok (k := k) (hle.trans (e19.trans e24)) he (h0_a.mono (e19.trans e24)) (h1_a.mono (e19.trans e24)) (h2_b.mono (e19.trans e24)) (h3_b.mono (e19.trans e24)) (h9.mono e24) h26
 ·
  refine w_else rfl (Bool.eq_false_iff.2 c20) <| w_skip <| w_sl 3 (.pointer (some ⟨b1, 0, none⟩)) rfl <| w_sl 4 (.pointer (some ⟨b2, 0, none⟩)) rfl <| w_sl 6 (.pointer (some ⟨b3, 0, none⟩)) rfl <| w_sl 7 (.int .i64 0) rfl <| w_sl 8 (.pointer (some ⟨b16, 0, none⟩)) rfl <| w_sl 9 (.pointer (some ⟨b17, 0, none⟩)) rfl <| radomeref02_Join.j1_ok (k := k) (hle.trans e19) he (h0_a.mono e19) (h1_a.mono e19) (h2_b.mono e19) (h3_b.mono e19) h9 h15
/-! ### radome/radomeref02.Times -/
noncomputable def radomeref02_Times.C : Code := (Tryz.f26.body).getD .skip
def radomeref02_Times.out (r : radomeref02_Ratio × Int) (H : Hp) (v : Value) : Prop := ∃ v0, ∃ v1, v = .tuple ⟨[.agg ⟨[.bool r.1.f_N.f_Neg, v0, .bool r.1.f_D.f_Neg, v1]⟩, .int .i64 r.2]⟩ ∧ Ro (Kd.int .i64) H v0 r.1.f_N.f_D ∧ Ro (Kd.int .i64) H v1 r.1.f_D.f_D
theorem radomeref02_Times.out_mono (r : radomeref02_Ratio × Int) {H H' : Hp} {v : Value} (hle : H.le H') (h : radomeref02_Times.out r H v) : radomeref02_Times.out r H' v := by
 obtain ⟨v0, v1, rfl, h0, h1⟩ := h; exact ⟨v0, v1, rfl, h0.mono hle, h1.mono hle⟩
abbrev radomeref02_Times.R (H0 : Hp) (L : Items) (r : radomeref02_Ratio × Int) : Value → Hp → Items → Prop := fun v H' L' => (∃ p, L' = p ++ L) ∧ H0.le H' ∧ radomeref02_Times.out r H' v
noncomputable def radomeref02_Times.j1 (k : Nat)  (a_0 : Bool) (a_1 : List Int) (a_2 : Bool) (a_3 : List Int) (n_0 : Bool) (n_1 : List Int) (d_0 : Bool) (d_1 : List Int) : Option (radomeref02_Ratio × Int) := (radomeref01_Sign.f k (⟨d_0, d_1⟩ : radomeref01_Num)).bind fun y11 => if y11 = 0 then (some ((⟨(⟨false, []⟩ : radomeref01_Num), (⟨false, []⟩ : radomeref01_Num)⟩ : radomeref02_Ratio), 11)) else ((radomeref01_Mul.f k (⟨a_0, a_1⟩ : radomeref01_Num) (⟨n_0, n_1⟩ : radomeref01_Num)).bind fun y16 => (radomeref01_Mul.f k (⟨a_2, a_3⟩ : radomeref01_Num) (⟨d_0, d_1⟩ : radomeref01_Num)).bind fun y22 => (radomeref02_Fits.f k [(⟨y16.f_Neg, y16.f_D⟩ : radomeref01_Num), (⟨y22.f_Neg, y22.f_D⟩ : radomeref01_Num)]).bind fun y35 => if (!y35) = true then (some ((⟨(⟨false, []⟩ : radomeref01_Num), (⟨false, []⟩ : radomeref01_Num)⟩ : radomeref02_Ratio), 12)) else ((radomeref02_Of.f k (⟨y16.f_Neg, y16.f_D⟩ : radomeref01_Num) (⟨y22.f_Neg, y22.f_D⟩ : radomeref01_Num)).bind fun y40 => some ((⟨(⟨y40.f_N.f_Neg, y40.f_N.f_D⟩ : radomeref01_Num), (⟨y40.f_D.f_Neg, y40.f_D.f_D⟩ : radomeref01_Num)⟩ : radomeref02_Ratio), 0)))
noncomputable def radomeref02_Times.f (k : Nat) (a : radomeref02_Ratio) (b : radomeref02_Ratio) (by_ : Bool) : Option (radomeref02_Ratio × Int) := if by_ = true then (radomeref02_Times.j1 k a.f_N.f_Neg a.f_N.f_D a.f_D.f_Neg a.f_D.f_D b.f_D.f_Neg b.f_D.f_D b.f_N.f_Neg b.f_N.f_D) else (radomeref02_Times.j1 k a.f_N.f_Neg a.f_N.f_D a.f_D.f_Neg a.f_D.f_D b.f_N.f_Neg b.f_N.f_D b.f_D.f_Neg b.f_D.f_D)
theorem radomeref02_Times.j1_mono {k : Nat} : ∀ y0 y1 y2 y3 y4 y5 y6 y7, LeO (radomeref02_Times.j1 k y0 y1 y2 y3 y4 y5 y6 y7) (radomeref02_Times.j1 (k + 1) y0 y1 y2 y3 y4 y5 y6 y7) := fun _ _ _ _ _ _ _ _ => (LeO.bind (radomeref01_Sign.mono k _) fun _ => LeO.ite (LeO.refl _) (LeO.bind (radomeref01_Mul.mono k _ _) fun _ => LeO.bind (radomeref01_Mul.mono k _ _) fun _ => LeO.bind (radomeref02_Fits.mono k _) fun _ => LeO.ite (LeO.refl _) (LeO.bind (radomeref02_Of.mono k _ _) fun _ => LeO.refl _)))
theorem radomeref02_Times.mono : ∀ k y0 y1 y2, LeO (radomeref02_Times.f k y0 y1 y2) (radomeref02_Times.f (k + 1) y0 y1 y2) := fun k _ _ _ => by unfold radomeref02_Times.f; exact (LeO.ite (radomeref02_Times.j1_mono (k := k)  _ _ _ _ _ _ _ _) (radomeref02_Times.j1_mono (k := k)  _ _ _ _ _ _ _ _))
noncomputable def radomeref02_Times.Kj1 : List Item := .code (seqR (seqR (seqR radomeref02_Times.C))) :: []
theorem radomeref02_Times.j1_ok {k : Nat} {H0 H : Hp} {L : Items} {r : radomeref02_Ratio × Int} {jk_ : Nat → Value} {a_0 : Bool} {a_1 : List Int} {a_2 : Bool} {a_3 : List Int} {n_0 : Bool} {n_1 : List Int} {d_0 : Bool} {d_1 : List Int} {v_a_1 : Value} {v_a_3 : Value} {v_n_1 : Value} {v_d_1 : Value} {b_a : Nat} {b_t6 : Nat} {b_n : Nat} {b_d : Nat} (hle : H0.le H) (he : radomeref02_Times.j1 k a_0 a_1 a_2 a_3 n_0 n_1 d_0 d_1 = some r) (h_a_1 : Ro (Kd.int .i64) H v_a_1 a_1) (h_a_3 : Ro (Kd.int .i64) H v_a_3 a_3) (h_n_1 : Ro (Kd.int .i64) H v_n_1 n_1) (h_d_1 : Ro (Kd.int .i64) H v_d_1 d_1) : Wp Tryz.prog 26 40 radomeref02_Times.Kj1 (upd (upd (upd (upd (upd jk_ 3 (.pointer (some ⟨b_a, 0, none⟩))) 6 (.pointer (some ⟨b_t6, 0, none⟩))) 7 (.int .i64 0)) 8 (.pointer (some ⟨b_n, 0, none⟩))) 9 (.pointer (some ⟨b_d, 0, none⟩))) H (some (b_n, .cells ⟨[.bool n_0, v_n_1]⟩ 27 (0, 0)) :: some (b_d, .cells ⟨[.bool d_0, v_d_1]⟩ 27 (0, 0)) :: some (b_t6, .cells ⟨[.bool false, .slice none 0 0, .bool false, .slice none 0 0]⟩ 29 (0, 0)) :: some (b_a, .cells ⟨[.bool a_0, v_a_1, .bool a_2, v_a_3]⟩ 29 (0, 0)) :: L) (radomeref02_Times.R H0 L r) := by
 unfold radomeref02_Times.j1 at he
 unfold radomeref02_Times.Kj1
 refine w_seq <| w_seq <| w_region rfl <| w_d rfl (d_loado (v := .agg ⟨[.bool d_0, v_d_1]⟩) ty27 rfl (.there .here) rfl rfl rfl rfl) ?_
 obtain ⟨y11, hy12, he⟩ := Option.bind_eq_some_iff.1 he
 refine w_d rfl (call_d (o_call co29 (vs := [.agg ⟨[.bool d_0, v_d_1]⟩]) rfl (radomeref01_Sign.calls k (a := ⟨d_0, d_1⟩) hy12 h_d_1))) <| w_d rfl (d_eql rfl rfl) <| w_done ?_
 rcases its he with ⟨c15, he⟩ | ⟨c15, he⟩
 ·
  refine w_then rfl (decide_eq_true c15) <| w_seq <| w_region rfl <| w_d rfl (d_build (cs' := [.bool false, .slice none 0 0, .bool false, .slice none 0 0]) Tryz.underlying29 zr29 rfl (by kernel_rfl) (parts := []) rfl .nil) <| w_a0 rfl (o_store (v := .agg ⟨[.bool false, .slice none 0 0, .bool false, .slice none 0 0]⟩) sz29 rfl rfl rfl rfl (one_cons rfl (one_cons rfl (one_cons rfl (one_cons rfl one_nil)))) (.there (.there .here)) (.here (.here (.here (.here .done))))) ?_
  rintro _ _ _ ⟨rfl, rfl, rfl⟩
  refine w_d rfl (d_assign (v := .int .i64 11) rfl) <| w_done ?_
  obtain rfl := Option.some.inj he
  refine w_return fn_26 rs_26 (.box (v := .agg ⟨[.bool false, .slice none 0 0, .bool false, .slice none 0 0]⟩) rfl ty29 rfl rfl (.there (.there .here)) rfl (.tmp (v := .int .i64 11) rfl .nil)) <| ⟨⟨[_, _, _, _], rfl⟩, hle, ⟨.slice none 0 0, .slice none 0 0, rfl, (ro_nil _ _), (ro_nil _ _)⟩⟩
 ·
  refine w_else rfl (decide_eq_false c15) <| w_skip <| w_seq ?_
  obtain ⟨y16, hy17, he⟩ := Option.bind_eq_some_iff.1 he
  obtain ⟨y22, hy23, he⟩ := Option.bind_eq_some_iff.1 he
  refine w_none (w_none (?_))
  refine w_drawn (p := 10) (tl := [10, 11]) [[], [(0, some 23)], [], [(1, some 24), (2, some 25)], [], [(4, some 27)], [], [(5, some 28), (6, some 29)], [], []] [some 23, some 24, some 25, some 26, some 27, some 28, some 29, some 30, some 10, some 11] (fctF (.is (.pointer (some ⟨b_a, 0, none⟩)) :: .is (.agg ⟨[.bool a_0, v_a_1]⟩) :: .is (.agg ⟨[.bool n_0, v_n_1]⟩) :: .of (radomeref01_Mul.out y16) (radomeref01_Mul.out_mono _) :: .is (.pointer (some ⟨b_a, 2, none⟩)) :: .is (.agg ⟨[.bool a_2, v_a_3]⟩) :: .is (.agg ⟨[.bool d_0, v_d_1]⟩) :: .of (radomeref01_Mul.out y22) (radomeref01_Mul.out_mono _) :: .box 27 [.bool false, .slice none 0 0] :: .box 27 [.bool false, .slice none 0 0] :: [])) (fun m_ => m_ 8 :: m_ 9 :: some (b_n, .cells ⟨[.bool n_0, v_n_1]⟩ 27 (0, 0)) :: some (b_d, .cells ⟨[.bool d_0, v_d_1]⟩ 27 (0, 0)) :: some (b_t6, .cells ⟨[.bool false, .slice none 0 0, .bool false, .slice none 0 0]⟩ 29 (0, 0)) :: some (b_a, .cells ⟨[.bool a_0, v_a_1, .bool a_2, v_a_3]⟩ 29 (0, 0)) :: L) (fun _ => none) mixed (by kernel_rfl) (by kernel_rfl) rfl (fct_mono (by kernel_rfl)) ⟨(fun H' m_ hH hm_ hu_ => depK_nil <| s_d (m_ 0) rfl (d_fld (o' := 0) Tryz.underlying29 rfl sz27 rfl rfl rfl) (by exact rfl) rfl), (by rintro H' m_ hH hm_ hu_ _ rfl; exact depK_nil <| s_d (m_ 1) rfl (d_loado (v := .agg ⟨[.bool a_0, v_a_1]⟩) ty27 rfl (.there (.there (.there (.there (.there .here))))) rfl rfl rfl rfl) (by exact rfl) rfl), (fun H' m_ hH hm_ hu_ => depK_nil <| s_d (m_ 2) rfl (d_loado (v := .agg ⟨[.bool n_0, v_n_1]⟩) ty27 rfl (.there (.there .here)) rfl rfl rfl rfl) (by exact rfl) rfl), (by rintro H' m_ hH hm_ hu_ _ rfl _ rfl; exact depK_nil <| s_k (m_ 3) rfl (o_call co41 (vs := [.agg ⟨[.bool a_0, v_a_1]⟩, .agg ⟨[.bool n_0, v_n_1]⟩]) rfl (radomeref01_Mul.calls k (a := ⟨a_0, a_1⟩) (b := ⟨n_0, n_1⟩) hy17 (h_a_1.mono hH) (h_n_1.mono hH))) rfl (by rintro v_ H_ _ ⟨rfl, e_, h_⟩; exact ⟨rfl, e_, h_⟩)), (fun H' m_ hH hm_ hu_ => depK_nil <| s_d (m_ 4) rfl (d_fld (o' := 2) Tryz.underlying29 rfl sz27 rfl rfl rfl) (by exact rfl) rfl), (by rintro H' m_ hH hm_ hu_ _ rfl; exact depK_nil <| s_d (m_ 5) rfl (d_loado (v := .agg ⟨[.bool a_2, v_a_3]⟩) ty27 rfl (.there (.there (.there (.there (.there .here))))) rfl rfl rfl rfl) (by exact rfl) rfl), (fun H' m_ hH hm_ hu_ => depK_nil <| s_d (m_ 6) rfl (d_loado (v := .agg ⟨[.bool d_0, v_d_1]⟩) ty27 rfl (.there (.there (.there .here))) rfl rfl rfl rfl) (by exact rfl) rfl), (by rintro H' m_ hH hm_ hu_ _ rfl _ rfl; exact depK_nil <| s_k (m_ 7) rfl (o_call co41 (vs := [.agg ⟨[.bool a_2, v_a_3]⟩, .agg ⟨[.bool d_0, v_d_1]⟩]) rfl (radomeref01_Mul.calls k (a := ⟨a_2, a_3⟩) (b := ⟨d_0, d_1⟩) hy23 (h_a_3.mono hH) (h_d_1.mono hH))) rfl (by rintro v_ H_ _ ⟨rfl, e_, h_⟩; exact ⟨rfl, e_, h_⟩)), (fun H' m_ hH hm_ hu_ => depK_nil <| s_box hm_ rfl rfl (o_alloc zr27 rfl) rfl (fun _ => .here) (by exact fun b_ => ⟨b_, rfl, rfl⟩)), (fun H' m_ hH hm_ hu_ => depK_nil <| s_box hm_ rfl rfl (o_alloc zr27 rfl) rfl (fun _ => (.there .here)) (by exact fun b_ => ⟨b_, rfl, rfl⟩)), trivial⟩ ?_
  intro H30 e31
  rintro _ _ rfl _ _ rfl _ _ rfl _ _ ⟨v20, rfl, h21⟩ _ _ rfl _ _ rfl _ _ rfl _ _ ⟨v26, rfl, h27⟩ _ _ ⟨b28, rfl, rfl⟩ _ _ ⟨b29, rfl, rfl⟩
  refine w_a0 rfl (o_store (v := .agg ⟨[.bool y16.f_Neg, v20]⟩) sz27 rfl rfl rfl rfl (one_cons rfl (one_cons (h21.one) one_nil)) .here (.here (.here .done))) ?_
  rintro _ _ _ ⟨rfl, rfl, rfl⟩
  refine w_a0 rfl (o_store (v := .agg ⟨[.bool y22.f_Neg, v26]⟩) sz27 rfl rfl rfl rfl (one_cons rfl (one_cons (h27.one) one_nil)) (.there .here) (.here (.here .done))) ?_
  rintro _ _ _ ⟨rfl, rfl, rfl⟩
  refine w_done <| w_seq <| w_seq <| w_region rfl <| w_d rfl (d_loado (v := .agg ⟨[.bool y16.f_Neg, v20]⟩) ty27 rfl .here rfl rfl rfl rfl) <| w_d rfl (d_loado (v := .agg ⟨[.bool y22.f_Neg, v26]⟩) ty27 rfl (.there .here) rfl rfl rfl rfl) <| w_a rfl (o_buildSlice' (kd := k_radomeref01_Num) (css := [[.bool y16.f_Neg, v20], [.bool y22.f_Neg, v26]]) (xs := [(⟨y16.f_Neg, y16.f_D⟩ : radomeref01_Num), (⟨y22.f_Neg, y22.f_D⟩ : radomeref01_Num)]) (parts := [(0, .agg ⟨[.bool y16.f_Neg, v20]⟩), (1, .agg ⟨[.bool y22.f_Neg, v26]⟩)]) Tryz.underlying99 ti27 rfl ⟨_, _, rfl, rfl, ⟨_, _, rfl, rfl, rfl⟩⟩ ⟨(k_radomeref01_Num_in (x := ⟨y16.f_Neg, y16.f_D⟩) h21), ⟨(k_radomeref01_Num_in (x := ⟨y22.f_Neg, y22.f_D⟩) h27), trivial⟩⟩ rfl (by decide)) ?_
  rintro v32 _ _ ⟨i33, rfl, rfl, h34⟩
  obtain ⟨y35, hy36, he⟩ := Option.bind_eq_some_iff.1 he
  refine w_d rfl (call_d (o_call co54 (vs := [v32]) rfl (radomeref02_Fits.calls k hy36 (h34.src .here)))) <| w_d rfl (d_not (b := y35) rfl) <| w_done ?_
  rcases its he with ⟨c39, he⟩ | ⟨c39, he⟩
  ·
   refine w_then rfl c39 <| w_seq <| w_region rfl <| w_d rfl (d_build (cs' := [.bool false, .slice none 0 0, .bool false, .slice none 0 0]) Tryz.underlying29 zr29 rfl (by kernel_rfl) (parts := []) rfl .nil) <| w_a0 rfl (o_store (v := .agg ⟨[.bool false, .slice none 0 0, .bool false, .slice none 0 0]⟩) sz29 rfl rfl rfl rfl (one_cons rfl (one_cons rfl (one_cons rfl (one_cons rfl one_nil)))) (.there (.there (.there (.there (.there .here))))) (.here (.here (.here (.here .done))))) ?_
   rintro _ _ _ ⟨rfl, rfl, rfl⟩
   refine w_d rfl (d_assign (v := .int .i64 12) rfl) <| w_done ?_
   obtain rfl := Option.some.inj he
   refine w_return fn_26 rs_26 (.box (v := .agg ⟨[.bool false, .slice none 0 0, .bool false, .slice none 0 0]⟩) rfl ty29 rfl rfl (.there (.there (.there (.there (.there .here))))) rfl (.tmp (v := .int .i64 12) rfl .nil)) <| ⟨⟨[_, _, _, _, _, _, _], rfl⟩, hle.trans e31, ⟨.slice none 0 0, .slice none 0 0, rfl, (ro_nil _ _), (ro_nil _ _)⟩⟩
  ·
   refine w_else rfl (Bool.eq_false_iff.2 c39) <| w_skip <| w_seq <| w_region rfl <| w_d rfl (d_loado (v := .agg ⟨[.bool y16.f_Neg, v20]⟩) ty27 rfl (.there .here) rfl rfl rfl rfl) <| w_d rfl (d_loado (v := .agg ⟨[.bool y22.f_Neg, v26]⟩) ty27 rfl (.there (.there .here)) rfl rfl rfl rfl) ?_
   obtain ⟨y40, hy41, he⟩ := Option.bind_eq_some_iff.1 he
   refine w_a rfl (o_call co15 (vs := [.agg ⟨[.bool y16.f_Neg, v20]⟩, .agg ⟨[.bool y22.f_Neg, v26]⟩]) rfl (radomeref02_Of.calls k (n := ⟨y16.f_Neg, y16.f_D⟩) (d := ⟨y22.f_Neg, y22.f_D⟩) hy41 h21 h27)) ?_
   rintro _ H42 _ ⟨rfl, e43, ⟨v44, v46, rfl, h45, h47⟩⟩
   refine w_a0 rfl (o_store (v := .agg ⟨[.bool y40.f_N.f_Neg, v44, .bool y40.f_D.f_Neg, v46]⟩) sz29 rfl rfl rfl rfl (one_cons rfl (one_cons (h45.one) (one_cons rfl (one_cons (h47.one) one_nil)))) (.there (.there (.there (.there (.there .here))))) (.here (.here (.here (.here .done))))) ?_
   rintro _ _ _ ⟨rfl, rfl, rfl⟩
   refine w_d rfl (d_assign (v := .int .i64 0) rfl) <| w_done ?_
   obtain rfl := Option.some.inj he
   refine w_return fn_26 rs_26 (.box (v := .agg ⟨[.bool y40.f_N.f_Neg, v44, .bool y40.f_D.f_Neg, v46]⟩) rfl ty29 rfl rfl (.there (.there (.there (.there (.there .here))))) rfl (.tmp (v := .int .i64 0) rfl .nil)) <| ⟨⟨[_, _, _, _, _, _, _], rfl⟩, hle.trans (e31.trans e43), ⟨v44, v46, rfl, h45, h47⟩⟩
theorem radomeref02_Times.calls (k : Nat) {H : Hp} {L : Items} {a : radomeref02_Ratio} {b : radomeref02_Ratio} {by_ : Bool} {v0_a : Value} {v1_a : Value} {v2_b : Value} {v3_b : Value} {r : radomeref02_Ratio × Int} (he : radomeref02_Times.f k a b by_ = some r) (h0_a : Ro (Kd.int .i64) H v0_a a.f_N.f_D) (h1_a : Ro (Kd.int .i64) H v1_a a.f_D.f_D) (h2_b : Ro (Kd.int .i64) H v2_b b.f_N.f_D) (h3_b : Ro (Kd.int .i64) H v3_b b.f_D.f_D) : Ct Tryz.prog 26 ⟨[.agg ⟨[.bool a.f_N.f_Neg, v0_a, .bool a.f_D.f_Neg, v1_a]⟩, .agg ⟨[.bool b.f_N.f_Neg, v2_b, .bool b.f_D.f_Neg, v3_b]⟩, .bool by_]⟩ H L (fun v H' L' => L = L' ∧ H.le H' ∧ radomeref02_Times.out r H' v) := by
 refine ct_out (O := radomeref02_Times.out r) ?_
 have hle : H.le H := .refl _
 unfold radomeref02_Times.f at he
 refine ct_enter (args := [.agg ⟨[.bool a.f_N.f_Neg, v0_a, .bool a.f_D.f_Neg, v1_a]⟩, .agg ⟨[.bool b.f_N.f_Neg, v2_b, .bool b.f_D.f_Neg, v3_b]⟩, .bool by_]) fn_26 rfl nt_26 rfl <| w_seq <| w_region rfl <| w_a rfl (o_box (v := .agg ⟨[.bool a.f_N.f_Neg, v0_a, .bool a.f_D.f_Neg, v1_a]⟩) rfl rfl) ?_
 rintro _ _ _ ⟨b1, rfl, rfl, rfl⟩
 refine w_a rfl (o_box (v := .agg ⟨[.bool b.f_N.f_Neg, v2_b, .bool b.f_D.f_Neg, v3_b]⟩) rfl rfl) ?_
 rintro _ _ _ ⟨b2, rfl, rfl, rfl⟩
 refine w_a rfl (o_alloc zr29 rfl) ?_
 rintro _ _ _ ⟨b3, rfl, rfl, rfl⟩
 refine w_d rfl (d_assign (v := .int .i64 0) rfl) <| w_done <| w_seq ?_
 refine w_none (w_none (?_))
 refine w_drawn (p := 7) (tl := [7]) [[], [(0, some 12)], [], [(2, some 14)], [], [], [(1, some 13), (4, some 8)]] [some 12, some 13, some 14, some 15, some 8, some 9, none] (fctF (.is (.pointer (some ⟨b2, 0, none⟩)) :: .is (.agg ⟨[.bool b.f_N.f_Neg, v2_b]⟩) :: .is (.pointer (some ⟨b2, 2, none⟩)) :: .is (.agg ⟨[.bool b.f_D.f_Neg, v3_b]⟩) :: .box 27 [.bool false, .slice none 0 0] :: .box 27 [.bool false, .slice none 0 0] :: .st 4 (fun H bq_ itq_ => itq_ = some (bq_, .cells ⟨[.bool b.f_N.f_Neg, v2_b]⟩ 27 (0, 0))) (by rintro _ _ _ _ hle rfl; exact rfl) :: [])) (fun m_ => pk (m_ 6) (m_ 4) :: m_ 5 :: some (b3, .cells ⟨[.bool false, .slice none 0 0, .bool false, .slice none 0 0]⟩ 29 (0, 0)) :: some (b2, .cells ⟨[.bool b.f_N.f_Neg, v2_b, .bool b.f_D.f_Neg, v3_b]⟩ 29 (0, 0)) :: some (b1, .cells ⟨[.bool a.f_N.f_Neg, v0_a, .bool a.f_D.f_Neg, v1_a]⟩ 29 (0, 0)) :: L) (fun _ => none) mixed (by kernel_rfl) (by kernel_rfl) rfl (fct_mono (by kernel_rfl)) ⟨(fun H' m_ hH hm_ hu_ => depK_nil <| s_d (m_ 0) rfl (d_fld (o' := 0) Tryz.underlying29 rfl sz27 rfl rfl rfl) (by exact rfl) rfl), (by rintro H' m_ hH hm_ hu_ _ rfl; exact depK_nil <| s_d (m_ 1) rfl (d_loado (v := .agg ⟨[.bool b.f_N.f_Neg, v2_b]⟩) ty27 rfl (.there (.there (.there .here))) rfl rfl rfl rfl) (by exact rfl) rfl), (fun H' m_ hH hm_ hu_ => depK_nil <| s_d (m_ 2) rfl (d_fld (o' := 2) Tryz.underlying29 rfl sz27 rfl rfl rfl) (by exact rfl) rfl), (by rintro H' m_ hH hm_ hu_ _ rfl; exact depK_nil <| s_d (m_ 3) rfl (d_loado (v := .agg ⟨[.bool b.f_D.f_Neg, v3_b]⟩) ty27 rfl (.there (.there (.there .here))) rfl rfl rfl rfl) (by exact rfl) rfl), (fun H' m_ hH hm_ hu_ => depK_nil <| s_box hm_ rfl rfl (o_alloc zr27 rfl) rfl (fun _ => (pk_upd (hu_ 6 (by kernel_rfl)))) (by exact fun b_ => ⟨b_, rfl, rfl⟩)), (fun H' m_ hH hm_ hu_ => depK_nil <| s_box hm_ rfl rfl (o_alloc zr27 rfl) rfl (fun _ => (.there .here)) (by exact fun b_ => ⟨b_, rfl, rfl⟩)), (by rintro H' m_ hH hm_ hu_ _ rfl _ ⟨b4, rfl, hb4_⟩; exact depK_nil <| s_store2 (Λ' := fun z_ => z_ :: m_ 5 :: some (b3, .cells ⟨[.bool false, .slice none 0 0, .bool false, .slice none 0 0]⟩ 29 (0, 0)) :: some (b2, .cells ⟨[.bool b.f_N.f_Neg, v2_b, .bool b.f_D.f_Neg, v3_b]⟩ 29 (0, 0)) :: some (b1, .cells ⟨[.bool a.f_N.f_Neg, v0_a, .bool a.f_D.f_Neg, v1_a]⟩ 29 (0, 0)) :: L) (some (b4, .cells ⟨[.bool b.f_N.f_Neg, v2_b]⟩ 27 (0, 0))) hm_ rfl hb4_ rfl (o_store (v := .agg ⟨[.bool b.f_N.f_Neg, v2_b]⟩) sz27 rfl rfl rfl rfl (one_cons rfl (one_cons (h2_b.one) one_nil)) .here (.here (.here .done))) rfl rfl (by exact ⟨rfl, congrArg (fun b_ => (some (b_, Obj.cells ⟨[.bool b.f_N.f_Neg, v2_b]⟩ 27 (0, 0)) : Item')) (bof_eq hb4_).symm⟩)), trivial⟩ ?_
 intro H8 e9
 rintro _ _ rfl _ _ rfl _ _ rfl _ _ rfl _ _ ⟨b4, rfl, rfl⟩ _ _ ⟨b5, rfl, rfl⟩ _ i6 ⟨rfl, h7⟩
 replace h7 : i6 = some (b4, .cells ⟨[.bool b.f_N.f_Neg, v2_b]⟩ 27 (0, 0)) := h7
 subst h7
 refine w_it (L' := some (b4, .cells ⟨[.bool b.f_N.f_Neg, v2_b]⟩ 27 (0, 0)) :: some (b5, .cells ⟨[.bool false, .slice none 0 0]⟩ 27 (0, 0)) :: some (b3, .cells ⟨[.bool false, .slice none 0 0, .bool false, .slice none 0 0]⟩ 29 (0, 0)) :: some (b2, .cells ⟨[.bool b.f_N.f_Neg, v2_b, .bool b.f_D.f_Neg, v3_b]⟩ 29 (0, 0)) :: some (b1, .cells ⟨[.bool a.f_N.f_Neg, v0_a, .bool a.f_D.f_Neg, v1_a]⟩ 29 (0, 0)) :: L) rfl <| w_a0 rfl (o_store (v := .agg ⟨[.bool b.f_D.f_Neg, v3_b]⟩) sz27 rfl rfl rfl rfl (one_cons rfl (one_cons (h3_b.one) one_nil)) (.there .here) (.here (.here .done))) ?_
 rintro _ _ _ ⟨rfl, rfl, rfl⟩
 refine w_done <| w_seq <| w_seq <| w_region rfl <| w_d rfl (d_move (v := .bool by_) rfl) <| w_done ?_
 rcases its he with ⟨c10, he⟩ | ⟨c10, he⟩
 ·
  refine w_then rfl c10 <| w_region rfl <| w_d rfl (d_loado (v := .agg ⟨[.bool b.f_D.f_Neg, v3_b]⟩) ty27 rfl (.there .here) rfl rfl rfl rfl) <| w_d rfl (d_loado (v := .agg ⟨[.bool b.f_N.f_Neg, v2_b]⟩) ty27 rfl .here rfl rfl rfl rfl) <| w_a0 rfl (o_store (v := .agg ⟨[.bool b.f_D.f_Neg, v3_b]⟩) sz27 rfl rfl rfl rfl (one_cons rfl (one_cons (h3_b.one) one_nil)) .here (.here (.here .done))) ?_
  rintro _ _ _ ⟨rfl, rfl, rfl⟩
  refine w_a0 rfl (o_store (v := .agg ⟨[.bool b.f_N.f_Neg, v2_b]⟩) sz27 rfl rfl rfl rfl (one_cons rfl (one_cons (h2_b.one) one_nil)) (.there .here) (.here (.here .done))) ?_
  rintro _ _ _ ⟨rfl, rfl, rfl⟩
  refine w_done <| w_del (.there (.there (.there .here))) <| w_sl 3 (.pointer (some ⟨b1, 0, none⟩)) rfl <| w_sl 6 (.pointer (some ⟨b3, 0, none⟩)) rfl <| w_sl 7 (.int .i64 0) rfl <| w_sl 8 (.pointer (some ⟨b4, 0, none⟩)) rfl <| w_sl 9 (.pointer (some ⟨b5, 0, none⟩)) rfl <| radomeref02_Times.j1_ok (k := k) (hle.trans e9) he (h0_a.mono e9) (h1_a.mono e9) (h3_b.mono e9) (h2_b.mono e9)
 ·
  refine w_else rfl (Bool.eq_false_iff.2 c10) <| w_skip <| w_del (.there (.there (.there .here))) <| w_sl 3 (.pointer (some ⟨b1, 0, none⟩)) rfl <| w_sl 6 (.pointer (some ⟨b3, 0, none⟩)) rfl <| w_sl 7 (.int .i64 0) rfl <| w_sl 8 (.pointer (some ⟨b4, 0, none⟩)) rfl <| w_sl 9 (.pointer (some ⟨b5, 0, none⟩)) rfl <| radomeref02_Times.j1_ok (k := k) (hle.trans e9) he (h0_a.mono e9) (h1_a.mono e9) (h2_b.mono e9) (h3_b.mono e9)
/-! ### radome/radomeref01.Cmp -/
noncomputable def radomeref01_Cmp.C : Code := (Tryz.f55.body).getD .skip
def radomeref01_Cmp.out (r : Int) (H : Hp) (v : Value) : Prop := v = .int .i64 r
abbrev radomeref01_Cmp.R (H0 : Hp) (L : Items) (r : Int) : Value → Hp → Items → Prop := fun v H' L' => (∃ p, L' = p ++ L) ∧ H0.le H' ∧ radomeref01_Cmp.out r H' v
noncomputable def radomeref01_Cmp.f (k : Nat) (a : radomeref01_Num) (b : radomeref01_Num) : Option Int := (radomeref01_Sub.f k (⟨a.f_Neg, a.f_D⟩ : radomeref01_Num) (⟨b.f_Neg, b.f_D⟩ : radomeref01_Num)).bind fun y3 => (radomeref01_Sign.f k (⟨y3.f_Neg, y3.f_D⟩ : radomeref01_Num)).bind fun y9 => some (y9)
theorem radomeref01_Cmp.mono : ∀ k y0 y1, LeO (radomeref01_Cmp.f k y0 y1) (radomeref01_Cmp.f (k + 1) y0 y1) := fun k _ _ => by unfold radomeref01_Cmp.f; exact (LeO.bind (radomeref01_Sub.mono k _ _) fun _ => LeO.bind (radomeref01_Sign.mono k _) fun _ => LeO.refl _)
theorem radomeref01_Cmp.calls (k : Nat) {H : Hp} {L : Items} {a : radomeref01_Num} {b : radomeref01_Num} {v0_a : Value} {v1_b : Value} {r : Int} (he : radomeref01_Cmp.f k a b = some r) (h0_a : Ro (Kd.int .i64) H v0_a a.f_D) (h1_b : Ro (Kd.int .i64) H v1_b b.f_D) : Ct Tryz.prog 55 ⟨[.agg ⟨[.bool a.f_Neg, v0_a]⟩, .agg ⟨[.bool b.f_Neg, v1_b]⟩]⟩ H L (fun v H' L' => L = L' ∧ H = H' ∧ v = .int .i64 r) := by
 refine ct_outs (O := radomeref01_Cmp.out r) (fun _ _ h => h) ?_
 have hle : H.le H := .refl _
 unfold radomeref01_Cmp.f at he
 refine ct_enter (args := [.agg ⟨[.bool a.f_Neg, v0_a]⟩, .agg ⟨[.bool b.f_Neg, v1_b]⟩]) fn_55 rfl nt_55 rfl <| w_seq <| w_region rfl <| w_a rfl (o_box (v := .agg ⟨[.bool a.f_Neg, v0_a]⟩) rfl rfl) ?_
 rintro _ _ _ ⟨b1, rfl, rfl, rfl⟩
 refine w_a rfl (o_box (v := .agg ⟨[.bool b.f_Neg, v1_b]⟩) rfl rfl) ?_
 rintro _ _ _ ⟨b2, rfl, rfl, rfl⟩
 refine w_d rfl (d_assign (v := .int .i64 0) rfl) <| w_done <| w_seq <| w_region rfl <| w_d rfl (d_loado (v := .agg ⟨[.bool a.f_Neg, v0_a]⟩) ty27 rfl (.there .here) rfl rfl rfl rfl) <| w_d rfl (d_loado (v := .agg ⟨[.bool b.f_Neg, v1_b]⟩) ty27 rfl .here rfl rfl rfl rfl) ?_
 obtain ⟨y3, hy4, he⟩ := Option.bind_eq_some_iff.1 he
 refine w_a rfl (o_call co83 (vs := [.agg ⟨[.bool a.f_Neg, v0_a]⟩, .agg ⟨[.bool b.f_Neg, v1_b]⟩]) rfl (radomeref01_Sub.calls k (a := ⟨a.f_Neg, a.f_D⟩) (b := ⟨b.f_Neg, b.f_D⟩) hy4 h0_a h1_b)) ?_
 rintro _ H5 _ ⟨rfl, e6, ⟨v7, rfl, h8⟩⟩
 obtain ⟨y9, hy10, he⟩ := Option.bind_eq_some_iff.1 he
 refine w_d rfl (call_d (o_call co29 (vs := [.agg ⟨[.bool y3.f_Neg, v7]⟩]) rfl (radomeref01_Sign.calls k (a := ⟨y3.f_Neg, y3.f_D⟩) hy10 h8))) <| w_d rfl (d_assign (v := .int .i64 y9) rfl) <| w_done ?_
 obtain rfl := Option.some.inj he
 refine w_return fn_55 rs_55 (.tmp (v := .int .i64 y9) rfl .nil) <| ⟨⟨[_, _], rfl⟩, hle.trans e6, rfl⟩
/-! ### radome/radomeref02.Cmp -/
noncomputable def radomeref02_Cmp.C : Code := (Tryz.f27.body).getD .skip
def radomeref02_Cmp.out (r : Int × Int) (H : Hp) (v : Value) : Prop := v = .tuple ⟨[.int .i64 r.1, .int .i64 r.2]⟩
abbrev radomeref02_Cmp.R (H0 : Hp) (L : Items) (r : Int × Int) : Value → Hp → Items → Prop := fun v H' L' => (∃ p, L' = p ++ L) ∧ H0.le H' ∧ radomeref02_Cmp.out r H' v
noncomputable def radomeref02_Cmp.f (k : Nat) (a : radomeref02_Ratio) (b : radomeref02_Ratio) : Option (Int × Int) := (radomeref01_Mul.f k (⟨a.f_N.f_Neg, a.f_N.f_D⟩ : radomeref01_Num) (⟨b.f_D.f_Neg, b.f_D.f_D⟩ : radomeref01_Num)).bind fun y3 => (radomeref01_Mul.f k (⟨b.f_N.f_Neg, b.f_N.f_D⟩ : radomeref01_Num) (⟨a.f_D.f_Neg, a.f_D.f_D⟩ : radomeref01_Num)).bind fun y9 => (radomeref02_Fits.f k [(⟨y3.f_Neg, y3.f_D⟩ : radomeref01_Num), (⟨y9.f_Neg, y9.f_D⟩ : radomeref01_Num)]).bind fun y22 => if (!y22) = true then (some (0, 12)) else ((radomeref01_Cmp.f k (⟨y3.f_Neg, y3.f_D⟩ : radomeref01_Num) (⟨y9.f_Neg, y9.f_D⟩ : radomeref01_Num)).bind fun y27 => some (y27, 0))
theorem radomeref02_Cmp.mono : ∀ k y0 y1, LeO (radomeref02_Cmp.f k y0 y1) (radomeref02_Cmp.f (k + 1) y0 y1) := fun k _ _ => by unfold radomeref02_Cmp.f; exact (LeO.bind (radomeref01_Mul.mono k _ _) fun _ => LeO.bind (radomeref01_Mul.mono k _ _) fun _ => LeO.bind (radomeref02_Fits.mono k _) fun _ => LeO.ite (LeO.refl _) (LeO.bind (radomeref01_Cmp.mono k _ _) fun _ => LeO.refl _))
theorem radomeref02_Cmp.calls (k : Nat) {H : Hp} {L : Items} {a : radomeref02_Ratio} {b : radomeref02_Ratio} {v0_a : Value} {v1_a : Value} {v2_b : Value} {v3_b : Value} {r : Int × Int} (he : radomeref02_Cmp.f k a b = some r) (h0_a : Ro (Kd.int .i64) H v0_a a.f_N.f_D) (h1_a : Ro (Kd.int .i64) H v1_a a.f_D.f_D) (h2_b : Ro (Kd.int .i64) H v2_b b.f_N.f_D) (h3_b : Ro (Kd.int .i64) H v3_b b.f_D.f_D) : Ct Tryz.prog 27 ⟨[.agg ⟨[.bool a.f_N.f_Neg, v0_a, .bool a.f_D.f_Neg, v1_a]⟩, .agg ⟨[.bool b.f_N.f_Neg, v2_b, .bool b.f_D.f_Neg, v3_b]⟩]⟩ H L (fun v H' L' => L = L' ∧ H = H' ∧ v = .tuple ⟨[.int .i64 r.1, .int .i64 r.2]⟩) := by
 refine ct_outs (O := radomeref02_Cmp.out r) (fun _ _ h => h) ?_
 have hle : H.le H := .refl _
 unfold radomeref02_Cmp.f at he
 refine ct_enter (args := [.agg ⟨[.bool a.f_N.f_Neg, v0_a, .bool a.f_D.f_Neg, v1_a]⟩, .agg ⟨[.bool b.f_N.f_Neg, v2_b, .bool b.f_D.f_Neg, v3_b]⟩]) fn_27 rfl nt_27 rfl <| w_seq <| w_region rfl <| w_a rfl (o_box (v := .agg ⟨[.bool a.f_N.f_Neg, v0_a, .bool a.f_D.f_Neg, v1_a]⟩) rfl rfl) ?_
 rintro _ _ _ ⟨b1, rfl, rfl, rfl⟩
 refine w_a rfl (o_box (v := .agg ⟨[.bool b.f_N.f_Neg, v2_b, .bool b.f_D.f_Neg, v3_b]⟩) rfl rfl) ?_
 rintro _ _ _ ⟨b2, rfl, rfl, rfl⟩
 refine w_d rfl (d_assign (v := .int .i64 0) rfl) <| w_d rfl (d_assign (v := .int .i64 0) rfl) <| w_done <| w_seq ?_
 obtain ⟨y3, hy4, he⟩ := Option.bind_eq_some_iff.1 he
 obtain ⟨y9, hy10, he⟩ := Option.bind_eq_some_iff.1 he
 refine w_none (w_none (?_))
 refine w_drawn (p := 12) (tl := [12, 13]) [[], [(0, some 8)], [], [(2, some 10)], [(1, some 9), (3, some 11)], [], [(5, some 13)], [], [(7, some 15)], [(6, some 14), (8, some 16)], [], []] [some 8, some 9, some 10, some 11, some 12, some 13, some 14, some 15, some 16, some 17, some 6, some 7] (fctF (.is (.pointer (some ⟨b1, 0, none⟩)) :: .is (.agg ⟨[.bool a.f_N.f_Neg, v0_a]⟩) :: .is (.pointer (some ⟨b2, 2, none⟩)) :: .is (.agg ⟨[.bool b.f_D.f_Neg, v3_b]⟩) :: .of (radomeref01_Mul.out y3) (radomeref01_Mul.out_mono _) :: .is (.pointer (some ⟨b2, 0, none⟩)) :: .is (.agg ⟨[.bool b.f_N.f_Neg, v2_b]⟩) :: .is (.pointer (some ⟨b1, 2, none⟩)) :: .is (.agg ⟨[.bool a.f_D.f_Neg, v1_a]⟩) :: .of (radomeref01_Mul.out y9) (radomeref01_Mul.out_mono _) :: .box 27 [.bool false, .slice none 0 0] :: .box 27 [.bool false, .slice none 0 0] :: [])) (fun m_ => m_ 10 :: m_ 11 :: some (b2, .cells ⟨[.bool b.f_N.f_Neg, v2_b, .bool b.f_D.f_Neg, v3_b]⟩ 29 (0, 0)) :: some (b1, .cells ⟨[.bool a.f_N.f_Neg, v0_a, .bool a.f_D.f_Neg, v1_a]⟩ 29 (0, 0)) :: L) (fun _ => none) mixed (by kernel_rfl) (by kernel_rfl) rfl (fct_mono (by kernel_rfl)) ⟨(fun H' m_ hH hm_ hu_ => depK_nil <| s_d (m_ 0) rfl (d_fld (o' := 0) Tryz.underlying29 rfl sz27 rfl rfl rfl) (by exact rfl) rfl), (by rintro H' m_ hH hm_ hu_ _ rfl; exact depK_nil <| s_d (m_ 1) rfl (d_loado (v := .agg ⟨[.bool a.f_N.f_Neg, v0_a]⟩) ty27 rfl (.there (.there (.there .here))) rfl rfl rfl rfl) (by exact rfl) rfl), (fun H' m_ hH hm_ hu_ => depK_nil <| s_d (m_ 2) rfl (d_fld (o' := 2) Tryz.underlying29 rfl sz27 rfl rfl rfl) (by exact rfl) rfl), (by rintro H' m_ hH hm_ hu_ _ rfl; exact depK_nil <| s_d (m_ 3) rfl (d_loado (v := .agg ⟨[.bool b.f_D.f_Neg, v3_b]⟩) ty27 rfl (.there (.there .here)) rfl rfl rfl rfl) (by exact rfl) rfl), (by rintro H' m_ hH hm_ hu_ _ rfl _ rfl; exact depK_nil <| s_k (m_ 4) rfl (o_call co41 (vs := [.agg ⟨[.bool a.f_N.f_Neg, v0_a]⟩, .agg ⟨[.bool b.f_D.f_Neg, v3_b]⟩]) rfl (radomeref01_Mul.calls k (a := ⟨a.f_N.f_Neg, a.f_N.f_D⟩) (b := ⟨b.f_D.f_Neg, b.f_D.f_D⟩) hy4 (h0_a.mono hH) (h3_b.mono hH))) rfl (by rintro v_ H_ _ ⟨rfl, e_, h_⟩; exact ⟨rfl, e_, h_⟩)), (fun H' m_ hH hm_ hu_ => depK_nil <| s_d (m_ 5) rfl (d_fld (o' := 0) Tryz.underlying29 rfl sz27 rfl rfl rfl) (by exact rfl) rfl), (by rintro H' m_ hH hm_ hu_ _ rfl; exact depK_nil <| s_d (m_ 6) rfl (d_loado (v := .agg ⟨[.bool b.f_N.f_Neg, v2_b]⟩) ty27 rfl (.there (.there .here)) rfl rfl rfl rfl) (by exact rfl) rfl), (fun H' m_ hH hm_ hu_ => depK_nil <| s_d (m_ 7) rfl (d_fld (o' := 2) Tryz.underlying29 rfl sz27 rfl rfl rfl) (by exact rfl) rfl), (by rintro H' m_ hH hm_ hu_ _ rfl; exact depK_nil <| s_d (m_ 8) rfl (d_loado (v := .agg ⟨[.bool a.f_D.f_Neg, v1_a]⟩) ty27 rfl (.there (.there (.there .here))) rfl rfl rfl rfl) (by exact rfl) rfl), (by rintro H' m_ hH hm_ hu_ _ rfl _ rfl; exact depK_nil <| s_k (m_ 9) rfl (o_call co41 (vs := [.agg ⟨[.bool b.f_N.f_Neg, v2_b]⟩, .agg ⟨[.bool a.f_D.f_Neg, v1_a]⟩]) rfl (radomeref01_Mul.calls k (a := ⟨b.f_N.f_Neg, b.f_N.f_D⟩) (b := ⟨a.f_D.f_Neg, a.f_D.f_D⟩) hy10 (h2_b.mono hH) (h1_a.mono hH))) rfl (by rintro v_ H_ _ ⟨rfl, e_, h_⟩; exact ⟨rfl, e_, h_⟩)), (fun H' m_ hH hm_ hu_ => depK_nil <| s_box hm_ rfl rfl (o_alloc zr27 rfl) rfl (fun _ => .here) (by exact fun b_ => ⟨b_, rfl, rfl⟩)), (fun H' m_ hH hm_ hu_ => depK_nil <| s_box hm_ rfl rfl (o_alloc zr27 rfl) rfl (fun _ => (.there .here)) (by exact fun b_ => ⟨b_, rfl, rfl⟩)), trivial⟩ ?_
 intro H17 e18
 rintro _ _ rfl _ _ rfl _ _ rfl _ _ rfl _ _ ⟨v7, rfl, h8⟩ _ _ rfl _ _ rfl _ _ rfl _ _ rfl _ _ ⟨v13, rfl, h14⟩ _ _ ⟨b15, rfl, rfl⟩ _ _ ⟨b16, rfl, rfl⟩
 refine w_a0 rfl (o_store (v := .agg ⟨[.bool y3.f_Neg, v7]⟩) sz27 rfl rfl rfl rfl (one_cons rfl (one_cons (h8.one) one_nil)) .here (.here (.here .done))) ?_
 rintro _ _ _ ⟨rfl, rfl, rfl⟩
 refine w_a0 rfl (o_store (v := .agg ⟨[.bool y9.f_Neg, v13]⟩) sz27 rfl rfl rfl rfl (one_cons rfl (one_cons (h14.one) one_nil)) (.there .here) (.here (.here .done))) ?_
 rintro _ _ _ ⟨rfl, rfl, rfl⟩
 refine w_done <| w_seq <| w_seq <| w_region rfl <| w_d rfl (d_loado (v := .agg ⟨[.bool y3.f_Neg, v7]⟩) ty27 rfl .here rfl rfl rfl rfl) <| w_d rfl (d_loado (v := .agg ⟨[.bool y9.f_Neg, v13]⟩) ty27 rfl (.there .here) rfl rfl rfl rfl) <| w_a rfl (o_buildSlice' (kd := k_radomeref01_Num) (css := [[.bool y3.f_Neg, v7], [.bool y9.f_Neg, v13]]) (xs := [(⟨y3.f_Neg, y3.f_D⟩ : radomeref01_Num), (⟨y9.f_Neg, y9.f_D⟩ : radomeref01_Num)]) (parts := [(0, .agg ⟨[.bool y3.f_Neg, v7]⟩), (1, .agg ⟨[.bool y9.f_Neg, v13]⟩)]) Tryz.underlying99 ti27 rfl ⟨_, _, rfl, rfl, ⟨_, _, rfl, rfl, rfl⟩⟩ ⟨(k_radomeref01_Num_in (x := ⟨y3.f_Neg, y3.f_D⟩) h8), ⟨(k_radomeref01_Num_in (x := ⟨y9.f_Neg, y9.f_D⟩) h14), trivial⟩⟩ rfl (by decide)) ?_
 rintro v19 _ _ ⟨i20, rfl, rfl, h21⟩
 obtain ⟨y22, hy23, he⟩ := Option.bind_eq_some_iff.1 he
 refine w_d rfl (call_d (o_call co54 (vs := [v19]) rfl (radomeref02_Fits.calls k hy23 (h21.src .here)))) <| w_d rfl (d_not (b := y22) rfl) <| w_done ?_
 rcases its he with ⟨c26, he⟩ | ⟨c26, he⟩
 ·
  refine w_then rfl c26 <| w_seq <| w_region rfl <| w_d rfl (d_assign (v := .int .i64 0) rfl) <| w_d rfl (d_assign (v := .int .i64 12) rfl) <| w_done ?_
  obtain rfl := Option.some.inj he
  refine w_return fn_27 rs_27 (.tmp (v := .int .i64 0) rfl (.tmp (v := .int .i64 12) rfl .nil)) <| ⟨⟨[_, _, _, _, _], rfl⟩, hle.trans e18, rfl⟩
 ·
  refine w_else rfl (Bool.eq_false_iff.2 c26) <| w_skip <| w_seq <| w_region rfl <| w_d rfl (d_loado (v := .agg ⟨[.bool y3.f_Neg, v7]⟩) ty27 rfl (.there .here) rfl rfl rfl rfl) <| w_d rfl (d_loado (v := .agg ⟨[.bool y9.f_Neg, v13]⟩) ty27 rfl (.there (.there .here)) rfl rfl rfl rfl) ?_
  obtain ⟨y27, hy28, he⟩ := Option.bind_eq_some_iff.1 he
  refine w_d rfl (call_d (o_call co55 (vs := [.agg ⟨[.bool y3.f_Neg, v7]⟩, .agg ⟨[.bool y9.f_Neg, v13]⟩]) rfl (radomeref01_Cmp.calls k (a := ⟨y3.f_Neg, y3.f_D⟩) (b := ⟨y9.f_Neg, y9.f_D⟩) hy28 h8 h14))) <| w_d rfl (d_assign (v := .int .i64 y27) rfl) <| w_d rfl (d_assign (v := .int .i64 0) rfl) <| w_done ?_
  obtain rfl := Option.some.inj he
  refine w_return fn_27 rs_27 (.tmp (v := .int .i64 y27) rfl (.tmp (v := .int .i64 0) rfl .nil)) <| ⟨⟨[_, _, _, _, _], rfl⟩, hle.trans e18, rfl⟩
/-! ### (radome/wide.Int).Move$1 -/
noncomputable def wide_Int_Move_1.C : Code := (Tryz.f63.body).getD .skip
def wide_Int_Move_1.out (r : Bool) (H : Hp) (v : Value) : Prop := v = .bool r
abbrev wide_Int_Move_1.R (H0 : Hp) (L : Items) (r : Bool) : Value → Hp → Items → Prop := fun v H' L' => (∃ p, L' = p ++ L) ∧ H0.le H' ∧ wide_Int_Move_1.out r H' v
noncomputable def wide_Int_Move_1.f (k : Nat) (x : Int) : Option Bool := some (!decide (x = 0))
theorem wide_Int_Move_1.mono : ∀ k y0, LeO (wide_Int_Move_1.f k y0) (wide_Int_Move_1.f (k + 1) y0) := fun k _ => by unfold wide_Int_Move_1.f; exact (LeO.refl _)
theorem wide_Int_Move_1.calls (k : Nat) {H : Hp} {L : Items} {x : Int} {r : Bool} (he : wide_Int_Move_1.f k x = some r) : Ct Tryz.prog 63 ⟨[.int .u32 x]⟩ H L (fun v H' L' => L = L' ∧ H = H' ∧ v = .bool r) := by
 refine ct_outs (O := wide_Int_Move_1.out r) (fun _ _ h => h) ?_
 have hle : H.le H := .refl _
 unfold wide_Int_Move_1.f at he
 refine ct_enter (args := [.int .u32 x]) fn_63 rfl nt_63 rfl <| w_seq <| w_region rfl <| w_d rfl (d_assign (v := .bool false) rfl) <| w_done <| w_seq <| w_region rfl <| w_d rfl (d_move (v := .int .u32 x) rfl) <| w_d rfl (d_neq rfl rfl) <| w_d rfl (d_assign (v := .bool (!decide (x = 0))) rfl) <| w_done ?_
 obtain rfl := Option.some.inj he
 refine w_return fn_63 rs_63 (.tmp (v := .bool (!decide (x = 0))) rfl .nil) <| ⟨⟨[], rfl⟩, hle, rfl⟩
/-! ### slices.IndexFunc[[]uint32,uint32] -/
noncomputable def slices_IndexFunc_uint32_uint32_wide_Int_Move_1.C : Code := (Tryz.f87.body).getD .skip
def slices_IndexFunc_uint32_uint32_wide_Int_Move_1.out (r : Int) (H : Hp) (v : Value) : Prop := v = .int .i64 r
abbrev slices_IndexFunc_uint32_uint32_wide_Int_Move_1.R (H0 : Hp) (L : Items) (r : Int) : Value → Hp → Items → Prop := fun v H' L' => (∃ p, L' = p ++ L) ∧ H0.le H' ∧ slices_IndexFunc_uint32_uint32_wide_Int_Move_1.out r H' v
structure slices_IndexFunc_uint32_uint32_wide_Int_Move_1.Hs where
 l0 : (List Int) → Int → Int → Int → Option Int
noncomputable def slices_IndexFunc_uint32_uint32_wide_Int_Move_1.b0 (k : Nat) (h : slices_IndexFunc_uint32_uint32_wide_Int_Move_1.Hs)  (s : List Int) (t4 : Int) (t7 : Int) (t8 : Int) : Option Int := if t8 < t7 then (if (0 : Int) ≤ t8 ∧ t8 < (s.length : Int) then ((wide_Int_Move_1.f k (rd s t8)).bind fun y3 => if y3 = true then (some (t8)) else (h.l0 s t4 t7 (w64 (t8 + 1)))) else none) else (some ((-1)))
noncomputable def slices_IndexFunc_uint32_uint32_wide_Int_Move_1.hs : Nat → slices_IndexFunc_uint32_uint32_wide_Int_Move_1.Hs
 | 0 => ⟨fun _ _ _ _ => none⟩
 | k + 1 => ⟨fun x0 x1 x2 x3 => slices_IndexFunc_uint32_uint32_wide_Int_Move_1.b0 k (slices_IndexFunc_uint32_uint32_wide_Int_Move_1.hs k) x0 x1 x2 x3⟩
noncomputable def slices_IndexFunc_uint32_uint32_wide_Int_Move_1.f (k : Nat) (s : List Int) : Option Int := (fun h : slices_IndexFunc_uint32_uint32_wide_Int_Move_1.Hs => h.l0 s 0 (s.length : Int) 0) (slices_IndexFunc_uint32_uint32_wide_Int_Move_1.hs k)
structure slices_IndexFunc_uint32_uint32_wide_Int_Move_1.LE (h h' : slices_IndexFunc_uint32_uint32_wide_Int_Move_1.Hs) : Prop where
 l0 : ∀ y0 y1 y2 y3, LeO (h.l0 y0 y1 y2 y3) (h'.l0 y0 y1 y2 y3)
theorem slices_IndexFunc_uint32_uint32_wide_Int_Move_1.b0_mono {k : Nat} {h h' : slices_IndexFunc_uint32_uint32_wide_Int_Move_1.Hs} (hl : slices_IndexFunc_uint32_uint32_wide_Int_Move_1.LE h h') : ∀ y0 y1 y2 y3, LeO (slices_IndexFunc_uint32_uint32_wide_Int_Move_1.b0 k h y0 y1 y2 y3) (slices_IndexFunc_uint32_uint32_wide_Int_Move_1.b0 (k + 1) h' y0 y1 y2 y3) := fun _ _ _ _ => (LeO.ite (LeO.ite (LeO.bind (wide_Int_Move_1.mono k _) fun _ => LeO.ite (LeO.refl _) (hl.l0 _ _ _ _)) (LeO.refl _)) (LeO.refl _))
theorem slices_IndexFunc_uint32_uint32_wide_Int_Move_1.hs_mono : ∀ k, slices_IndexFunc_uint32_uint32_wide_Int_Move_1.LE (slices_IndexFunc_uint32_uint32_wide_Int_Move_1.hs k) (slices_IndexFunc_uint32_uint32_wide_Int_Move_1.hs (k + 1))
 | 0 => ⟨fun _ _ _ _ => LeO.none _⟩
 | k + 1 => ⟨slices_IndexFunc_uint32_uint32_wide_Int_Move_1.b0_mono (k := k) (slices_IndexFunc_uint32_uint32_wide_Int_Move_1.hs_mono k)⟩
theorem slices_IndexFunc_uint32_uint32_wide_Int_Move_1.mono : ∀ k y0, LeO (slices_IndexFunc_uint32_uint32_wide_Int_Move_1.f k y0) (slices_IndexFunc_uint32_uint32_wide_Int_Move_1.f (k + 1) y0) := fun k _ => have hl := slices_IndexFunc_uint32_uint32_wide_Int_Move_1.hs_mono k; by unfold slices_IndexFunc_uint32_uint32_wide_Int_Move_1.f; exact (hl.l0 _ _ _ _)
noncomputable def slices_IndexFunc_uint32_uint32_wide_Int_Move_1.Kl0 : List Item := .code (lopB (blkB (seqR (seqL (seqR slices_IndexFunc_uint32_uint32_wide_Int_Move_1.C))))) :: .inLoop (lopB (blkB (seqR (seqL (seqR slices_IndexFunc_uint32_uint32_wide_Int_Move_1.C))))) :: .inBlock 0 :: .code (seqR (seqR slices_IndexFunc_uint32_uint32_wide_Int_Move_1.C)) :: []
structure slices_IndexFunc_uint32_uint32_wide_Int_Move_1.OK (h : slices_IndexFunc_uint32_uint32_wide_Int_Move_1.Hs) : Prop where
 l0 : ∀ {H0 H : Hp} {L : Items} {r : Int} {jk_ : Nat → Value} {s : List Int} {t4 : Int} {t7 : Int} {t8 : Int} {v_s : Value} (_ : H0.le H) (_he : h.l0 s t4 t7 t8 = some r) (_h_s : Src (Kd.int .u32) H L v_s s), Wp Tryz.prog 87 19 slices_IndexFunc_uint32_uint32_wide_Int_Move_1.Kl0 (upd (upd (upd (upd (upd jk_ 0 (v_s)) 1 (.func (.func 63) #[] #[])) 4 (.int .i64 t4)) 7 (.int .i64 t7)) 8 (.int .i64 t8)) H (L) (slices_IndexFunc_uint32_uint32_wide_Int_Move_1.R H0 L r)
theorem slices_IndexFunc_uint32_uint32_wide_Int_Move_1.b0_ok {k : Nat} {h : slices_IndexFunc_uint32_uint32_wide_Int_Move_1.Hs} (hh : slices_IndexFunc_uint32_uint32_wide_Int_Move_1.OK h) {H0 H : Hp} {L : Items} {r : Int} {jk_ : Nat → Value} {s : List Int} {t4 : Int} {t7 : Int} {t8 : Int} {v_s : Value} (hle : H0.le H) (he : slices_IndexFunc_uint32_uint32_wide_Int_Move_1.b0 k h s t4 t7 t8 = some r) (h_s : Src (Kd.int .u32) H L v_s s) : Wp Tryz.prog 87 19 slices_IndexFunc_uint32_uint32_wide_Int_Move_1.Kl0 (upd (upd (upd (upd (upd jk_ 0 (v_s)) 1 (.func (.func 63) #[] #[])) 4 (.int .i64 t4)) 7 (.int .i64 t7)) 8 (.int .i64 t8)) H (L) (slices_IndexFunc_uint32_uint32_wide_Int_Move_1.R H0 L r) := by
 unfold slices_IndexFunc_uint32_uint32_wide_Int_Move_1.b0 at he
 unfold slices_IndexFunc_uint32_uint32_wide_Int_Move_1.Kl0
 refine w_seq <| w_region rfl <| w_d rfl (d_lss rfl rfl) <| w_done <| w_seq ?_
 rcases its he with ⟨c1, he⟩ | ⟨c1, he⟩
 ·
  refine w_then rfl (decide_eq_true c1) <| w_skip <| w_seq <| w_block <| w_seq <| w_region rfl <| w_d rfl (d_move (v := .int .i64 t8) rfl) <| w_d rfl (d_assign (v := .int .i64 t8) rfl) <| w_done <| w_seq <| w_region rfl <| w_d rfl (d_move (v := .func (.func 63) #[] #[]) rfl) ?_
  refine w_d rfl (d_move (v := v_s) rfl) <| w_d rfl (d_move (v := .int .i64 t8) rfl) ?_
  obtain ⟨c2, he⟩ := rq he
  refine w_d rfl (d_index (sz := 1) Tryz.underlying34 sz90 rfl h_s rfl c2) <| w_d rfl (d_ldint ty90 rfl h_s c2) ?_
  obtain ⟨y3, hy4, he⟩ := Option.bind_eq_some_iff.1 he
  refine w_d rfl (call_d (o_callv rfl co63 (vs := [.int .u32 (rd s t8)]) rfl (wide_Int_Move_1.calls k hy4))) <| w_done ?_
  rcases its he with ⟨c7, he⟩ | ⟨c7, he⟩
  ·
   refine w_then rfl c7 <| w_seq <| w_region rfl <| w_d rfl (d_move (v := .int .i64 t8) rfl) <| w_d rfl (d_assign (v := .int .i64 t8) rfl) <| w_done ?_
   obtain rfl := Option.some.inj he
   refine w_return fn_87 rs_87 (.tmp (v := .int .i64 t8) rfl .nil) <| ⟨⟨[], rfl⟩, hle, rfl⟩
  ·
   refine w_else rfl (Bool.eq_false_iff.2 c7) <| w_skip <| w_inBlock <| w_region rfl <| w_d rfl (d_add (c := w64 (t8 + 1)) rfl rfl rfl) <| w_d rfl (d_move (v := .int .i64 (w64 (t8 + 1))) rfl) <| w_done <| w_inLoop <| w_sl 0 (v_s) rfl <| w_sl 1 (.func (.func 63) #[] #[]) rfl <| w_sl 4 (.int .i64 t4) rfl <| w_sl 7 (.int .i64 t7) rfl ?_
   refine w_sl 8 (.int .i64 (w64 (t8 + 1))) rfl <| hh.l0 hle he h_s
 ·
  refine w_else rfl (decide_eq_false c1) <| w_exit rfl <| w_seq <| w_region rfl <| w_d rfl (d_assign (v := .int .i64 (-1)) rfl) <| w_done ?_
  obtain rfl := Option.some.inj he
  refine w_return fn_87 rs_87 (.tmp (v := .int .i64 (-1)) rfl .nil) <| ⟨⟨[], rfl⟩, hle, rfl⟩
theorem slices_IndexFunc_uint32_uint32_wide_Int_Move_1.ok : ∀ k, slices_IndexFunc_uint32_uint32_wide_Int_Move_1.OK (slices_IndexFunc_uint32_uint32_wide_Int_Move_1.hs k)
 | 0 => ⟨(by intros; exact nomatch (show none = some _ from by assumption))⟩
 | k + 1 => ⟨slices_IndexFunc_uint32_uint32_wide_Int_Move_1.b0_ok (k := k) (slices_IndexFunc_uint32_uint32_wide_Int_Move_1.ok k)⟩
theorem slices_IndexFunc_uint32_uint32_wide_Int_Move_1.calls (k : Nat) {H : Hp} {L : Items} {s : List Int} {v0_s : Value} {r : Int} (he : slices_IndexFunc_uint32_uint32_wide_Int_Move_1.f k s = some r) (h0_s : Src (Kd.int .u32) H L v0_s s) : Ct Tryz.prog 87 ⟨[v0_s, .func (.func 63) #[] #[]]⟩ H L (fun v H' L' => L = L' ∧ H = H' ∧ v = .int .i64 r) := by
 refine ct_outs (O := slices_IndexFunc_uint32_uint32_wide_Int_Move_1.out r) (fun _ _ h => h) ?_
 have hle : H.le H := .refl _
 have hh := slices_IndexFunc_uint32_uint32_wide_Int_Move_1.ok k
 unfold slices_IndexFunc_uint32_uint32_wide_Int_Move_1.f at he
 refine ct_enter (args := [v0_s, .func (.func 63) #[] #[]]) fn_87 rfl nt_87 rfl <| w_seq <| w_region rfl <| w_d rfl (d_assign (v := .int .i64 0) rfl) <| w_done <| w_seq <| w_seq <| w_region rfl <| w_d rfl (d_move (v := v0_s) rfl) <| w_d rfl (d_len Tryz.underlying34 rfl h0_s) <| w_d rfl (d_move (v := .int .i64 0) rfl) <| w_done ?_
 refine w_block <| w_loop <| w_sl 0 (v0_s) rfl <| w_sl 1 (.func (.func 63) #[] #[]) rfl <| w_sl 4 (.int .i64 0) rfl <| w_sl 7 (.int .i64 (s.length : Int)) rfl <| w_sl 8 (.int .i64 0) rfl <| hh.l0 hle he h0_s
/-! ### slices.ContainsFunc[[]uint32,uint32] -/
noncomputable def slices_ContainsFunc_uint32_uint32_wide_Int_Move_1.C : Code := (Tryz.f62.body).getD .skip
def slices_ContainsFunc_uint32_uint32_wide_Int_Move_1.out (r : Bool) (H : Hp) (v : Value) : Prop := v = .bool r
abbrev slices_ContainsFunc_uint32_uint32_wide_Int_Move_1.R (H0 : Hp) (L : Items) (r : Bool) : Value → Hp → Items → Prop := fun v H' L' => (∃ p, L' = p ++ L) ∧ H0.le H' ∧ slices_ContainsFunc_uint32_uint32_wide_Int_Move_1.out r H' v
noncomputable def slices_ContainsFunc_uint32_uint32_wide_Int_Move_1.f (k : Nat) (s : List Int) : Option Bool := (slices_IndexFunc_uint32_uint32_wide_Int_Move_1.f k s).bind fun y1 => some (decide (0 ≤ y1))
theorem slices_ContainsFunc_uint32_uint32_wide_Int_Move_1.mono : ∀ k y0, LeO (slices_ContainsFunc_uint32_uint32_wide_Int_Move_1.f k y0) (slices_ContainsFunc_uint32_uint32_wide_Int_Move_1.f (k + 1) y0) := fun k _ => by unfold slices_ContainsFunc_uint32_uint32_wide_Int_Move_1.f; exact (LeO.bind (slices_IndexFunc_uint32_uint32_wide_Int_Move_1.mono k _) fun _ => LeO.refl _)
theorem slices_ContainsFunc_uint32_uint32_wide_Int_Move_1.calls (k : Nat) {H : Hp} {L : Items} {s : List Int} {v0_s : Value} {r : Bool} (he : slices_ContainsFunc_uint32_uint32_wide_Int_Move_1.f k s = some r) (h0_s : Src (Kd.int .u32) H L v0_s s) : Ct Tryz.prog 62 ⟨[v0_s, .func (.func 63) #[] #[]]⟩ H L (fun v H' L' => L = L' ∧ H = H' ∧ v = .bool r) := by
 refine ct_outs (O := slices_ContainsFunc_uint32_uint32_wide_Int_Move_1.out r) (fun _ _ h => h) ?_
 have hle : H.le H := .refl _
 unfold slices_ContainsFunc_uint32_uint32_wide_Int_Move_1.f at he
 refine ct_enter (args := [v0_s, .func (.func 63) #[] #[]]) fn_62 rfl nt_62 rfl <| w_seq <| w_region rfl <| w_d rfl (d_assign (v := .bool false) rfl) <| w_done <| w_seq <| w_region rfl <| w_d rfl (d_move (v := v0_s) rfl) <| w_d rfl (d_move (v := .func (.func 63) #[] #[]) rfl) ?_
 obtain ⟨y1, hy2, he⟩ := Option.bind_eq_some_iff.1 he
 refine w_d rfl (call_d (o_call co87 (vs := [v0_s, .func (.func 63) #[] #[]]) rfl (slices_IndexFunc_uint32_uint32_wide_Int_Move_1.calls k hy2 h0_s))) <| w_d rfl (d_geq rfl rfl) <| w_d rfl (d_assign (v := .bool (decide (0 ≤ y1))) rfl) <| w_done ?_
 obtain rfl := Option.some.inj he
 refine w_return fn_62 rs_62 (.tmp (v := .bool (decide (0 ≤ y1))) rfl .nil) <| ⟨⟨[], rfl⟩, hle, rfl⟩
/-! ### (radome/wide.Int).Sub -/
noncomputable def wide_Int_Sub.C : Code := (Tryz.f66.body).getD .skip
def wide_Int_Sub.out (r : wide_Int × (Option Int)) (H : Hp) (v : Value) : Prop := ∃ v0, v = .tuple ⟨[.agg ⟨[.bool r.1.f_neg, v0]⟩, errV 71 r.2]⟩ ∧ Ro (Kd.int .u32) H v0 r.1.f_w
theorem wide_Int_Sub.out_mono (r : wide_Int × (Option Int)) {H H' : Hp} {v : Value} (hle : H.le H') (h : wide_Int_Sub.out r H v) : wide_Int_Sub.out r H' v := by
 obtain ⟨v0, rfl, h0⟩ := h; exact ⟨v0, rfl, h0.mono hle⟩
abbrev wide_Int_Sub.R (H0 : Hp) (L : Items) (r : wide_Int × (Option Int)) : Value → Hp → Items → Prop := fun v H' L' => (∃ p, L' = p ++ L) ∧ H0.le H' ∧ wide_Int_Sub.out r H' v
noncomputable def wide_Int_Sub.f (k : Nat) (a : wide_Int) (b : wide_Int) : Option (wide_Int × (Option Int)) := (wide_Int_Neg.f k (⟨b.f_neg, b.f_w⟩ : wide_Int)).bind fun y4 => (wide_Int_Add.f k (⟨a.f_neg, a.f_w⟩ : wide_Int) (⟨y4.f_neg, y4.f_w⟩ : wide_Int)).bind fun y10 => some ((⟨y10.1.f_neg, y10.1.f_w⟩ : wide_Int), y10.2)
theorem wide_Int_Sub.mono : ∀ k y0 y1, LeO (wide_Int_Sub.f k y0 y1) (wide_Int_Sub.f (k + 1) y0 y1) := fun k _ _ => by unfold wide_Int_Sub.f; exact (LeO.bind (wide_Int_Neg.mono k _) fun _ => LeO.bind (wide_Int_Add.mono k _ _) fun _ => LeO.refl _)
theorem wide_Int_Sub.calls (k : Nat) {H : Hp} {L : Items} {a : wide_Int} {b : wide_Int} {v0_a : Value} {v1_b : Value} {r : wide_Int × (Option Int)} (he : wide_Int_Sub.f k a b = some r) (h0_a : Ro (Kd.int .u32) H v0_a a.f_w) (h1_b : Ro (Kd.int .u32) H v1_b b.f_w) : Ct Tryz.prog 66 ⟨[.agg ⟨[.bool a.f_neg, v0_a]⟩, .agg ⟨[.bool b.f_neg, v1_b]⟩]⟩ H L (fun v H' L' => L = L' ∧ H.le H' ∧ wide_Int_Sub.out r H' v) := by
 refine ct_out (O := wide_Int_Sub.out r) ?_
 have hle : H.le H := .refl _
 unfold wide_Int_Sub.f at he
 refine ct_enter (args := [.agg ⟨[.bool a.f_neg, v0_a]⟩, .agg ⟨[.bool b.f_neg, v1_b]⟩]) fn_66 rfl nt_66 rfl <| w_seq <| w_region rfl <| w_a rfl (o_box (v := .agg ⟨[.bool a.f_neg, v0_a]⟩) rfl rfl) ?_
 rintro _ _ _ ⟨b1, rfl, rfl, rfl⟩
 refine w_a rfl (o_box (v := .agg ⟨[.bool b.f_neg, v1_b]⟩) rfl rfl) ?_
 rintro _ _ _ ⟨b2, rfl, rfl, rfl⟩
 refine w_a rfl (o_alloc zr36 rfl) ?_
 rintro _ _ _ ⟨b3, rfl, rfl, rfl⟩
 refine w_d rfl (d_assign (v := errV 71 none) rfl) <| w_done <| w_seq ?_
 obtain ⟨y4, hy5, he⟩ := Option.bind_eq_some_iff.1 he
 obtain ⟨y10, hy11, he⟩ := Option.bind_eq_some_iff.1 he
 refine w_drawn (p := 6) (tl := [6, 7]) [[], [], [(1, some 7)], [(0, some 6), (2, some 8)], [(3, some 9)], [(3, some 9)]] [some 6, some 7, some 8, some 9, some 10, some 11] (fctF (.is (.agg ⟨[.bool a.f_neg, v0_a]⟩) :: .is (.agg ⟨[.bool b.f_neg, v1_b]⟩) :: .of (wide_Int_Neg.out y4) (wide_Int_Neg.out_mono _) :: .of (wide_Int_Add.out y10) (wide_Int_Add.out_mono _) :: .of (fun H v => ∃ v16, v = .agg ⟨[.bool y10.1.f_neg, v16]⟩ ∧ Ro (Kd.int .u32) H v16 y10.1.f_w) (by rintro _ _ _ hle ⟨v16, rfl, h17⟩; exact ⟨v16, rfl, h17.mono hle⟩) :: .is (errV 71 y10.2) :: [])) (fun m_ => some (b3, .cells ⟨[.bool false, .slice none 0 0]⟩ 36 (0, 0)) :: some (b2, .cells ⟨[.bool b.f_neg, v1_b]⟩ 36 (0, 0)) :: some (b1, .cells ⟨[.bool a.f_neg, v0_a]⟩ 36 (0, 0)) :: L) (fun _ => none) mixed (by kernel_rfl) (by kernel_rfl) rfl (fct_mono (by kernel_rfl)) ⟨(fun H' m_ hH hm_ hu_ => depK_nil <| s_d (m_ 0) rfl (d_loado (v := .agg ⟨[.bool a.f_neg, v0_a]⟩) ty36 rfl (.there (.there .here)) rfl rfl rfl rfl) (by exact rfl) rfl), (fun H' m_ hH hm_ hu_ => depK_nil <| s_d (m_ 1) rfl (d_loado (v := .agg ⟨[.bool b.f_neg, v1_b]⟩) ty36 rfl (.there .here) rfl rfl rfl rfl) (by exact rfl) rfl), (by rintro H' m_ hH hm_ hu_ _ rfl; exact depK_nil <| s_k (m_ 2) rfl (o_call co56 (vs := [.agg ⟨[.bool b.f_neg, v1_b]⟩]) rfl (wide_Int_Neg.calls k (a := ⟨b.f_neg, b.f_w⟩) hy5 (h1_b.mono hH))) rfl (by rintro v_ H_ _ ⟨rfl, e_, h_⟩; exact ⟨rfl, e_, h_⟩)), (by rintro H' m_ hH hm_ hu_ _ rfl _ ⟨v8, rfl, h9⟩; exact depK_nil <| s_k (m_ 3) rfl (o_call co38 (vs := [.agg ⟨[.bool a.f_neg, v0_a]⟩, .agg ⟨[.bool y4.f_neg, v8]⟩]) rfl (wide_Int_Add.calls k (a := ⟨a.f_neg, a.f_w⟩) (b := ⟨y4.f_neg, y4.f_w⟩) hy11 (h0_a.mono hH) h9)) rfl (by rintro v_ H_ _ ⟨rfl, e_, h_⟩; exact ⟨rfl, e_, h_⟩)), (by rintro H' m_ hH hm_ hu_ _ ⟨v14, rfl, h15⟩; exact depK_nil <| s_d (m_ 4) rfl (d_ext (vs := [.agg ⟨[.bool y10.1.f_neg, v14]⟩, errV 71 y10.2]) rfl rfl) (by exact ⟨v14, rfl, h15⟩) rfl), (by rintro H' m_ hH hm_ hu_ _ ⟨v14, rfl, h15⟩; exact depK_nil <| s_d (m_ 5) rfl (d_ext (vs := [.agg ⟨[.bool y10.1.f_neg, v14]⟩, errV 71 y10.2]) rfl rfl) (by exact rfl) rfl), trivial⟩ ?_
 intro H18 e19
 rintro _ _ rfl _ _ rfl _ _ ⟨v8, rfl, h9⟩ _ _ ⟨v14, rfl, h15⟩ _ _ ⟨v16, rfl, h17⟩ _ _ rfl
 refine w_a0 rfl (o_store (v := .agg ⟨[.bool y10.1.f_neg, v16]⟩) sz36 rfl rfl rfl rfl (one_cons rfl (one_cons (h17.one) one_nil)) .here (.here (.here .done))) ?_
 rintro _ _ _ ⟨rfl, rfl, rfl⟩
 refine w_d rfl (d_assign (v := errV 71 y10.2) rfl) <| w_done ?_
 obtain rfl := Option.some.inj he
 refine w_return fn_66 rs_66 (.box (v := .agg ⟨[.bool y10.1.f_neg, v16]⟩) rfl ty36 rfl rfl .here rfl (.tmp (v := errV 71 y10.2) rfl .nil)) <| ⟨⟨[_, _, _], rfl⟩, hle.trans e19, ⟨v16, rfl, h17⟩⟩
/-! ### (radome/wide.Int).Move -/
noncomputable def wide_Int_Move.C : Code := (Tryz.f32.body).getD .skip
def wide_Int_Move.out (r : wide_Int × (Option Int)) (H : Hp) (v : Value) : Prop := ∃ v0, v = .tuple ⟨[.agg ⟨[.bool r.1.f_neg, v0]⟩, errV 71 r.2]⟩ ∧ Ro (Kd.int .u32) H v0 r.1.f_w
theorem wide_Int_Move.out_mono (r : wide_Int × (Option Int)) {H H' : Hp} {v : Value} (hle : H.le H') (h : wide_Int_Move.out r H v) : wide_Int_Move.out r H' v := by
 obtain ⟨v0, rfl, h0⟩ := h; exact ⟨v0, rfl, h0.mono hle⟩
abbrev wide_Int_Move.R (H0 : Hp) (L : Items) (r : wide_Int × (Option Int)) : Value → Hp → Items → Prop := fun v H' L' => (∃ p, L' = p ++ L) ∧ H0.le H' ∧ wide_Int_Move.out r H' v
noncomputable def wide_Int_Move.j1 (k : Nat)  (a_0 : Bool) (a_1 : List Int) (lost : Bool) (rest : List Int) : Option (wide_Int × (Option Int)) := (slices_Clone_uint32_uint32.f k rest).bind fun y68 => (wide_made.f k a_0 y68).bind fun y74 => if ((y74.2.isSome || (!a_0)) || (!lost)) = true then (some ((⟨y74.1.f_neg, y74.1.f_w⟩ : wide_Int), y74.2)) else ((wide_Of.f k 1).bind fun y97 => (wide_Int_Sub.f k (⟨y74.1.f_neg, y74.1.f_w⟩ : wide_Int) (⟨y97.f_neg, y97.f_w⟩ : wide_Int)).bind fun y103 => some ((⟨y103.1.f_neg, y103.1.f_w⟩ : wide_Int), y103.2))
noncomputable def wide_Int_Move.f (k : Nat) (a : wide_Int) (n : Int) : Option (wide_Int × (Option Int)) := if ((decide (n < (-4096))) || (decide (4096 < n))) = true then (some ((⟨false, []⟩ : wide_Int), some 1)) else (if 0 ≤ n then (if 0 ≤ w64 (Int.tdiv n 32) ∧ w64 (Int.tdiv n 32) ≤ 70368744177664 then ((wide_up.f k a.f_w (Int.tmod n 32)).bind fun y11 => if (List.replicate (w64 (Int.tdiv n 32) : Int).toNat (0 : Int)).length + y11.length ≤ 35184372088704 then ((wide_made.f k a.f_neg ((List.replicate (w64 (Int.tdiv n 32) : Int).toNat (0 : Int)) ++ y11)).bind fun y26 => some ((⟨y26.1.f_neg, y26.1.f_w⟩ : wide_Int), y26.2)) else none) else none) else (if (0 : Int) ≤ 0 ∧ (0 : Int) ≤ min (w64 (Int.tdiv (w64 (0 - n)) 32)) (a.f_w.length : Int) ∧ min (w64 (Int.tdiv (w64 (0 - n)) 32)) (a.f_w.length : Int) ≤ (a.f_w.length : Int) then ((slices_ContainsFunc_uint32_uint32_wide_Int_Move_1.f k (cut a.f_w 0 (min (w64 (Int.tdiv (w64 (0 - n)) 32)) (a.f_w.length : Int)))).bind fun y35 => if (0 : Int) ≤ min (w64 (Int.tdiv (w64 (0 - n)) 32)) (a.f_w.length : Int) ∧ (min (w64 (Int.tdiv (w64 (0 - n)) 32)) (a.f_w.length : Int) : Int) ≤ (a.f_w.length : Int) ∧ (a.f_w.length : Int) ≤ (a.f_w.length : Int) then (if ((decide ((min (w64 (Int.tdiv (w64 (0 - n)) 32)) (a.f_w.length : Int)) < (a.f_w.length : Int))) && (decide ((min (w64 (Int.tdiv (w64 (0 - n)) 32)) (a.f_w.length : Int)) = (w64 (Int.tdiv (w64 (0 - n)) 32))))) = true then (if (!y35) = true → (0 : Int) ≤ 0 ∧ 0 < ((cut a.f_w (min (w64 (Int.tdiv (w64 (0 - n)) 32)) (a.f_w.length : Int)) (a.f_w.length : Int)).length : Int) then (if (!y35) = true → 0 ≤ (Int.tmod (w64 (0 - n)) 32) then ((wide_down.f k (cut a.f_w (min (w64 (Int.tdiv (w64 (0 - n)) 32)) (a.f_w.length : Int)) (a.f_w.length : Int)) (Int.tmod (w64 (0 - n)) 32)).bind fun y62 => wide_Int_Move.j1 k a.f_neg a.f_w (y35 || (!decide ((iand .u32 (rd (cut a.f_w (min (w64 (Int.tdiv (w64 (0 - n)) 32)) (a.f_w.length : Int)) (a.f_w.length : Int)) 0) ((((1 * 2 ^ shn .u32 (Int.tmod (w64 (0 - n)) 32)) % 4294967296) - 1) % 4294967296)) = 0))) y62) else none) else none) else (wide_Int_Move.j1 k a.f_neg a.f_w y35 [])) else none) else none))
theorem wide_Int_Move.j1_mono {k : Nat} : ∀ y0 y1 y2 y3, LeO (wide_Int_Move.j1 k y0 y1 y2 y3) (wide_Int_Move.j1 (k + 1) y0 y1 y2 y3) := fun _ _ _ _ => (LeO.bind (slices_Clone_uint32_uint32.mono k _) fun _ => LeO.bind (wide_made.mono k _ _) fun _ => LeO.ite (LeO.refl _) (LeO.bind (wide_Of.mono k _) fun _ => LeO.bind (wide_Int_Sub.mono k _ _) fun _ => LeO.refl _))
theorem wide_Int_Move.mono : ∀ k y0 y1, LeO (wide_Int_Move.f k y0 y1) (wide_Int_Move.f (k + 1) y0 y1) := fun k _ _ => by unfold wide_Int_Move.f; exact (LeO.ite (LeO.refl _) (LeO.ite (LeO.ite (LeO.bind (wide_up.mono k _ _) fun _ => LeO.ite (LeO.bind (wide_made.mono k _ _) fun _ => LeO.refl _) (LeO.refl _)) (LeO.refl _)) (LeO.ite (LeO.bind (slices_ContainsFunc_uint32_uint32_wide_Int_Move_1.mono k _) fun _ => LeO.ite (LeO.ite (LeO.ite (LeO.ite (LeO.bind (wide_down.mono k _ _) fun _ => wide_Int_Move.j1_mono (k := k)  _ _ _ _) (LeO.refl _)) (LeO.refl _)) (wide_Int_Move.j1_mono (k := k)  _ _ _ _)) (LeO.refl _)) (LeO.refl _))))
noncomputable def wide_Int_Move.Kj1 : List Item := .code (seqR (seqR (seqR (seqR (seqR (seqR (seqR wide_Int_Move.C))))))) :: []
theorem wide_Int_Move.j1_ok {k : Nat} {H0 H : Hp} {L : Items} {r : wide_Int × (Option Int)} {jk_ : Nat → Value} {a_0 : Bool} {a_1 : List Int} {lost : Bool} {rest : List Int} {v_a_1 : Value} {v_rest : Value} {b_a : Nat} {b_t4 : Nat} (hle : H0.le H) (he : wide_Int_Move.j1 k a_0 a_1 lost rest = some r) (h_a_1 : Ro (Kd.int .u32) H v_a_1 a_1) (h_rest : Ro (Kd.int .u32) H v_rest rest) : Wp Tryz.prog 32 109 wide_Int_Move.Kj1 (upd (upd (upd (upd (upd jk_ 2 (.pointer (some ⟨b_a, 0, none⟩))) 4 (.pointer (some ⟨b_t4, 0, none⟩))) 5 (errV 71 none)) 8 (.bool lost)) 9 (v_rest)) H (some (b_t4, .cells ⟨[.bool false, .slice none 0 0]⟩ 36 (0, 0)) :: some (b_a, .cells ⟨[.bool a_0, v_a_1]⟩ 36 (0, 0)) :: L) (wide_Int_Move.R H0 L r) := by
 unfold wide_Int_Move.j1 at he
 unfold wide_Int_Move.Kj1
 refine w_seq ?_
 obtain ⟨y68, hy69, he⟩ := Option.bind_eq_some_iff.1 he
 obtain ⟨y74, hy75, he⟩ := Option.bind_eq_some_iff.1 he
 refine w_none (?_)
 refine w_drawn (p := 10) (tl := [10]) [[], [(0, some 84)], [], [(2, some 86)], [(1, some 85), (3, some 87)], [(4, some 88)], [(5, some 83)], [(5, some 83)], [], [(6, some 89), (8, some 10)]] [some 84, some 85, some 86, some 87, some 88, some 83, some 89, some 90, some 10, none] (fctF (.is (.pointer (some ⟨b_a, 0, none⟩)) :: .is (.bool a_0) :: .is (v_rest) :: .ro (Kd.int .u32) (y68) :: .of (wide_made.out y74) (wide_made.out_mono _) :: .of (fun H v => ∃ v80, v = .tuple ⟨[.agg ⟨[.bool y74.1.f_neg, v80]⟩, errV 71 y74.2]⟩ ∧ Ro (Kd.int .u32) H v80 y74.1.f_w) (by rintro _ _ _ hle ⟨v80, rfl, h81⟩; exact ⟨v80, rfl, h81.mono hle⟩) :: .of (fun H v => ∃ v82, v = .agg ⟨[.bool y74.1.f_neg, v82]⟩ ∧ Ro (Kd.int .u32) H v82 y74.1.f_w) (by rintro _ _ _ hle ⟨v82, rfl, h83⟩; exact ⟨v82, rfl, h83.mono hle⟩) :: .is (errV 71 y74.2) :: .box 36 [.bool false, .slice none 0 0] :: .st 8 (fun H bq_ itq_ => ∃ v85, itq_ = some (bq_, .cells ⟨[.bool y74.1.f_neg, v85]⟩ 36 (0, 0)) ∧ Ro (Kd.int .u32) H v85 y74.1.f_w) (by rintro _ _ _ _ hle ⟨v85, rfl, h86⟩; exact ⟨v85, rfl, h86.mono hle⟩) :: [])) (fun m_ => pk (m_ 9) (m_ 8) :: some (b_t4, .cells ⟨[.bool false, .slice none 0 0]⟩ 36 (0, 0)) :: some (b_a, .cells ⟨[.bool a_0, v_a_1]⟩ 36 (0, 0)) :: L) (fun _ => none) mixed (by kernel_rfl) (by kernel_rfl) rfl (fct_mono (by kernel_rfl)) ⟨(fun H' m_ hH hm_ hu_ => depK_nil <| s_d (m_ 0) rfl (d_fld (o' := 0) Tryz.underlying36 rfl sz4 rfl rfl rfl) (by exact rfl) rfl), (by rintro H' m_ hH hm_ hu_ _ rfl; exact depK_nil <| s_d (m_ 1) rfl (d_loado (v := .bool a_0) ty4 rfl (.there (.there .here)) rfl rfl rfl rfl) (by exact rfl) rfl), (fun H' m_ hH hm_ hu_ => depK_nil <| s_d (m_ 2) rfl (d_move (v := v_rest) rfl) (by exact rfl) rfl), (by rintro H' m_ hH hm_ hu_ _ rfl; exact depK_nil <| s_k (m_ 3) rfl (o_call co65 (vs := [v_rest]) rfl (slices_Clone_uint32_uint32.callsR k hy69 (h_rest.mono hH))) rfl (by rintro v_ H_ _ ⟨rfl, e_, h_⟩; exact ⟨rfl, e_, h_⟩)), (by rintro H' m_ hH hm_ hu_ _ rfl v72 (h73 : Ro (Kd.int .u32) H' v72 y68); exact depK_nil <| s_k (m_ 4) rfl (o_call co61 (vs := [.bool a_0, v72]) rfl (wide_made.calls k hy75 h73)) rfl (by rintro v_ H_ _ ⟨rfl, e_, h_⟩; exact ⟨rfl, e_, h_⟩)), (by rintro H' m_ hH hm_ hu_ _ ⟨v78, rfl, h79⟩; exact depK_nil <| s_d (m_ 5) rfl (d_move (v := .tuple ⟨[.agg ⟨[.bool y74.1.f_neg, v78]⟩, errV 71 y74.2]⟩) rfl) (by exact ⟨v78, rfl, h79⟩) rfl), (by rintro H' m_ hH hm_ hu_ _ ⟨v80, rfl, h81⟩; exact depK_nil <| s_d (m_ 6) rfl (d_ext (vs := [.agg ⟨[.bool y74.1.f_neg, v80]⟩, errV 71 y74.2]) rfl rfl) (by exact ⟨v80, rfl, h81⟩) rfl), (by rintro H' m_ hH hm_ hu_ _ ⟨v80, rfl, h81⟩; exact depK_nil <| s_d (m_ 7) rfl (d_ext (vs := [.agg ⟨[.bool y74.1.f_neg, v80]⟩, errV 71 y74.2]) rfl rfl) (by exact rfl) rfl), (fun H' m_ hH hm_ hu_ => depK_nil <| s_box hm_ rfl rfl (o_alloc zr36 rfl) rfl (fun _ => (pk_upd (hu_ 9 (by kernel_rfl)))) (by exact fun b_ => ⟨b_, rfl, rfl⟩)), (by rintro H' m_ hH hm_ hu_ _ ⟨v82, rfl, h83⟩ _ ⟨b84, rfl, hb84_⟩; exact depK_nil <| s_store2 (Λ' := fun z_ => z_ :: some (b_t4, .cells ⟨[.bool false, .slice none 0 0]⟩ 36 (0, 0)) :: some (b_a, .cells ⟨[.bool a_0, v_a_1]⟩ 36 (0, 0)) :: L) (some (b84, .cells ⟨[.bool y74.1.f_neg, v82]⟩ 36 (0, 0))) hm_ rfl hb84_ rfl (o_store (v := .agg ⟨[.bool y74.1.f_neg, v82]⟩) sz36 rfl rfl rfl rfl (one_cons rfl (one_cons (h83.one) one_nil)) .here (.here (.here .done))) rfl rfl (by exact ⟨rfl, v82, congrArg (fun b_ => (some (b_, Obj.cells ⟨[.bool y74.1.f_neg, v82]⟩ 36 (0, 0)) : Item')) (bof_eq hb84_).symm, h83⟩)), trivial⟩ ?_
 intro H89 e90
 rintro _ _ rfl _ _ rfl _ _ rfl v72 _ (h73 : Ro (Kd.int .u32) H89 v72 y68) _ _ ⟨v78, rfl, h79⟩ _ _ ⟨v80, rfl, h81⟩ _ _ ⟨v82, rfl, h83⟩ _ _ rfl _ _ ⟨b84, rfl, rfl⟩ _ i87 ⟨rfl, v85, h88, h86⟩
 replace h88 : i87 = some (b84, .cells ⟨[.bool y74.1.f_neg, v85]⟩ 36 (0, 0)) := h88
 subst h88
 refine w_it (L' := some (b84, .cells ⟨[.bool y74.1.f_neg, v85]⟩ 36 (0, 0)) :: some (b_t4, .cells ⟨[.bool false, .slice none 0 0]⟩ 36 (0, 0)) :: some (b_a, .cells ⟨[.bool a_0, v_a_1]⟩ 36 (0, 0)) :: L) rfl <| w_d rfl (d_assign (v := errV 71 y74.2) rfl) <| w_done <| w_seq <| w_seq <| w_region rfl <| w_d rfl (d_move (v := errV 71 y74.2) rfl) <| w_d rfl (d_nenil (e := y74.2) Tryz.underlying32 rfl) <| w_d rfl (d_move (v := .bool y74.2.isSome) rfl) <| w_g (g := !y74.2.isSome) rfl rfl rfl wn_f (fun g91 => d_fld (o' := 0) Tryz.underlying36 rfl sz4 rfl rfl rfl) <| w_g (g := !y74.2.isSome) rfl rfl rfl wn_f (fun g92 => d_loado (v := .bool a_0) ty4 (cvt g92) (.there (.there .here)) rfl rfl rfl rfl) <| w_g (g := !y74.2.isSome) rfl rfl rfl wn_f (fun g93 => d_not (b := a_0) (cvt g93)) ?_
 refine w_d rfl (d_or' (b := y74.2.isSome) (p := (!a_0)) rfl rfl rfl) <| w_d rfl (d_move (v := .bool (y74.2.isSome || (!a_0))) rfl) <| w_g (g := !(y74.2.isSome || (!a_0))) rfl rfl rfl wn_f (fun g94 => d_move (v := .bool lost) rfl) <| w_g (g := !(y74.2.isSome || (!a_0))) rfl rfl rfl wn_f (fun g95 => d_not (b := lost) (cvt g95)) <| w_d rfl (d_or' (b := (y74.2.isSome || (!a_0))) (p := (!lost)) rfl rfl rfl) <| w_done ?_
 rcases its he with ⟨c96, he⟩ | ⟨c96, he⟩
 ·
  refine w_then rfl c96 <| w_seq <| w_region rfl <| w_d rfl (d_loado (v := .agg ⟨[.bool y74.1.f_neg, v85]⟩) ty36 rfl .here rfl rfl rfl rfl) <| w_d rfl (d_move (v := errV 71 y74.2) rfl) <| w_a0 rfl (o_store (v := .agg ⟨[.bool y74.1.f_neg, v85]⟩) sz36 rfl rfl rfl rfl (one_cons rfl (one_cons (h86.one) one_nil)) (.there .here) (.here (.here .done))) ?_
  rintro _ _ _ ⟨rfl, rfl, rfl⟩
  refine w_d rfl (d_assign (v := errV 71 y74.2) rfl) <| w_done ?_
  obtain rfl := Option.some.inj he
  refine w_return fn_32 rs_32 (.box (v := .agg ⟨[.bool y74.1.f_neg, v85]⟩) rfl ty36 rfl rfl (.there .here) rfl (.tmp (v := errV 71 y74.2) rfl .nil)) <| ⟨⟨[_, _, _], rfl⟩, hle.trans e90, ⟨v85, rfl, h86⟩⟩
 ·
  refine w_else rfl (Bool.eq_false_iff.2 c96) <| w_skip <| w_seq ?_
  obtain ⟨y97, hy98, he⟩ := Option.bind_eq_some_iff.1 he
  obtain ⟨y103, hy104, he⟩ := Option.bind_eq_some_iff.1 he
  refine w_drawn (p := 5) (tl := [5, 6]) [[], [], [(0, some 104), (1, some 105)], [(2, some 106)], [(2, some 106)]] [some 104, some 105, some 106, some 107, some 108] (fctF (.is (.agg ⟨[.bool y74.1.f_neg, v85]⟩) :: .of (wide_Of.out y97) (wide_Of.out_mono _) :: .of (wide_Int_Sub.out y103) (wide_Int_Sub.out_mono _) :: .of (fun H v => ∃ v109, v = .agg ⟨[.bool y103.1.f_neg, v109]⟩ ∧ Ro (Kd.int .u32) H v109 y103.1.f_w) (by rintro _ _ _ hle ⟨v109, rfl, h110⟩; exact ⟨v109, rfl, h110.mono hle⟩) :: .is (errV 71 y103.2) :: [])) (fun m_ => some (b84, .cells ⟨[.bool y74.1.f_neg, v85]⟩ 36 (0, 0)) :: some (b_t4, .cells ⟨[.bool false, .slice none 0 0]⟩ 36 (0, 0)) :: some (b_a, .cells ⟨[.bool a_0, v_a_1]⟩ 36 (0, 0)) :: L) (fun _ => none) mixed (by kernel_rfl) (by kernel_rfl) rfl (fct_mono (by kernel_rfl)) ⟨(fun H' m_ hH hm_ hu_ => depK_nil <| s_d (m_ 0) rfl (d_loado (v := .agg ⟨[.bool y74.1.f_neg, v85]⟩) ty36 rfl .here rfl rfl rfl rfl) (by exact rfl) rfl), (fun H' m_ hH hm_ hu_ => depK_nil <| s_k (m_ 1) rfl (o_call co14 (vs := [.int .i64 1]) rfl (wide_Of.calls k hy98)) rfl (by rintro v_ H_ _ ⟨rfl, e_, h_⟩; exact ⟨rfl, e_, h_⟩)), (by rintro H' m_ hH hm_ hu_ _ rfl _ ⟨v101, rfl, h102⟩; exact depK_nil <| s_k (m_ 2) rfl (o_call co66 (vs := [.agg ⟨[.bool y74.1.f_neg, v85]⟩, .agg ⟨[.bool y97.f_neg, v101]⟩]) rfl (wide_Int_Sub.calls k (a := ⟨y74.1.f_neg, y74.1.f_w⟩) (b := ⟨y97.f_neg, y97.f_w⟩) hy104 (h86.mono hH) h102)) rfl (by rintro v_ H_ _ ⟨rfl, e_, h_⟩; exact ⟨rfl, e_, h_⟩)), (by rintro H' m_ hH hm_ hu_ _ ⟨v107, rfl, h108⟩; exact depK_nil <| s_d (m_ 3) rfl (d_ext (vs := [.agg ⟨[.bool y103.1.f_neg, v107]⟩, errV 71 y103.2]) rfl rfl) (by exact ⟨v107, rfl, h108⟩) rfl), (by rintro H' m_ hH hm_ hu_ _ ⟨v107, rfl, h108⟩; exact depK_nil <| s_d (m_ 4) rfl (d_ext (vs := [.agg ⟨[.bool y103.1.f_neg, v107]⟩, errV 71 y103.2]) rfl rfl) (by exact rfl) rfl), trivial⟩ ?_
  intro H111 e112
  rintro _ _ rfl _ _ ⟨v101, rfl, h102⟩ _ _ ⟨v107, rfl, h108⟩ _ _ ⟨v109, rfl, h110⟩ _ _ rfl
  refine w_a0 rfl (o_store (v := .agg ⟨[.bool y103.1.f_neg, v109]⟩) sz36 rfl rfl rfl rfl (one_cons rfl (one_cons (h110.one) one_nil)) (.there .here) (.here (.here .done))) ?_
  rintro _ _ _ ⟨rfl, rfl, rfl⟩
  refine w_d rfl (d_assign (v := errV 71 y103.2) rfl) <| w_done ?_
  obtain rfl := Option.some.inj he
  refine w_return fn_32 rs_32 (.box (v := .agg ⟨[.bool y103.1.f_neg, v109]⟩) rfl ty36 rfl rfl (.there .here) rfl (.tmp (v := errV 71 y103.2) rfl .nil)) <| ⟨⟨[_, _, _], rfl⟩, hle.trans (e90.trans e112), ⟨v109, rfl, h110⟩⟩
theorem wide_Int_Move.calls (k : Nat) {H : Hp} {L : Items} {a : wide_Int} {n : Int} {v0_a : Value} {r : wide_Int × (Option Int)} (he : wide_Int_Move.f k a n = some r) (h0_a : Ro (Kd.int .u32) H v0_a a.f_w) : Ct Tryz.prog 32 ⟨[.agg ⟨[.bool a.f_neg, v0_a]⟩, .int .i64 n]⟩ H L (fun v H' L' => L = L' ∧ H.le H' ∧ wide_Int_Move.out r H' v) := by
 refine ct_out (O := wide_Int_Move.out r) ?_
 have hle : H.le H := .refl _
 unfold wide_Int_Move.f at he
 refine ct_enter (args := [.agg ⟨[.bool a.f_neg, v0_a]⟩, .int .i64 n]) fn_32 rfl nt_32 rfl <| w_seq <| w_region rfl <| w_a rfl (o_box (v := .agg ⟨[.bool a.f_neg, v0_a]⟩) rfl rfl) ?_
 rintro _ _ _ ⟨b1, rfl, rfl, rfl⟩
 refine w_a rfl (o_alloc zr36 rfl) ?_
 rintro _ _ _ ⟨b2, rfl, rfl, rfl⟩
 refine w_d rfl (d_assign (v := errV 71 none) rfl) <| w_done <| w_seq <| w_seq <| w_region rfl <| w_d rfl (d_move (v := .int .i64 n) rfl) <| w_d rfl (d_lss rfl rfl) <| w_d rfl (d_move (v := .bool (decide (n < (-4096)))) rfl) <| w_g (g := !(decide (n < (-4096)))) rfl rfl rfl wn_f (fun g3 => d_move (v := .int .i64 n) rfl) <| w_g (g := !(decide (n < (-4096)))) rfl rfl rfl wn_f (fun g4 => d_gtr (cvt g4) rfl) <| w_d rfl (d_or' (b := (decide (n < (-4096)))) (p := (decide (4096 < n))) rfl rfl rfl) <| w_done ?_
 rcases its he with ⟨c5, he⟩ | ⟨c5, he⟩
 ·
  refine w_then rfl c5 <| w_seq <| w_region rfl <| w_d rfl (d_build (cs' := [.bool false, .slice none 0 0]) Tryz.underlying36 zr36 rfl (by kernel_rfl) (parts := []) rfl .nil) <| w_d rfl (d_iface (v := .int .i64 1) Tryz.underlying71 rfl rfl) <| w_a0 rfl (o_store (v := .agg ⟨[.bool false, .slice none 0 0]⟩) sz36 rfl rfl rfl rfl (one_cons rfl (one_cons rfl one_nil)) .here (.here (.here .done))) ?_
  rintro _ _ _ ⟨rfl, rfl, rfl⟩
  refine w_d rfl (d_assign (v := errV 71 (some 1)) rfl) <| w_done ?_
  obtain rfl := Option.some.inj he
  refine w_return fn_32 rs_32 (.box (v := .agg ⟨[.bool false, .slice none 0 0]⟩) rfl ty36 rfl rfl .here rfl (.tmp (v := errV 71 (some 1)) rfl .nil)) <| ⟨⟨[_, _], rfl⟩, hle, ⟨.slice none 0 0, rfl, (ro_nil _ _)⟩⟩
 ·
  refine w_else rfl (Bool.eq_false_iff.2 c5) <| w_skip <| w_seq <| w_seq <| w_region rfl <| w_d rfl (d_move (v := .int .i64 n) rfl) <| w_d rfl (d_geq rfl rfl) <| w_done ?_
  rcases its he with ⟨c6, he⟩ | ⟨c6, he⟩
  ·
   refine w_then rfl (decide_eq_true c6) <| w_seq ?_
   obtain ⟨c7, he⟩ := rq he
   obtain ⟨y11, hy12, he⟩ := Option.bind_eq_some_iff.1 he
   refine w_none (?_)
   refine w_drawn (p := 8) (tl := [8, 9]) [[], [(0, some 22)], [(1, some 23)], [], [(3, some 25)], [], [(5, some 27)], [(4, some 26), (6, some 28)]] [some 22, some 23, some 24, some 25, some 26, some 27, some 28, some 29] (fctF (.is (.int .i64 n) :: .is (.int .i64 (w64 (Int.tdiv n 32))) :: .sl (Kd.int .u32) 90 (List.replicate (w64 (Int.tdiv n 32) : Int).toNat (0 : Int)) :: .is (.pointer (some ⟨b1, 1, none⟩)) :: .is (v0_a) :: .is (.int .i64 n) :: .is (.int .i64 (Int.tmod n 32)) :: .ro (Kd.int .u32) (y11) :: [])) (fun m_ => m_ 2 :: some (b2, .cells ⟨[.bool false, .slice none 0 0]⟩ 36 (0, 0)) :: some (b1, .cells ⟨[.bool a.f_neg, v0_a]⟩ 36 (0, 0)) :: L) (fun _ => none) mixed (by kernel_rfl) (by kernel_rfl) rfl (fct_mono (by kernel_rfl)) ⟨(fun H' m_ hH hm_ hu_ => depK_nil <| s_d (m_ 0) rfl (d_move (v := .int .i64 n) rfl) (by exact rfl) rfl), (by rintro H' m_ hH hm_ hu_ _ rfl; exact depK_nil <| s_d (m_ 1) rfl (d_quo (c := w64 (Int.tdiv n 32)) rfl rfl (by decide) rfl) (by exact rfl) rfl), (by rintro H' m_ hH hm_ hu_ _ rfl; exact depK_nil <| s_sl hm_ rfl rfl (o_make' (kd := (Kd.int .u32)) (z0 := 0) Tryz.underlying34 ti90 (zp90 _) rfl rfl (by omega) (by omega) (by omega)) rfl (fun _ => .here) (by exact fun _ _ h_ => h_)), (fun H' m_ hH hm_ hu_ => depK_nil <| s_d (m_ 3) rfl (d_fld (o' := 1) Tryz.underlying36 rfl sz34 rfl rfl rfl) (by exact rfl) rfl), (by rintro H' m_ hH hm_ hu_ _ rfl; exact depK_nil <| s_d (m_ 4) rfl (d_loado (v := v0_a) ty34 rfl (.there (.there .here)) rfl rfl rfl rfl) (by exact rfl) rfl), (fun H' m_ hH hm_ hu_ => depK_nil <| s_d (m_ 5) rfl (d_move (v := .int .i64 n) rfl) (by exact rfl) rfl), (by rintro H' m_ hH hm_ hu_ _ rfl; exact depK_nil <| s_d (m_ 6) rfl (d_rem rfl rfl (by decide)) (by exact rfl) rfl), (by rintro H' m_ hH hm_ hu_ _ rfl _ rfl; exact depK_nil <| s_k (m_ 7) rfl (o_call co60 (vs := [v0_a, .int .i64 (Int.tmod n 32)]) rfl (wide_up.callsR k hy12 ((h0_a.mono hH).src))) rfl (by rintro v_ H_ _ ⟨rfl, e_, h_⟩; exact ⟨rfl, e_, h_⟩)), trivial⟩ ?_
   intro H17 e18
   rintro _ _ rfl _ _ rfl v8 i9 (h10 : Sl (Kd.int .u32) H17 90 i9 v8 (List.replicate (w64 (Int.tdiv n 32) : Int).toNat (0 : Int))) _ _ rfl _ _ rfl _ _ rfl _ _ rfl v15 _ (h16 : Ro (Kd.int .u32) H17 v15 y11)
   obtain ⟨c19, he⟩ := rq he
   refine w_a rfl (o_append' (kd := (Kd.int .u32)) (F := fun z_ => z_ :: some (b2, .cells ⟨[.bool false, .slice none 0 0]⟩ 36 (0, 0)) :: some (b1, .cells ⟨[.bool a.f_neg, v0_a]⟩ 36 (0, 0)) :: L) Tryz.underlying34 Tryz.underlying34 ti90 rfl (by first | omega | (simp only [List.nil_append, List.length_cons, List.length_nil]; omega)) rfl rfl h10 h16.src (fun _ => .here)) ?_
   rintro v20 _ _ ⟨i21, rfl, rfl, h22⟩
   refine w_d rfl (d_assign (v := v20) rfl) <| w_done <| w_seq <| w_region rfl <| w_d rfl (d_fld (o' := 0) Tryz.underlying36 rfl sz4 rfl rfl rfl) <| w_d rfl (d_loado (v := .bool a.f_neg) ty4 rfl (.there (.there .here)) rfl rfl rfl rfl) <| w_d rfl (d_move (v := v20) rfl) <| w_freeze h22 .here ?_
   intro H23 e24 h25
   obtain ⟨y26, hy27, he⟩ := Option.bind_eq_some_iff.1 he
   refine w_a rfl (o_call co61 (vs := [.bool a.f_neg, v20]) rfl (wide_made.calls k hy27 h25)) ?_
   rintro _ H28 _ ⟨rfl, e29, ⟨v30, rfl, h31⟩⟩
   refine w_d rfl (d_ext (vs := [.agg ⟨[.bool y26.1.f_neg, v30]⟩, errV 71 y26.2]) rfl rfl) <| w_d rfl (d_ext (vs := [.agg ⟨[.bool y26.1.f_neg, v30]⟩, errV 71 y26.2]) rfl rfl) <| w_a0 rfl (o_store (v := .agg ⟨[.bool y26.1.f_neg, v30]⟩) sz36 rfl rfl rfl rfl (one_cons rfl (one_cons (h31.one) one_nil)) (.there .here) (.here (.here .done))) ?_
   rintro _ _ _ ⟨rfl, rfl, rfl⟩
   refine w_d rfl (d_assign (v := errV 71 y26.2) rfl) <| w_done ?_
   obtain rfl := Option.some.inj he
   refine w_return fn_32 rs_32 (.box (v := .agg ⟨[.bool y26.1.f_neg, v30]⟩) rfl ty36 rfl rfl (.there .here) rfl (.tmp (v := errV 71 y26.2) rfl .nil)) <| ⟨⟨[_, _, _], rfl⟩, hle.trans ((e18.trans e24).trans e29), ⟨v30, rfl, h31⟩⟩
  ·
   refine w_else rfl (decide_eq_false c6) <| w_skip <| w_seq <| w_region rfl <| w_d rfl (d_move (v := .int .i64 n) rfl) <| w_d rfl (d_neg (c := w64 (0 - n)) rfl rfl) <| w_d rfl (d_quo (c := w64 (Int.tdiv (w64 (0 - n)) 32)) rfl rfl (by decide) rfl) <| w_d rfl (d_fld (o' := 1) Tryz.underlying36 rfl sz34 rfl rfl rfl) <| w_d rfl (d_loado (v := v0_a) ty34 rfl (.there .here) rfl rfl rfl rfl) <| w_d rfl (d_len Tryz.underlying34 rfl h0_a.src) <| w_d rfl (d_min rfl rfl) <| w_d rfl (d_assign (v := .int .i64 (min (w64 (Int.tdiv (w64 (0 - n)) 32)) (a.f_w.length : Int))) rfl) ?_
   refine w_done <| w_seq <| w_region rfl <| w_d rfl (d_fld (o' := 1) Tryz.underlying36 rfl sz34 rfl rfl rfl) <| w_d rfl (d_loado (v := v0_a) ty34 rfl (.there .here) rfl rfl rfl rfl) <| w_d rfl (d_move (v := .int .i64 (min (w64 (Int.tdiv (w64 (0 - n)) 32)) (a.f_w.length : Int))) rfl) ?_
   obtain ⟨c32, he⟩ := rq he
   refine w_a rfl (o_cut (kd := (Kd.int .u32)) Tryz.underlying34 sz90 rfl h0_a (.inl ⟨rfl, rfl⟩) (.inr ⟨_, _, rfl, rfl⟩) c32) ?_
   rintro v33 _ _ ⟨h34, rfl, rfl⟩
   obtain ⟨y35, hy36, he⟩ := Option.bind_eq_some_iff.1 he
   refine w_d rfl (call_d (o_call co62 (vs := [v33, .func (.func 63) #[] #[]]) rfl (slices_ContainsFunc_uint32_uint32_wide_Int_Move_1.calls k hy36 h34.src))) <| w_d rfl (d_assign (v := .bool y35) rfl) <| w_done <| w_seq <| w_region rfl <| w_d rfl (d_fld (o' := 1) Tryz.underlying36 rfl sz34 rfl rfl rfl) <| w_d rfl (d_loado (v := v0_a) ty34 rfl (.there .here) rfl rfl rfl rfl) <| w_d rfl (d_move (v := .int .i64 (min (w64 (Int.tdiv (w64 (0 - n)) 32)) (a.f_w.length : Int))) rfl) ?_
   obtain ⟨c39, he⟩ := rq he
   refine w_a rfl (o_cut (kd := (Kd.int .u32)) Tryz.underlying34 sz90 rfl h0_a (.inr ⟨_, _, rfl, rfl⟩) (.inl ⟨rfl, rfl⟩) c39) ?_
   rintro v40 _ _ ⟨h41, rfl, rfl⟩
   refine w_d rfl (d_assign (v := v40) rfl) <| w_done <| w_seq <| w_seq <| w_region rfl <| w_d rfl (d_move (v := .int .i64 (min (w64 (Int.tdiv (w64 (0 - n)) 32)) (a.f_w.length : Int))) rfl) <| w_d rfl (d_fld (o' := 1) Tryz.underlying36 rfl sz34 rfl rfl rfl) <| w_d rfl (d_loado (v := v0_a) ty34 rfl (.there .here) rfl rfl rfl rfl) <| w_d rfl (d_len Tryz.underlying34 rfl h0_a.src) <| w_d rfl (d_lss rfl rfl) <| w_d rfl (d_move (v := .bool (decide ((min (w64 (Int.tdiv (w64 (0 - n)) 32)) (a.f_w.length : Int)) < (a.f_w.length : Int)))) rfl) <| w_g (g := decide ((min (w64 (Int.tdiv (w64 (0 - n)) 32)) (a.f_w.length : Int)) < (a.f_w.length : Int))) rfl rfl rfl wn_t (fun g42 => d_move (v := .int .i64 (min (w64 (Int.tdiv (w64 (0 - n)) 32)) (a.f_w.length : Int))) rfl) ?_
   refine w_g (g := decide ((min (w64 (Int.tdiv (w64 (0 - n)) 32)) (a.f_w.length : Int)) < (a.f_w.length : Int))) rfl rfl rfl wn_t (fun g43 => d_move (v := .int .i64 n) rfl) <| w_g (g := decide ((min (w64 (Int.tdiv (w64 (0 - n)) 32)) (a.f_w.length : Int)) < (a.f_w.length : Int))) rfl rfl rfl wn_t (fun g44 => d_neg (c := w64 (0 - n)) (cvt g44) rfl) <| w_g (g := decide ((min (w64 (Int.tdiv (w64 (0 - n)) 32)) (a.f_w.length : Int)) < (a.f_w.length : Int))) rfl rfl rfl wn_t (fun g45 => d_quo (c := w64 (Int.tdiv (w64 (0 - n)) 32)) (cvt g45) rfl (by decide) rfl) <| w_g (g := decide ((min (w64 (Int.tdiv (w64 (0 - n)) 32)) (a.f_w.length : Int)) < (a.f_w.length : Int))) rfl rfl rfl wn_t (fun g46 => d_eql (cvt g46) (cvt g46)) <| w_d rfl (d_and' (b := (decide ((min (w64 (Int.tdiv (w64 (0 - n)) 32)) (a.f_w.length : Int)) < (a.f_w.length : Int)))) (p := (decide ((min (w64 (Int.tdiv (w64 (0 - n)) 32)) (a.f_w.length : Int)) = (w64 (Int.tdiv (w64 (0 - n)) 32))))) rfl rfl rfl) <| w_done ?_
   rcases its he with ⟨c47, he⟩ | ⟨c47, he⟩
   ·
    refine w_then rfl c47 <| w_seq ?_
    obtain ⟨c50, he⟩ := rq he
    obtain ⟨c56, he⟩ := rq he
    refine w_drawn (p := 10) (tl := [10, 11, 12, 13]) [[], [(0, some 65)], [(1, some 66)], [(1, some 66), (2, some 67)], [(1, some 66), (3, some 68)], [(1, some 66)], [(1, some 66), (5, some 70)], [(1, some 66), (6, some 71)], [(1, some 66), (7, some 72)], [(1, some 66), (8, some 73)]] [some 65, some 66, some 67, some 68, some 69, some 70, some 71, some 72, some 73, some 74] (fctF (.is (.bool y35) :: .is (.bool y35) :: .is (cond (!y35) v40 undef) :: .is (cond (!y35) (.pointer (some (pel v40 0 1))) undef) :: .is (cond (!y35) (.int .u32 (rd (cut a.f_w (min (w64 (Int.tdiv (w64 (0 - n)) 32)) (a.f_w.length : Int)) (a.f_w.length : Int)) 0)) undef) :: .is (cond (!y35) (.int .i64 n) undef) :: .is (cond (!y35) (.int .i64 (w64 (0 - n))) undef) :: .is (cond (!y35) (.int .i64 (Int.tmod (w64 (0 - n)) 32)) undef) :: .is (cond (!y35) (.int .u32 ((1 * 2 ^ shn .u32 (Int.tmod (w64 (0 - n)) 32)) % 4294967296)) undef) :: .is (cond (!y35) (.int .u32 ((((1 * 2 ^ shn .u32 (Int.tmod (w64 (0 - n)) 32)) % 4294967296) - 1) % 4294967296)) undef) :: [])) (fun m_ => some (b2, .cells ⟨[.bool false, .slice none 0 0]⟩ 36 (0, 0)) :: some (b1, .cells ⟨[.bool a.f_neg, v0_a]⟩ 36 (0, 0)) :: L) (fun _ => none) mixed (by kernel_rfl) (by kernel_rfl) rfl (fct_mono (by kernel_rfl)) ⟨(fun H' m_ hH hm_ hu_ => depK_nil <| s_d (m_ 0) rfl (d_move (v := .bool y35) rfl) (by exact rfl) rfl), (by rintro H' m_ hH hm_ hu_ _ rfl; exact depK_nil <| s_d (m_ 1) rfl (d_move (v := .bool y35) rfl) (by exact rfl) rfl), (by rintro H' m_ hH hm_ hu_ _ rfl; exact depK_nil <| s_g (g := !y35) (m_ 2) rfl rfl rfl wn_f (fun g48 => d_move (v := v40) rfl) rfl (by exact fun g_ => cvt g_) (by exact fun g_ => cnt g_)), (by rintro H' m_ hH hm_ hu_ _ rfl _ rfl; exact depK_nil <| s_g (g := !y35) (m_ 3) rfl rfl rfl wn_f (fun g49 => d_index (sz := 1) Tryz.underlying34 sz90 (cvt g49) (h41.mono hH).src rfl (c50 g49)) rfl (by exact fun g_ => cvt g_) (by exact fun g_ => cnt g_)), (by rintro H' m_ hH hm_ hu_ _ rfl _ rfl; exact depK_nil <| s_g (g := !y35) (m_ 4) rfl rfl rfl wn_f (fun g51 => d_ldint ty90 (cvt g51) (h41.mono hH).src (c50 g51)) rfl (by exact fun g_ => cvt g_) (by exact fun g_ => cnt g_)), (by rintro H' m_ hH hm_ hu_ _ rfl; exact depK_nil <| s_g (g := !y35) (m_ 5) rfl rfl rfl wn_f (fun g52 => d_move (v := .int .i64 n) rfl) rfl (by exact fun g_ => cvt g_) (by exact fun g_ => cnt g_)), (by rintro H' m_ hH hm_ hu_ _ rfl _ rfl; exact depK_nil <| s_g (g := !y35) (m_ 6) rfl rfl rfl wn_f (fun g53 => d_neg (c := w64 (0 - n)) (cvt g53) rfl) rfl (by exact fun g_ => cvt g_) (by exact fun g_ => cnt g_)), (by rintro H' m_ hH hm_ hu_ _ rfl _ rfl; exact depK_nil <| s_g (g := !y35) (m_ 7) rfl rfl rfl wn_f (fun g54 => d_rem (cvt g54) rfl (by decide)) rfl (by exact fun g_ => cvt g_) (by exact fun g_ => cnt g_)), (by rintro H' m_ hH hm_ hu_ _ rfl _ rfl; exact depK_nil <| s_g (g := !y35) (m_ 8) rfl rfl rfl wn_f (fun g55 => d_shl (c := (1 * 2 ^ shn .u32 (Int.tmod (w64 (0 - n)) 32)) % 4294967296) rfl (cvt g55) (c56 g55) rfl) rfl (by exact fun g_ => cvt g_) (by exact fun g_ => cnt g_)), (by rintro H' m_ hH hm_ hu_ _ rfl _ rfl; exact depK_nil <| s_g (g := !y35) (m_ 9) rfl rfl rfl wn_f (fun g57 => d_sub (c := (((1 * 2 ^ shn .u32 (Int.tmod (w64 (0 - n)) 32)) % 4294967296) - 1) % 4294967296) (cvt g57) rfl rfl) rfl (by exact fun g_ => cvt g_) (by exact fun g_ => cnt g_)), trivial⟩ ?_
    intro H58 e59
    rintro _ _ rfl _ _ rfl _ _ rfl _ _ rfl _ _ rfl _ _ rfl _ _ rfl _ _ rfl _ _ rfl _ _ rfl
    refine w_g (g := !y35) rfl rfl rfl wn_f (fun g60 => d_band (cvt g60) (cvt g60)) <| w_g (g := !y35) rfl rfl rfl wn_f (fun g61 => d_neq (cvt g61) rfl) <| w_d rfl (d_or' (b := y35) (p := (!decide ((iand .u32 (rd (cut a.f_w (min (w64 (Int.tdiv (w64 (0 - n)) 32)) (a.f_w.length : Int)) (a.f_w.length : Int)) 0) ((((1 * 2 ^ shn .u32 (Int.tmod (w64 (0 - n)) 32)) % 4294967296) - 1) % 4294967296)) = 0))) rfl rfl rfl) <| w_d rfl (d_assign (v := .bool (y35 || (!decide ((iand .u32 (rd (cut a.f_w (min (w64 (Int.tdiv (w64 (0 - n)) 32)) (a.f_w.length : Int)) (a.f_w.length : Int)) 0) ((((1 * 2 ^ shn .u32 (Int.tmod (w64 (0 - n)) 32)) % 4294967296) - 1) % 4294967296)) = 0)))) rfl) <| w_done <| w_region rfl <| w_d rfl (d_move (v := v40) rfl) <| w_d rfl (d_move (v := .int .i64 n) rfl) <| w_d rfl (d_neg (c := w64 (0 - n)) rfl rfl) <| w_d rfl (d_rem rfl rfl (by decide)) ?_
    obtain ⟨y62, hy63, he⟩ := Option.bind_eq_some_iff.1 he
    refine w_a rfl (o_call co64 (vs := [v40, .int .i64 (Int.tmod (w64 (0 - n)) 32)]) rfl (wide_down.calls k hy63 (h41.mono e59))) ?_
    rintro v66 H64 _ ⟨rfl, e65, h67⟩
    refine w_d rfl (d_assign (v := v66) rfl) <| w_done <| w_sl 2 (.pointer (some ⟨b1, 0, none⟩)) rfl <| w_sl 4 (.pointer (some ⟨b2, 0, none⟩)) rfl <| w_sl 5 (errV 71 none) rfl <| w_sl 8 (.bool (y35 || (!decide ((iand .u32 (rd (cut a.f_w (min (w64 (Int.tdiv (w64 (0 - n)) 32)) (a.f_w.length : Int)) (a.f_w.length : Int)) 0) ((((1 * 2 ^ shn .u32 (Int.tmod (w64 (0 - n)) 32)) % 4294967296) - 1) % 4294967296)) = 0)))) rfl <| w_sl 9 (v66) rfl <| wide_Int_Move.j1_ok (k := k) (hle.trans (e59.trans e65)) he (h0_a.mono (e59.trans e65)) h67
   ·
    refine w_else rfl (Bool.eq_false_iff.2 c47) <| w_region rfl <| w_d rfl (d_assign (v := .slice none 0 0) rfl) <| w_done <| w_sl 2 (.pointer (some ⟨b1, 0, none⟩)) rfl <| w_sl 4 (.pointer (some ⟨b2, 0, none⟩)) rfl <| w_sl 5 (errV 71 none) rfl <| w_sl 8 (.bool y35) rfl <| w_sl 9 (.slice none 0 0) rfl <| wide_Int_Move.j1_ok (k := k) hle he h0_a (ro_nil _ _)
/-! ### (radome/wide.Int).Small -/
noncomputable def wide_Int_Small.C : Code := (Tryz.f35.body).getD .skip
def wide_Int_Small.out (r : Int × Bool) (H : Hp) (v : Value) : Prop := v = .tuple ⟨[.int .i64 r.1, .bool r.2]⟩
abbrev wide_Int_Small.R (H0 : Hp) (L : Items) (r : Int × Bool) : Value → Hp → Items → Prop := fun v H' L' => (∃ p, L' = p ++ L) ∧ H0.le H' ∧ wide_Int_Small.out r H' v
structure wide_Int_Small.Hs where
 l0 : Bool → (List Int) → Int → (List Int) → Int → Int → Option (Int × Bool)
noncomputable def wide_Int_Small.b0 (k : Nat) (h : wide_Int_Small.Hs)  (a_0 : Bool) (a_1 : List Int) (v_ : Int) (t12 : List Int) (t13 : Int) (t14 : Int) : Option (Int × Bool) := if t14 < t13 then (if (0 : Int) ≤ t14 ∧ t14 < (t12.length : Int) then (if 0 ≤ (w64 (32 * t14)) then (h.l0 a_0 a_1 (ior .u64 v_ ((((rd t12 t14) % 18446744073709551616) * 2 ^ shn .u64 (w64 (32 * t14))) % 18446744073709551616)) t12 t13 (w64 (t14 + 1))) else none) else none) else (if ((!a_0) && (decide (v_ < 9223372036854775808))) = true then (some (w64 (v_), true)) else (if (a_0 && (decide (v_ ≤ 9223372036854775808))) = true then (some (w64 ((0 - v_) % 18446744073709551616), true)) else (some (0, false))))
noncomputable def wide_Int_Small.hs : Nat → wide_Int_Small.Hs
 | 0 => ⟨fun _ _ _ _ _ _ => none⟩
 | k + 1 => ⟨fun x0 x1 x2 x3 x4 x5 => wide_Int_Small.b0 k (wide_Int_Small.hs k) x0 x1 x2 x3 x4 x5⟩
noncomputable def wide_Int_Small.f (k : Nat) (a : wide_Int) : Option (Int × Bool) := (fun h : wide_Int_Small.Hs => if 2 < (a.f_w.length : Int) then (some (0, false)) else (h.l0 a.f_neg a.f_w 0 a.f_w (a.f_w.length : Int) 0)) (wide_Int_Small.hs k)
structure wide_Int_Small.LE (h h' : wide_Int_Small.Hs) : Prop where
 l0 : ∀ y0 y1 y2 y3 y4 y5, LeO (h.l0 y0 y1 y2 y3 y4 y5) (h'.l0 y0 y1 y2 y3 y4 y5)
theorem wide_Int_Small.b0_mono {k : Nat} {h h' : wide_Int_Small.Hs} (hl : wide_Int_Small.LE h h') : ∀ y0 y1 y2 y3 y4 y5, LeO (wide_Int_Small.b0 k h y0 y1 y2 y3 y4 y5) (wide_Int_Small.b0 (k + 1) h' y0 y1 y2 y3 y4 y5) := fun _ _ _ _ _ _ => (LeO.ite (LeO.ite (LeO.ite (hl.l0 _ _ _ _ _ _) (LeO.refl _)) (LeO.refl _)) (LeO.ite (LeO.refl _) (LeO.ite (LeO.refl _) (LeO.refl _))))
theorem wide_Int_Small.hs_mono : ∀ k, wide_Int_Small.LE (wide_Int_Small.hs k) (wide_Int_Small.hs (k + 1))
 | 0 => ⟨fun _ _ _ _ _ _ => LeO.none _⟩
 | k + 1 => ⟨wide_Int_Small.b0_mono (k := k) (wide_Int_Small.hs_mono k)⟩
theorem wide_Int_Small.mono : ∀ k y0, LeO (wide_Int_Small.f k y0) (wide_Int_Small.f (k + 1) y0) := fun k _ => have hl := wide_Int_Small.hs_mono k; by unfold wide_Int_Small.f; exact (LeO.ite (LeO.refl _) (hl.l0 _ _ _ _ _ _))
noncomputable def wide_Int_Small.Kl0 : List Item := .code (lopB (blkB (seqR (seqL (seqR (seqR (seqR wide_Int_Small.C))))))) :: .inLoop (lopB (blkB (seqR (seqL (seqR (seqR (seqR wide_Int_Small.C))))))) :: .inBlock 0 :: .code (seqR (seqR (seqR (seqR wide_Int_Small.C)))) :: []
structure wide_Int_Small.OK (h : wide_Int_Small.Hs) : Prop where
 l0 : ∀ {H0 H : Hp} {L : Items} {r : Int × Bool} {jk_ : Nat → Value} {a_0 : Bool} {a_1 : List Int} {v_ : Int} {t12 : List Int} {t13 : Int} {t14 : Int} {v_a_1 : Value} {v_t12 : Value} {b_a : Nat} (_ : H0.le H) (_he : h.l0 a_0 a_1 v_ t12 t13 t14 = some r) (_h_a_1 : Ro (Kd.int .u32) H v_a_1 a_1) (_h_t12 : Ro (Kd.int .u32) H v_t12 t12), Wp Tryz.prog 35 47 wide_Int_Small.Kl0 (upd (upd (upd (upd (upd (upd (upd jk_ 1 (.pointer (some ⟨b_a, 0, none⟩))) 2 (.int .i64 0)) 3 (.bool false)) 4 (.int .u64 v_)) 12 (v_t12)) 13 (.int .i64 t13)) 14 (.int .i64 t14)) H (some (b_a, .cells ⟨[.bool a_0, v_a_1]⟩ 36 (0, 0)) :: L) (wide_Int_Small.R H0 L r)
theorem wide_Int_Small.b0_ok {k : Nat} {h : wide_Int_Small.Hs} (hh : wide_Int_Small.OK h) {H0 H : Hp} {L : Items} {r : Int × Bool} {jk_ : Nat → Value} {a_0 : Bool} {a_1 : List Int} {v_ : Int} {t12 : List Int} {t13 : Int} {t14 : Int} {v_a_1 : Value} {v_t12 : Value} {b_a : Nat} (hle : H0.le H) (he : wide_Int_Small.b0 k h a_0 a_1 v_ t12 t13 t14 = some r) (h_a_1 : Ro (Kd.int .u32) H v_a_1 a_1) (h_t12 : Ro (Kd.int .u32) H v_t12 t12) : Wp Tryz.prog 35 47 wide_Int_Small.Kl0 (upd (upd (upd (upd (upd (upd (upd jk_ 1 (.pointer (some ⟨b_a, 0, none⟩))) 2 (.int .i64 0)) 3 (.bool false)) 4 (.int .u64 v_)) 12 (v_t12)) 13 (.int .i64 t13)) 14 (.int .i64 t14)) H (some (b_a, .cells ⟨[.bool a_0, v_a_1]⟩ 36 (0, 0)) :: L) (wide_Int_Small.R H0 L r) := by
 unfold wide_Int_Small.b0 at he
 unfold wide_Int_Small.Kl0
 refine w_seq <| w_region rfl <| w_d rfl (d_lss rfl rfl) <| w_done <| w_seq ?_
 rcases its he with ⟨c3, he⟩ | ⟨c3, he⟩
 ·
  refine w_then rfl (decide_eq_true c3) <| w_skip <| w_seq <| w_block <| w_seq <| w_region rfl <| w_d rfl (d_move (v := .int .i64 t14) rfl) ?_
  obtain ⟨c4, he⟩ := rq he
  refine w_d rfl (d_index (sz := 1) Tryz.underlying34 sz90 rfl h_t12.src rfl c4) <| w_d rfl (d_ldint ty90 rfl h_t12.src c4) <| w_d rfl (d_assign (v := .int .i64 t14) rfl) <| w_d rfl (d_assign (v := .int .u32 (rd t12 t14)) rfl) <| w_done <| w_region rfl <| w_d rfl (d_move (v := .int .u64 v_) rfl) <| w_d rfl (d_move (v := .int .u32 (rd t12 t14)) rfl) <| w_d rfl (d_conv (c := (rd t12 t14) % 18446744073709551616) Tryz.underlying90 Tryz.underlying88 rfl rfl) <| w_d rfl (d_move (v := .int .i64 t14) rfl) <| w_d rfl (d_mul (c := w64 (32 * t14)) rfl rfl rfl) ?_
  obtain ⟨c5, he⟩ := rq he
  refine w_d rfl (d_shl (c := (((rd t12 t14) % 18446744073709551616) * 2 ^ shn .u64 (w64 (32 * t14))) % 18446744073709551616) rfl rfl c5 rfl) <| w_d rfl (d_bor rfl rfl) <| w_d rfl (d_assign (v := .int .u64 (ior .u64 v_ ((((rd t12 t14) % 18446744073709551616) * 2 ^ shn .u64 (w64 (32 * t14))) % 18446744073709551616))) rfl) <| w_done <| w_inBlock <| w_region rfl <| w_d rfl (d_add (c := w64 (t14 + 1)) rfl rfl rfl) <| w_d rfl (d_move (v := .int .i64 (w64 (t14 + 1))) rfl) <| w_done <| w_inLoop <| w_sl 1 (.pointer (some ⟨b_a, 0, none⟩)) rfl <| w_sl 2 (.int .i64 0) rfl ?_
  refine w_sl 3 (.bool false) rfl <| w_sl 4 (.int .u64 (ior .u64 v_ ((((rd t12 t14) % 18446744073709551616) * 2 ^ shn .u64 (w64 (32 * t14))) % 18446744073709551616))) rfl <| w_sl 12 (v_t12) rfl <| w_sl 13 (.int .i64 t13) rfl <| w_sl 14 (.int .i64 (w64 (t14 + 1))) rfl <| hh.l0 hle he h_a_1 h_t12
 ·
  refine w_else rfl (decide_eq_false c3) <| w_exit rfl <| w_seq <| w_block <| w_seq <| w_region rfl <| w_d rfl (d_fld (o' := 0) Tryz.underlying36 rfl sz4 rfl rfl rfl) <| w_d rfl (d_loado (v := .bool a_0) ty4 rfl .here rfl rfl rfl rfl) <| w_d rfl (d_not (b := a_0) rfl) <| w_d rfl (d_move (v := .bool (!a_0)) rfl) <| w_g (g := !a_0) rfl rfl rfl wn_t (fun g6 => d_move (v := .int .u64 v_) rfl) <| w_g (g := !a_0) rfl rfl rfl wn_t (fun g7 => d_lss (cvt g7) rfl) ?_
  refine w_d rfl (d_and' (b := (!a_0)) (p := (decide (v_ < 9223372036854775808))) rfl rfl rfl) <| w_d rfl (d_assign (v := .bool ((!a_0) && (decide (v_ < 9223372036854775808)))) rfl) <| w_done ?_
  rcases its he with ⟨c8, he⟩ | ⟨c8, he⟩
  ·
   refine w_then rfl c8 <| w_seq <| w_region rfl <| w_d rfl (d_move (v := .int .u64 v_) rfl) <| w_d rfl (d_conv (c := w64 (v_)) Tryz.underlying88 Tryz.underlying2 rfl rfl) <| w_d rfl (d_assign (v := .int .i64 (w64 (v_))) rfl) <| w_d rfl (d_assign (v := .bool true) rfl) <| w_done ?_
   obtain rfl := Option.some.inj he
   refine w_return fn_35 rs_35 (.tmp (v := .int .i64 (w64 (v_))) rfl (.tmp (v := .bool true) rfl .nil)) <| ⟨⟨[_], rfl⟩, hle, rfl⟩
  ·
   refine w_else rfl (Bool.eq_false_iff.2 c8) <| w_seq <| w_region rfl <| w_d rfl (d_fld (o' := 0) Tryz.underlying36 rfl sz4 rfl rfl rfl) <| w_d rfl (d_loado (v := .bool a_0) ty4 rfl .here rfl rfl rfl rfl) <| w_d rfl (d_move (v := .bool a_0) rfl) <| w_g (g := a_0) rfl rfl rfl wn_t (fun g9 => d_move (v := .int .u64 v_) rfl) <| w_g (g := a_0) rfl rfl rfl wn_t (fun g10 => d_leq (cvt g10) rfl) <| w_d rfl (d_and' (b := a_0) (p := (decide (v_ ≤ 9223372036854775808))) rfl rfl rfl) <| w_d rfl (d_assign (v := .bool (a_0 && (decide (v_ ≤ 9223372036854775808)))) rfl) <| w_done ?_
   rcases its he with ⟨c11, he⟩ | ⟨c11, he⟩
   ·
    refine w_then rfl c11 <| w_seq <| w_region rfl <| w_d rfl (d_move (v := .int .u64 v_) rfl) <| w_d rfl (d_neg (c := (0 - v_) % 18446744073709551616) rfl rfl) <| w_d rfl (d_conv (c := w64 ((0 - v_) % 18446744073709551616)) Tryz.underlying88 Tryz.underlying2 rfl rfl) <| w_d rfl (d_assign (v := .int .i64 (w64 ((0 - v_) % 18446744073709551616))) rfl) <| w_d rfl (d_assign (v := .bool true) rfl) <| w_done ?_
    obtain rfl := Option.some.inj he
    refine w_return fn_35 rs_35 (.tmp (v := .int .i64 (w64 ((0 - v_) % 18446744073709551616))) rfl (.tmp (v := .bool true) rfl .nil)) <| ⟨⟨[_], rfl⟩, hle, rfl⟩
   ·
    refine w_else rfl (Bool.eq_false_iff.2 c11) <| w_skip <| w_inBlock <| w_seq <| w_region rfl <| w_d rfl (d_assign (v := .int .i64 0) rfl) <| w_d rfl (d_assign (v := .bool false) rfl) <| w_done ?_
    obtain rfl := Option.some.inj he
    refine w_return fn_35 rs_35 (.tmp (v := .int .i64 0) rfl (.tmp (v := .bool false) rfl .nil)) <| ⟨⟨[_], rfl⟩, hle, rfl⟩
theorem wide_Int_Small.ok : ∀ k, wide_Int_Small.OK (wide_Int_Small.hs k)
 | 0 => ⟨(by intros; exact nomatch (show none = some _ from by assumption))⟩
 | k + 1 => ⟨wide_Int_Small.b0_ok (k := k) (wide_Int_Small.ok k)⟩
theorem wide_Int_Small.calls (k : Nat) {H : Hp} {L : Items} {a : wide_Int} {v0_a : Value} {r : Int × Bool} (he : wide_Int_Small.f k a = some r) (h0_a : Ro (Kd.int .u32) H v0_a a.f_w) : Ct Tryz.prog 35 ⟨[.agg ⟨[.bool a.f_neg, v0_a]⟩]⟩ H L (fun v H' L' => L = L' ∧ H = H' ∧ v = .tuple ⟨[.int .i64 r.1, .bool r.2]⟩) := by
 refine ct_outs (O := wide_Int_Small.out r) (fun _ _ h => h) ?_
 have hle : H.le H := .refl _
 have hh := wide_Int_Small.ok k
 unfold wide_Int_Small.f at he
 refine ct_enter (args := [.agg ⟨[.bool a.f_neg, v0_a]⟩]) fn_35 rfl nt_35 rfl <| w_seq <| w_region rfl <| w_a rfl (o_box (v := .agg ⟨[.bool a.f_neg, v0_a]⟩) rfl rfl) ?_
 rintro _ _ _ ⟨b1, rfl, rfl, rfl⟩
 refine w_d rfl (d_assign (v := .int .i64 0) rfl) <| w_d rfl (d_assign (v := .bool false) rfl) <| w_done <| w_seq <| w_seq <| w_region rfl <| w_d rfl (d_fld (o' := 1) Tryz.underlying36 rfl sz34 rfl rfl rfl) <| w_d rfl (d_loado (v := v0_a) ty34 rfl .here rfl rfl rfl rfl) <| w_d rfl (d_len Tryz.underlying34 rfl h0_a.src) <| w_d rfl (d_gtr rfl rfl) <| w_done ?_
 rcases its he with ⟨c2, he⟩ | ⟨c2, he⟩
 ·
  refine w_then rfl (decide_eq_true c2) <| w_seq <| w_region rfl <| w_d rfl (d_assign (v := .int .i64 0) rfl) <| w_d rfl (d_assign (v := .bool false) rfl) <| w_done ?_
  obtain rfl := Option.some.inj he
  refine w_return fn_35 rs_35 (.tmp (v := .int .i64 0) rfl (.tmp (v := .bool false) rfl .nil)) <| ⟨⟨[_], rfl⟩, hle, rfl⟩
 ·
  refine w_else rfl (decide_eq_false c2) <| w_skip <| w_seq <| w_region rfl <| w_d rfl (d_assign (v := .int .u64 0) rfl) <| w_done <| w_seq <| w_seq <| w_region rfl <| w_d rfl (d_fld (o' := 1) Tryz.underlying36 rfl sz34 rfl rfl rfl) <| w_d rfl (d_loado (v := v0_a) ty34 rfl .here rfl rfl rfl rfl) <| w_d rfl (d_len Tryz.underlying34 rfl h0_a.src) ?_
  refine w_d rfl (d_move (v := .int .i64 0) rfl) <| w_done <| w_block <| w_loop <| w_sl 1 (.pointer (some ⟨b1, 0, none⟩)) rfl <| w_sl 2 (.int .i64 0) rfl <| w_sl 3 (.bool false) rfl <| w_sl 4 (.int .u64 0) rfl <| w_sl 12 (v0_a) rfl <| w_sl 13 (.int .i64 (a.f_w.length : Int)) rfl <| w_sl 14 (.int .i64 0) rfl <| hh.l0 hle he h0_a h0_a
end Go.Proofs.YtmnhbbckndlnkaaGreatDoor.GRS

/- A text of this session, written by a program (wip/k/gen.py): Go functions as Lean functions, and proofs that the code comes to them. -/
import Derived.Test.YtmnhbbckndlnkaaGreatDoorGRNx3
namespace Go.Proofs.YtmnhbbckndlnkaaGreatDoor.GRN
open Go Go.RowKit Go.Proofs.YtmnhbbckndlnkaaGreatDoorK Go.Proofs.YtmnhbbckndlnkaaGreatDoor
set_option maxRecDepth 100000
set_option maxHeartbeats 2000000
set_option linter.unusedVariables false
set_option linter.unusedSimpArgs false
/-! ### slices.IndexFunc[[]uint32,uint32] -/
noncomputable def slices_IndexFunc_uint32_uint32_wide_Int_Move_1.C : Code := (Tryz.f87.body).getD .skip
def slices_IndexFunc_uint32_uint32_wide_Int_Move_1.out (r : Int) (H : Hp) (v : Value) : Prop := v = .int .i64 r
abbrev slices_IndexFunc_uint32_uint32_wide_Int_Move_1.R (H0 : Hp) (L : Items) (r : Int) : Value → Hp → Items → Prop := fun v H' L' => (∃ p, L' = p ++ L) ∧ H0.le H' ∧ slices_IndexFunc_uint32_uint32_wide_Int_Move_1.out r H' v
structure slices_IndexFunc_uint32_uint32_wide_Int_Move_1.Hs where
 l0 : (List Int) → Int → Int → Int → Option Int
noncomputable def slices_IndexFunc_uint32_uint32_wide_Int_Move_1.b0 (k : Nat) (h : slices_IndexFunc_uint32_uint32_wide_Int_Move_1.Hs)  (s : List Int) (t4 : Int) (t7 : Int) (t8 : Int) : Option Int := if t8 < t7 then (if (0 : Int) ≤ t8 ∧ t8 < (s.length : Int) then ((wide_Int_Move_1.f k (rd s t8)).bind fun y3 => if y3 = true then (some (t8)) else (h.l0 s t4 t7 (w64 (t8 + 1)))) else none) else (some ((-1)))
noncomputable def slices_IndexFunc_uint32_uint32_wide_Int_Move_1.hs : Nat → slices_IndexFunc_uint32_uint32_wide_Int_Move_1.Hs
 | 0 => ⟨fun _ _ _ _ => none⟩
 | k + 1 => ⟨fun x0 x1 x2 x3 => slices_IndexFunc_uint32_uint32_wide_Int_Move_1.b0 k (slices_IndexFunc_uint32_uint32_wide_Int_Move_1.hs k) x0 x1 x2 x3⟩
noncomputable def slices_IndexFunc_uint32_uint32_wide_Int_Move_1.f (k : Nat) (s : List Int) : Option Int := (fun h : slices_IndexFunc_uint32_uint32_wide_Int_Move_1.Hs => h.l0 s 0 (s.length : Int) 0) (slices_IndexFunc_uint32_uint32_wide_Int_Move_1.hs k)
structure slices_IndexFunc_uint32_uint32_wide_Int_Move_1.LE (h h' : slices_IndexFunc_uint32_uint32_wide_Int_Move_1.Hs) : Prop where
 l0 : ∀ y0 y1 y2 y3, LeO (h.l0 y0 y1 y2 y3) (h'.l0 y0 y1 y2 y3)
theorem slices_IndexFunc_uint32_uint32_wide_Int_Move_1.b0_mono {k : Nat} {h h' : slices_IndexFunc_uint32_uint32_wide_Int_Move_1.Hs} (hl : slices_IndexFunc_uint32_uint32_wide_Int_Move_1.LE h h') : ∀ y0 y1 y2 y3, LeO (slices_IndexFunc_uint32_uint32_wide_Int_Move_1.b0 k h y0 y1 y2 y3) (slices_IndexFunc_uint32_uint32_wide_Int_Move_1.b0 (k + 1) h' y0 y1 y2 y3) := fun _ _ _ _ => (LeO.ite (LeO.ite (LeO.bind (wide_Int_Move_1.mono k _) fun _ => LeO.ite (LeO.refl _) (hl.l0 _ _ _ _)) (LeO.refl _)) (LeO.refl _))
theorem slices_IndexFunc_uint32_uint32_wide_Int_Move_1.hs_mono : ∀ k, slices_IndexFunc_uint32_uint32_wide_Int_Move_1.LE (slices_IndexFunc_uint32_uint32_wide_Int_Move_1.hs k) (slices_IndexFunc_uint32_uint32_wide_Int_Move_1.hs (k + 1))
 | 0 => ⟨fun _ _ _ _ => LeO.none _⟩
 | k + 1 => ⟨slices_IndexFunc_uint32_uint32_wide_Int_Move_1.b0_mono (k := k) (slices_IndexFunc_uint32_uint32_wide_Int_Move_1.hs_mono k)⟩
theorem slices_IndexFunc_uint32_uint32_wide_Int_Move_1.mono : ∀ k y0, LeO (slices_IndexFunc_uint32_uint32_wide_Int_Move_1.f k y0) (slices_IndexFunc_uint32_uint32_wide_Int_Move_1.f (k + 1) y0) := fun k _ => have hl := slices_IndexFunc_uint32_uint32_wide_Int_Move_1.hs_mono k; by unfold slices_IndexFunc_uint32_uint32_wide_Int_Move_1.f; exact (hl.l0 _ _ _ _)
noncomputable def slices_IndexFunc_uint32_uint32_wide_Int_Move_1.Kl0 : List Item := .code (lopB (blkB (seqR (seqL (seqR slices_IndexFunc_uint32_uint32_wide_Int_Move_1.C))))) :: .inLoop (lopB (blkB (seqR (seqL (seqR slices_IndexFunc_uint32_uint32_wide_Int_Move_1.C))))) :: .inBlock 0 :: .code (seqR (seqR slices_IndexFunc_uint32_uint32_wide_Int_Move_1.C)) :: []
structure slices_IndexFunc_uint32_uint32_wide_Int_Move_1.OK (h : slices_IndexFunc_uint32_uint32_wide_Int_Move_1.Hs) : Prop where
 l0 : ∀ {H0 H : Hp} {L : Items} {r : Int} {jk_ : Nat → Value} {s : List Int} {t4 : Int} {t7 : Int} {t8 : Int} {v_s : Value} (_ : H0.le H) (_he : h.l0 s t4 t7 t8 = some r) (_h_s : Src (Kd.int .u32) H L v_s s), Wp Tryz.prog 87 19 slices_IndexFunc_uint32_uint32_wide_Int_Move_1.Kl0 (upd (upd (upd (upd (upd jk_ 0 (v_s)) 1 (.func (.func 63) #[] #[])) 4 (.int .i64 t4)) 7 (.int .i64 t7)) 8 (.int .i64 t8)) H (L) (slices_IndexFunc_uint32_uint32_wide_Int_Move_1.R H0 L r)
theorem slices_IndexFunc_uint32_uint32_wide_Int_Move_1.b0_ok {k : Nat} {h : slices_IndexFunc_uint32_uint32_wide_Int_Move_1.Hs} (hh : slices_IndexFunc_uint32_uint32_wide_Int_Move_1.OK h) {H0 H : Hp} {L : Items} {r : Int} {jk_ : Nat → Value} {s : List Int} {t4 : Int} {t7 : Int} {t8 : Int} {v_s : Value} (hle : H0.le H) (he : slices_IndexFunc_uint32_uint32_wide_Int_Move_1.b0 k h s t4 t7 t8 = some r) (h_s : Src (Kd.int .u32) H L v_s s) : Wp Tryz.prog 87 19 slices_IndexFunc_uint32_uint32_wide_Int_Move_1.Kl0 (upd (upd (upd (upd (upd jk_ 0 (v_s)) 1 (.func (.func 63) #[] #[])) 4 (.int .i64 t4)) 7 (.int .i64 t7)) 8 (.int .i64 t8)) H (L) (slices_IndexFunc_uint32_uint32_wide_Int_Move_1.R H0 L r) := by
 unfold slices_IndexFunc_uint32_uint32_wide_Int_Move_1.b0 at he
 unfold slices_IndexFunc_uint32_uint32_wide_Int_Move_1.Kl0
 refine w_seq <| w_region rfl <| w_d rfl (d_lss rfl rfl) <| w_done <| w_seq ?_
 rcases its he with ⟨c1, he⟩ | ⟨c1, he⟩
 ·
  refine w_then rfl (decide_eq_true c1) <| w_skip <| w_seq <| w_block <| w_seq <| w_region rfl <| w_d rfl (d_move (v := .int .i64 t8) rfl) <| w_d rfl (d_assign (v := .int .i64 t8) rfl) <| w_done <| w_seq <| w_region rfl <| w_d rfl (d_move (v := .func (.func 63) #[] #[]) rfl) ?_
  refine w_d rfl (d_move (v := v_s) rfl) <| w_d rfl (d_move (v := .int .i64 t8) rfl) ?_
  obtain ⟨c2, he⟩ := rq he
  refine w_d rfl (d_index (sz := 1) Tryz.underlying34 sz90 rfl h_s rfl c2) <| w_d rfl (d_ldint ty90 rfl h_s c2) ?_
  obtain ⟨y3, hy4, he⟩ := Option.bind_eq_some_iff.1 he
  refine w_d rfl (call_d (o_callv rfl co63 (vs := [.int .u32 (rd s t8)]) rfl (wide_Int_Move_1.calls k hy4))) <| w_done ?_
  rcases its he with ⟨c7, he⟩ | ⟨c7, he⟩
  ·
   refine w_then rfl c7 <| w_seq <| w_region rfl <| w_d rfl (d_move (v := .int .i64 t8) rfl) <| w_d rfl (d_assign (v := .int .i64 t8) rfl) <| w_done ?_
   obtain rfl := Option.some.inj he
   refine w_return fn_87 rs_87 (.tmp (v := .int .i64 t8) rfl .nil) <| ⟨⟨[], rfl⟩, hle, rfl⟩
  ·
   refine w_else rfl (Bool.eq_false_iff.2 c7) <| w_skip <| w_inBlock <| w_region rfl <| w_d rfl (d_add (c := w64 (t8 + 1)) rfl rfl rfl) <| w_d rfl (d_move (v := .int .i64 (w64 (t8 + 1))) rfl) <| w_done <| w_inLoop <| w_sl 0 (v_s) rfl <| w_sl 1 (.func (.func 63) #[] #[]) rfl <| w_sl 4 (.int .i64 t4) rfl <| w_sl 7 (.int .i64 t7) rfl ?_
   refine w_sl 8 (.int .i64 (w64 (t8 + 1))) rfl <| hh.l0 hle he h_s
 ·
  refine w_else rfl (decide_eq_false c1) <| w_exit rfl <| w_seq <| w_region rfl <| w_d rfl (d_assign (v := .int .i64 (-1)) rfl) <| w_done ?_
  obtain rfl := Option.some.inj he
  refine w_return fn_87 rs_87 (.tmp (v := .int .i64 (-1)) rfl .nil) <| ⟨⟨[], rfl⟩, hle, rfl⟩
theorem slices_IndexFunc_uint32_uint32_wide_Int_Move_1.ok : ∀ k, slices_IndexFunc_uint32_uint32_wide_Int_Move_1.OK (slices_IndexFunc_uint32_uint32_wide_Int_Move_1.hs k)
 | 0 => ⟨(by intros; exact nomatch (show none = some _ from by assumption))⟩
 | k + 1 => ⟨slices_IndexFunc_uint32_uint32_wide_Int_Move_1.b0_ok (k := k) (slices_IndexFunc_uint32_uint32_wide_Int_Move_1.ok k)⟩
theorem slices_IndexFunc_uint32_uint32_wide_Int_Move_1.calls (k : Nat) {H : Hp} {L : Items} {s : List Int} {v0_s : Value} {r : Int} (he : slices_IndexFunc_uint32_uint32_wide_Int_Move_1.f k s = some r) (h0_s : Src (Kd.int .u32) H L v0_s s) : Ct Tryz.prog 87 ⟨[v0_s, .func (.func 63) #[] #[]]⟩ H L (fun v H' L' => L = L' ∧ H = H' ∧ v = .int .i64 r) := by
 refine ct_outs (O := slices_IndexFunc_uint32_uint32_wide_Int_Move_1.out r) (fun _ _ h => h) ?_
 have hle : H.le H := .refl _
 have hh := slices_IndexFunc_uint32_uint32_wide_Int_Move_1.ok k
 unfold slices_IndexFunc_uint32_uint32_wide_Int_Move_1.f at he
 refine ct_enter (args := [v0_s, .func (.func 63) #[] #[]]) fn_87 rfl nt_87 rfl <| w_seq <| w_region rfl <| w_d rfl (d_assign (v := .int .i64 0) rfl) <| w_done <| w_seq <| w_seq <| w_region rfl <| w_d rfl (d_move (v := v0_s) rfl) <| w_d rfl (d_len Tryz.underlying34 rfl h0_s) <| w_d rfl (d_move (v := .int .i64 0) rfl) <| w_done ?_
 refine w_block <| w_loop <| w_sl 0 (v0_s) rfl <| w_sl 1 (.func (.func 63) #[] #[]) rfl <| w_sl 4 (.int .i64 0) rfl <| w_sl 7 (.int .i64 (s.length : Int)) rfl <| w_sl 8 (.int .i64 0) rfl <| hh.l0 hle he h0_s
/-! ### slices.ContainsFunc[[]uint32,uint32] -/
noncomputable def slices_ContainsFunc_uint32_uint32_wide_Int_Move_1.C : Code := (Tryz.f62.body).getD .skip
def slices_ContainsFunc_uint32_uint32_wide_Int_Move_1.out (r : Bool) (H : Hp) (v : Value) : Prop := v = .bool r
abbrev slices_ContainsFunc_uint32_uint32_wide_Int_Move_1.R (H0 : Hp) (L : Items) (r : Bool) : Value → Hp → Items → Prop := fun v H' L' => (∃ p, L' = p ++ L) ∧ H0.le H' ∧ slices_ContainsFunc_uint32_uint32_wide_Int_Move_1.out r H' v
noncomputable def slices_ContainsFunc_uint32_uint32_wide_Int_Move_1.f (k : Nat) (s : List Int) : Option Bool := (slices_IndexFunc_uint32_uint32_wide_Int_Move_1.f k s).bind fun y1 => some (decide (0 ≤ y1))
theorem slices_ContainsFunc_uint32_uint32_wide_Int_Move_1.mono : ∀ k y0, LeO (slices_ContainsFunc_uint32_uint32_wide_Int_Move_1.f k y0) (slices_ContainsFunc_uint32_uint32_wide_Int_Move_1.f (k + 1) y0) := fun k _ => by unfold slices_ContainsFunc_uint32_uint32_wide_Int_Move_1.f; exact (LeO.bind (slices_IndexFunc_uint32_uint32_wide_Int_Move_1.mono k _) fun _ => LeO.refl _)
theorem slices_ContainsFunc_uint32_uint32_wide_Int_Move_1.calls (k : Nat) {H : Hp} {L : Items} {s : List Int} {v0_s : Value} {r : Bool} (he : slices_ContainsFunc_uint32_uint32_wide_Int_Move_1.f k s = some r) (h0_s : Src (Kd.int .u32) H L v0_s s) : Ct Tryz.prog 62 ⟨[v0_s, .func (.func 63) #[] #[]]⟩ H L (fun v H' L' => L = L' ∧ H = H' ∧ v = .bool r) := by
 refine ct_outs (O := slices_ContainsFunc_uint32_uint32_wide_Int_Move_1.out r) (fun _ _ h => h) ?_
 have hle : H.le H := .refl _
 unfold slices_ContainsFunc_uint32_uint32_wide_Int_Move_1.f at he
 refine ct_enter (args := [v0_s, .func (.func 63) #[] #[]]) fn_62 rfl nt_62 rfl <| w_seq <| w_region rfl <| w_d rfl (d_assign (v := .bool false) rfl) <| w_done <| w_seq <| w_region rfl <| w_d rfl (d_move (v := v0_s) rfl) <| w_d rfl (d_move (v := .func (.func 63) #[] #[]) rfl) ?_
 obtain ⟨y1, hy2, he⟩ := Option.bind_eq_some_iff.1 he
 refine w_d rfl (call_d (o_call co87 (vs := [v0_s, .func (.func 63) #[] #[]]) rfl (slices_IndexFunc_uint32_uint32_wide_Int_Move_1.calls k hy2 h0_s))) <| w_d rfl (d_geq rfl rfl) <| w_d rfl (d_assign (v := .bool (decide (0 ≤ y1))) rfl) <| w_done ?_
 obtain rfl := Option.some.inj he
 refine w_return fn_62 rs_62 (.tmp (v := .bool (decide (0 ≤ y1))) rfl .nil) <| ⟨⟨[], rfl⟩, hle, rfl⟩
/-! ### (radome/wide.Int).Sub -/
noncomputable def wide_Int_Sub.C : Code := (Tryz.f66.body).getD .skip
def wide_Int_Sub.out (r : wide_Int × (Option Int)) (H : Hp) (v : Value) : Prop := ∃ v0, v = .tuple ⟨[.agg ⟨[.bool r.1.f_neg, v0]⟩, errV 71 r.2]⟩ ∧ Ro (Kd.int .u32) H v0 r.1.f_w
theorem wide_Int_Sub.out_mono (r : wide_Int × (Option Int)) {H H' : Hp} {v : Value} (hle : H.le H') (h : wide_Int_Sub.out r H v) : wide_Int_Sub.out r H' v := by
 obtain ⟨v0, rfl, h0⟩ := h; exact ⟨v0, rfl, h0.mono hle⟩
abbrev wide_Int_Sub.R (H0 : Hp) (L : Items) (r : wide_Int × (Option Int)) : Value → Hp → Items → Prop := fun v H' L' => (∃ p, L' = p ++ L) ∧ H0.le H' ∧ wide_Int_Sub.out r H' v
noncomputable def wide_Int_Sub.f (k : Nat) (a : wide_Int) (b : wide_Int) : Option (wide_Int × (Option Int)) := (wide_Int_Neg.f k (⟨b.f_neg, b.f_w⟩ : wide_Int)).bind fun y4 => (wide_Int_Add.f k (⟨a.f_neg, a.f_w⟩ : wide_Int) (⟨y4.f_neg, y4.f_w⟩ : wide_Int)).bind fun y10 => some ((⟨y10.1.f_neg, y10.1.f_w⟩ : wide_Int), y10.2)
theorem wide_Int_Sub.mono : ∀ k y0 y1, LeO (wide_Int_Sub.f k y0 y1) (wide_Int_Sub.f (k + 1) y0 y1) := fun k _ _ => by unfold wide_Int_Sub.f; exact (LeO.bind (wide_Int_Neg.mono k _) fun _ => LeO.bind (wide_Int_Add.mono k _ _) fun _ => LeO.refl _)
theorem wide_Int_Sub.calls (k : Nat) {H : Hp} {L : Items} {a : wide_Int} {b : wide_Int} {v0_a : Value} {v1_b : Value} {r : wide_Int × (Option Int)} (he : wide_Int_Sub.f k a b = some r) (h0_a : Ro (Kd.int .u32) H v0_a a.f_w) (h1_b : Ro (Kd.int .u32) H v1_b b.f_w) : Ct Tryz.prog 66 ⟨[.agg ⟨[.bool a.f_neg, v0_a]⟩, .agg ⟨[.bool b.f_neg, v1_b]⟩]⟩ H L (fun v H' L' => L = L' ∧ H.le H' ∧ wide_Int_Sub.out r H' v) := by
 refine ct_out (O := wide_Int_Sub.out r) ?_
 have hle : H.le H := .refl _
 unfold wide_Int_Sub.f at he
 refine ct_enter (args := [.agg ⟨[.bool a.f_neg, v0_a]⟩, .agg ⟨[.bool b.f_neg, v1_b]⟩]) fn_66 rfl nt_66 rfl <| w_seq <| w_region rfl <| w_a rfl (o_box (v := .agg ⟨[.bool a.f_neg, v0_a]⟩) rfl rfl) ?_
 rintro _ _ _ ⟨b1, rfl, rfl, rfl⟩
 refine w_a rfl (o_box (v := .agg ⟨[.bool b.f_neg, v1_b]⟩) rfl rfl) ?_
 rintro _ _ _ ⟨b2, rfl, rfl, rfl⟩
 refine w_a rfl (o_alloc zr36 rfl) ?_
 rintro _ _ _ ⟨b3, rfl, rfl, rfl⟩
 refine w_d rfl (d_assign (v := errV 71 none) rfl) <| w_done <| w_seq ?_
 obtain ⟨y4, hy5, he⟩ := Option.bind_eq_some_iff.1 he
 obtain ⟨y10, hy11, he⟩ := Option.bind_eq_some_iff.1 he
 refine w_drawn (p := 6) (tl := [6, 7]) [[], [], [(1, some 7)], [(0, some 6), (2, some 8)], [(3, some 9)], [(3, some 9)]] [some 6, some 7, some 8, some 9, some 10, some 11] (fctF (.is (.agg ⟨[.bool a.f_neg, v0_a]⟩) :: .is (.agg ⟨[.bool b.f_neg, v1_b]⟩) :: .of (wide_Int_Neg.out y4) (wide_Int_Neg.out_mono _) :: .of (wide_Int_Add.out y10) (wide_Int_Add.out_mono _) :: .of (fun H v => ∃ v16, v = .agg ⟨[.bool y10.1.f_neg, v16]⟩ ∧ Ro (Kd.int .u32) H v16 y10.1.f_w) (by rintro _ _ _ hle ⟨v16, rfl, h17⟩; exact ⟨v16, rfl, h17.mono hle⟩) :: .is (errV 71 y10.2) :: [])) (fun m_ => some (b3, .cells ⟨[.bool false, .slice none 0 0]⟩ 36 (0, 0)) :: some (b2, .cells ⟨[.bool b.f_neg, v1_b]⟩ 36 (0, 0)) :: some (b1, .cells ⟨[.bool a.f_neg, v0_a]⟩ 36 (0, 0)) :: L) (fun _ => none) mixed (by kernel_rfl) (by kernel_rfl) rfl (fct_mono (by kernel_rfl)) ⟨(fun H' m_ hH hm_ hu_ => depK_nil <| s_d (m_ 0) rfl (d_loado (v := .agg ⟨[.bool a.f_neg, v0_a]⟩) ty36 rfl (.there (.there .here)) rfl rfl rfl rfl) (by exact rfl) rfl), (fun H' m_ hH hm_ hu_ => depK_nil <| s_d (m_ 1) rfl (d_loado (v := .agg ⟨[.bool b.f_neg, v1_b]⟩) ty36 rfl (.there .here) rfl rfl rfl rfl) (by exact rfl) rfl), (by rintro H' m_ hH hm_ hu_ _ rfl; exact depK_nil <| s_k (m_ 2) rfl (o_call co56 (vs := [.agg ⟨[.bool b.f_neg, v1_b]⟩]) rfl (wide_Int_Neg.calls k (a := ⟨b.f_neg, b.f_w⟩) hy5 (h1_b.mono hH))) rfl (by rintro v_ H_ _ ⟨rfl, e_, h_⟩; exact ⟨rfl, e_, h_⟩)), (by rintro H' m_ hH hm_ hu_ _ rfl _ ⟨v8, rfl, h9⟩; exact depK_nil <| s_k (m_ 3) rfl (o_call co38 (vs := [.agg ⟨[.bool a.f_neg, v0_a]⟩, .agg ⟨[.bool y4.f_neg, v8]⟩]) rfl (wide_Int_Add.calls k (a := ⟨a.f_neg, a.f_w⟩) (b := ⟨y4.f_neg, y4.f_w⟩) hy11 (h0_a.mono hH) h9)) rfl (by rintro v_ H_ _ ⟨rfl, e_, h_⟩; exact ⟨rfl, e_, h_⟩)), (by rintro H' m_ hH hm_ hu_ _ ⟨v14, rfl, h15⟩; exact depK_nil <| s_d (m_ 4) rfl (d_ext (vs := [.agg ⟨[.bool y10.1.f_neg, v14]⟩, errV 71 y10.2]) rfl rfl) (by exact ⟨v14, rfl, h15⟩) rfl), (by rintro H' m_ hH hm_ hu_ _ ⟨v14, rfl, h15⟩; exact depK_nil <| s_d (m_ 5) rfl (d_ext (vs := [.agg ⟨[.bool y10.1.f_neg, v14]⟩, errV 71 y10.2]) rfl rfl) (by exact rfl) rfl), trivial⟩ ?_
 intro H18 e19
 rintro _ _ rfl _ _ rfl _ _ ⟨v8, rfl, h9⟩ _ _ ⟨v14, rfl, h15⟩ _ _ ⟨v16, rfl, h17⟩ _ _ rfl
 refine w_a0 rfl (o_store (v := .agg ⟨[.bool y10.1.f_neg, v16]⟩) sz36 rfl rfl rfl rfl (one_cons rfl (one_cons (h17.one) one_nil)) .here (.here (.here .done))) ?_
 rintro _ _ _ ⟨rfl, rfl, rfl⟩
 refine w_d rfl (d_assign (v := errV 71 y10.2) rfl) <| w_done ?_
 obtain rfl := Option.some.inj he
 refine w_return fn_66 rs_66 (.box (v := .agg ⟨[.bool y10.1.f_neg, v16]⟩) rfl ty36 rfl rfl .here rfl (.tmp (v := errV 71 y10.2) rfl .nil)) <| ⟨⟨[_, _, _], rfl⟩, hle.trans e19, ⟨v16, rfl, h17⟩⟩
/-! ### (radome/wide.Int).Move -/
noncomputable def wide_Int_Move.C : Code := (Tryz.f32.body).getD .skip
def wide_Int_Move.out (r : wide_Int × (Option Int)) (H : Hp) (v : Value) : Prop := ∃ v0, v = .tuple ⟨[.agg ⟨[.bool r.1.f_neg, v0]⟩, errV 71 r.2]⟩ ∧ Ro (Kd.int .u32) H v0 r.1.f_w
theorem wide_Int_Move.out_mono (r : wide_Int × (Option Int)) {H H' : Hp} {v : Value} (hle : H.le H') (h : wide_Int_Move.out r H v) : wide_Int_Move.out r H' v := by
 obtain ⟨v0, rfl, h0⟩ := h; exact ⟨v0, rfl, h0.mono hle⟩
abbrev wide_Int_Move.R (H0 : Hp) (L : Items) (r : wide_Int × (Option Int)) : Value → Hp → Items → Prop := fun v H' L' => (∃ p, L' = p ++ L) ∧ H0.le H' ∧ wide_Int_Move.out r H' v
noncomputable def wide_Int_Move.j1 (k : Nat)  (a_0 : Bool) (a_1 : List Int) (lost : Bool) (rest : List Int) : Option (wide_Int × (Option Int)) := (slices_Clone_uint32_uint32.f k rest).bind fun y68 => (wide_made.f k a_0 y68).bind fun y74 => if ((y74.2.isSome || (!a_0)) || (!lost)) = true then (some ((⟨y74.1.f_neg, y74.1.f_w⟩ : wide_Int), y74.2)) else ((wide_Of.f k 1).bind fun y97 => (wide_Int_Sub.f k (⟨y74.1.f_neg, y74.1.f_w⟩ : wide_Int) (⟨y97.f_neg, y97.f_w⟩ : wide_Int)).bind fun y103 => some ((⟨y103.1.f_neg, y103.1.f_w⟩ : wide_Int), y103.2))
noncomputable def wide_Int_Move.f (k : Nat) (a : wide_Int) (n : Int) : Option (wide_Int × (Option Int)) := if ((decide (n < (-4096))) || (decide (4096 < n))) = true then (some ((⟨false, []⟩ : wide_Int), some 1)) else (if 0 ≤ n then (if 0 ≤ w64 (Int.tdiv n 32) ∧ w64 (Int.tdiv n 32) ≤ 70368744177664 then ((wide_up.f k a.f_w (Int.tmod n 32)).bind fun y11 => if (List.replicate (w64 (Int.tdiv n 32) : Int).toNat (0 : Int)).length + y11.length ≤ 35184372088704 then ((wide_made.f k a.f_neg ((List.replicate (w64 (Int.tdiv n 32) : Int).toNat (0 : Int)) ++ y11)).bind fun y26 => some ((⟨y26.1.f_neg, y26.1.f_w⟩ : wide_Int), y26.2)) else none) else none) else (if (0 : Int) ≤ 0 ∧ (0 : Int) ≤ min (w64 (Int.tdiv (w64 (0 - n)) 32)) (a.f_w.length : Int) ∧ min (w64 (Int.tdiv (w64 (0 - n)) 32)) (a.f_w.length : Int) ≤ (a.f_w.length : Int) then ((slices_ContainsFunc_uint32_uint32_wide_Int_Move_1.f k (cut a.f_w 0 (min (w64 (Int.tdiv (w64 (0 - n)) 32)) (a.f_w.length : Int)))).bind fun y35 => if (0 : Int) ≤ min (w64 (Int.tdiv (w64 (0 - n)) 32)) (a.f_w.length : Int) ∧ (min (w64 (Int.tdiv (w64 (0 - n)) 32)) (a.f_w.length : Int) : Int) ≤ (a.f_w.length : Int) ∧ (a.f_w.length : Int) ≤ (a.f_w.length : Int) then (if ((decide ((min (w64 (Int.tdiv (w64 (0 - n)) 32)) (a.f_w.length : Int)) < (a.f_w.length : Int))) && (decide ((min (w64 (Int.tdiv (w64 (0 - n)) 32)) (a.f_w.length : Int)) = (w64 (Int.tdiv (w64 (0 - n)) 32))))) = true then (if (!y35) = true → (0 : Int) ≤ 0 ∧ 0 < ((cut a.f_w (min (w64 (Int.tdiv (w64 (0 - n)) 32)) (a.f_w.length : Int)) (a.f_w.length : Int)).length : Int) then (if (!y35) = true → 0 ≤ (Int.tmod (w64 (0 - n)) 32) then ((wide_down.f k (cut a.f_w (min (w64 (Int.tdiv (w64 (0 - n)) 32)) (a.f_w.length : Int)) (a.f_w.length : Int)) (Int.tmod (w64 (0 - n)) 32)).bind fun y62 => wide_Int_Move.j1 k a.f_neg a.f_w (y35 || (!decide ((iand .u32 (rd (cut a.f_w (min (w64 (Int.tdiv (w64 (0 - n)) 32)) (a.f_w.length : Int)) (a.f_w.length : Int)) 0) ((((1 * 2 ^ shn .u32 (Int.tmod (w64 (0 - n)) 32)) % 4294967296) - 1) % 4294967296)) = 0))) y62) else none) else none) else (wide_Int_Move.j1 k a.f_neg a.f_w y35 [])) else none) else none))
theorem wide_Int_Move.j1_mono {k : Nat} : ∀ y0 y1 y2 y3, LeO (wide_Int_Move.j1 k y0 y1 y2 y3) (wide_Int_Move.j1 (k + 1) y0 y1 y2 y3) := fun _ _ _ _ => (LeO.bind (slices_Clone_uint32_uint32.mono k _) fun _ => LeO.bind (wide_made.mono k _ _) fun _ => LeO.ite (LeO.refl _) (LeO.bind (wide_Of.mono k _) fun _ => LeO.bind (wide_Int_Sub.mono k _ _) fun _ => LeO.refl _))
theorem wide_Int_Move.mono : ∀ k y0 y1, LeO (wide_Int_Move.f k y0 y1) (wide_Int_Move.f (k + 1) y0 y1) := fun k _ _ => by unfold wide_Int_Move.f; exact (LeO.ite (LeO.refl _) (LeO.ite (LeO.ite (LeO.bind (wide_up.mono k _ _) fun _ => LeO.ite (LeO.bind (wide_made.mono k _ _) fun _ => LeO.refl _) (LeO.refl _)) (LeO.refl _)) (LeO.ite (LeO.bind (slices_ContainsFunc_uint32_uint32_wide_Int_Move_1.mono k _) fun _ => LeO.ite (LeO.ite (LeO.ite (LeO.ite (LeO.bind (wide_down.mono k _ _) fun _ => wide_Int_Move.j1_mono (k := k)  _ _ _ _) (LeO.refl _)) (LeO.refl _)) (wide_Int_Move.j1_mono (k := k)  _ _ _ _)) (LeO.refl _)) (LeO.refl _))))
noncomputable def wide_Int_Move.Kj1 : List Item := .code (seqR (seqR (seqR (seqR (seqR (seqR (seqR wide_Int_Move.C))))))) :: []
theorem wide_Int_Move.j1_ok {k : Nat} {H0 H : Hp} {L : Items} {r : wide_Int × (Option Int)} {jk_ : Nat → Value} {a_0 : Bool} {a_1 : List Int} {lost : Bool} {rest : List Int} {v_a_1 : Value} {v_rest : Value} {b_a : Nat} {b_t4 : Nat} (hle : H0.le H) (he : wide_Int_Move.j1 k a_0 a_1 lost rest = some r) (h_a_1 : Ro (Kd.int .u32) H v_a_1 a_1) (h_rest : Ro (Kd.int .u32) H v_rest rest) : Wp Tryz.prog 32 109 wide_Int_Move.Kj1 (upd (upd (upd (upd (upd jk_ 2 (.pointer (some ⟨b_a, 0, none⟩))) 4 (.pointer (some ⟨b_t4, 0, none⟩))) 5 (errV 71 none)) 8 (.bool lost)) 9 (v_rest)) H (some (b_t4, .cells ⟨[.bool false, .slice none 0 0]⟩ 36 (0, 0)) :: some (b_a, .cells ⟨[.bool a_0, v_a_1]⟩ 36 (0, 0)) :: L) (wide_Int_Move.R H0 L r) := by
 unfold wide_Int_Move.j1 at he
 unfold wide_Int_Move.Kj1
 refine w_seq ?_
 obtain ⟨y68, hy69, he⟩ := Option.bind_eq_some_iff.1 he
 obtain ⟨y74, hy75, he⟩ := Option.bind_eq_some_iff.1 he
 refine w_none (?_)
 refine w_drawn (p := 10) (tl := [10]) [[], [(0, some 84)], [], [(2, some 86)], [(1, some 85), (3, some 87)], [(4, some 88)], [(5, some 83)], [(5, some 83)], [], [(6, some 89), (8, some 10)]] [some 84, some 85, some 86, some 87, some 88, some 83, some 89, some 90, some 10, none] (fctF (.is (.pointer (some ⟨b_a, 0, none⟩)) :: .is (.bool a_0) :: .is (v_rest) :: .ro (Kd.int .u32) (y68) :: .of (wide_made.out y74) (wide_made.out_mono _) :: .of (fun H v => ∃ v80, v = .tuple ⟨[.agg ⟨[.bool y74.1.f_neg, v80]⟩, errV 71 y74.2]⟩ ∧ Ro (Kd.int .u32) H v80 y74.1.f_w) (by rintro _ _ _ hle ⟨v80, rfl, h81⟩; exact ⟨v80, rfl, h81.mono hle⟩) :: .of (fun H v => ∃ v82, v = .agg ⟨[.bool y74.1.f_neg, v82]⟩ ∧ Ro (Kd.int .u32) H v82 y74.1.f_w) (by rintro _ _ _ hle ⟨v82, rfl, h83⟩; exact ⟨v82, rfl, h83.mono hle⟩) :: .is (errV 71 y74.2) :: .box 36 [.bool false, .slice none 0 0] :: .st 8 (fun H bq_ itq_ => ∃ v85, itq_ = some (bq_, .cells ⟨[.bool y74.1.f_neg, v85]⟩ 36 (0, 0)) ∧ Ro (Kd.int .u32) H v85 y74.1.f_w) (by rintro _ _ _ _ hle ⟨v85, rfl, h86⟩; exact ⟨v85, rfl, h86.mono hle⟩) :: [])) (fun m_ => pk (m_ 9) (m_ 8) :: some (b_t4, .cells ⟨[.bool false, .slice none 0 0]⟩ 36 (0, 0)) :: some (b_a, .cells ⟨[.bool a_0, v_a_1]⟩ 36 (0, 0)) :: L) (fun _ => none) mixed (by kernel_rfl) (by kernel_rfl) rfl (fct_mono (by kernel_rfl)) ⟨(fun H' m_ hH hm_ hu_ => depK_nil <| s_d (m_ 0) rfl (d_fld (o' := 0) Tryz.underlying36 rfl sz4 rfl rfl rfl) (by exact rfl) rfl), (by rintro H' m_ hH hm_ hu_ _ rfl; exact depK_nil <| s_d (m_ 1) rfl (d_loado (v := .bool a_0) ty4 rfl (.there (.there .here)) rfl rfl rfl rfl) (by exact rfl) rfl), (fun H' m_ hH hm_ hu_ => depK_nil <| s_d (m_ 2) rfl (d_move (v := v_rest) rfl) (by exact rfl) rfl), (by rintro H' m_ hH hm_ hu_ _ rfl; exact depK_nil <| s_k (m_ 3) rfl (o_call co65 (vs := [v_rest]) rfl (slices_Clone_uint32_uint32.callsR k hy69 (h_rest.mono hH))) rfl (by rintro v_ H_ _ ⟨rfl, e_, h_⟩; exact ⟨rfl, e_, h_⟩)), (by rintro H' m_ hH hm_ hu_ _ rfl v72 (h73 : Ro (Kd.int .u32) H' v72 y68); exact depK_nil <| s_k (m_ 4) rfl (o_call co61 (vs := [.bool a_0, v72]) rfl (wide_made.calls k hy75 h73)) rfl (by rintro v_ H_ _ ⟨rfl, e_, h_⟩; exact ⟨rfl, e_, h_⟩)), (by rintro H' m_ hH hm_ hu_ _ ⟨v78, rfl, h79⟩; exact depK_nil <| s_d (m_ 5) rfl (d_move (v := .tuple ⟨[.agg ⟨[.bool y74.1.f_neg, v78]⟩, errV 71 y74.2]⟩) rfl) (by exact ⟨v78, rfl, h79⟩) rfl), (by rintro H' m_ hH hm_ hu_ _ ⟨v80, rfl, h81⟩; exact depK_nil <| s_d (m_ 6) rfl (d_ext (vs := [.agg ⟨[.bool y74.1.f_neg, v80]⟩, errV 71 y74.2]) rfl rfl) (by exact ⟨v80, rfl, h81⟩) rfl), (by rintro H' m_ hH hm_ hu_ _ ⟨v80, rfl, h81⟩; exact depK_nil <| s_d (m_ 7) rfl (d_ext (vs := [.agg ⟨[.bool y74.1.f_neg, v80]⟩, errV 71 y74.2]) rfl rfl) (by exact rfl) rfl), (fun H' m_ hH hm_ hu_ => depK_nil <| s_box hm_ rfl rfl (o_alloc zr36 rfl) rfl (fun _ => (pk_upd (hu_ 9 (by kernel_rfl)))) (by exact fun b_ => ⟨b_, rfl, rfl⟩)), (by rintro H' m_ hH hm_ hu_ _ ⟨v82, rfl, h83⟩ _ ⟨b84, rfl, hb84_⟩; exact depK_nil <| s_store2 (Λ' := fun z_ => z_ :: some (b_t4, .cells ⟨[.bool false, .slice none 0 0]⟩ 36 (0, 0)) :: some (b_a, .cells ⟨[.bool a_0, v_a_1]⟩ 36 (0, 0)) :: L) (some (b84, .cells ⟨[.bool y74.1.f_neg, v82]⟩ 36 (0, 0))) hm_ rfl hb84_ rfl (o_store (v := .agg ⟨[.bool y74.1.f_neg, v82]⟩) sz36 rfl rfl rfl rfl (one_cons rfl (one_cons (h83.one) one_nil)) .here (.here (.here .done))) rfl rfl (by exact ⟨rfl, v82, congrArg (fun b_ => (some (b_, Obj.cells ⟨[.bool y74.1.f_neg, v82]⟩ 36 (0, 0)) : Item')) (bof_eq hb84_).symm, h83⟩)), trivial⟩ ?_
 intro H89 e90
 rintro _ _ rfl _ _ rfl _ _ rfl v72 _ (h73 : Ro (Kd.int .u32) H89 v72 y68) _ _ ⟨v78, rfl, h79⟩ _ _ ⟨v80, rfl, h81⟩ _ _ ⟨v82, rfl, h83⟩ _ _ rfl _ _ ⟨b84, rfl, rfl⟩ _ i87 ⟨rfl, v85, h88, h86⟩
 replace h88 : i87 = some (b84, .cells ⟨[.bool y74.1.f_neg, v85]⟩ 36 (0, 0)) := h88
 subst h88
 refine w_it (L' := some (b84, .cells ⟨[.bool y74.1.f_neg, v85]⟩ 36 (0, 0)) :: some (b_t4, .cells ⟨[.bool false, .slice none 0 0]⟩ 36 (0, 0)) :: some (b_a, .cells ⟨[.bool a_0, v_a_1]⟩ 36 (0, 0)) :: L) rfl <| w_d rfl (d_assign (v := errV 71 y74.2) rfl) <| w_done <| w_seq <| w_seq <| w_region rfl <| w_d rfl (d_move (v := errV 71 y74.2) rfl) <| w_d rfl (d_nenil (e := y74.2) Tryz.underlying32 rfl) <| w_d rfl (d_move (v := .bool y74.2.isSome) rfl) <| w_g (g := !y74.2.isSome) rfl rfl rfl wn_f (fun g91 => d_fld (o' := 0) Tryz.underlying36 rfl sz4 rfl rfl rfl) <| w_g (g := !y74.2.isSome) rfl rfl rfl wn_f (fun g92 => d_loado (v := .bool a_0) ty4 (cvt g92) (.there (.there .here)) rfl rfl rfl rfl) <| w_g (g := !y74.2.isSome) rfl rfl rfl wn_f (fun g93 => d_not (b := a_0) (cvt g93)) ?_
 refine w_d rfl (d_or' (b := y74.2.isSome) (p := (!a_0)) rfl rfl rfl) <| w_d rfl (d_move (v := .bool (y74.2.isSome || (!a_0))) rfl) <| w_g (g := !(y74.2.isSome || (!a_0))) rfl rfl rfl wn_f (fun g94 => d_move (v := .bool lost) rfl) <| w_g (g := !(y74.2.isSome || (!a_0))) rfl rfl rfl wn_f (fun g95 => d_not (b := lost) (cvt g95)) <| w_d rfl (d_or' (b := (y74.2.isSome || (!a_0))) (p := (!lost)) rfl rfl rfl) <| w_done ?_
 rcases its he with ⟨c96, he⟩ | ⟨c96, he⟩
 ·
  refine w_then rfl c96 <| w_seq <| w_region rfl <| w_d rfl (d_loado (v := .agg ⟨[.bool y74.1.f_neg, v85]⟩) ty36 rfl .here rfl rfl rfl rfl) <| w_d rfl (d_move (v := errV 71 y74.2) rfl) <| w_a0 rfl (o_store (v := .agg ⟨[.bool y74.1.f_neg, v85]⟩) sz36 rfl rfl rfl rfl (one_cons rfl (one_cons (h86.one) one_nil)) (.there .here) (.here (.here .done))) ?_
  rintro _ _ _ ⟨rfl, rfl, rfl⟩
  refine w_d rfl (d_assign (v := errV 71 y74.2) rfl) <| w_done ?_
  obtain rfl := Option.some.inj he
  refine w_return fn_32 rs_32 (.box (v := .agg ⟨[.bool y74.1.f_neg, v85]⟩) rfl ty36 rfl rfl (.there .here) rfl (.tmp (v := errV 71 y74.2) rfl .nil)) <| ⟨⟨[_, _, _], rfl⟩, hle.trans e90, ⟨v85, rfl, h86⟩⟩
 ·
  refine w_else rfl (Bool.eq_false_iff.2 c96) <| w_skip <| w_seq ?_
  obtain ⟨y97, hy98, he⟩ := Option.bind_eq_some_iff.1 he
  obtain ⟨y103, hy104, he⟩ := Option.bind_eq_some_iff.1 he
  refine w_drawn (p := 5) (tl := [5, 6]) [[], [], [(0, some 104), (1, some 105)], [(2, some 106)], [(2, some 106)]] [some 104, some 105, some 106, some 107, some 108] (fctF (.is (.agg ⟨[.bool y74.1.f_neg, v85]⟩) :: .of (wide_Of.out y97) (wide_Of.out_mono _) :: .of (wide_Int_Sub.out y103) (wide_Int_Sub.out_mono _) :: .of (fun H v => ∃ v109, v = .agg ⟨[.bool y103.1.f_neg, v109]⟩ ∧ Ro (Kd.int .u32) H v109 y103.1.f_w) (by rintro _ _ _ hle ⟨v109, rfl, h110⟩; exact ⟨v109, rfl, h110.mono hle⟩) :: .is (errV 71 y103.2) :: [])) (fun m_ => some (b84, .cells ⟨[.bool y74.1.f_neg, v85]⟩ 36 (0, 0)) :: some (b_t4, .cells ⟨[.bool false, .slice none 0 0]⟩ 36 (0, 0)) :: some (b_a, .cells ⟨[.bool a_0, v_a_1]⟩ 36 (0, 0)) :: L) (fun _ => none) mixed (by kernel_rfl) (by kernel_rfl) rfl (fct_mono (by kernel_rfl)) ⟨(fun H' m_ hH hm_ hu_ => depK_nil <| s_d (m_ 0) rfl (d_loado (v := .agg ⟨[.bool y74.1.f_neg, v85]⟩) ty36 rfl .here rfl rfl rfl rfl) (by exact rfl) rfl), (fun H' m_ hH hm_ hu_ => depK_nil <| s_k (m_ 1) rfl (o_call co14 (vs := [.int .i64 1]) rfl (wide_Of.calls k hy98)) rfl (by rintro v_ H_ _ ⟨rfl, e_, h_⟩; exact ⟨rfl, e_, h_⟩)), (by rintro H' m_ hH hm_ hu_ _ rfl _ ⟨v101, rfl, h102⟩; exact depK_nil <| s_k (m_ 2) rfl (o_call co66 (vs := [.agg ⟨[.bool y74.1.f_neg, v85]⟩, .agg ⟨[.bool y97.f_neg, v101]⟩]) rfl (wide_Int_Sub.calls k (a := ⟨y74.1.f_neg, y74.1.f_w⟩) (b := ⟨y97.f_neg, y97.f_w⟩) hy104 (h86.mono hH) h102)) rfl (by rintro v_ H_ _ ⟨rfl, e_, h_⟩; exact ⟨rfl, e_, h_⟩)), (by rintro H' m_ hH hm_ hu_ _ ⟨v107, rfl, h108⟩; exact depK_nil <| s_d (m_ 3) rfl (d_ext (vs := [.agg ⟨[.bool y103.1.f_neg, v107]⟩, errV 71 y103.2]) rfl rfl) (by exact ⟨v107, rfl, h108⟩) rfl), (by rintro H' m_ hH hm_ hu_ _ ⟨v107, rfl, h108⟩; exact depK_nil <| s_d (m_ 4) rfl (d_ext (vs := [.agg ⟨[.bool y103.1.f_neg, v107]⟩, errV 71 y103.2]) rfl rfl) (by exact rfl) rfl), trivial⟩ ?_
  intro H111 e112
  rintro _ _ rfl _ _ ⟨v101, rfl, h102⟩ _ _ ⟨v107, rfl, h108⟩ _ _ ⟨v109, rfl, h110⟩ _ _ rfl
  refine w_a0 rfl (o_store (v := .agg ⟨[.bool y103.1.f_neg, v109]⟩) sz36 rfl rfl rfl rfl (one_cons rfl (one_cons (h110.one) one_nil)) (.there .here) (.here (.here .done))) ?_
  rintro _ _ _ ⟨rfl, rfl, rfl⟩
  refine w_d rfl (d_assign (v := errV 71 y103.2) rfl) <| w_done ?_
  obtain rfl := Option.some.inj he
  refine w_return fn_32 rs_32 (.box (v := .agg ⟨[.bool y103.1.f_neg, v109]⟩) rfl ty36 rfl rfl (.there .here) rfl (.tmp (v := errV 71 y103.2) rfl .nil)) <| ⟨⟨[_, _, _], rfl⟩, hle.trans (e90.trans e112), ⟨v109, rfl, h110⟩⟩
theorem wide_Int_Move.calls (k : Nat) {H : Hp} {L : Items} {a : wide_Int} {n : Int} {v0_a : Value} {r : wide_Int × (Option Int)} (he : wide_Int_Move.f k a n = some r) (h0_a : Ro (Kd.int .u32) H v0_a a.f_w) : Ct Tryz.prog 32 ⟨[.agg ⟨[.bool a.f_neg, v0_a]⟩, .int .i64 n]⟩ H L (fun v H' L' => L = L' ∧ H.le H' ∧ wide_Int_Move.out r H' v) := by
 refine ct_out (O := wide_Int_Move.out r) ?_
 have hle : H.le H := .refl _
 unfold wide_Int_Move.f at he
 refine ct_enter (args := [.agg ⟨[.bool a.f_neg, v0_a]⟩, .int .i64 n]) fn_32 rfl nt_32 rfl <| w_seq <| w_region rfl <| w_a rfl (o_box (v := .agg ⟨[.bool a.f_neg, v0_a]⟩) rfl rfl) ?_
 rintro _ _ _ ⟨b1, rfl, rfl, rfl⟩
 refine w_a rfl (o_alloc zr36 rfl) ?_
 rintro _ _ _ ⟨b2, rfl, rfl, rfl⟩
 refine w_d rfl (d_assign (v := errV 71 none) rfl) <| w_done <| w_seq <| w_seq <| w_region rfl <| w_d rfl (d_move (v := .int .i64 n) rfl) <| w_d rfl (d_lss rfl rfl) <| w_d rfl (d_move (v := .bool (decide (n < (-4096)))) rfl) <| w_g (g := !(decide (n < (-4096)))) rfl rfl rfl wn_f (fun g3 => d_move (v := .int .i64 n) rfl) <| w_g (g := !(decide (n < (-4096)))) rfl rfl rfl wn_f (fun g4 => d_gtr (cvt g4) rfl) <| w_d rfl (d_or' (b := (decide (n < (-4096)))) (p := (decide (4096 < n))) rfl rfl rfl) <| w_done ?_
 rcases its he with ⟨c5, he⟩ | ⟨c5, he⟩
 ·
  refine w_then rfl c5 <| w_seq <| w_region rfl <| w_d rfl (d_build (cs' := [.bool false, .slice none 0 0]) Tryz.underlying36 zr36 rfl (by kernel_rfl) (parts := []) rfl .nil) <| w_d rfl (d_iface (v := .int .i64 1) Tryz.underlying71 rfl rfl) <| w_a0 rfl (o_store (v := .agg ⟨[.bool false, .slice none 0 0]⟩) sz36 rfl rfl rfl rfl (one_cons rfl (one_cons rfl one_nil)) .here (.here (.here .done))) ?_
  rintro _ _ _ ⟨rfl, rfl, rfl⟩
  refine w_d rfl (d_assign (v := errV 71 (some 1)) rfl) <| w_done ?_
  obtain rfl := Option.some.inj he
  refine w_return fn_32 rs_32 (.box (v := .agg ⟨[.bool false, .slice none 0 0]⟩) rfl ty36 rfl rfl .here rfl (.tmp (v := errV 71 (some 1)) rfl .nil)) <| ⟨⟨[_, _], rfl⟩, hle, ⟨.slice none 0 0, rfl, (ro_nil _ _)⟩⟩
 ·
  refine w_else rfl (Bool.eq_false_iff.2 c5) <| w_skip <| w_seq <| w_seq <| w_region rfl <| w_d rfl (d_move (v := .int .i64 n) rfl) <| w_d rfl (d_geq rfl rfl) <| w_done ?_
  rcases its he with ⟨c6, he⟩ | ⟨c6, he⟩
  ·
   refine w_then rfl (decide_eq_true c6) <| w_seq ?_
   obtain ⟨c7, he⟩ := rq he
   obtain ⟨y11, hy12, he⟩ := Option.bind_eq_some_iff.1 he
   refine w_none (?_)
   refine w_drawn (p := 8) (tl := [8, 9]) [[], [(0, some 22)], [(1, some 23)], [], [(3, some 25)], [], [(5, some 27)], [(4, some 26), (6, some 28)]] [some 22, some 23, some 24, some 25, some 26, some 27, some 28, some 29] (fctF (.is (.int .i64 n) :: .is (.int .i64 (w64 (Int.tdiv n 32))) :: .sl (Kd.int .u32) 90 (List.replicate (w64 (Int.tdiv n 32) : Int).toNat (0 : Int)) :: .is (.pointer (some ⟨b1, 1, none⟩)) :: .is (v0_a) :: .is (.int .i64 n) :: .is (.int .i64 (Int.tmod n 32)) :: .ro (Kd.int .u32) (y11) :: [])) (fun m_ => m_ 2 :: some (b2, .cells ⟨[.bool false, .slice none 0 0]⟩ 36 (0, 0)) :: some (b1, .cells ⟨[.bool a.f_neg, v0_a]⟩ 36 (0, 0)) :: L) (fun _ => none) mixed (by kernel_rfl) (by kernel_rfl) rfl (fct_mono (by kernel_rfl)) ⟨(fun H' m_ hH hm_ hu_ => depK_nil <| s_d (m_ 0) rfl (d_move (v := .int .i64 n) rfl) (by exact rfl) rfl), (by rintro H' m_ hH hm_ hu_ _ rfl; exact depK_nil <| s_d (m_ 1) rfl (d_quo (c := w64 (Int.tdiv n 32)) rfl rfl (by decide) rfl) (by exact rfl) rfl), (by rintro H' m_ hH hm_ hu_ _ rfl; exact depK_nil <| s_sl hm_ rfl rfl (o_make' (kd := (Kd.int .u32)) (z0 := 0) Tryz.underlying34 ti90 (zp90 _) rfl rfl (by omega) (by omega) (by omega)) rfl (fun _ => .here) (by exact fun _ _ h_ => h_)), (fun H' m_ hH hm_ hu_ => depK_nil <| s_d (m_ 3) rfl (d_fld (o' := 1) Tryz.underlying36 rfl sz34 rfl rfl rfl) (by exact rfl) rfl), (by rintro H' m_ hH hm_ hu_ _ rfl; exact depK_nil <| s_d (m_ 4) rfl (d_loado (v := v0_a) ty34 rfl (.there (.there .here)) rfl rfl rfl rfl) (by exact rfl) rfl), (fun H' m_ hH hm_ hu_ => depK_nil <| s_d (m_ 5) rfl (d_move (v := .int .i64 n) rfl) (by exact rfl) rfl), (by rintro H' m_ hH hm_ hu_ _ rfl; exact depK_nil <| s_d (m_ 6) rfl (d_rem rfl rfl (by decide)) (by exact rfl) rfl), (by rintro H' m_ hH hm_ hu_ _ rfl _ rfl; exact depK_nil <| s_k (m_ 7) rfl (o_call co60 (vs := [v0_a, .int .i64 (Int.tmod n 32)]) rfl (wide_up.callsR k hy12 ((h0_a.mono hH).src))) rfl (by rintro v_ H_ _ ⟨rfl, e_, h_⟩; exact ⟨rfl, e_, h_⟩)), trivial⟩ ?_
   intro H17 e18
   rintro _ _ rfl _ _ rfl v8 i9 (h10 : Sl (Kd.int .u32) H17 90 i9 v8 (List.replicate (w64 (Int.tdiv n 32) : Int).toNat (0 : Int))) _ _ rfl _ _ rfl _ _ rfl _ _ rfl v15 _ (h16 : Ro (Kd.int .u32) H17 v15 y11)
   obtain ⟨c19, he⟩ := rq he
   refine w_a rfl (o_append' (kd := (Kd.int .u32)) (F := fun z_ => z_ :: some (b2, .cells ⟨[.bool false, .slice none 0 0]⟩ 36 (0, 0)) :: some (b1, .cells ⟨[.bool a.f_neg, v0_a]⟩ 36 (0, 0)) :: L) Tryz.underlying34 Tryz.underlying34 ti90 rfl (by first | omega | (simp only [List.nil_append, List.length_cons, List.length_nil]; omega)) rfl rfl h10 h16.src (fun _ => .here)) ?_
   rintro v20 _ _ ⟨i21, rfl, rfl, h22⟩
   refine w_d rfl (d_assign (v := v20) rfl) <| w_done <| w_seq <| w_region rfl <| w_d rfl (d_fld (o' := 0) Tryz.underlying36 rfl sz4 rfl rfl rfl) <| w_d rfl (d_loado (v := .bool a.f_neg) ty4 rfl (.there (.there .here)) rfl rfl rfl rfl) <| w_d rfl (d_move (v := v20) rfl) <| w_freeze h22 .here ?_
   intro H23 e24 h25
   obtain ⟨y26, hy27, he⟩ := Option.bind_eq_some_iff.1 he
   refine w_a rfl (o_call co61 (vs := [.bool a.f_neg, v20]) rfl (wide_made.calls k hy27 h25)) ?_
   rintro _ H28 _ ⟨rfl, e29, ⟨v30, rfl, h31⟩⟩
   refine w_d rfl (d_ext (vs := [.agg ⟨[.bool y26.1.f_neg, v30]⟩, errV 71 y26.2]) rfl rfl) <| w_d rfl (d_ext (vs := [.agg ⟨[.bool y26.1.f_neg, v30]⟩, errV 71 y26.2]) rfl rfl) <| w_a0 rfl (o_store (v := .agg ⟨[.bool y26.1.f_neg, v30]⟩) sz36 rfl rfl rfl rfl (one_cons rfl (one_cons (h31.one) one_nil)) (.there .here) (.here (.here .done))) ?_
   rintro _ _ _ ⟨rfl, rfl, rfl⟩
   refine w_d rfl (d_assign (v := errV 71 y26.2) rfl) <| w_done ?_
   obtain rfl := Option.some.inj he
   refine w_return fn_32 rs_32 (.box (v := .agg ⟨[.bool y26.1.f_neg, v30]⟩) rfl ty36 rfl rfl (.there .here) rfl (.tmp (v := errV 71 y26.2) rfl .nil)) <| ⟨⟨[_, _, _], rfl⟩, hle.trans ((e18.trans e24).trans e29), ⟨v30, rfl, h31⟩⟩
  ·
   refine w_else rfl (decide_eq_false c6) <| w_skip <| w_seq <| w_region rfl <| w_d rfl (d_move (v := .int .i64 n) rfl) <| w_d rfl (d_neg (c := w64 (0 - n)) rfl rfl) <| w_d rfl (d_quo (c := w64 (Int.tdiv (w64 (0 - n)) 32)) rfl rfl (by decide) rfl) <| w_d rfl (d_fld (o' := 1) Tryz.underlying36 rfl sz34 rfl rfl rfl) <| w_d rfl (d_loado (v := v0_a) ty34 rfl (.there .here) rfl rfl rfl rfl) <| w_d rfl (d_len Tryz.underlying34 rfl h0_a.src) <| w_d rfl (d_min rfl rfl) <| w_d rfl (d_assign (v := .int .i64 (min (w64 (Int.tdiv (w64 (0 - n)) 32)) (a.f_w.length : Int))) rfl) ?_
   refine w_done <| w_seq <| w_region rfl <| w_d rfl (d_fld (o' := 1) Tryz.underlying36 rfl sz34 rfl rfl rfl) <| w_d rfl (d_loado (v := v0_a) ty34 rfl (.there .here) rfl rfl rfl rfl) <| w_d rfl (d_move (v := .int .i64 (min (w64 (Int.tdiv (w64 (0 - n)) 32)) (a.f_w.length : Int))) rfl) ?_
   obtain ⟨c32, he⟩ := rq he
   refine w_a rfl (o_cut (kd := (Kd.int .u32)) Tryz.underlying34 sz90 rfl h0_a (.inl ⟨rfl, rfl⟩) (.inr ⟨_, _, rfl, rfl⟩) c32) ?_
   rintro v33 _ _ ⟨h34, rfl, rfl⟩
   obtain ⟨y35, hy36, he⟩ := Option.bind_eq_some_iff.1 he
   refine w_d rfl (call_d (o_call co62 (vs := [v33, .func (.func 63) #[] #[]]) rfl (slices_ContainsFunc_uint32_uint32_wide_Int_Move_1.calls k hy36 h34.src))) <| w_d rfl (d_assign (v := .bool y35) rfl) <| w_done <| w_seq <| w_region rfl <| w_d rfl (d_fld (o' := 1) Tryz.underlying36 rfl sz34 rfl rfl rfl) <| w_d rfl (d_loado (v := v0_a) ty34 rfl (.there .here) rfl rfl rfl rfl) <| w_d rfl (d_move (v := .int .i64 (min (w64 (Int.tdiv (w64 (0 - n)) 32)) (a.f_w.length : Int))) rfl) ?_
   obtain ⟨c39, he⟩ := rq he
   refine w_a rfl (o_cut (kd := (Kd.int .u32)) Tryz.underlying34 sz90 rfl h0_a (.inr ⟨_, _, rfl, rfl⟩) (.inl ⟨rfl, rfl⟩) c39) ?_
   rintro v40 _ _ ⟨h41, rfl, rfl⟩
   refine w_d rfl (d_assign (v := v40) rfl) <| w_done <| w_seq <| w_seq <| w_region rfl <| w_d rfl (d_move (v := .int .i64 (min (w64 (Int.tdiv (w64 (0 - n)) 32)) (a.f_w.length : Int))) rfl) <| w_d rfl (d_fld (o' := 1) Tryz.underlying36 rfl sz34 rfl rfl rfl) <| w_d rfl (d_loado (v := v0_a) ty34 rfl (.there .here) rfl rfl rfl rfl) <| w_d rfl (d_len Tryz.underlying34 rfl h0_a.src) <| w_d rfl (d_lss rfl rfl) <| w_d rfl (d_move (v := .bool (decide ((min (w64 (Int.tdiv (w64 (0 - n)) 32)) (a.f_w.length : Int)) < (a.f_w.length : Int)))) rfl) <| w_g (g := decide ((min (w64 (Int.tdiv (w64 (0 - n)) 32)) (a.f_w.length : Int)) < (a.f_w.length : Int))) rfl rfl rfl wn_t (fun g42 => d_move (v := .int .i64 (min (w64 (Int.tdiv (w64 (0 - n)) 32)) (a.f_w.length : Int))) rfl) ?_
   refine w_g (g := decide ((min (w64 (Int.tdiv (w64 (0 - n)) 32)) (a.f_w.length : Int)) < (a.f_w.length : Int))) rfl rfl rfl wn_t (fun g43 => d_move (v := .int .i64 n) rfl) <| w_g (g := decide ((min (w64 (Int.tdiv (w64 (0 - n)) 32)) (a.f_w.length : Int)) < (a.f_w.length : Int))) rfl rfl rfl wn_t (fun g44 => d_neg (c := w64 (0 - n)) (cvt g44) rfl) <| w_g (g := decide ((min (w64 (Int.tdiv (w64 (0 - n)) 32)) (a.f_w.length : Int)) < (a.f_w.length : Int))) rfl rfl rfl wn_t (fun g45 => d_quo (c := w64 (Int.tdiv (w64 (0 - n)) 32)) (cvt g45) rfl (by decide) rfl) <| w_g (g := decide ((min (w64 (Int.tdiv (w64 (0 - n)) 32)) (a.f_w.length : Int)) < (a.f_w.length : Int))) rfl rfl rfl wn_t (fun g46 => d_eql (cvt g46) (cvt g46)) <| w_d rfl (d_and' (b := (decide ((min (w64 (Int.tdiv (w64 (0 - n)) 32)) (a.f_w.length : Int)) < (a.f_w.length : Int)))) (p := (decide ((min (w64 (Int.tdiv (w64 (0 - n)) 32)) (a.f_w.length : Int)) = (w64 (Int.tdiv (w64 (0 - n)) 32))))) rfl rfl rfl) <| w_done ?_
   rcases its he with ⟨c47, he⟩ | ⟨c47, he⟩
   ·
    refine w_then rfl c47 <| w_seq ?_
    obtain ⟨c50, he⟩ := rq he
    obtain ⟨c56, he⟩ := rq he
    refine w_drawn (p := 10) (tl := [10, 11, 12, 13]) [[], [(0, some 65)], [(1, some 66)], [(1, some 66), (2, some 67)], [(1, some 66), (3, some 68)], [(1, some 66)], [(1, some 66), (5, some 70)], [(1, some 66), (6, some 71)], [(1, some 66), (7, some 72)], [(1, some 66), (8, some 73)]] [some 65, some 66, some 67, some 68, some 69, some 70, some 71, some 72, some 73, some 74] (fctF (.is (.bool y35) :: .is (.bool y35) :: .is (cond (!y35) v40 undef) :: .is (cond (!y35) (.pointer (some (pel v40 0 1))) undef) :: .is (cond (!y35) (.int .u32 (rd (cut a.f_w (min (w64 (Int.tdiv (w64 (0 - n)) 32)) (a.f_w.length : Int)) (a.f_w.length : Int)) 0)) undef) :: .is (cond (!y35) (.int .i64 n) undef) :: .is (cond (!y35) (.int .i64 (w64 (0 - n))) undef) :: .is (cond (!y35) (.int .i64 (Int.tmod (w64 (0 - n)) 32)) undef) :: .is (cond (!y35) (.int .u32 ((1 * 2 ^ shn .u32 (Int.tmod (w64 (0 - n)) 32)) % 4294967296)) undef) :: .is (cond (!y35) (.int .u32 ((((1 * 2 ^ shn .u32 (Int.tmod (w64 (0 - n)) 32)) % 4294967296) - 1) % 4294967296)) undef) :: [])) (fun m_ => some (b2, .cells ⟨[.bool false, .slice none 0 0]⟩ 36 (0, 0)) :: some (b1, .cells ⟨[.bool a.f_neg, v0_a]⟩ 36 (0, 0)) :: L) (fun _ => none) mixed (by kernel_rfl) (by kernel_rfl) rfl (fct_mono (by kernel_rfl)) ⟨(fun H' m_ hH hm_ hu_ => depK_nil <| s_d (m_ 0) rfl (d_move (v := .bool y35) rfl) (by exact rfl) rfl), (by rintro H' m_ hH hm_ hu_ _ rfl; exact depK_nil <| s_d (m_ 1) rfl (d_move (v := .bool y35) rfl) (by exact rfl) rfl), (by rintro H' m_ hH hm_ hu_ _ rfl; exact depK_nil <| s_g (g := !y35) (m_ 2) rfl rfl rfl wn_f (fun g48 => d_move (v := v40) rfl) rfl (by exact fun g_ => cvt g_) (by exact fun g_ => cnt g_)), (by rintro H' m_ hH hm_ hu_ _ rfl _ rfl; exact depK_nil <| s_g (g := !y35) (m_ 3) rfl rfl rfl wn_f (fun g49 => d_index (sz := 1) Tryz.underlying34 sz90 (cvt g49) (h41.mono hH).src rfl (c50 g49)) rfl (by exact fun g_ => cvt g_) (by exact fun g_ => cnt g_)), (by rintro H' m_ hH hm_ hu_ _ rfl _ rfl; exact depK_nil <| s_g (g := !y35) (m_ 4) rfl rfl rfl wn_f (fun g51 => d_ldint ty90 (cvt g51) (h41.mono hH).src (c50 g51)) rfl (by exact fun g_ => cvt g_) (by exact fun g_ => cnt g_)), (by rintro H' m_ hH hm_ hu_ _ rfl; exact depK_nil <| s_g (g := !y35) (m_ 5) rfl rfl rfl wn_f (fun g52 => d_move (v := .int .i64 n) rfl) rfl (by exact fun g_ => cvt g_) (by exact fun g_ => cnt g_)), (by rintro H' m_ hH hm_ hu_ _ rfl _ rfl; exact depK_nil <| s_g (g := !y35) (m_ 6) rfl rfl rfl wn_f (fun g53 => d_neg (c := w64 (0 - n)) (cvt g53) rfl) rfl (by exact fun g_ => cvt g_) (by exact fun g_ => cnt g_)), (by rintro H' m_ hH hm_ hu_ _ rfl _ rfl; exact depK_nil <| s_g (g := !y35) (m_ 7) rfl rfl rfl wn_f (fun g54 => d_rem (cvt g54) rfl (by decide)) rfl (by exact fun g_ => cvt g_) (by exact fun g_ => cnt g_)), (by rintro H' m_ hH hm_ hu_ _ rfl _ rfl; exact depK_nil <| s_g (g := !y35) (m_ 8) rfl rfl rfl wn_f (fun g55 => d_shl (c := (1 * 2 ^ shn .u32 (Int.tmod (w64 (0 - n)) 32)) % 4294967296) rfl (cvt g55) (c56 g55) rfl) rfl (by exact fun g_ => cvt g_) (by exact fun g_ => cnt g_)), (by rintro H' m_ hH hm_ hu_ _ rfl _ rfl; exact depK_nil <| s_g (g := !y35) (m_ 9) rfl rfl rfl wn_f (fun g57 => d_sub (c := (((1 * 2 ^ shn .u32 (Int.tmod (w64 (0 - n)) 32)) % 4294967296) - 1) % 4294967296) (cvt g57) rfl rfl) rfl (by exact fun g_ => cvt g_) (by exact fun g_ => cnt g_)), trivial⟩ ?_
    intro H58 e59
    rintro _ _ rfl _ _ rfl _ _ rfl _ _ rfl _ _ rfl _ _ rfl _ _ rfl _ _ rfl _ _ rfl _ _ rfl
    refine w_g (g := !y35) rfl rfl rfl wn_f (fun g60 => d_band (cvt g60) (cvt g60)) <| w_g (g := !y35) rfl rfl rfl wn_f (fun g61 => d_neq (cvt g61) rfl) <| w_d rfl (d_or' (b := y35) (p := (!decide ((iand .u32 (rd (cut a.f_w (min (w64 (Int.tdiv (w64 (0 - n)) 32)) (a.f_w.length : Int)) (a.f_w.length : Int)) 0) ((((1 * 2 ^ shn .u32 (Int.tmod (w64 (0 - n)) 32)) % 4294967296) - 1) % 4294967296)) = 0))) rfl rfl rfl) <| w_d rfl (d_assign (v := .bool (y35 || (!decide ((iand .u32 (rd (cut a.f_w (min (w64 (Int.tdiv (w64 (0 - n)) 32)) (a.f_w.length : Int)) (a.f_w.length : Int)) 0) ((((1 * 2 ^ shn .u32 (Int.tmod (w64 (0 - n)) 32)) % 4294967296) - 1) % 4294967296)) = 0)))) rfl) <| w_done <| w_region rfl <| w_d rfl (d_move (v := v40) rfl) <| w_d rfl (d_move (v := .int .i64 n) rfl) <| w_d rfl (d_neg (c := w64 (0 - n)) rfl rfl) <| w_d rfl (d_rem rfl rfl (by decide)) ?_
    obtain ⟨y62, hy63, he⟩ := Option.bind_eq_some_iff.1 he
    refine w_a rfl (o_call co64 (vs := [v40, .int .i64 (Int.tmod (w64 (0 - n)) 32)]) rfl (wide_down.calls k hy63 (h41.mono e59))) ?_
    rintro v66 H64 _ ⟨rfl, e65, h67⟩
    refine w_d rfl (d_assign (v := v66) rfl) <| w_done <| w_sl 2 (.pointer (some ⟨b1, 0, none⟩)) rfl <| w_sl 4 (.pointer (some ⟨b2, 0, none⟩)) rfl <| w_sl 5 (errV 71 none) rfl <| w_sl 8 (.bool (y35 || (!decide ((iand .u32 (rd (cut a.f_w (min (w64 (Int.tdiv (w64 (0 - n)) 32)) (a.f_w.length : Int)) (a.f_w.length : Int)) 0) ((((1 * 2 ^ shn .u32 (Int.tmod (w64 (0 - n)) 32)) % 4294967296) - 1) % 4294967296)) = 0)))) rfl <| w_sl 9 (v66) rfl <| wide_Int_Move.j1_ok (k := k) (hle.trans (e59.trans e65)) he (h0_a.mono (e59.trans e65)) h67
   ·
    refine w_else rfl (Bool.eq_false_iff.2 c47) <| w_region rfl <| w_d rfl (d_assign (v := .slice none 0 0) rfl) <| w_done <| w_sl 2 (.pointer (some ⟨b1, 0, none⟩)) rfl <| w_sl 4 (.pointer (some ⟨b2, 0, none⟩)) rfl <| w_sl 5 (errV 71 none) rfl <| w_sl 8 (.bool y35) rfl <| w_sl 9 (.slice none 0 0) rfl <| wide_Int_Move.j1_ok (k := k) hle he h0_a (ro_nil _ _)
/-! ### (radome/ratio.Ratio).under -/
noncomputable def ratio_Ratio_under.C : Code := (Tryz.f34.body).getD .skip
def ratio_Ratio_under.out (r : wide_Int) (H : Hp) (v : Value) : Prop := ∃ v0, v = .agg ⟨[.bool r.f_neg, v0]⟩ ∧ Ro (Kd.int .u32) H v0 r.f_w
theorem ratio_Ratio_under.out_mono (r : wide_Int) {H H' : Hp} {v : Value} (hle : H.le H') (h : ratio_Ratio_under.out r H v) : ratio_Ratio_under.out r H' v := by
 obtain ⟨v0, rfl, h0⟩ := h; exact ⟨v0, rfl, h0.mono hle⟩
abbrev ratio_Ratio_under.R (H0 : Hp) (L : Items) (r : wide_Int) : Value → Hp → Items → Prop := fun v H' L' => (∃ p, L' = p ++ L) ∧ H0.le H' ∧ ratio_Ratio_under.out r H' v
noncomputable def ratio_Ratio_under.f (k : Nat) (a : ratio_Ratio) : Option wide_Int := (wide_Int_Sign.f k (⟨a.f_d.f_neg, a.f_d.f_w⟩ : wide_Int)).bind fun y3 => if y3 = 0 then ((wide_Of.f k 1).bind fun y8 => some ((⟨y8.f_neg, y8.f_w⟩ : wide_Int))) else (some ((⟨a.f_d.f_neg, a.f_d.f_w⟩ : wide_Int)))
theorem ratio_Ratio_under.mono : ∀ k y0, LeO (ratio_Ratio_under.f k y0) (ratio_Ratio_under.f (k + 1) y0) := fun k _ => by unfold ratio_Ratio_under.f; exact (LeO.bind (wide_Int_Sign.mono k _) fun _ => LeO.ite (LeO.bind (wide_Of.mono k _) fun _ => LeO.refl _) (LeO.refl _))
theorem ratio_Ratio_under.calls (k : Nat) {H : Hp} {L : Items} {a : ratio_Ratio} {v0_a : Value} {v1_a : Value} {r : wide_Int} (he : ratio_Ratio_under.f k a = some r) (h0_a : Ro (Kd.int .u32) H v0_a a.f_n.f_w) (h1_a : Ro (Kd.int .u32) H v1_a a.f_d.f_w) : Ct Tryz.prog 34 ⟨[.agg ⟨[.bool a.f_n.f_neg, v0_a, .bool a.f_d.f_neg, v1_a]⟩]⟩ H L (fun v H' L' => L = L' ∧ H.le H' ∧ ratio_Ratio_under.out r H' v) := by
 refine ct_out (O := ratio_Ratio_under.out r) ?_
 have hle : H.le H := .refl _
 unfold ratio_Ratio_under.f at he
 refine ct_enter (args := [.agg ⟨[.bool a.f_n.f_neg, v0_a, .bool a.f_d.f_neg, v1_a]⟩]) fn_34 rfl nt_34 rfl <| w_seq <| w_region rfl <| w_a rfl (o_box (v := .agg ⟨[.bool a.f_n.f_neg, v0_a, .bool a.f_d.f_neg, v1_a]⟩) rfl rfl) ?_
 rintro _ _ _ ⟨b1, rfl, rfl, rfl⟩
 refine w_a rfl (o_alloc zr36 rfl) ?_
 rintro _ _ _ ⟨b2, rfl, rfl, rfl⟩
 refine w_done <| w_seq <| w_seq <| w_region rfl <| w_d rfl (d_fld (o' := 2) Tryz.underlying38 rfl sz36 rfl rfl rfl) <| w_d rfl (d_loado (v := .agg ⟨[.bool a.f_d.f_neg, v1_a]⟩) ty36 rfl (.there .here) rfl rfl rfl rfl) ?_
 obtain ⟨y3, hy4, he⟩ := Option.bind_eq_some_iff.1 he
 refine w_d rfl (call_d (o_call co37 (vs := [.agg ⟨[.bool a.f_d.f_neg, v1_a]⟩]) rfl (wide_Int_Sign.calls k (a := ⟨a.f_d.f_neg, a.f_d.f_w⟩) hy4 h1_a))) <| w_d rfl (d_eql rfl rfl) <| w_done ?_
 rcases its he with ⟨c7, he⟩ | ⟨c7, he⟩
 ·
  refine w_then rfl (decide_eq_true c7) <| w_seq <| w_region rfl ?_
  obtain ⟨y8, hy9, he⟩ := Option.bind_eq_some_iff.1 he
  refine w_a rfl (o_call co14 (vs := [.int .i64 1]) rfl (wide_Of.calls k hy9)) ?_
  rintro _ H10 _ ⟨rfl, e11, ⟨v12, rfl, h13⟩⟩
  refine w_a0 rfl (o_store (v := .agg ⟨[.bool y8.f_neg, v12]⟩) sz36 rfl rfl rfl rfl (one_cons rfl (one_cons (h13.one) one_nil)) .here (.here (.here .done))) ?_
  rintro _ _ _ ⟨rfl, rfl, rfl⟩
  refine w_done ?_
  obtain rfl := Option.some.inj he
  refine w_return fn_34 rs_34 (.box (v := .agg ⟨[.bool y8.f_neg, v12]⟩) rfl ty36 rfl rfl .here rfl .nil) <| ⟨⟨[_, _], rfl⟩, hle.trans e11, ⟨v12, rfl, h13⟩⟩
 ·
  refine w_else rfl (decide_eq_false c7) <| w_skip <| w_seq <| w_region rfl <| w_d rfl (d_fld (o' := 2) Tryz.underlying38 rfl sz36 rfl rfl rfl) <| w_d rfl (d_loado (v := .agg ⟨[.bool a.f_d.f_neg, v1_a]⟩) ty36 rfl (.there .here) rfl rfl rfl rfl) <| w_a0 rfl (o_store (v := .agg ⟨[.bool a.f_d.f_neg, v1_a]⟩) sz36 rfl rfl rfl rfl (one_cons rfl (one_cons (h1_a.one) one_nil)) .here (.here (.here .done))) ?_
  rintro _ _ _ ⟨rfl, rfl, rfl⟩
  refine w_done ?_
  obtain rfl := Option.some.inj he
  refine w_return fn_34 rs_34 (.box (v := .agg ⟨[.bool a.f_d.f_neg, v1_a]⟩) rfl ty36 rfl rfl .here rfl .nil) <| ⟨⟨[_, _], rfl⟩, hle, ⟨v1_a, rfl, h1_a⟩⟩
/-! ### (radome/wide.Int).Small -/
noncomputable def wide_Int_Small.C : Code := (Tryz.f35.body).getD .skip
def wide_Int_Small.out (r : Int × Bool) (H : Hp) (v : Value) : Prop := v = .tuple ⟨[.int .i64 r.1, .bool r.2]⟩
abbrev wide_Int_Small.R (H0 : Hp) (L : Items) (r : Int × Bool) : Value → Hp → Items → Prop := fun v H' L' => (∃ p, L' = p ++ L) ∧ H0.le H' ∧ wide_Int_Small.out r H' v
structure wide_Int_Small.Hs where
 l0 : Bool → (List Int) → Int → (List Int) → Int → Int → Option (Int × Bool)
noncomputable def wide_Int_Small.b0 (k : Nat) (h : wide_Int_Small.Hs)  (a_0 : Bool) (a_1 : List Int) (v_ : Int) (t12 : List Int) (t13 : Int) (t14 : Int) : Option (Int × Bool) := if t14 < t13 then (if (0 : Int) ≤ t14 ∧ t14 < (t12.length : Int) then (if 0 ≤ (w64 (32 * t14)) then (h.l0 a_0 a_1 (ior .u64 v_ ((((rd t12 t14) % 18446744073709551616) * 2 ^ shn .u64 (w64 (32 * t14))) % 18446744073709551616)) t12 t13 (w64 (t14 + 1))) else none) else none) else (if ((!a_0) && (decide (v_ < 9223372036854775808))) = true then (some (w64 (v_), true)) else (if (a_0 && (decide (v_ ≤ 9223372036854775808))) = true then (some (w64 ((0 - v_) % 18446744073709551616), true)) else (some (0, false))))
noncomputable def wide_Int_Small.hs : Nat → wide_Int_Small.Hs
 | 0 => ⟨fun _ _ _ _ _ _ => none⟩
 | k + 1 => ⟨fun x0 x1 x2 x3 x4 x5 => wide_Int_Small.b0 k (wide_Int_Small.hs k) x0 x1 x2 x3 x4 x5⟩
noncomputable def wide_Int_Small.f (k : Nat) (a : wide_Int) : Option (Int × Bool) := (fun h : wide_Int_Small.Hs => if 2 < (a.f_w.length : Int) then (some (0, false)) else (h.l0 a.f_neg a.f_w 0 a.f_w (a.f_w.length : Int) 0)) (wide_Int_Small.hs k)
structure wide_Int_Small.LE (h h' : wide_Int_Small.Hs) : Prop where
 l0 : ∀ y0 y1 y2 y3 y4 y5, LeO (h.l0 y0 y1 y2 y3 y4 y5) (h'.l0 y0 y1 y2 y3 y4 y5)
theorem wide_Int_Small.b0_mono {k : Nat} {h h' : wide_Int_Small.Hs} (hl : wide_Int_Small.LE h h') : ∀ y0 y1 y2 y3 y4 y5, LeO (wide_Int_Small.b0 k h y0 y1 y2 y3 y4 y5) (wide_Int_Small.b0 (k + 1) h' y0 y1 y2 y3 y4 y5) := fun _ _ _ _ _ _ => (LeO.ite (LeO.ite (LeO.ite (hl.l0 _ _ _ _ _ _) (LeO.refl _)) (LeO.refl _)) (LeO.ite (LeO.refl _) (LeO.ite (LeO.refl _) (LeO.refl _))))
theorem wide_Int_Small.hs_mono : ∀ k, wide_Int_Small.LE (wide_Int_Small.hs k) (wide_Int_Small.hs (k + 1))
 | 0 => ⟨fun _ _ _ _ _ _ => LeO.none _⟩
 | k + 1 => ⟨wide_Int_Small.b0_mono (k := k) (wide_Int_Small.hs_mono k)⟩
theorem wide_Int_Small.mono : ∀ k y0, LeO (wide_Int_Small.f k y0) (wide_Int_Small.f (k + 1) y0) := fun k _ => have hl := wide_Int_Small.hs_mono k; by unfold wide_Int_Small.f; exact (LeO.ite (LeO.refl _) (hl.l0 _ _ _ _ _ _))
noncomputable def wide_Int_Small.Kl0 : List Item := .code (lopB (blkB (seqR (seqL (seqR (seqR (seqR wide_Int_Small.C))))))) :: .inLoop (lopB (blkB (seqR (seqL (seqR (seqR (seqR wide_Int_Small.C))))))) :: .inBlock 0 :: .code (seqR (seqR (seqR (seqR wide_Int_Small.C)))) :: []
structure wide_Int_Small.OK (h : wide_Int_Small.Hs) : Prop where
 l0 : ∀ {H0 H : Hp} {L : Items} {r : Int × Bool} {jk_ : Nat → Value} {a_0 : Bool} {a_1 : List Int} {v_ : Int} {t12 : List Int} {t13 : Int} {t14 : Int} {v_a_1 : Value} {v_t12 : Value} {b_a : Nat} (_ : H0.le H) (_he : h.l0 a_0 a_1 v_ t12 t13 t14 = some r) (_h_a_1 : Ro (Kd.int .u32) H v_a_1 a_1) (_h_t12 : Ro (Kd.int .u32) H v_t12 t12), Wp Tryz.prog 35 47 wide_Int_Small.Kl0 (upd (upd (upd (upd (upd (upd (upd jk_ 1 (.pointer (some ⟨b_a, 0, none⟩))) 2 (.int .i64 0)) 3 (.bool false)) 4 (.int .u64 v_)) 12 (v_t12)) 13 (.int .i64 t13)) 14 (.int .i64 t14)) H (some (b_a, .cells ⟨[.bool a_0, v_a_1]⟩ 36 (0, 0)) :: L) (wide_Int_Small.R H0 L r)
theorem wide_Int_Small.b0_ok {k : Nat} {h : wide_Int_Small.Hs} (hh : wide_Int_Small.OK h) {H0 H : Hp} {L : Items} {r : Int × Bool} {jk_ : Nat → Value} {a_0 : Bool} {a_1 : List Int} {v_ : Int} {t12 : List Int} {t13 : Int} {t14 : Int} {v_a_1 : Value} {v_t12 : Value} {b_a : Nat} (hle : H0.le H) (he : wide_Int_Small.b0 k h a_0 a_1 v_ t12 t13 t14 = some r) (h_a_1 : Ro (Kd.int .u32) H v_a_1 a_1) (h_t12 : Ro (Kd.int .u32) H v_t12 t12) : Wp Tryz.prog 35 47 wide_Int_Small.Kl0 (upd (upd (upd (upd (upd (upd (upd jk_ 1 (.pointer (some ⟨b_a, 0, none⟩))) 2 (.int .i64 0)) 3 (.bool false)) 4 (.int .u64 v_)) 12 (v_t12)) 13 (.int .i64 t13)) 14 (.int .i64 t14)) H (some (b_a, .cells ⟨[.bool a_0, v_a_1]⟩ 36 (0, 0)) :: L) (wide_Int_Small.R H0 L r) := by
 unfold wide_Int_Small.b0 at he
 unfold wide_Int_Small.Kl0
 refine w_seq <| w_region rfl <| w_d rfl (d_lss rfl rfl) <| w_done <| w_seq ?_
 rcases its he with ⟨c3, he⟩ | ⟨c3, he⟩
 ·
  refine w_then rfl (decide_eq_true c3) <| w_skip <| w_seq <| w_block <| w_seq <| w_region rfl <| w_d rfl (d_move (v := .int .i64 t14) rfl) ?_
  obtain ⟨c4, he⟩ := rq he
  refine w_d rfl (d_index (sz := 1) Tryz.underlying34 sz90 rfl h_t12.src rfl c4) <| w_d rfl (d_ldint ty90 rfl h_t12.src c4) <| w_d rfl (d_assign (v := .int .i64 t14) rfl) <| w_d rfl (d_assign (v := .int .u32 (rd t12 t14)) rfl) <| w_done <| w_region rfl <| w_d rfl (d_move (v := .int .u64 v_) rfl) <| w_d rfl (d_move (v := .int .u32 (rd t12 t14)) rfl) <| w_d rfl (d_conv (c := (rd t12 t14) % 18446744073709551616) Tryz.underlying90 Tryz.underlying88 rfl rfl) <| w_d rfl (d_move (v := .int .i64 t14) rfl) <| w_d rfl (d_mul (c := w64 (32 * t14)) rfl rfl rfl) ?_
  obtain ⟨c5, he⟩ := rq he
  refine w_d rfl (d_shl (c := (((rd t12 t14) % 18446744073709551616) * 2 ^ shn .u64 (w64 (32 * t14))) % 18446744073709551616) rfl rfl c5 rfl) <| w_d rfl (d_bor rfl rfl) <| w_d rfl (d_assign (v := .int .u64 (ior .u64 v_ ((((rd t12 t14) % 18446744073709551616) * 2 ^ shn .u64 (w64 (32 * t14))) % 18446744073709551616))) rfl) <| w_done <| w_inBlock <| w_region rfl <| w_d rfl (d_add (c := w64 (t14 + 1)) rfl rfl rfl) <| w_d rfl (d_move (v := .int .i64 (w64 (t14 + 1))) rfl) <| w_done <| w_inLoop <| w_sl 1 (.pointer (some ⟨b_a, 0, none⟩)) rfl <| w_sl 2 (.int .i64 0) rfl ?_
  refine w_sl 3 (.bool false) rfl <| w_sl 4 (.int .u64 (ior .u64 v_ ((((rd t12 t14) % 18446744073709551616) * 2 ^ shn .u64 (w64 (32 * t14))) % 18446744073709551616))) rfl <| w_sl 12 (v_t12) rfl <| w_sl 13 (.int .i64 t13) rfl <| w_sl 14 (.int .i64 (w64 (t14 + 1))) rfl <| hh.l0 hle he h_a_1 h_t12
 ·
  refine w_else rfl (decide_eq_false c3) <| w_exit rfl <| w_seq <| w_block <| w_seq <| w_region rfl <| w_d rfl (d_fld (o' := 0) Tryz.underlying36 rfl sz4 rfl rfl rfl) <| w_d rfl (d_loado (v := .bool a_0) ty4 rfl .here rfl rfl rfl rfl) <| w_d rfl (d_not (b := a_0) rfl) <| w_d rfl (d_move (v := .bool (!a_0)) rfl) <| w_g (g := !a_0) rfl rfl rfl wn_t (fun g6 => d_move (v := .int .u64 v_) rfl) <| w_g (g := !a_0) rfl rfl rfl wn_t (fun g7 => d_lss (cvt g7) rfl) ?_
  refine w_d rfl (d_and' (b := (!a_0)) (p := (decide (v_ < 9223372036854775808))) rfl rfl rfl) <| w_d rfl (d_assign (v := .bool ((!a_0) && (decide (v_ < 9223372036854775808)))) rfl) <| w_done ?_
  rcases its he with ⟨c8, he⟩ | ⟨c8, he⟩
  ·
   refine w_then rfl c8 <| w_seq <| w_region rfl <| w_d rfl (d_move (v := .int .u64 v_) rfl) <| w_d rfl (d_conv (c := w64 (v_)) Tryz.underlying88 Tryz.underlying2 rfl rfl) <| w_d rfl (d_assign (v := .int .i64 (w64 (v_))) rfl) <| w_d rfl (d_assign (v := .bool true) rfl) <| w_done ?_
   obtain rfl := Option.some.inj he
   refine w_return fn_35 rs_35 (.tmp (v := .int .i64 (w64 (v_))) rfl (.tmp (v := .bool true) rfl .nil)) <| ⟨⟨[_], rfl⟩, hle, rfl⟩
  ·
   refine w_else rfl (Bool.eq_false_iff.2 c8) <| w_seq <| w_region rfl <| w_d rfl (d_fld (o' := 0) Tryz.underlying36 rfl sz4 rfl rfl rfl) <| w_d rfl (d_loado (v := .bool a_0) ty4 rfl .here rfl rfl rfl rfl) <| w_d rfl (d_move (v := .bool a_0) rfl) <| w_g (g := a_0) rfl rfl rfl wn_t (fun g9 => d_move (v := .int .u64 v_) rfl) <| w_g (g := a_0) rfl rfl rfl wn_t (fun g10 => d_leq (cvt g10) rfl) <| w_d rfl (d_and' (b := a_0) (p := (decide (v_ ≤ 9223372036854775808))) rfl rfl rfl) <| w_d rfl (d_assign (v := .bool (a_0 && (decide (v_ ≤ 9223372036854775808)))) rfl) <| w_done ?_
   rcases its he with ⟨c11, he⟩ | ⟨c11, he⟩
   ·
    refine w_then rfl c11 <| w_seq <| w_region rfl <| w_d rfl (d_move (v := .int .u64 v_) rfl) <| w_d rfl (d_neg (c := (0 - v_) % 18446744073709551616) rfl rfl) <| w_d rfl (d_conv (c := w64 ((0 - v_) % 18446744073709551616)) Tryz.underlying88 Tryz.underlying2 rfl rfl) <| w_d rfl (d_assign (v := .int .i64 (w64 ((0 - v_) % 18446744073709551616))) rfl) <| w_d rfl (d_assign (v := .bool true) rfl) <| w_done ?_
    obtain rfl := Option.some.inj he
    refine w_return fn_35 rs_35 (.tmp (v := .int .i64 (w64 ((0 - v_) % 18446744073709551616))) rfl (.tmp (v := .bool true) rfl .nil)) <| ⟨⟨[_], rfl⟩, hle, rfl⟩
   ·
    refine w_else rfl (Bool.eq_false_iff.2 c11) <| w_skip <| w_inBlock <| w_seq <| w_region rfl <| w_d rfl (d_assign (v := .int .i64 0) rfl) <| w_d rfl (d_assign (v := .bool false) rfl) <| w_done ?_
    obtain rfl := Option.some.inj he
    refine w_return fn_35 rs_35 (.tmp (v := .int .i64 0) rfl (.tmp (v := .bool false) rfl .nil)) <| ⟨⟨[_], rfl⟩, hle, rfl⟩
theorem wide_Int_Small.ok : ∀ k, wide_Int_Small.OK (wide_Int_Small.hs k)
 | 0 => ⟨(by intros; exact nomatch (show none = some _ from by assumption))⟩
 | k + 1 => ⟨wide_Int_Small.b0_ok (k := k) (wide_Int_Small.ok k)⟩
theorem wide_Int_Small.calls (k : Nat) {H : Hp} {L : Items} {a : wide_Int} {v0_a : Value} {r : Int × Bool} (he : wide_Int_Small.f k a = some r) (h0_a : Ro (Kd.int .u32) H v0_a a.f_w) : Ct Tryz.prog 35 ⟨[.agg ⟨[.bool a.f_neg, v0_a]⟩]⟩ H L (fun v H' L' => L = L' ∧ H = H' ∧ v = .tuple ⟨[.int .i64 r.1, .bool r.2]⟩) := by
 refine ct_outs (O := wide_Int_Small.out r) (fun _ _ h => h) ?_
 have hle : H.le H := .refl _
 have hh := wide_Int_Small.ok k
 unfold wide_Int_Small.f at he
 refine ct_enter (args := [.agg ⟨[.bool a.f_neg, v0_a]⟩]) fn_35 rfl nt_35 rfl <| w_seq <| w_region rfl <| w_a rfl (o_box (v := .agg ⟨[.bool a.f_neg, v0_a]⟩) rfl rfl) ?_
 rintro _ _ _ ⟨b1, rfl, rfl, rfl⟩
 refine w_d rfl (d_assign (v := .int .i64 0) rfl) <| w_d rfl (d_assign (v := .bool false) rfl) <| w_done <| w_seq <| w_seq <| w_region rfl <| w_d rfl (d_fld (o' := 1) Tryz.underlying36 rfl sz34 rfl rfl rfl) <| w_d rfl (d_loado (v := v0_a) ty34 rfl .here rfl rfl rfl rfl) <| w_d rfl (d_len Tryz.underlying34 rfl h0_a.src) <| w_d rfl (d_gtr rfl rfl) <| w_done ?_
 rcases its he with ⟨c2, he⟩ | ⟨c2, he⟩
 ·
  refine w_then rfl (decide_eq_true c2) <| w_seq <| w_region rfl <| w_d rfl (d_assign (v := .int .i64 0) rfl) <| w_d rfl (d_assign (v := .bool false) rfl) <| w_done ?_
  obtain rfl := Option.some.inj he
  refine w_return fn_35 rs_35 (.tmp (v := .int .i64 0) rfl (.tmp (v := .bool false) rfl .nil)) <| ⟨⟨[_], rfl⟩, hle, rfl⟩
 ·
  refine w_else rfl (decide_eq_false c2) <| w_skip <| w_seq <| w_region rfl <| w_d rfl (d_assign (v := .int .u64 0) rfl) <| w_done <| w_seq <| w_seq <| w_region rfl <| w_d rfl (d_fld (o' := 1) Tryz.underlying36 rfl sz34 rfl rfl rfl) <| w_d rfl (d_loado (v := v0_a) ty34 rfl .here rfl rfl rfl rfl) <| w_d rfl (d_len Tryz.underlying34 rfl h0_a.src) ?_
  refine w_d rfl (d_move (v := .int .i64 0) rfl) <| w_done <| w_block <| w_loop <| w_sl 1 (.pointer (some ⟨b1, 0, none⟩)) rfl <| w_sl 2 (.int .i64 0) rfl <| w_sl 3 (.bool false) rfl <| w_sl 4 (.int .u64 0) rfl <| w_sl 12 (v0_a) rfl <| w_sl 13 (.int .i64 (a.f_w.length : Int)) rfl <| w_sl 14 (.int .i64 0) rfl <| hh.l0 hle he h0_a h0_a
/-! ### (radome/wide.Int).Cmp -/
noncomputable def wide_Int_Cmp.C : Code := (Tryz.f36.body).getD .skip
def wide_Int_Cmp.out (r : Int) (H : Hp) (v : Value) : Prop := v = .int .i64 r
abbrev wide_Int_Cmp.R (H0 : Hp) (L : Items) (r : Int) : Value → Hp → Items → Prop := fun v H' L' => (∃ p, L' = p ++ L) ∧ H0.le H' ∧ wide_Int_Cmp.out r H' v
noncomputable def wide_Int_Cmp.f (k : Nat) (a : wide_Int) (b : wide_Int) : Option Int := (wide_Int_Sign.f k (⟨a.f_neg, a.f_w⟩ : wide_Int)).bind fun y3 => (wide_Int_Sign.f k (⟨b.f_neg, b.f_w⟩ : wide_Int)).bind fun y9 => (cmp_Compare_int.f k y3 y9).bind fun y13 => if ((!decide (y13 = 0)) || (!(a.f_neg == b.f_neg))) = true then (some (y13)) else (if a.f_neg = true then ((wide_less.f k b.f_w a.f_w).bind fun y24 => some (y24)) else ((wide_less.f k a.f_w b.f_w).bind fun y28 => some (y28)))
theorem wide_Int_Cmp.mono : ∀ k y0 y1, LeO (wide_Int_Cmp.f k y0 y1) (wide_Int_Cmp.f (k + 1) y0 y1) := fun k _ _ => by unfold wide_Int_Cmp.f; exact (LeO.bind (wide_Int_Sign.mono k _) fun _ => LeO.bind (wide_Int_Sign.mono k _) fun _ => LeO.bind (cmp_Compare_int.mono k _ _) fun _ => LeO.ite (LeO.refl _) (LeO.ite (LeO.bind (wide_less.mono k _ _) fun _ => LeO.refl _) (LeO.bind (wide_less.mono k _ _) fun _ => LeO.refl _)))
theorem wide_Int_Cmp.calls (k : Nat) {H : Hp} {L : Items} {a : wide_Int} {b : wide_Int} {v0_a : Value} {v1_b : Value} {r : Int} (he : wide_Int_Cmp.f k a b = some r) (h0_a : Ro (Kd.int .u32) H v0_a a.f_w) (h1_b : Ro (Kd.int .u32) H v1_b b.f_w) : Ct Tryz.prog 36 ⟨[.agg ⟨[.bool a.f_neg, v0_a]⟩, .agg ⟨[.bool b.f_neg, v1_b]⟩]⟩ H L (fun v H' L' => L = L' ∧ H = H' ∧ v = .int .i64 r) := by
 refine ct_outs (O := wide_Int_Cmp.out r) (fun _ _ h => h) ?_
 have hle : H.le H := .refl _
 unfold wide_Int_Cmp.f at he
 refine ct_enter (args := [.agg ⟨[.bool a.f_neg, v0_a]⟩, .agg ⟨[.bool b.f_neg, v1_b]⟩]) fn_36 rfl nt_36 rfl <| w_seq <| w_region rfl <| w_a rfl (o_box (v := .agg ⟨[.bool a.f_neg, v0_a]⟩) rfl rfl) ?_
 rintro _ _ _ ⟨b1, rfl, rfl, rfl⟩
 refine w_a rfl (o_box (v := .agg ⟨[.bool b.f_neg, v1_b]⟩) rfl rfl) ?_
 rintro _ _ _ ⟨b2, rfl, rfl, rfl⟩
 refine w_d rfl (d_assign (v := .int .i64 0) rfl) <| w_done <| w_seq <| w_seq ?_
 obtain ⟨y3, hy4, he⟩ := Option.bind_eq_some_iff.1 he
 refine w_drawn (p := 3) (tl := [3, 4, 5]) [[], [(0, some 6)], []] [some 6, some 7, some 8] (fctF (.is (.agg ⟨[.bool a.f_neg, v0_a]⟩) :: .is (.int .i64 y3) :: .is (.agg ⟨[.bool b.f_neg, v1_b]⟩) :: [])) (fun m_ => some (b2, .cells ⟨[.bool b.f_neg, v1_b]⟩ 36 (0, 0)) :: some (b1, .cells ⟨[.bool a.f_neg, v0_a]⟩ 36 (0, 0)) :: L) (fun _ => none) mixed (by kernel_rfl) (by kernel_rfl) rfl (fct_mono (by kernel_rfl)) ⟨(fun H' m_ hH hm_ hu_ => depK_nil <| s_d (m_ 0) rfl (d_loado (v := .agg ⟨[.bool a.f_neg, v0_a]⟩) ty36 rfl (.there .here) rfl rfl rfl rfl) (by exact rfl) rfl), (by rintro H' m_ hH hm_ hu_ _ rfl; exact depK_nil <| s_d (m_ 1) rfl (call_d (o_call co37 (vs := [.agg ⟨[.bool a.f_neg, v0_a]⟩]) rfl (wide_Int_Sign.calls k (a := ⟨a.f_neg, a.f_w⟩) hy4 (h0_a.mono hH)))) (by exact rfl) rfl), (fun H' m_ hH hm_ hu_ => depK_nil <| s_d (m_ 2) rfl (d_loado (v := .agg ⟨[.bool b.f_neg, v1_b]⟩) ty36 rfl .here rfl rfl rfl rfl) (by exact rfl) rfl), trivial⟩ ?_
 intro H7 e8
 rintro _ _ rfl _ _ rfl _ _ rfl
 obtain ⟨y9, hy10, he⟩ := Option.bind_eq_some_iff.1 he
 refine w_d rfl (call_d (o_call co37 (vs := [.agg ⟨[.bool b.f_neg, v1_b]⟩]) rfl (wide_Int_Sign.calls k (a := ⟨b.f_neg, b.f_w⟩) hy10 (h1_b.mono e8)))) ?_
 obtain ⟨y13, hy14, he⟩ := Option.bind_eq_some_iff.1 he
 refine w_d rfl (call_d (o_call co69 (vs := [.int .i64 y3, .int .i64 y9]) rfl (cmp_Compare_int.calls k hy14))) <| w_d rfl (d_assign (v := .int .i64 y13) rfl) <| w_done <| w_seq <| w_region rfl <| w_d rfl (d_move (v := .int .i64 y13) rfl) <| w_d rfl (d_neq rfl rfl) <| w_d rfl (d_move (v := .bool (!decide (y13 = 0))) rfl) <| w_g (g := !(!decide (y13 = 0))) rfl rfl rfl wn_f (fun g17 => d_fld (o' := 0) Tryz.underlying36 rfl sz4 rfl rfl rfl) <| w_g (g := !(!decide (y13 = 0))) rfl rfl rfl wn_f (fun g18 => d_loado (v := .bool a.f_neg) ty4 (cvt g18) (.there .here) rfl rfl rfl rfl) <| w_g (g := !(!decide (y13 = 0))) rfl rfl rfl wn_f (fun g19 => d_fld (o' := 0) Tryz.underlying36 rfl sz4 rfl rfl rfl) <| w_g (g := !(!decide (y13 = 0))) rfl rfl rfl wn_f (fun g20 => d_loado (v := .bool b.f_neg) ty4 (cvt g20) .here rfl rfl rfl rfl) ?_
 refine w_g (g := !(!decide (y13 = 0))) rfl rfl rfl wn_f (fun g21 => d_neb (a := a.f_neg) (b := b.f_neg) Tryz.underlying4 (cvt g21) (cvt g21)) <| w_d rfl (d_or' (b := (!decide (y13 = 0))) (p := (!(a.f_neg == b.f_neg))) rfl rfl rfl) <| w_done ?_
 rcases its he with ⟨c22, he⟩ | ⟨c22, he⟩
 ·
  refine w_then rfl c22 <| w_seq <| w_region rfl <| w_d rfl (d_move (v := .int .i64 y13) rfl) <| w_d rfl (d_assign (v := .int .i64 y13) rfl) <| w_done ?_
  obtain rfl := Option.some.inj he
  refine w_return fn_36 rs_36 (.tmp (v := .int .i64 y13) rfl .nil) <| ⟨⟨[_, _], rfl⟩, hle.trans e8, rfl⟩
 ·
  refine w_else rfl (Bool.eq_false_iff.2 c22) <| w_skip <| w_seq <| w_seq <| w_region rfl <| w_d rfl (d_fld (o' := 0) Tryz.underlying36 rfl sz4 rfl rfl rfl) <| w_d rfl (d_loado (v := .bool a.f_neg) ty4 rfl (.there .here) rfl rfl rfl rfl) <| w_done ?_
  rcases its he with ⟨c23, he⟩ | ⟨c23, he⟩
  ·
   refine w_then rfl c23 <| w_seq <| w_region rfl <| w_d rfl (d_fld (o' := 1) Tryz.underlying36 rfl sz34 rfl rfl rfl) <| w_d rfl (d_loado (v := v1_b) ty34 rfl .here rfl rfl rfl rfl) <| w_d rfl (d_fld (o' := 1) Tryz.underlying36 rfl sz34 rfl rfl rfl) <| w_d rfl (d_loado (v := v0_a) ty34 rfl (.there .here) rfl rfl rfl rfl) ?_
   obtain ⟨y24, hy25, he⟩ := Option.bind_eq_some_iff.1 he
   refine w_d rfl (call_d (o_call co70 (vs := [v1_b, v0_a]) rfl (wide_less.calls k hy25 ((h1_b.mono e8).src) ((h0_a.mono e8).src)))) <| w_d rfl (d_assign (v := .int .i64 y24) rfl) <| w_done ?_
   obtain rfl := Option.some.inj he
   refine w_return fn_36 rs_36 (.tmp (v := .int .i64 y24) rfl .nil) <| ⟨⟨[_, _], rfl⟩, hle.trans e8, rfl⟩
  ·
   refine w_else rfl (Bool.eq_false_iff.2 c23) <| w_skip <| w_seq <| w_region rfl <| w_d rfl (d_fld (o' := 1) Tryz.underlying36 rfl sz34 rfl rfl rfl) <| w_d rfl (d_loado (v := v0_a) ty34 rfl (.there .here) rfl rfl rfl rfl) <| w_d rfl (d_fld (o' := 1) Tryz.underlying36 rfl sz34 rfl rfl rfl) <| w_d rfl (d_loado (v := v1_b) ty34 rfl .here rfl rfl rfl rfl) ?_
   obtain ⟨y28, hy29, he⟩ := Option.bind_eq_some_iff.1 he
   refine w_d rfl (call_d (o_call co70 (vs := [v0_a, v1_b]) rfl (wide_less.calls k hy29 ((h0_a.mono e8).src) ((h1_b.mono e8).src)))) <| w_d rfl (d_assign (v := .int .i64 y28) rfl) <| w_done ?_
   obtain rfl := Option.some.inj he
   refine w_return fn_36 rs_36 (.tmp (v := .int .i64 y28) rfl .nil) <| ⟨⟨[_, _], rfl⟩, hle.trans e8, rfl⟩
/-! ### (radome/ratio.Ratio).Near -/
noncomputable def ratio_Ratio_Near.C : Code := (Tryz.f7.body).getD .skip
def ratio_Ratio_Near.out (r : Int × (Option Int)) (H : Hp) (v : Value) : Prop := v = .tuple ⟨[.int .i64 r.1, errV 71 r.2]⟩
abbrev ratio_Ratio_Near.R (H0 : Hp) (L : Items) (r : Int × (Option Int)) : Value → Hp → Items → Prop := fun v H' L' => (∃ p, L' = p ++ L) ∧ H0.le H' ∧ ratio_Ratio_Near.out r H' v
noncomputable def ratio_Ratio_Near.j1 (k : Nat)  (t4 : Int) (t5 : Option Int) (n : Int) (is_ : Bool) : Option (Int × (Option Int)) := if (!is_) = true then (some (0, some 12)) else (some (n, none))
noncomputable def ratio_Ratio_Near.f (k : Nat) (a : ratio_Ratio) (bits : Int) : Option (Int × (Option Int)) := if ((decide (bits < 0)) || (decide (1024 < bits))) = true then (some (0, some 1)) else ((wide_Int_Move.f k (⟨a.f_n.f_neg, a.f_n.f_w⟩ : wide_Int) (w64 (bits + 1))).bind fun y5 => if y5.2.isSome = true then (some (0, y5.2)) else ((ratio_Ratio_under.f k (⟨(⟨a.f_n.f_neg, a.f_n.f_w⟩ : wide_Int), (⟨a.f_d.f_neg, a.f_d.f_w⟩ : wide_Int)⟩ : ratio_Ratio)).bind fun y13 => (wide_Int_Div.f k (⟨y5.1.f_neg, y5.1.f_w⟩ : wide_Int) (⟨y13.f_neg, y13.f_w⟩ : wide_Int)).bind fun y19 => if y19.2.2.isSome = true then (some (0, y19.2.2)) else ((wide_Int_Move.f k (⟨y19.1.f_neg, y19.1.f_w⟩ : wide_Int) (-1)).bind fun y48 => if y48.2.isSome = true then (some (0, y48.2)) else ((wide_Int_Move.f k (⟨y48.1.f_neg, y48.1.f_w⟩ : wide_Int) 1).bind fun y56 => if y56.2.isSome = true then (some (0, y56.2)) else ((wide_Int_Small.f k (⟨y48.1.f_neg, y48.1.f_w⟩ : wide_Int)).bind fun y64 => (wide_Int_Cmp.f k (⟨y19.1.f_neg, y19.1.f_w⟩ : wide_Int) (⟨y56.1.f_neg, y56.1.f_w⟩ : wide_Int)).bind fun y68 => (gd (!decide (y68 = 0)) (wide_Int_Sign.f k (⟨y19.2.1.f_neg, y19.2.1.f_w⟩ : wide_Int)) (0)).bind fun y74 => if ((!decide (y68 = 0)) && (((!decide (y74 = 0)) || (!y64.2)) || (!decide ((Int.tmod y64.1 2) = 0)))) = true then ((wide_Of.f k 1).bind fun y89 => (wide_Int_Add.f k (⟨y48.1.f_neg, y48.1.f_w⟩ : wide_Int) (⟨y89.f_neg, y89.f_w⟩ : wide_Int)).bind fun y95 => if y95.2.isSome = true then (some (0, y95.2)) else ((wide_Int_Small.f k (⟨y95.1.f_neg, y95.1.f_w⟩ : wide_Int)).bind fun y113 => ratio_Ratio_Near.j1 k 0 none y113.1 y113.2)) else (ratio_Ratio_Near.j1 k 0 none y64.1 y64.2))))))
theorem ratio_Ratio_Near.j1_mono {k : Nat} : ∀ y0 y1 y2 y3, LeO (ratio_Ratio_Near.j1 k y0 y1 y2 y3) (ratio_Ratio_Near.j1 (k + 1) y0 y1 y2 y3) := fun _ _ _ _ => (LeO.ite (LeO.refl _) (LeO.refl _))
theorem ratio_Ratio_Near.mono : ∀ k y0 y1, LeO (ratio_Ratio_Near.f k y0 y1) (ratio_Ratio_Near.f (k + 1) y0 y1) := fun k _ _ => by unfold ratio_Ratio_Near.f; exact (LeO.ite (LeO.refl _) (LeO.bind (wide_Int_Move.mono k _ _) fun _ => LeO.ite (LeO.refl _) (LeO.bind (ratio_Ratio_under.mono k _) fun _ => LeO.bind (wide_Int_Div.mono k _ _) fun _ => LeO.ite (LeO.refl _) (LeO.bind (wide_Int_Move.mono k _ _) fun _ => LeO.ite (LeO.refl _) (LeO.bind (wide_Int_Move.mono k _ _) fun _ => LeO.ite (LeO.refl _) (LeO.bind (wide_Int_Small.mono k _) fun _ => LeO.bind (wide_Int_Cmp.mono k _ _) fun _ => LeO.bind (LeO.gd (wide_Int_Sign.mono k _)) fun _ => LeO.ite (LeO.bind (wide_Of.mono k _) fun _ => LeO.bind (wide_Int_Add.mono k _ _) fun _ => LeO.ite (LeO.refl _) (LeO.bind (wide_Int_Small.mono k _) fun _ => ratio_Ratio_Near.j1_mono (k := k)  _ _ _ _)) (ratio_Ratio_Near.j1_mono (k := k)  _ _ _ _)))))))
noncomputable def ratio_Ratio_Near.Kj1 : List Item := .code (seqR (seqR (seqR (seqR (seqR (seqR (seqR (seqR (seqR (seqR (seqR (seqR ratio_Ratio_Near.C)))))))))))) :: []
theorem ratio_Ratio_Near.j1_ok {k : Nat} {H0 H : Hp} {L : Items} {r : Int × (Option Int)} {jk_ : Nat → Value} {t4 : Int} {t5 : Option Int} {n : Int} {is_ : Bool} (hle : H0.le H) (he : ratio_Ratio_Near.j1 k t4 t5 n is_ = some r) : Wp Tryz.prog 7 102 ratio_Ratio_Near.Kj1 (upd (upd (upd (upd jk_ 4 (.int .i64 t4)) 5 (errV 71 t5)) 12 (.int .i64 n)) 13 (.bool is_)) H (L) (ratio_Ratio_Near.R H0 L r) := by
 unfold ratio_Ratio_Near.j1 at he
 unfold ratio_Ratio_Near.Kj1
 refine w_seq <| w_seq <| w_region rfl <| w_d rfl (d_move (v := .bool is_) rfl) <| w_d rfl (d_not (b := is_) rfl) <| w_done ?_
 rcases its he with ⟨c117, he⟩ | ⟨c117, he⟩
 ·
  refine w_then rfl c117 <| w_seq <| w_region rfl <| w_d rfl (d_iface (v := .int .i64 12) Tryz.underlying71 rfl rfl) <| w_d rfl (d_assign (v := .int .i64 0) rfl) <| w_d rfl (d_assign (v := errV 71 (some 12)) rfl) <| w_done ?_
  obtain rfl := Option.some.inj he
  refine w_return fn_7 rs_7 (.tmp (v := .int .i64 0) rfl (.tmp (v := errV 71 (some 12)) rfl .nil)) <| ⟨⟨[], rfl⟩, hle, rfl⟩
 ·
  refine w_else rfl (Bool.eq_false_iff.2 c117) <| w_skip <| w_seq <| w_region rfl <| w_d rfl (d_move (v := .int .i64 n) rfl) <| w_d rfl (d_assign (v := .int .i64 n) rfl) <| w_d rfl (d_assign (v := errV 71 none) rfl) <| w_done ?_
  obtain rfl := Option.some.inj he
  refine w_return fn_7 rs_7 (.tmp (v := .int .i64 n) rfl (.tmp (v := errV 71 none) rfl .nil)) <| ⟨⟨[], rfl⟩, hle, rfl⟩
theorem ratio_Ratio_Near.calls (k : Nat) {H : Hp} {L : Items} {a : ratio_Ratio} {bits : Int} {v0_a : Value} {v1_a : Value} {r : Int × (Option Int)} (he : ratio_Ratio_Near.f k a bits = some r) (h0_a : Ro (Kd.int .u32) H v0_a a.f_n.f_w) (h1_a : Ro (Kd.int .u32) H v1_a a.f_d.f_w) : Ct Tryz.prog 7 ⟨[.agg ⟨[.bool a.f_n.f_neg, v0_a, .bool a.f_d.f_neg, v1_a]⟩, .int .i64 bits]⟩ H L (fun v H' L' => L = L' ∧ H = H' ∧ v = .tuple ⟨[.int .i64 r.1, errV 71 r.2]⟩) := by
 refine ct_outs (O := ratio_Ratio_Near.out r) (fun _ _ h => h) ?_
 have hle : H.le H := .refl _
 unfold ratio_Ratio_Near.f at he
 refine ct_enter (args := [.agg ⟨[.bool a.f_n.f_neg, v0_a, .bool a.f_d.f_neg, v1_a]⟩, .int .i64 bits]) fn_7 rfl nt_7 rfl <| w_seq <| w_region rfl <| w_a rfl (o_box (v := .agg ⟨[.bool a.f_n.f_neg, v0_a, .bool a.f_d.f_neg, v1_a]⟩) rfl rfl) ?_
 rintro _ _ _ ⟨b1, rfl, rfl, rfl⟩
 refine w_d rfl (d_assign (v := .int .i64 0) rfl) <| w_d rfl (d_assign (v := errV 71 none) rfl) <| w_done <| w_seq <| w_seq <| w_region rfl <| w_d rfl (d_move (v := .int .i64 bits) rfl) <| w_d rfl (d_lss rfl rfl) <| w_d rfl (d_move (v := .bool (decide (bits < 0))) rfl) <| w_g (g := !(decide (bits < 0))) rfl rfl rfl wn_f (fun g2 => d_move (v := .int .i64 bits) rfl) <| w_g (g := !(decide (bits < 0))) rfl rfl rfl wn_f (fun g3 => d_gtr (cvt g3) rfl) <| w_d rfl (d_or' (b := (decide (bits < 0))) (p := (decide (1024 < bits))) rfl rfl rfl) ?_
 refine w_done ?_
 rcases its he with ⟨c4, he⟩ | ⟨c4, he⟩
 ·
  refine w_then rfl c4 <| w_seq <| w_region rfl <| w_d rfl (d_iface (v := .int .i64 1) Tryz.underlying71 rfl rfl) <| w_d rfl (d_assign (v := .int .i64 0) rfl) <| w_d rfl (d_assign (v := errV 71 (some 1)) rfl) <| w_done ?_
  obtain rfl := Option.some.inj he
  refine w_return fn_7 rs_7 (.tmp (v := .int .i64 0) rfl (.tmp (v := errV 71 (some 1)) rfl .nil)) <| ⟨⟨[_], rfl⟩, hle, rfl⟩
 ·
  refine w_else rfl (Bool.eq_false_iff.2 c4) <| w_skip <| w_seq <| w_region rfl <| w_d rfl (d_fld (o' := 0) Tryz.underlying38 rfl sz36 rfl rfl rfl) <| w_d rfl (d_loado (v := .agg ⟨[.bool a.f_n.f_neg, v0_a]⟩) ty36 rfl .here rfl rfl rfl rfl) <| w_d rfl (d_move (v := .int .i64 bits) rfl) <| w_d rfl (d_add (c := w64 (bits + 1)) rfl rfl rfl) ?_
  obtain ⟨y5, hy6, he⟩ := Option.bind_eq_some_iff.1 he
  refine w_a rfl (o_call co32 (vs := [.agg ⟨[.bool a.f_n.f_neg, v0_a]⟩, .int .i64 (w64 (bits + 1))]) rfl (wide_Int_Move.calls k (a := ⟨a.f_n.f_neg, a.f_n.f_w⟩) hy6 h0_a)) ?_
  rintro _ H7 _ ⟨rfl, e8, ⟨v9, rfl, h10⟩⟩
  refine w_d rfl (d_move (v := .tuple ⟨[.agg ⟨[.bool y5.1.f_neg, v9]⟩, errV 71 y5.2]⟩) rfl) <| w_d rfl (d_ext (vs := [.agg ⟨[.bool y5.1.f_neg, v9]⟩, errV 71 y5.2]) rfl rfl) <| w_d rfl (d_ext (vs := [.agg ⟨[.bool y5.1.f_neg, v9]⟩, errV 71 y5.2]) rfl rfl) <| w_a rfl (o_alloc zr36 rfl) ?_
  rintro _ _ _ ⟨b11, rfl, rfl, rfl⟩
  refine w_a0 rfl (o_store (v := .agg ⟨[.bool y5.1.f_neg, v9]⟩) sz36 rfl rfl rfl rfl (one_cons rfl (one_cons (h10.one) one_nil)) .here (.here (.here .done))) ?_
  rintro _ _ _ ⟨rfl, rfl, rfl⟩
  refine w_d rfl (d_assign (v := errV 71 y5.2) rfl) <| w_done <| w_seq <| w_seq <| w_region rfl <| w_d rfl (d_move (v := errV 71 y5.2) rfl) <| w_d rfl (d_nenil (e := y5.2) Tryz.underlying32 rfl) <| w_done ?_
  rcases its he with ⟨c12, he⟩ | ⟨c12, he⟩
  ·
   refine w_then rfl c12 <| w_seq <| w_region rfl <| w_d rfl (d_move (v := errV 71 y5.2) rfl) <| w_d rfl (d_assign (v := .int .i64 0) rfl) <| w_d rfl (d_assign (v := errV 71 y5.2) rfl) <| w_done ?_
   obtain rfl := Option.some.inj he
   refine w_return fn_7 rs_7 (.tmp (v := .int .i64 0) rfl (.tmp (v := errV 71 y5.2) rfl .nil)) <| ⟨⟨[_, _], rfl⟩, hle.trans e8, rfl⟩
  ·
   refine w_else rfl (Bool.eq_false_iff.2 c12) <| w_skip <| w_seq ?_
   obtain ⟨y13, hy14, he⟩ := Option.bind_eq_some_iff.1 he
   obtain ⟨y19, hy20, he⟩ := Option.bind_eq_some_iff.1 he
   refine w_none (w_none (?_))
   refine w_drawn (p := 12) (tl := [12]) [[], [], [(1, some 36)], [(0, some 35), (2, some 37)], [(3, some 38)], [(4, some 34)], [(4, some 34)], [(4, some 34)], [], [], [(5, some 39), (8, some 8)], [(6, some 40), (9, some 9)]] [some 35, some 36, some 37, some 38, some 34, some 39, some 40, some 41, some 8, some 9, none, none] (fctF (.is (.agg ⟨[.bool y5.1.f_neg, v9]⟩) :: .is (.agg ⟨[.bool a.f_n.f_neg, v0_a, .bool a.f_d.f_neg, v1_a]⟩) :: .of (ratio_Ratio_under.out y13) (ratio_Ratio_under.out_mono _) :: .of (wide_Int_Div.out y19) (wide_Int_Div.out_mono _) :: .of (fun H v => ∃ v27, ∃ v29, v = .tuple ⟨[.agg ⟨[.bool y19.1.f_neg, v27]⟩, .agg ⟨[.bool y19.2.1.f_neg, v29]⟩, errV 71 y19.2.2]⟩ ∧ Ro (Kd.int .u32) H v27 y19.1.f_w ∧ Ro (Kd.int .u32) H v29 y19.2.1.f_w) (by rintro _ _ _ hle ⟨v27, v29, rfl, h28, h30⟩; exact ⟨v27, v29, rfl, h28.mono hle, h30.mono hle⟩) :: .of (fun H v => ∃ v31, v = .agg ⟨[.bool y19.1.f_neg, v31]⟩ ∧ Ro (Kd.int .u32) H v31 y19.1.f_w) (by rintro _ _ _ hle ⟨v31, rfl, h32⟩; exact ⟨v31, rfl, h32.mono hle⟩) :: .of (fun H v => ∃ v33, v = .agg ⟨[.bool y19.2.1.f_neg, v33]⟩ ∧ Ro (Kd.int .u32) H v33 y19.2.1.f_w) (by rintro _ _ _ hle ⟨v33, rfl, h34⟩; exact ⟨v33, rfl, h34.mono hle⟩) :: .is (errV 71 y19.2.2) :: .box 36 [.bool false, .slice none 0 0] :: .box 36 [.bool false, .slice none 0 0] :: .st 8 (fun H bq_ itq_ => ∃ v37, itq_ = some (bq_, .cells ⟨[.bool y19.1.f_neg, v37]⟩ 36 (0, 0)) ∧ Ro (Kd.int .u32) H v37 y19.1.f_w) (by rintro _ _ _ _ hle ⟨v37, rfl, h38⟩; exact ⟨v37, rfl, h38.mono hle⟩) :: .st 9 (fun H bq_ itq_ => ∃ v41, itq_ = some (bq_, .cells ⟨[.bool y19.2.1.f_neg, v41]⟩ 36 (0, 0)) ∧ Ro (Kd.int .u32) H v41 y19.2.1.f_w) (by rintro _ _ _ _ hle ⟨v41, rfl, h42⟩; exact ⟨v41, rfl, h42.mono hle⟩) :: [])) (fun m_ => pk (m_ 10) (m_ 8) :: pk (m_ 11) (m_ 9) :: some (b11, .cells ⟨[.bool y5.1.f_neg, v9]⟩ 36 (0, 0)) :: some (b1, .cells ⟨[.bool a.f_n.f_neg, v0_a, .bool a.f_d.f_neg, v1_a]⟩ 38 (0, 0)) :: L) (fun _ => none) mixed (by kernel_rfl) (by kernel_rfl) rfl (fct_mono (by kernel_rfl)) ⟨(fun H' m_ hH hm_ hu_ => depK_nil <| s_d (m_ 0) rfl (d_loado (v := .agg ⟨[.bool y5.1.f_neg, v9]⟩) ty36 rfl (.there (.there .here)) rfl rfl rfl rfl) (by exact rfl) rfl), (fun H' m_ hH hm_ hu_ => depK_nil <| s_d (m_ 1) rfl (d_loado (v := .agg ⟨[.bool a.f_n.f_neg, v0_a, .bool a.f_d.f_neg, v1_a]⟩) ty38 rfl (.there (.there (.there .here))) rfl rfl rfl rfl) (by exact rfl) rfl), (by rintro H' m_ hH hm_ hu_ _ rfl; exact depK_nil <| s_k (m_ 2) rfl (o_call co34 (vs := [.agg ⟨[.bool a.f_n.f_neg, v0_a, .bool a.f_d.f_neg, v1_a]⟩]) rfl (ratio_Ratio_under.calls k (a := ⟨⟨a.f_n.f_neg, a.f_n.f_w⟩, ⟨a.f_d.f_neg, a.f_d.f_w⟩⟩) hy14 (h0_a.mono (e8.trans hH)) (h1_a.mono (e8.trans hH)))) rfl (by rintro v_ H_ _ ⟨rfl, e_, h_⟩; exact ⟨rfl, e_, h_⟩)), (by rintro H' m_ hH hm_ hu_ _ rfl _ ⟨v17, rfl, h18⟩; exact depK_nil <| s_k (m_ 3) rfl (o_call co33 (vs := [.agg ⟨[.bool y5.1.f_neg, v9]⟩, .agg ⟨[.bool y13.f_neg, v17]⟩]) rfl (wide_Int_Div.calls k (a := ⟨y5.1.f_neg, y5.1.f_w⟩) (b := ⟨y13.f_neg, y13.f_w⟩) hy20 (h10.mono hH) h18)) rfl (by rintro v_ H_ _ ⟨rfl, e_, h_⟩; exact ⟨rfl, e_, h_⟩)), (by rintro H' m_ hH hm_ hu_ _ ⟨v23, v25, rfl, h24, h26⟩; exact depK_nil <| s_d (m_ 4) rfl (d_move (v := .tuple ⟨[.agg ⟨[.bool y19.1.f_neg, v23]⟩, .agg ⟨[.bool y19.2.1.f_neg, v25]⟩, errV 71 y19.2.2]⟩) rfl) (by exact ⟨v23, v25, rfl, h24, h26⟩) rfl), (by rintro H' m_ hH hm_ hu_ _ ⟨v27, v29, rfl, h28, h30⟩; exact depK_nil <| s_d (m_ 5) rfl (d_ext (vs := [.agg ⟨[.bool y19.1.f_neg, v27]⟩, .agg ⟨[.bool y19.2.1.f_neg, v29]⟩, errV 71 y19.2.2]) rfl rfl) (by exact ⟨v27, rfl, h28⟩) rfl), (by rintro H' m_ hH hm_ hu_ _ ⟨v27, v29, rfl, h28, h30⟩; exact depK_nil <| s_d (m_ 6) rfl (d_ext (vs := [.agg ⟨[.bool y19.1.f_neg, v27]⟩, .agg ⟨[.bool y19.2.1.f_neg, v29]⟩, errV 71 y19.2.2]) rfl rfl) (by exact ⟨v29, rfl, h30⟩) rfl), (by rintro H' m_ hH hm_ hu_ _ ⟨v27, v29, rfl, h28, h30⟩; exact depK_nil <| s_d (m_ 7) rfl (d_ext (vs := [.agg ⟨[.bool y19.1.f_neg, v27]⟩, .agg ⟨[.bool y19.2.1.f_neg, v29]⟩, errV 71 y19.2.2]) rfl rfl) (by exact rfl) rfl), (fun H' m_ hH hm_ hu_ => depK_nil <| s_box hm_ rfl rfl (o_alloc zr36 rfl) rfl (fun _ => (pk_upd (hu_ 10 (by kernel_rfl)))) (by exact fun b_ => ⟨b_, rfl, rfl⟩)), (fun H' m_ hH hm_ hu_ => depK_nil <| s_box hm_ rfl rfl (o_alloc zr36 rfl) rfl (fun _ => (.there (pk_upd (hu_ 11 (by kernel_rfl))))) (by exact fun b_ => ⟨b_, rfl, rfl⟩)), (by rintro H' m_ hH hm_ hu_ _ ⟨v31, rfl, h32⟩ _ ⟨b35, rfl, hb35_⟩; exact depK_nil <| s_store2 (Λ' := fun z_ => z_ :: pk (m_ 11) (m_ 9) :: some (b11, .cells ⟨[.bool y5.1.f_neg, v9]⟩ 36 (0, 0)) :: some (b1, .cells ⟨[.bool a.f_n.f_neg, v0_a, .bool a.f_d.f_neg, v1_a]⟩ 38 (0, 0)) :: L) (some (b35, .cells ⟨[.bool y19.1.f_neg, v31]⟩ 36 (0, 0))) hm_ rfl hb35_ rfl (o_store (v := .agg ⟨[.bool y19.1.f_neg, v31]⟩) sz36 rfl rfl rfl rfl (one_cons rfl (one_cons (h32.one) one_nil)) .here (.here (.here .done))) rfl rfl (by exact ⟨rfl, v31, congrArg (fun b_ => (some (b_, Obj.cells ⟨[.bool y19.1.f_neg, v31]⟩ 36 (0, 0)) : Item')) (bof_eq hb35_).symm, h32⟩)), (by rintro H' m_ hH hm_ hu_ _ ⟨v33, rfl, h34⟩ _ ⟨b36, rfl, hb36_⟩; exact depK_nil <| s_store2 (Λ' := fun z_ => pk (m_ 10) (m_ 8) :: z_ :: some (b11, .cells ⟨[.bool y5.1.f_neg, v9]⟩ 36 (0, 0)) :: some (b1, .cells ⟨[.bool a.f_n.f_neg, v0_a, .bool a.f_d.f_neg, v1_a]⟩ 38 (0, 0)) :: L) (some (b36, .cells ⟨[.bool y19.2.1.f_neg, v33]⟩ 36 (0, 0))) hm_ rfl hb36_ rfl (o_store (v := .agg ⟨[.bool y19.2.1.f_neg, v33]⟩) sz36 rfl rfl rfl rfl (one_cons rfl (one_cons (h34.one) one_nil)) (.there .here) (.here (.here .done))) rfl rfl (by exact ⟨rfl, v33, congrArg (fun b_ => (some (b_, Obj.cells ⟨[.bool y19.2.1.f_neg, v33]⟩ 36 (0, 0)) : Item')) (bof_eq hb36_).symm, h34⟩)), trivial⟩ ?_
   intro H45 e46
   rintro _ _ rfl _ _ rfl _ _ ⟨v17, rfl, h18⟩ _ _ ⟨v23, v25, rfl, h24, h26⟩ _ _ ⟨v27, v29, rfl, h28, h30⟩ _ _ ⟨v31, rfl, h32⟩ _ _ ⟨v33, rfl, h34⟩ _ _ rfl _ _ ⟨b35, rfl, rfl⟩ _ _ ⟨b36, rfl, rfl⟩ _ i39 ⟨rfl, v37, h40, h38⟩ _ i43 ⟨rfl, v41, h44, h42⟩
   replace h40 : i39 = some (b35, .cells ⟨[.bool y19.1.f_neg, v37]⟩ 36 (0, 0)) := h40
   subst h40
   replace h44 : i43 = some (b36, .cells ⟨[.bool y19.2.1.f_neg, v41]⟩ 36 (0, 0)) := h44
   subst h44
   refine w_it (L' := some (b35, .cells ⟨[.bool y19.1.f_neg, v37]⟩ 36 (0, 0)) :: some (b36, .cells ⟨[.bool y19.2.1.f_neg, v41]⟩ 36 (0, 0)) :: some (b11, .cells ⟨[.bool y5.1.f_neg, v9]⟩ 36 (0, 0)) :: some (b1, .cells ⟨[.bool a.f_n.f_neg, v0_a, .bool a.f_d.f_neg, v1_a]⟩ 38 (0, 0)) :: L) rfl <| w_d rfl (d_assign (v := errV 71 y19.2.2) rfl) <| w_done <| w_seq <| w_seq <| w_region rfl <| w_d rfl (d_move (v := errV 71 y19.2.2) rfl) <| w_d rfl (d_nenil (e := y19.2.2) Tryz.underlying32 rfl) <| w_done ?_
   rcases its he with ⟨c47, he⟩ | ⟨c47, he⟩
   ·
    refine w_then rfl c47 <| w_seq <| w_region rfl <| w_d rfl (d_move (v := errV 71 y19.2.2) rfl) <| w_d rfl (d_assign (v := .int .i64 0) rfl) <| w_d rfl (d_assign (v := errV 71 y19.2.2) rfl) <| w_done ?_
    obtain rfl := Option.some.inj he
    refine w_return fn_7 rs_7 (.tmp (v := .int .i64 0) rfl (.tmp (v := errV 71 y19.2.2) rfl .nil)) <| ⟨⟨[_, _, _, _], rfl⟩, hle.trans (e8.trans e46), rfl⟩
   ·
    refine w_else rfl (Bool.eq_false_iff.2 c47) <| w_skip <| w_seq <| w_region rfl <| w_d rfl (d_loado (v := .agg ⟨[.bool y19.1.f_neg, v37]⟩) ty36 rfl .here rfl rfl rfl rfl) ?_
    obtain ⟨y48, hy49, he⟩ := Option.bind_eq_some_iff.1 he
    refine w_a rfl (o_call co32 (vs := [.agg ⟨[.bool y19.1.f_neg, v37]⟩, .int .i64 (-1)]) rfl (wide_Int_Move.calls k (a := ⟨y19.1.f_neg, y19.1.f_w⟩) hy49 h38)) ?_
    rintro _ H50 _ ⟨rfl, e51, ⟨v52, rfl, h53⟩⟩
    refine w_d rfl (d_move (v := .tuple ⟨[.agg ⟨[.bool y48.1.f_neg, v52]⟩, errV 71 y48.2]⟩) rfl) <| w_d rfl (d_ext (vs := [.agg ⟨[.bool y48.1.f_neg, v52]⟩, errV 71 y48.2]) rfl rfl) <| w_d rfl (d_ext (vs := [.agg ⟨[.bool y48.1.f_neg, v52]⟩, errV 71 y48.2]) rfl rfl) <| w_a rfl (o_alloc zr36 rfl) ?_
    rintro _ _ _ ⟨b54, rfl, rfl, rfl⟩
    refine w_a0 rfl (o_store (v := .agg ⟨[.bool y48.1.f_neg, v52]⟩) sz36 rfl rfl rfl rfl (one_cons rfl (one_cons (h53.one) one_nil)) .here (.here (.here .done))) ?_
    rintro _ _ _ ⟨rfl, rfl, rfl⟩
    refine w_d rfl (d_assign (v := errV 71 y48.2) rfl) <| w_done <| w_seq <| w_seq <| w_region rfl <| w_d rfl (d_move (v := errV 71 y48.2) rfl) <| w_d rfl (d_nenil (e := y48.2) Tryz.underlying32 rfl) <| w_done ?_
    rcases its he with ⟨c55, he⟩ | ⟨c55, he⟩
    ·
     refine w_then rfl c55 <| w_seq <| w_region rfl <| w_d rfl (d_move (v := errV 71 y48.2) rfl) <| w_d rfl (d_assign (v := .int .i64 0) rfl) <| w_d rfl (d_assign (v := errV 71 y48.2) rfl) <| w_done ?_
     obtain rfl := Option.some.inj he
     refine w_return fn_7 rs_7 (.tmp (v := .int .i64 0) rfl (.tmp (v := errV 71 y48.2) rfl .nil)) <| ⟨⟨[_, _, _, _, _], rfl⟩, hle.trans ((e8.trans e46).trans e51), rfl⟩
    ·
     refine w_else rfl (Bool.eq_false_iff.2 c55) <| w_skip <| w_seq <| w_region rfl <| w_d rfl (d_loado (v := .agg ⟨[.bool y48.1.f_neg, v52]⟩) ty36 rfl .here rfl rfl rfl rfl) ?_
     obtain ⟨y56, hy57, he⟩ := Option.bind_eq_some_iff.1 he
     refine w_a rfl (o_call co32 (vs := [.agg ⟨[.bool y48.1.f_neg, v52]⟩, .int .i64 1]) rfl (wide_Int_Move.calls k (a := ⟨y48.1.f_neg, y48.1.f_w⟩) hy57 h53)) ?_
     rintro _ H58 _ ⟨rfl, e59, ⟨v60, rfl, h61⟩⟩
     refine w_d rfl (d_move (v := .tuple ⟨[.agg ⟨[.bool y56.1.f_neg, v60]⟩, errV 71 y56.2]⟩) rfl) <| w_d rfl (d_ext (vs := [.agg ⟨[.bool y56.1.f_neg, v60]⟩, errV 71 y56.2]) rfl rfl) <| w_d rfl (d_ext (vs := [.agg ⟨[.bool y56.1.f_neg, v60]⟩, errV 71 y56.2]) rfl rfl) <| w_a rfl (o_alloc zr36 rfl) ?_
     rintro _ _ _ ⟨b62, rfl, rfl, rfl⟩
     refine w_a0 rfl (o_store (v := .agg ⟨[.bool y56.1.f_neg, v60]⟩) sz36 rfl rfl rfl rfl (one_cons rfl (one_cons (h61.one) one_nil)) .here (.here (.here .done))) ?_
     rintro _ _ _ ⟨rfl, rfl, rfl⟩
     refine w_d rfl (d_assign (v := errV 71 y56.2) rfl) <| w_done <| w_seq <| w_seq <| w_region rfl <| w_d rfl (d_move (v := errV 71 y56.2) rfl) <| w_d rfl (d_nenil (e := y56.2) Tryz.underlying32 rfl) <| w_done ?_
     rcases its he with ⟨c63, he⟩ | ⟨c63, he⟩
     ·
      refine w_then rfl c63 <| w_seq <| w_region rfl <| w_d rfl (d_move (v := errV 71 y56.2) rfl) <| w_d rfl (d_assign (v := .int .i64 0) rfl) <| w_d rfl (d_assign (v := errV 71 y56.2) rfl) <| w_done ?_
      obtain rfl := Option.some.inj he
      refine w_return fn_7 rs_7 (.tmp (v := .int .i64 0) rfl (.tmp (v := errV 71 y56.2) rfl .nil)) <| ⟨⟨[_, _, _, _, _, _], rfl⟩, hle.trans (((e8.trans e46).trans e51).trans e59), rfl⟩
     ·
      refine w_else rfl (Bool.eq_false_iff.2 c63) <| w_skip <| w_seq <| w_region rfl <| w_d rfl (d_loado (v := .agg ⟨[.bool y48.1.f_neg, v52]⟩) ty36 rfl (.there .here) rfl rfl rfl rfl) ?_
      obtain ⟨y64, hy65, he⟩ := Option.bind_eq_some_iff.1 he
      refine w_d rfl (call_d (o_call co35 (vs := [.agg ⟨[.bool y48.1.f_neg, v52]⟩]) rfl (wide_Int_Small.calls k (a := ⟨y48.1.f_neg, y48.1.f_w⟩) hy65 (h53.mono e59)))) <| w_d rfl (d_move (v := .tuple ⟨[.int .i64 y64.1, .bool y64.2]⟩) rfl) <| w_d rfl (d_ext (vs := [.int .i64 y64.1, .bool y64.2]) rfl rfl) <| w_d rfl (d_ext (vs := [.int .i64 y64.1, .bool y64.2]) rfl rfl) <| w_d rfl (d_assign (v := .int .i64 y64.1) rfl) <| w_d rfl (d_assign (v := .bool y64.2) rfl) <| w_done <| w_seq <| w_seq <| w_region rfl <| w_d rfl (d_loado (v := .agg ⟨[.bool y19.1.f_neg, v37]⟩) ty36 rfl (.there (.there .here)) rfl rfl rfl rfl) <| w_d rfl (d_loado (v := .agg ⟨[.bool y56.1.f_neg, v60]⟩) ty36 rfl .here rfl rfl rfl rfl) ?_
      obtain ⟨y68, hy69, he⟩ := Option.bind_eq_some_iff.1 he
      refine w_d rfl (call_d (o_call co36 (vs := [.agg ⟨[.bool y19.1.f_neg, v37]⟩, .agg ⟨[.bool y56.1.f_neg, v60]⟩]) rfl (wide_Int_Cmp.calls k (a := ⟨y19.1.f_neg, y19.1.f_w⟩) (b := ⟨y56.1.f_neg, y56.1.f_w⟩) hy69 (h38.mono (e51.trans e59)) h61))) <| w_d rfl (d_neq rfl rfl) <| w_d rfl (d_move (v := .bool (!decide (y68 = 0))) rfl) <| w_g (g := !decide (y68 = 0)) rfl rfl rfl wn_t (fun g72 => d_loado (v := .agg ⟨[.bool y19.2.1.f_neg, v41]⟩) ty36 rfl (.there (.there (.there .here))) rfl rfl rfl rfl) ?_
      obtain ⟨y74, hy75, he⟩ := Option.bind_eq_some_iff.1 he
      refine w_g (g := !decide (y68 = 0)) rfl rfl rfl wn_t (fun g73 => call_d (o_call co37 (vs := [.agg ⟨[.bool y19.2.1.f_neg, v41]⟩]) (acons (cvt g73) (anil)) (wide_Int_Sign.calls k (a := ⟨y19.2.1.f_neg, y19.2.1.f_w⟩) (gd_t g73 hy75) (h42.mono (e51.trans e59))))) <| w_g (g := !decide (y68 = 0)) rfl rfl rfl wn_t (fun g78 => d_neq (cvt g78) rfl) <| w_g (g := !decide (y68 = 0)) rfl rfl rfl wn_t (fun g79 => d_move (v := .bool (!decide (y74 = 0))) (cvt g79)) <| w_g (g := (!decide (y68 = 0)) && (!(!decide (y74 = 0)))) rfl rfl rfl wn_gf (fun g80 => d_move (v := .bool y64.2) rfl) <| w_g (g := (!decide (y68 = 0)) && (!(!decide (y74 = 0)))) rfl rfl rfl wn_gf (fun g81 => d_not (b := y64.2) (cvt g81)) <| w_g (g := !decide (y68 = 0)) rfl rfl rfl wn_t (fun g82 => d_or' (b := (!decide (y74 = 0))) (p := (!y64.2)) (cvt g82) rfl (cva g82)) <| w_g (g := !decide (y68 = 0)) rfl rfl rfl wn_t (fun g83 => d_move (v := .bool ((!decide (y74 = 0)) || (!y64.2))) (cvt g83)) <| w_g (g := (!decide (y68 = 0)) && (!((!decide (y74 = 0)) || (!y64.2)))) rfl rfl rfl wn_gf (fun g84 => d_move (v := .int .i64 y64.1) rfl) <| w_g (g := (!decide (y68 = 0)) && (!((!decide (y74 = 0)) || (!y64.2)))) rfl rfl rfl wn_gf (fun g85 => d_rem (cvt g85) rfl (by decide)) <| w_g (g := (!decide (y68 = 0)) && (!((!decide (y74 = 0)) || (!y64.2)))) rfl rfl rfl wn_gf (fun g86 => d_neq (cvt g86) rfl) <| w_g (g := !decide (y68 = 0)) rfl rfl rfl wn_t (fun g87 => d_or' (b := ((!decide (y74 = 0)) || (!y64.2))) (p := (!decide ((Int.tmod y64.1 2) = 0))) (cvt g87) rfl (cva g87)) <| w_d rfl (d_and' (b := (!decide (y68 = 0))) (p := (((!decide (y74 = 0)) || (!y64.2)) || (!decide ((Int.tmod y64.1 2) = 0)))) rfl rfl rfl) ?_
      refine w_done ?_
      rcases its he with ⟨c88, he⟩ | ⟨c88, he⟩
      ·
       refine w_then rfl c88 <| w_seq ?_
       obtain ⟨y89, hy90, he⟩ := Option.bind_eq_some_iff.1 he
       obtain ⟨y95, hy96, he⟩ := Option.bind_eq_some_iff.1 he
       refine w_none (?_)
       refine w_drawn (p := 8) (tl := [8]) [[], [], [(0, some 85), (1, some 86)], [(2, some 87)], [(3, some 84)], [(3, some 84)], [], [(4, some 88), (6, some 14)]] [some 85, some 86, some 87, some 84, some 88, some 89, some 14, none] (fctF (.is (.agg ⟨[.bool y48.1.f_neg, v52]⟩) :: .of (wide_Of.out y89) (wide_Of.out_mono _) :: .of (wide_Int_Add.out y95) (wide_Int_Add.out_mono _) :: .of (fun H v => ∃ v101, v = .tuple ⟨[.agg ⟨[.bool y95.1.f_neg, v101]⟩, errV 71 y95.2]⟩ ∧ Ro (Kd.int .u32) H v101 y95.1.f_w) (by rintro _ _ _ hle ⟨v101, rfl, h102⟩; exact ⟨v101, rfl, h102.mono hle⟩) :: .of (fun H v => ∃ v103, v = .agg ⟨[.bool y95.1.f_neg, v103]⟩ ∧ Ro (Kd.int .u32) H v103 y95.1.f_w) (by rintro _ _ _ hle ⟨v103, rfl, h104⟩; exact ⟨v103, rfl, h104.mono hle⟩) :: .is (errV 71 y95.2) :: .box 36 [.bool false, .slice none 0 0] :: .st 6 (fun H bq_ itq_ => ∃ v106, itq_ = some (bq_, .cells ⟨[.bool y95.1.f_neg, v106]⟩ 36 (0, 0)) ∧ Ro (Kd.int .u32) H v106 y95.1.f_w) (by rintro _ _ _ _ hle ⟨v106, rfl, h107⟩; exact ⟨v106, rfl, h107.mono hle⟩) :: [])) (fun m_ => pk (m_ 7) (m_ 6) :: some (b62, .cells ⟨[.bool y56.1.f_neg, v60]⟩ 36 (0, 0)) :: some (b54, .cells ⟨[.bool y48.1.f_neg, v52]⟩ 36 (0, 0)) :: some (b35, .cells ⟨[.bool y19.1.f_neg, v37]⟩ 36 (0, 0)) :: some (b36, .cells ⟨[.bool y19.2.1.f_neg, v41]⟩ 36 (0, 0)) :: some (b11, .cells ⟨[.bool y5.1.f_neg, v9]⟩ 36 (0, 0)) :: some (b1, .cells ⟨[.bool a.f_n.f_neg, v0_a, .bool a.f_d.f_neg, v1_a]⟩ 38 (0, 0)) :: L) (fun _ => none) mixed (by kernel_rfl) (by kernel_rfl) rfl (fct_mono (by kernel_rfl)) ⟨(fun H' m_ hH hm_ hu_ => depK_nil <| s_d (m_ 0) rfl (d_loado (v := .agg ⟨[.bool y48.1.f_neg, v52]⟩) ty36 rfl (.there (.there .here)) rfl rfl rfl rfl) (by exact rfl) rfl), (fun H' m_ hH hm_ hu_ => depK_nil <| s_k (m_ 1) rfl (o_call co14 (vs := [.int .i64 1]) rfl (wide_Of.calls k hy90)) rfl (by rintro v_ H_ _ ⟨rfl, e_, h_⟩; exact ⟨rfl, e_, h_⟩)), (by rintro H' m_ hH hm_ hu_ _ rfl _ ⟨v93, rfl, h94⟩; exact depK_nil <| s_k (m_ 2) rfl (o_call co38 (vs := [.agg ⟨[.bool y48.1.f_neg, v52]⟩, .agg ⟨[.bool y89.f_neg, v93]⟩]) rfl (wide_Int_Add.calls k (a := ⟨y48.1.f_neg, y48.1.f_w⟩) (b := ⟨y89.f_neg, y89.f_w⟩) hy96 (h53.mono (e59.trans hH)) h94)) rfl (by rintro v_ H_ _ ⟨rfl, e_, h_⟩; exact ⟨rfl, e_, h_⟩)), (by rintro H' m_ hH hm_ hu_ _ ⟨v99, rfl, h100⟩; exact depK_nil <| s_d (m_ 3) rfl (d_move (v := .tuple ⟨[.agg ⟨[.bool y95.1.f_neg, v99]⟩, errV 71 y95.2]⟩) rfl) (by exact ⟨v99, rfl, h100⟩) rfl), (by rintro H' m_ hH hm_ hu_ _ ⟨v101, rfl, h102⟩; exact depK_nil <| s_d (m_ 4) rfl (d_ext (vs := [.agg ⟨[.bool y95.1.f_neg, v101]⟩, errV 71 y95.2]) rfl rfl) (by exact ⟨v101, rfl, h102⟩) rfl), (by rintro H' m_ hH hm_ hu_ _ ⟨v101, rfl, h102⟩; exact depK_nil <| s_d (m_ 5) rfl (d_ext (vs := [.agg ⟨[.bool y95.1.f_neg, v101]⟩, errV 71 y95.2]) rfl rfl) (by exact rfl) rfl), (fun H' m_ hH hm_ hu_ => depK_nil <| s_box hm_ rfl rfl (o_alloc zr36 rfl) rfl (fun _ => (pk_upd (hu_ 7 (by kernel_rfl)))) (by exact fun b_ => ⟨b_, rfl, rfl⟩)), (by rintro H' m_ hH hm_ hu_ _ ⟨v103, rfl, h104⟩ _ ⟨b105, rfl, hb105_⟩; exact depK_nil <| s_store2 (Λ' := fun z_ => z_ :: some (b62, .cells ⟨[.bool y56.1.f_neg, v60]⟩ 36 (0, 0)) :: some (b54, .cells ⟨[.bool y48.1.f_neg, v52]⟩ 36 (0, 0)) :: some (b35, .cells ⟨[.bool y19.1.f_neg, v37]⟩ 36 (0, 0)) :: some (b36, .cells ⟨[.bool y19.2.1.f_neg, v41]⟩ 36 (0, 0)) :: some (b11, .cells ⟨[.bool y5.1.f_neg, v9]⟩ 36 (0, 0)) :: some (b1, .cells ⟨[.bool a.f_n.f_neg, v0_a, .bool a.f_d.f_neg, v1_a]⟩ 38 (0, 0)) :: L) (some (b105, .cells ⟨[.bool y95.1.f_neg, v103]⟩ 36 (0, 0))) hm_ rfl hb105_ rfl (o_store (v := .agg ⟨[.bool y95.1.f_neg, v103]⟩) sz36 rfl rfl rfl rfl (one_cons rfl (one_cons (h104.one) one_nil)) .here (.here (.here .done))) rfl rfl (by exact ⟨rfl, v103, congrArg (fun b_ => (some (b_, Obj.cells ⟨[.bool y95.1.f_neg, v103]⟩ 36 (0, 0)) : Item')) (bof_eq hb105_).symm, h104⟩)), trivial⟩ ?_
       intro H110 e111
       rintro _ _ rfl _ _ ⟨v93, rfl, h94⟩ _ _ ⟨v99, rfl, h100⟩ _ _ ⟨v101, rfl, h102⟩ _ _ ⟨v103, rfl, h104⟩ _ _ rfl _ _ ⟨b105, rfl, rfl⟩ _ i108 ⟨rfl, v106, h109, h107⟩
       replace h109 : i108 = some (b105, .cells ⟨[.bool y95.1.f_neg, v106]⟩ 36 (0, 0)) := h109
       subst h109
       refine w_it (L' := some (b105, .cells ⟨[.bool y95.1.f_neg, v106]⟩ 36 (0, 0)) :: some (b62, .cells ⟨[.bool y56.1.f_neg, v60]⟩ 36 (0, 0)) :: some (b54, .cells ⟨[.bool y48.1.f_neg, v52]⟩ 36 (0, 0)) :: some (b35, .cells ⟨[.bool y19.1.f_neg, v37]⟩ 36 (0, 0)) :: some (b36, .cells ⟨[.bool y19.2.1.f_neg, v41]⟩ 36 (0, 0)) :: some (b11, .cells ⟨[.bool y5.1.f_neg, v9]⟩ 36 (0, 0)) :: some (b1, .cells ⟨[.bool a.f_n.f_neg, v0_a, .bool a.f_d.f_neg, v1_a]⟩ 38 (0, 0)) :: L) rfl <| w_d rfl (d_assign (v := errV 71 y95.2) rfl) <| w_done <| w_seq <| w_seq <| w_region rfl <| w_d rfl (d_move (v := errV 71 y95.2) rfl) <| w_d rfl (d_nenil (e := y95.2) Tryz.underlying32 rfl) <| w_done ?_
       rcases its he with ⟨c112, he⟩ | ⟨c112, he⟩
       ·
        refine w_then rfl c112 <| w_seq <| w_region rfl <| w_d rfl (d_move (v := errV 71 y95.2) rfl) <| w_d rfl (d_assign (v := .int .i64 0) rfl) <| w_d rfl (d_assign (v := errV 71 y95.2) rfl) <| w_done ?_
        obtain rfl := Option.some.inj he
        refine w_return fn_7 rs_7 (.tmp (v := .int .i64 0) rfl (.tmp (v := errV 71 y95.2) rfl .nil)) <| ⟨⟨[_, _, _, _, _, _, _], rfl⟩, hle.trans ((((e8.trans e46).trans e51).trans e59).trans e111), rfl⟩
       ·
        refine w_else rfl (Bool.eq_false_iff.2 c112) <| w_skip <| w_region rfl <| w_d rfl (d_loado (v := .agg ⟨[.bool y95.1.f_neg, v106]⟩) ty36 rfl .here rfl rfl rfl rfl) ?_
        obtain ⟨y113, hy114, he⟩ := Option.bind_eq_some_iff.1 he
        refine w_d rfl (call_d (o_call co35 (vs := [.agg ⟨[.bool y95.1.f_neg, v106]⟩]) rfl (wide_Int_Small.calls k (a := ⟨y95.1.f_neg, y95.1.f_w⟩) hy114 h107))) <| w_d rfl (d_move (v := .tuple ⟨[.int .i64 y113.1, .bool y113.2]⟩) rfl) <| w_d rfl (d_ext (vs := [.int .i64 y113.1, .bool y113.2]) rfl rfl) <| w_d rfl (d_ext (vs := [.int .i64 y113.1, .bool y113.2]) rfl rfl) <| w_d rfl (d_assign (v := .int .i64 y113.1) rfl) <| w_d rfl (d_assign (v := .bool y113.2) rfl) <| w_done <| w_del (.there (.there (.there (.there (.there (.there .here)))))) <| w_del (.there (.there (.there (.there (.there .here))))) <| w_del (.there (.there (.there (.there .here)))) <| w_del (.there (.there (.there .here))) <| w_del (.there (.there .here)) ?_
        refine w_del (.there .here) <| w_del .here <| w_sl 4 (.int .i64 0) rfl <| w_sl 5 (errV 71 none) rfl <| w_sl 12 (.int .i64 y113.1) rfl <| w_sl 13 (.bool y113.2) rfl <| ratio_Ratio_Near.j1_ok (k := k) (hle.trans ((((e8.trans e46).trans e51).trans e59).trans e111)) he
      ·
       refine w_else rfl (Bool.eq_false_iff.2 c88) <| w_skip <| w_del (.there (.there (.there (.there (.there .here))))) <| w_del (.there (.there (.there (.there .here)))) <| w_del (.there (.there (.there .here))) <| w_del (.there (.there .here)) <| w_del (.there .here) <| w_del .here <| w_sl 4 (.int .i64 0) rfl <| w_sl 5 (errV 71 none) rfl <| w_sl 12 (.int .i64 y64.1) rfl <| w_sl 13 (.bool y64.2) rfl <| ratio_Ratio_Near.j1_ok (k := k) (hle.trans (((e8.trans e46).trans e51).trans e59)) he
/-! ### radome/ratio.Bits -/
noncomputable def ratio_Bits.C : Code := (Tryz.f8.body).getD .skip
def ratio_Bits.out (r : ratio_Ratio × (Option Int)) (H : Hp) (v : Value) : Prop := ∃ v0, ∃ v1, v = .tuple ⟨[.agg ⟨[.bool r.1.f_n.f_neg, v0, .bool r.1.f_d.f_neg, v1]⟩, errV 71 r.2]⟩ ∧ Ro (Kd.int .u32) H v0 r.1.f_n.f_w ∧ Ro (Kd.int .u32) H v1 r.1.f_d.f_w
theorem ratio_Bits.out_mono (r : ratio_Ratio × (Option Int)) {H H' : Hp} {v : Value} (hle : H.le H') (h : ratio_Bits.out r H v) : ratio_Bits.out r H' v := by
 obtain ⟨v0, v1, rfl, h0, h1⟩ := h; exact ⟨v0, v1, rfl, h0.mono hle, h1.mono hle⟩
abbrev ratio_Bits.R (H0 : Hp) (L : Items) (r : ratio_Ratio × (Option Int)) : Value → Hp → Items → Prop := fun v H' L' => (∃ p, L' = p ++ L) ∧ H0.le H' ∧ ratio_Bits.out r H' v
noncomputable def ratio_Bits.f (k : Nat) (n : Int) (bits : Int) : Option (ratio_Ratio × (Option Int)) := if ((decide (bits < 0)) || (decide (1024 < bits))) = true then (some ((⟨(⟨false, []⟩ : wide_Int), (⟨false, []⟩ : wide_Int)⟩ : ratio_Ratio), some 1)) else ((wide_Of.f k 1).bind fun y5 => (wide_Int_Move.f k (⟨y5.f_neg, y5.f_w⟩ : wide_Int) bits).bind fun y11 => if y11.2.isSome = true then (some ((⟨(⟨false, []⟩ : wide_Int), (⟨false, []⟩ : wide_Int)⟩ : ratio_Ratio), y11.2)) else ((wide_Of.f k n).bind fun y19 => (ratio_Of.f k (⟨y19.f_neg, y19.f_w⟩ : wide_Int) (⟨y11.1.f_neg, y11.1.f_w⟩ : wide_Int)).bind fun y25 => some ((⟨(⟨y25.1.f_n.f_neg, y25.1.f_n.f_w⟩ : wide_Int), (⟨y25.1.f_d.f_neg, y25.1.f_d.f_w⟩ : wide_Int)⟩ : ratio_Ratio), y25.2)))
theorem ratio_Bits.mono : ∀ k y0 y1, LeO (ratio_Bits.f k y0 y1) (ratio_Bits.f (k + 1) y0 y1) := fun k _ _ => by unfold ratio_Bits.f; exact (LeO.ite (LeO.refl _) (LeO.bind (wide_Of.mono k _) fun _ => LeO.bind (wide_Int_Move.mono k _ _) fun _ => LeO.ite (LeO.refl _) (LeO.bind (wide_Of.mono k _) fun _ => LeO.bind (ratio_Of.mono k _ _) fun _ => LeO.refl _)))
theorem ratio_Bits.calls (k : Nat) {H : Hp} {L : Items} {n : Int} {bits : Int} {r : ratio_Ratio × (Option Int)} (he : ratio_Bits.f k n bits = some r) : Ct Tryz.prog 8 ⟨[.int .i64 n, .int .i64 bits]⟩ H L (fun v H' L' => L = L' ∧ H.le H' ∧ ratio_Bits.out r H' v) := by
 refine ct_out (O := ratio_Bits.out r) ?_
 have hle : H.le H := .refl _
 unfold ratio_Bits.f at he
 refine ct_enter (args := [.int .i64 n, .int .i64 bits]) fn_8 rfl nt_8 rfl <| w_seq <| w_region rfl <| w_a rfl (o_alloc zr38 rfl) ?_
 rintro _ _ _ ⟨b1, rfl, rfl, rfl⟩
 refine w_d rfl (d_assign (v := errV 71 none) rfl) <| w_done <| w_seq <| w_seq <| w_region rfl <| w_d rfl (d_move (v := .int .i64 bits) rfl) <| w_d rfl (d_lss rfl rfl) <| w_d rfl (d_move (v := .bool (decide (bits < 0))) rfl) <| w_g (g := !(decide (bits < 0))) rfl rfl rfl wn_f (fun g2 => d_move (v := .int .i64 bits) rfl) <| w_g (g := !(decide (bits < 0))) rfl rfl rfl wn_f (fun g3 => d_gtr (cvt g3) rfl) <| w_d rfl (d_or' (b := (decide (bits < 0))) (p := (decide (1024 < bits))) rfl rfl rfl) <| w_done ?_
 rcases its he with ⟨c4, he⟩ | ⟨c4, he⟩
 ·
  refine w_then rfl c4 <| w_seq <| w_region rfl <| w_d rfl (d_build (cs' := [.bool false, .slice none 0 0, .bool false, .slice none 0 0]) Tryz.underlying38 zr38 rfl (by kernel_rfl) (parts := []) rfl .nil) <| w_d rfl (d_iface (v := .int .i64 1) Tryz.underlying71 rfl rfl) <| w_a0 rfl (o_store (v := .agg ⟨[.bool false, .slice none 0 0, .bool false, .slice none 0 0]⟩) sz38 rfl rfl rfl rfl (one_cons rfl (one_cons rfl (one_cons rfl (one_cons rfl one_nil)))) .here (.here (.here (.here (.here .done))))) ?_
  rintro _ _ _ ⟨rfl, rfl, rfl⟩
  refine w_d rfl (d_assign (v := errV 71 (some 1)) rfl) <| w_done ?_
  obtain rfl := Option.some.inj he
  refine w_return fn_8 rs_8 (.box (v := .agg ⟨[.bool false, .slice none 0 0, .bool false, .slice none 0 0]⟩) rfl ty38 rfl rfl .here rfl (.tmp (v := errV 71 (some 1)) rfl .nil)) <| ⟨⟨[_], rfl⟩, hle, ⟨.slice none 0 0, .slice none 0 0, rfl, (ro_nil _ _), (ro_nil _ _)⟩⟩
 ·
  refine w_else rfl (Bool.eq_false_iff.2 c4) <| w_skip <| w_seq <| w_region rfl ?_
  obtain ⟨y5, hy6, he⟩ := Option.bind_eq_some_iff.1 he
  refine w_a rfl (o_call co14 (vs := [.int .i64 1]) rfl (wide_Of.calls k hy6)) ?_
  rintro _ H7 _ ⟨rfl, e8, ⟨v9, rfl, h10⟩⟩
  refine w_d rfl (d_move (v := .int .i64 bits) rfl) ?_
  obtain ⟨y11, hy12, he⟩ := Option.bind_eq_some_iff.1 he
  refine w_a rfl (o_call co32 (vs := [.agg ⟨[.bool y5.f_neg, v9]⟩, .int .i64 bits]) rfl (wide_Int_Move.calls k (a := ⟨y5.f_neg, y5.f_w⟩) hy12 h10)) ?_
  rintro _ H13 _ ⟨rfl, e14, ⟨v15, rfl, h16⟩⟩
  refine w_d rfl (d_move (v := .tuple ⟨[.agg ⟨[.bool y11.1.f_neg, v15]⟩, errV 71 y11.2]⟩) rfl) <| w_d rfl (d_ext (vs := [.agg ⟨[.bool y11.1.f_neg, v15]⟩, errV 71 y11.2]) rfl rfl) <| w_d rfl (d_ext (vs := [.agg ⟨[.bool y11.1.f_neg, v15]⟩, errV 71 y11.2]) rfl rfl) <| w_a rfl (o_alloc zr36 rfl) ?_
  rintro _ _ _ ⟨b17, rfl, rfl, rfl⟩
  refine w_a0 rfl (o_store (v := .agg ⟨[.bool y11.1.f_neg, v15]⟩) sz36 rfl rfl rfl rfl (one_cons rfl (one_cons (h16.one) one_nil)) .here (.here (.here .done))) ?_
  rintro _ _ _ ⟨rfl, rfl, rfl⟩
  refine w_d rfl (d_assign (v := errV 71 y11.2) rfl) <| w_done <| w_seq <| w_seq <| w_region rfl <| w_d rfl (d_move (v := errV 71 y11.2) rfl) <| w_d rfl (d_nenil (e := y11.2) Tryz.underlying32 rfl) <| w_done ?_
  rcases its he with ⟨c18, he⟩ | ⟨c18, he⟩
  ·
   refine w_then rfl c18 <| w_seq <| w_region rfl <| w_d rfl (d_build (cs' := [.bool false, .slice none 0 0, .bool false, .slice none 0 0]) Tryz.underlying38 zr38 rfl (by kernel_rfl) (parts := []) rfl .nil) <| w_d rfl (d_move (v := errV 71 y11.2) rfl) <| w_a0 rfl (o_store (v := .agg ⟨[.bool false, .slice none 0 0, .bool false, .slice none 0 0]⟩) sz38 rfl rfl rfl rfl (one_cons rfl (one_cons rfl (one_cons rfl (one_cons rfl one_nil)))) (.there .here) (.here (.here (.here (.here .done))))) ?_
   rintro _ _ _ ⟨rfl, rfl, rfl⟩
   refine w_d rfl (d_assign (v := errV 71 y11.2) rfl) <| w_done ?_
   obtain rfl := Option.some.inj he
   refine w_return fn_8 rs_8 (.box (v := .agg ⟨[.bool false, .slice none 0 0, .bool false, .slice none 0 0]⟩) rfl ty38 rfl rfl (.there .here) rfl (.tmp (v := errV 71 y11.2) rfl .nil)) <| ⟨⟨[_, _], rfl⟩, hle.trans (e8.trans e14), ⟨.slice none 0 0, .slice none 0 0, rfl, (ro_nil _ _), (ro_nil _ _)⟩⟩
  ·
   refine w_else rfl (Bool.eq_false_iff.2 c18) <| w_skip <| w_seq ?_
   obtain ⟨y19, hy20, he⟩ := Option.bind_eq_some_iff.1 he
   obtain ⟨y25, hy26, he⟩ := Option.bind_eq_some_iff.1 he
   refine w_drawn (p := 6) (tl := [6, 7]) [[], [(0, some 26)], [], [(1, some 27), (2, some 28)], [(3, some 29)], [(3, some 29)]] [some 26, some 27, some 28, some 29, some 30, some 31] (fctF (.is (.int .i64 n) :: .of (wide_Of.out y19) (wide_Of.out_mono _) :: .is (.agg ⟨[.bool y11.1.f_neg, v15]⟩) :: .of (ratio_Of.out y25) (ratio_Of.out_mono _) :: .of (fun H v => ∃ v33, ∃ v35, v = .agg ⟨[.bool y25.1.f_n.f_neg, v33, .bool y25.1.f_d.f_neg, v35]⟩ ∧ Ro (Kd.int .u32) H v33 y25.1.f_n.f_w ∧ Ro (Kd.int .u32) H v35 y25.1.f_d.f_w) (by rintro _ _ _ hle ⟨v33, v35, rfl, h34, h36⟩; exact ⟨v33, v35, rfl, h34.mono hle, h36.mono hle⟩) :: .is (errV 71 y25.2) :: [])) (fun m_ => some (b17, .cells ⟨[.bool y11.1.f_neg, v15]⟩ 36 (0, 0)) :: some (b1, .cells ⟨[.bool false, .slice none 0 0, .bool false, .slice none 0 0]⟩ 38 (0, 0)) :: L) (fun _ => none) mixed (by kernel_rfl) (by kernel_rfl) rfl (fct_mono (by kernel_rfl)) ⟨(fun H' m_ hH hm_ hu_ => depK_nil <| s_d (m_ 0) rfl (d_move (v := .int .i64 n) rfl) (by exact rfl) rfl), (by rintro H' m_ hH hm_ hu_ _ rfl; exact depK_nil <| s_k (m_ 1) rfl (o_call co14 (vs := [.int .i64 n]) rfl (wide_Of.calls k hy20)) rfl (by rintro v_ H_ _ ⟨rfl, e_, h_⟩; exact ⟨rfl, e_, h_⟩)), (fun H' m_ hH hm_ hu_ => depK_nil <| s_d (m_ 2) rfl (d_loado (v := .agg ⟨[.bool y11.1.f_neg, v15]⟩) ty36 rfl .here rfl rfl rfl rfl) (by exact rfl) rfl), (by rintro H' m_ hH hm_ hu_ _ ⟨v23, rfl, h24⟩ _ rfl; exact depK_nil <| s_k (m_ 3) rfl (o_call co30 (vs := [.agg ⟨[.bool y19.f_neg, v23]⟩, .agg ⟨[.bool y11.1.f_neg, v15]⟩]) rfl (ratio_Of.calls k (n := ⟨y19.f_neg, y19.f_w⟩) (d := ⟨y11.1.f_neg, y11.1.f_w⟩) hy26 h24 (h16.mono hH))) rfl (by rintro v_ H_ _ ⟨rfl, e_, h_⟩; exact ⟨rfl, e_, h_⟩)), (by rintro H' m_ hH hm_ hu_ _ ⟨v29, v31, rfl, h30, h32⟩; exact depK_nil <| s_d (m_ 4) rfl (d_ext (vs := [.agg ⟨[.bool y25.1.f_n.f_neg, v29, .bool y25.1.f_d.f_neg, v31]⟩, errV 71 y25.2]) rfl rfl) (by exact ⟨v29, v31, rfl, h30, h32⟩) rfl), (by rintro H' m_ hH hm_ hu_ _ ⟨v29, v31, rfl, h30, h32⟩; exact depK_nil <| s_d (m_ 5) rfl (d_ext (vs := [.agg ⟨[.bool y25.1.f_n.f_neg, v29, .bool y25.1.f_d.f_neg, v31]⟩, errV 71 y25.2]) rfl rfl) (by exact rfl) rfl), trivial⟩ ?_
   intro H37 e38
   rintro _ _ rfl _ _ ⟨v23, rfl, h24⟩ _ _ rfl _ _ ⟨v29, v31, rfl, h30, h32⟩ _ _ ⟨v33, v35, rfl, h34, h36⟩ _ _ rfl
   refine w_a0 rfl (o_store (v := .agg ⟨[.bool y25.1.f_n.f_neg, v33, .bool y25.1.f_d.f_neg, v35]⟩) sz38 rfl rfl rfl rfl (one_cons rfl (one_cons (h34.one) (one_cons rfl (one_cons (h36.one) one_nil)))) (.there .here) (.here (.here (.here (.here .done))))) ?_
   rintro _ _ _ ⟨rfl, rfl, rfl⟩
   refine w_d rfl (d_assign (v := errV 71 y25.2) rfl) <| w_done ?_
   obtain rfl := Option.some.inj he
   refine w_return fn_8 rs_8 (.box (v := .agg ⟨[.bool y25.1.f_n.f_neg, v33, .bool y25.1.f_d.f_neg, v35]⟩) rfl ty38 rfl rfl (.there .here) rfl (.tmp (v := errV 71 y25.2) rfl .nil)) <| ⟨⟨[_, _], rfl⟩, hle.trans ((e8.trans e14).trans e38), ⟨v33, v35, rfl, h34, h36⟩⟩
/-! ### slices.Reverse[[]byte,byte] -/
noncomputable def slices_Reverse_byte_byte.C : Code := (Tryz.f77.body).getD .skip
def slices_Reverse_byte_byte.out (r : (List Int)) (H : Hp) (v : Value) : Prop := v = .tuple ⟨[]⟩
abbrev slices_Reverse_byte_byte.R (vr_ : Value) (H0 : Hp) (L : Items) (r : (List Int)) : Value → Hp → Items → Prop := fun v H' L' => (∃ p it', L' = p ++ it' :: L ∧ Sl (Kd.int .u8) H' 5 it' vr_ r) ∧ H0.le H' ∧ v = .tuple ⟨[]⟩
structure slices_Reverse_byte_byte.Hs where
 l0 : (List Int) → Int → Int → Option (List Int)
noncomputable def slices_Reverse_byte_byte.b0 (k : Nat) (h : slices_Reverse_byte_byte.Hs)  (s : List Int) (i : Int) (j_ : Int) : Option (List Int) := if i < j_ then (if (0 : Int) ≤ j_ ∧ j_ < (s.length : Int) then (if (0 : Int) ≤ i ∧ i < (s.length : Int) then (if (0 : Int) ≤ i ∧ i < (s.length : Int) then (if (0 : Int) ≤ j_ ∧ j_ < ((s.set (i : Int).toNat (rd s j_)).length : Int) then (h.l0 ((s.set (i : Int).toNat (rd s j_)).set (j_ : Int).toNat (rd s i)) (w64 (i + 1)) (w64 (j_ - 1))) else none) else none) else none) else none) else (some (s))
noncomputable def slices_Reverse_byte_byte.hs : Nat → slices_Reverse_byte_byte.Hs
 | 0 => ⟨fun _ _ _ => none⟩
 | k + 1 => ⟨fun x0 x1 x2 => slices_Reverse_byte_byte.b0 k (slices_Reverse_byte_byte.hs k) x0 x1 x2⟩
noncomputable def slices_Reverse_byte_byte.f (k : Nat) (s : List Int) : Option (List Int) := (fun h : slices_Reverse_byte_byte.Hs => h.l0 s 0 (w64 ((s.length : Int) - 1))) (slices_Reverse_byte_byte.hs k)
structure slices_Reverse_byte_byte.LE (h h' : slices_Reverse_byte_byte.Hs) : Prop where
 l0 : ∀ y0 y1 y2, LeO (h.l0 y0 y1 y2) (h'.l0 y0 y1 y2)
theorem slices_Reverse_byte_byte.b0_mono {k : Nat} {h h' : slices_Reverse_byte_byte.Hs} (hl : slices_Reverse_byte_byte.LE h h') : ∀ y0 y1 y2, LeO (slices_Reverse_byte_byte.b0 k h y0 y1 y2) (slices_Reverse_byte_byte.b0 (k + 1) h' y0 y1 y2) := fun _ _ _ => (LeO.ite (LeO.ite (LeO.ite (LeO.ite (LeO.ite (hl.l0 _ _ _) (LeO.refl _)) (LeO.refl _)) (LeO.refl _)) (LeO.refl _)) (LeO.refl _))
theorem slices_Reverse_byte_byte.hs_mono : ∀ k, slices_Reverse_byte_byte.LE (slices_Reverse_byte_byte.hs k) (slices_Reverse_byte_byte.hs (k + 1))
 | 0 => ⟨fun _ _ _ => LeO.none _⟩
 | k + 1 => ⟨slices_Reverse_byte_byte.b0_mono (k := k) (slices_Reverse_byte_byte.hs_mono k)⟩
theorem slices_Reverse_byte_byte.mono : ∀ k y0, LeO (slices_Reverse_byte_byte.f k y0) (slices_Reverse_byte_byte.f (k + 1) y0) := fun k _ => have hl := slices_Reverse_byte_byte.hs_mono k; by unfold slices_Reverse_byte_byte.f; exact (hl.l0 _ _ _)
noncomputable def slices_Reverse_byte_byte.Kl0 : List Item := .code (lopB (blkB (seqR slices_Reverse_byte_byte.C))) :: .inLoop (lopB (blkB (seqR slices_Reverse_byte_byte.C))) :: .inBlock 0 :: []
structure slices_Reverse_byte_byte.OK (h : slices_Reverse_byte_byte.Hs) : Prop where
 l0 : ∀ {H0 H : Hp} {L : Items} {r : (List Int)} {jk_ : Nat → Value} {s : List Int} {i : Int} {j_ : Int} {vr_ : Value} {i_s : Item'} (_ : H0.le H) (_he : h.l0 s i j_ = some r) (_h_s : Sl (Kd.int .u8) H 5 i_s vr_ s), Wp Tryz.prog 77 28 slices_Reverse_byte_byte.Kl0 (upd (upd (upd jk_ 0 (vr_)) 2 (.int .i64 i)) 3 (.int .i64 j_)) H (i_s :: L) (slices_Reverse_byte_byte.R vr_ H0 L r)
theorem slices_Reverse_byte_byte.b0_ok {k : Nat} {h : slices_Reverse_byte_byte.Hs} (hh : slices_Reverse_byte_byte.OK h) {H0 H : Hp} {L : Items} {r : (List Int)} {jk_ : Nat → Value} {s : List Int} {i : Int} {j_ : Int} {vr_ : Value} {i_s : Item'} (hle : H0.le H) (he : slices_Reverse_byte_byte.b0 k h s i j_ = some r) (h_s : Sl (Kd.int .u8) H 5 i_s vr_ s) : Wp Tryz.prog 77 28 slices_Reverse_byte_byte.Kl0 (upd (upd (upd jk_ 0 (vr_)) 2 (.int .i64 i)) 3 (.int .i64 j_)) H (i_s :: L) (slices_Reverse_byte_byte.R vr_ H0 L r) := by
 unfold slices_Reverse_byte_byte.b0 at he
 unfold slices_Reverse_byte_byte.Kl0
 refine w_seq <| w_seq <| w_region rfl <| w_d rfl (d_move (v := .int .i64 i) rfl) <| w_d rfl (d_move (v := .int .i64 j_) rfl) <| w_d rfl (d_lss rfl rfl) <| w_done ?_
 rcases its he with ⟨c1, he⟩ | ⟨c1, he⟩
 ·
  refine w_then rfl (decide_eq_true c1) <| w_skip <| w_seq <| w_block ?_
  obtain ⟨c2, he⟩ := rq he
  obtain ⟨c3, he⟩ := rq he
  obtain ⟨c4, he⟩ := rq he
  refine w_drawn (p := 14) (tl := [14, 15]) [[], [], [], [], [], [], [(4, some 18), (5, some 19)], [(6, some 20)], [], [], [(8, some 22), (9, some 23)], [(10, some 24)], [(0, some 14), (1, some 15)], [(7, some 21), (12, some 26)]] [some 14, some 15, some 16, some 17, some 18, some 19, some 20, some 21, some 22, some 23, some 24, some 25, some 26, none] (fctF (.is (vr_) :: .is (.int .i64 i) :: .is (vr_) :: .is (.int .i64 j_) :: .is (vr_) :: .is (.int .i64 j_) :: .is (.pointer (some (pel vr_ j_ 1))) :: .is (.int .u8 (rd s j_)) :: .is (vr_) :: .is (.int .i64 i) :: .is (.pointer (some (pel vr_ i 1))) :: .is (.int .u8 (rd s i)) :: .is (.pointer (some (pel vr_ i 1))) :: .itm (fun H it_ => Sl (Kd.int .u8) H 5 it_ vr_ (s.set (i : Int).toNat (rd s j_))) (fun hle_ h_ => h_.mono hle_) :: [])) (fun m_ => m_ 13 :: L) (fun i_ => if i_ = 13 then i_s else none) mixed (by kernel_rfl) (by kernel_rfl) rfl (fct_mono (by kernel_rfl)) ⟨(fun H' m_ hH hm_ hu_ => depK_nil <| s_d (m_ 0) rfl (d_move (v := vr_) rfl) (by exact rfl) rfl), (fun H' m_ hH hm_ hu_ => depK_nil <| s_d (m_ 1) rfl (d_move (v := .int .i64 i) rfl) (by exact rfl) rfl), (fun H' m_ hH hm_ hu_ => depK_nil <| s_d (m_ 2) rfl (d_move (v := vr_) rfl) (by exact rfl) rfl), (fun H' m_ hH hm_ hu_ => depK_nil <| s_d (m_ 3) rfl (d_move (v := .int .i64 j_) rfl) (by exact rfl) rfl), (fun H' m_ hH hm_ hu_ => depK_nil <| s_d (m_ 4) rfl (d_move (v := vr_) rfl) (by exact rfl) rfl), (fun H' m_ hH hm_ hu_ => depK_nil <| s_d (m_ 5) rfl (d_move (v := .int .i64 j_) rfl) (by exact rfl) rfl), (by rintro H' m_ hH hm_ hu_ _ rfl _ rfl; exact depK_nil <| s_d (m_ 6) rfl (d_indexS (sz := 1) Tryz.underlying22 sz5 rfl (h_s.mono hH).shp rfl c2) (by exact rfl) rfl), (by rintro H' m_ hH hm_ hu_ _ rfl; exact depK_nil <| s_d (m_ 7) rfl (d_ldint ty5 rfl ((h_s.mono hH).src (has_eq (hu_ 13 (by kernel_rfl)))) c2) (by exact rfl) rfl), (fun H' m_ hH hm_ hu_ => depK_nil <| s_d (m_ 8) rfl (d_move (v := vr_) rfl) (by exact rfl) rfl), (fun H' m_ hH hm_ hu_ => depK_nil <| s_d (m_ 9) rfl (d_move (v := .int .i64 i) rfl) (by exact rfl) rfl), (by rintro H' m_ hH hm_ hu_ _ rfl _ rfl; exact depK_nil <| s_d (m_ 10) rfl (d_indexS (sz := 1) Tryz.underlying22 sz5 rfl (h_s.mono hH).shp rfl c3) (by exact rfl) rfl), (by rintro H' m_ hH hm_ hu_ _ rfl; exact depK_nil <| s_d (m_ 11) rfl (d_ldint ty5 rfl ((h_s.mono hH).src (has_eq (hu_ 13 (by kernel_rfl)))) c3) (by exact rfl) rfl), (by rintro H' m_ hH hm_ hu_ _ rfl _ rfl; exact depK_nil <| s_d (m_ 12) rfl (d_indexS (sz := 1) Tryz.underlying22 sz5 rfl (h_s.mono hH).shp rfl c4) (by exact rfl) rfl), (by rintro H' m_ hH hm_ hu_ _ rfl _ rfl; exact depK_nil <| s_stEl (i_s) hm_ rfl (o_storeEl (kd := (Kd.int .u8)) (v := .int .u8 (rd s j_)) sz5 rfl rfl rfl rfl (h_s.mono hH) c4 (fun _ => .here)) rfl (by exact fun _ h_ => ⟨rfl, h_⟩)), trivial⟩ ?_
  intro H7 e8
  rintro _ _ rfl _ _ rfl _ _ rfl _ _ rfl _ _ rfl _ _ rfl _ _ rfl _ _ rfl _ _ rfl _ _ rfl _ _ rfl _ _ rfl _ _ rfl _ i5 ⟨rfl, h6⟩
  refine w_it (L' := i5 :: L) rfl ?_
  obtain ⟨c9, he⟩ := rq he
  refine w_d rfl (d_indexS (sz := 1) Tryz.underlying22 sz5 rfl h6.shp rfl c9) <| w_a0 rfl (o_storeEl (kd := (Kd.int .u8)) (v := .int .u8 (rd s i)) (F := fun z_ => z_ :: L) sz5 rfl rfl rfl rfl h6 c9 (fun _ => .here)) ?_
  rintro _ _ _ ⟨i10, rfl, rfl, rfl, h11⟩
  refine w_done <| w_inBlock <| w_region rfl <| w_d rfl (d_move (v := .int .i64 i) rfl) <| w_d rfl (d_add (c := w64 (i + 1)) rfl rfl rfl) <| w_d rfl (d_move (v := .int .i64 j_) rfl) <| w_d rfl (d_sub (c := w64 (j_ - 1)) rfl rfl rfl) <| w_d rfl (d_assign (v := .int .i64 (w64 (i + 1))) rfl) <| w_d rfl (d_assign (v := .int .i64 (w64 (j_ - 1))) rfl) <| w_done <| w_inLoop <| w_sl 0 (vr_) rfl ?_
  refine w_sl 2 (.int .i64 (w64 (i + 1))) rfl <| w_sl 3 (.int .i64 (w64 (j_ - 1))) rfl <| hh.l0 (hle.trans e8) he h11
 ·
  refine w_else rfl (decide_eq_false c1) <| w_exit rfl ?_
  obtain rfl := Option.some.inj he
  refine w_finish fn_77 rs_77 .nil <| ⟨⟨[], _, rfl, h_s⟩, hle, rfl⟩
theorem slices_Reverse_byte_byte.ok : ∀ k, slices_Reverse_byte_byte.OK (slices_Reverse_byte_byte.hs k)
 | 0 => ⟨(by intros; exact nomatch (show none = some _ from by assumption))⟩
 | k + 1 => ⟨slices_Reverse_byte_byte.b0_ok (k := k) (slices_Reverse_byte_byte.ok k)⟩
theorem slices_Reverse_byte_byte.calls (k : Nat) {H : Hp} {L : Items} {s : List Int} {vr_ : Value} {it_ : Item'} {r : (List Int)} (he : slices_Reverse_byte_byte.f k s = some r) (hr_ : Sl (Kd.int .u8) H 5 it_ vr_ s) : Ct Tryz.prog 77 ⟨[vr_]⟩ H (it_ :: L) (fun v H' L' => ∃ it', L' = it' :: L ∧ H.le H' ∧ Sl (Kd.int .u8) H' 5 it' vr_ r ∧ v = .tuple ⟨[]⟩) := by
 refine ct_mut (Q := fun v => v = .tuple ⟨[]⟩) ?_
 have hle : H.le H := .refl _
 have hh := slices_Reverse_byte_byte.ok k
 unfold slices_Reverse_byte_byte.f at he
 refine ct_enter (args := [vr_]) fn_77 rfl nt_77 rfl <| w_seq <| w_region rfl <| w_d rfl (d_move (v := vr_) rfl) <| w_d rfl (d_lenS Tryz.underlying22 rfl hr_.shp) <| w_d rfl (d_sub (c := w64 ((s.length : Int) - 1)) rfl rfl rfl) <| w_d rfl (d_assign (v := .int .i64 0) rfl) <| w_d rfl (d_assign (v := .int .i64 (w64 ((s.length : Int) - 1))) rfl) <| w_done <| w_block <| w_loop <| w_sl 0 (vr_) rfl ?_
 refine w_sl 2 (.int .i64 0) rfl <| w_sl 3 (.int .i64 (w64 ((s.length : Int) - 1))) rfl <| hh.l0 hle he hr_
/-! ### (radome/wide.Int).Text -/
noncomputable def wide_Int_Text.C : Code := (Tryz.f40.body).getD .skip
def wide_Int_Text.out (r : ByteArray) (H : Hp) (v : Value) : Prop := v = .string r
abbrev wide_Int_Text.R (H0 : Hp) (L : Items) (r : ByteArray) : Value → Hp → Items → Prop := fun v H' L' => (∃ p, L' = p ++ L) ∧ H0.le H' ∧ wide_Int_Text.out r H' v
structure wide_Int_Text.Hs where
 l0 : Bool → (List Int) → ByteArray → (List Int) → (List Int) → Option ByteArray
 l1 : Bool → (List Int) → ByteArray → (List Int) → (List Int) → Int → Int → Option ByteArray
noncomputable def wide_Int_Text.b0 (k : Nat) (h : wide_Int_Text.Hs)  (a_0 : Bool) (a_1 : List Int) (t2 : ByteArray) (out : List Int) (w : List Int) : Option ByteArray := if 0 < (w.length : Int) then ((wide_short.f k w 1000000000).bind fun y4 => h.l1 a_0 a_1 t2 out y4.1 y4.2 0) else (if a_0 = true then (if out.length + 1 ≤ 140737488355200 then ((slices_Reverse_byte_byte.f k (out ++ [45])).bind fun y18 => some (strOf y18)) else none) else ((slices_Reverse_byte_byte.f k out).bind fun y24 => some (strOf y24)))
noncomputable def wide_Int_Text.b1 (k : Nat) (h : wide_Int_Text.Hs)  (a_0 : Bool) (a_1 : List Int) (t2 : ByteArray) (out : List Int) (w : List Int) (r_ : Int) (k_ : Int) : Option ByteArray := if ((decide (k_ < 9)) && ((decide (0 < (w.length : Int))) || (decide (0 < r_)))) = true then (if out.length + 1 ≤ 140737488355200 then (h.l1 a_0 a_1 t2 (out ++ [(48 + ((Int.tmod r_ 10) % 256)) % 256]) w ((Int.tdiv r_ 10) % 4294967296) (w64 (k_ + 1))) else none) else (h.l0 a_0 a_1 t2 out w)
noncomputable def wide_Int_Text.hs : Nat → wide_Int_Text.Hs
 | 0 => ⟨fun _ _ _ _ _ => none, fun _ _ _ _ _ _ _ => none⟩
 | k + 1 => ⟨fun x0 x1 x2 x3 x4 => wide_Int_Text.b0 k (wide_Int_Text.hs k) x0 x1 x2 x3 x4, fun x0 x1 x2 x3 x4 x5 x6 => wide_Int_Text.b1 k (wide_Int_Text.hs k) x0 x1 x2 x3 x4 x5 x6⟩
noncomputable def wide_Int_Text.f (k : Nat) (a : wide_Int) : Option ByteArray := (fun h : wide_Int_Text.Hs => if (a.f_w.length : Int) = 0 then (some (str_2)) else (h.l0 a.f_neg a.f_w str_0 [] a.f_w)) (wide_Int_Text.hs k)
structure wide_Int_Text.LE (h h' : wide_Int_Text.Hs) : Prop where
 l0 : ∀ y0 y1 y2 y3 y4, LeO (h.l0 y0 y1 y2 y3 y4) (h'.l0 y0 y1 y2 y3 y4)
 l1 : ∀ y0 y1 y2 y3 y4 y5 y6, LeO (h.l1 y0 y1 y2 y3 y4 y5 y6) (h'.l1 y0 y1 y2 y3 y4 y5 y6)
theorem wide_Int_Text.b0_mono {k : Nat} {h h' : wide_Int_Text.Hs} (hl : wide_Int_Text.LE h h') : ∀ y0 y1 y2 y3 y4, LeO (wide_Int_Text.b0 k h y0 y1 y2 y3 y4) (wide_Int_Text.b0 (k + 1) h' y0 y1 y2 y3 y4) := fun _ _ _ _ _ => (LeO.ite (LeO.bind (wide_short.mono k _ _) fun _ => hl.l1 _ _ _ _ _ _ _) (LeO.ite (LeO.ite (LeO.bind (slices_Reverse_byte_byte.mono k _) fun _ => LeO.refl _) (LeO.refl _)) (LeO.bind (slices_Reverse_byte_byte.mono k _) fun _ => LeO.refl _)))
theorem wide_Int_Text.b1_mono {k : Nat} {h h' : wide_Int_Text.Hs} (hl : wide_Int_Text.LE h h') : ∀ y0 y1 y2 y3 y4 y5 y6, LeO (wide_Int_Text.b1 k h y0 y1 y2 y3 y4 y5 y6) (wide_Int_Text.b1 (k + 1) h' y0 y1 y2 y3 y4 y5 y6) := fun _ _ _ _ _ _ _ => (LeO.ite (LeO.ite (hl.l1 _ _ _ _ _ _ _) (LeO.refl _)) (hl.l0 _ _ _ _ _))
theorem wide_Int_Text.hs_mono : ∀ k, wide_Int_Text.LE (wide_Int_Text.hs k) (wide_Int_Text.hs (k + 1))
 | 0 => ⟨fun _ _ _ _ _ => LeO.none _, fun _ _ _ _ _ _ _ => LeO.none _⟩
 | k + 1 => ⟨wide_Int_Text.b0_mono (k := k) (wide_Int_Text.hs_mono k), wide_Int_Text.b1_mono (k := k) (wide_Int_Text.hs_mono k)⟩
theorem wide_Int_Text.mono : ∀ k y0, LeO (wide_Int_Text.f k y0) (wide_Int_Text.f (k + 1) y0) := fun k _ => have hl := wide_Int_Text.hs_mono k; by unfold wide_Int_Text.f; exact (LeO.ite (LeO.refl _) (hl.l0 _ _ _ _ _))
noncomputable def wide_Int_Text.Kl0 : List Item := .code (lopB (blkB (seqR (seqL (seqR (seqR (seqR wide_Int_Text.C))))))) :: .inLoop (lopB (blkB (seqR (seqL (seqR (seqR (seqR wide_Int_Text.C))))))) :: .inBlock 0 :: .code (seqR (seqR (seqR (seqR wide_Int_Text.C)))) :: []
noncomputable def wide_Int_Text.Kl1 : List Item := .code (lopB (blkB (seqR (seqR (seqR (blkB (seqR (lopB (blkB (seqR (seqL (seqR (seqR (seqR wide_Int_Text.C)))))))))))))) :: .inLoop (lopB (blkB (seqR (seqR (seqR (blkB (seqR (lopB (blkB (seqR (seqL (seqR (seqR (seqR wide_Int_Text.C)))))))))))))) :: .inBlock 2 :: .inBlock 1 :: .inLoop (lopB (blkB (seqR (seqL (seqR (seqR (seqR wide_Int_Text.C))))))) :: .inBlock 0 :: .code (seqR (seqR (seqR (seqR wide_Int_Text.C)))) :: []
structure wide_Int_Text.OK (h : wide_Int_Text.Hs) : Prop where
 l0 : ∀ {H0 H : Hp} {L : Items} {r : ByteArray} {jk_ : Nat → Value} {a_0 : Bool} {a_1 : List Int} {t2 : ByteArray} {out : List Int} {w : List Int} {v_a_1 : Value} {v_out : Value} {v_w : Value} {i_out : Item'} {b_a : Nat} (_ : H0.le H) (_he : h.l0 a_0 a_1 t2 out w = some r) (_h_a_1 : Ro (Kd.int .u32) H v_a_1 a_1) (_h_out : Sl (Kd.int .u8) H 5 i_out v_out out) (_h_w : Ro (Kd.int .u32) H v_w w), Wp Tryz.prog 40 52 wide_Int_Text.Kl0 (upd (upd (upd (upd jk_ 1 (.pointer (some ⟨b_a, 0, none⟩))) 2 (.string t2)) 3 (v_out)) 4 (v_w)) H (i_out :: some (b_a, .cells ⟨[.bool a_0, v_a_1]⟩ 36 (0, 0)) :: L) (wide_Int_Text.R H0 L r)
 l1 : ∀ {H0 H : Hp} {L : Items} {r : ByteArray} {jk_ : Nat → Value} {a_0 : Bool} {a_1 : List Int} {t2 : ByteArray} {out : List Int} {w : List Int} {r_ : Int} {k_ : Int} {v_a_1 : Value} {v_out : Value} {v_w : Value} {i_out : Item'} {b_a : Nat} (_ : H0.le H) (_he : h.l1 a_0 a_1 t2 out w r_ k_ = some r) (_h_a_1 : Ro (Kd.int .u32) H v_a_1 a_1) (_h_out : Sl (Kd.int .u8) H 5 i_out v_out out) (_h_w : Ro (Kd.int .u32) H v_w w), Wp Tryz.prog 40 52 wide_Int_Text.Kl1 (upd (upd (upd (upd (upd (upd jk_ 1 (.pointer (some ⟨b_a, 0, none⟩))) 2 (.string t2)) 3 (v_out)) 4 (v_w)) 5 (.int .u32 r_)) 6 (.int .i64 k_)) H (i_out :: some (b_a, .cells ⟨[.bool a_0, v_a_1]⟩ 36 (0, 0)) :: L) (wide_Int_Text.R H0 L r)
theorem wide_Int_Text.b0_ok {k : Nat} {h : wide_Int_Text.Hs} (hh : wide_Int_Text.OK h) {H0 H : Hp} {L : Items} {r : ByteArray} {jk_ : Nat → Value} {a_0 : Bool} {a_1 : List Int} {t2 : ByteArray} {out : List Int} {w : List Int} {v_a_1 : Value} {v_out : Value} {v_w : Value} {i_out : Item'} {b_a : Nat} (hle : H0.le H) (he : wide_Int_Text.b0 k h a_0 a_1 t2 out w = some r) (h_a_1 : Ro (Kd.int .u32) H v_a_1 a_1) (h_out : Sl (Kd.int .u8) H 5 i_out v_out out) (h_w : Ro (Kd.int .u32) H v_w w) : Wp Tryz.prog 40 52 wide_Int_Text.Kl0 (upd (upd (upd (upd jk_ 1 (.pointer (some ⟨b_a, 0, none⟩))) 2 (.string t2)) 3 (v_out)) 4 (v_w)) H (i_out :: some (b_a, .cells ⟨[.bool a_0, v_a_1]⟩ 36 (0, 0)) :: L) (wide_Int_Text.R H0 L r) := by
 unfold wide_Int_Text.b0 at he
 unfold wide_Int_Text.Kl0
 refine w_seq <| w_seq <| w_region rfl <| w_d rfl (d_move (v := v_w) rfl) <| w_d rfl (d_len Tryz.underlying34 rfl h_w.src) <| w_d rfl (d_gtr rfl rfl) <| w_done ?_
 rcases its he with ⟨c3, he⟩ | ⟨c3, he⟩
 ·
  refine w_then rfl (decide_eq_true c3) <| w_skip <| w_block <| w_seq <| w_region rfl <| w_d rfl (d_assign (v := .int .u32 0) rfl) <| w_done <| w_seq <| w_region rfl <| w_d rfl (d_move (v := v_w) rfl) ?_
  obtain ⟨y4, hy5, he⟩ := Option.bind_eq_some_iff.1 he
  refine w_a rfl (o_call co76 (vs := [v_w, .int .u32 1000000000]) rfl (wide_short.calls k hy5 h_w.src)) ?_
  rintro _ H6 _ ⟨rfl, e7, ⟨v8, rfl, h9⟩⟩
  refine w_d rfl (d_move (v := .tuple ⟨[v8, .int .u32 y4.2]⟩) rfl) <| w_d rfl (d_ext (vs := [v8, .int .u32 y4.2]) rfl rfl) <| w_d rfl (d_ext (vs := [v8, .int .u32 y4.2]) rfl rfl) <| w_d rfl (d_assign (v := v8) rfl) <| w_d rfl (d_assign (v := .int .u32 y4.2) rfl) <| w_done <| w_seq <| w_region rfl <| w_d rfl (d_assign (v := .int .i64 0) rfl) <| w_done <| w_block <| w_loop ?_
  refine w_sl 1 (.pointer (some ⟨b_a, 0, none⟩)) rfl <| w_sl 2 (.string t2) rfl <| w_sl 3 (v_out) rfl <| w_sl 4 (v8) rfl <| w_sl 5 (.int .u32 y4.2) rfl <| w_sl 6 (.int .i64 0) rfl <| hh.l1 (hle.trans e7) he (h_a_1.mono e7) (h_out.mono e7) h9
 ·
  refine w_else rfl (decide_eq_false c3) <| w_exit rfl <| w_seq <| w_seq <| w_region rfl <| w_d rfl (d_fld (o' := 0) Tryz.underlying36 rfl sz4 rfl rfl rfl) <| w_d rfl (d_loado (v := .bool a_0) ty4 rfl (.there .here) rfl rfl rfl rfl) <| w_done ?_
  rcases its he with ⟨c10, he⟩ | ⟨c10, he⟩
  ·
   refine w_then rfl c10 <| w_region rfl <| w_d rfl (d_move (v := v_out) rfl) <| w_a rfl (o_buildSlice' (kd := (Kd.int .u8)) (css := [[.int .u8 45]]) (xs := [45]) (parts := [(0, .int .u8 45)]) Tryz.underlying22 ti5 rfl ⟨_, _, rfl, rfl, rfl⟩ ⟨rfl, trivial⟩ rfl (by decide)) ?_
   rintro v11 _ _ ⟨i12, rfl, rfl, h13⟩
   obtain ⟨c14, he⟩ := rq he
   refine w_a rfl (o_append' (kd := (Kd.int .u8)) (F := fun z_ => i12 :: z_ :: some (b_a, .cells ⟨[.bool a_0, v_a_1]⟩ 36 (0, 0)) :: L) Tryz.underlying22 Tryz.underlying22 ti5 rfl (by first | omega | (simp only [List.nil_append, List.length_cons, List.length_nil]; omega)) rfl rfl h_out (h13.src .here) (fun _ => (.there .here))) ?_
   rintro v15 _ _ ⟨i16, rfl, rfl, h17⟩
   refine w_d rfl (d_assign (v := v15) rfl) <| w_done <| w_seq <| w_region rfl <| w_d rfl (d_move (v := v15) rfl) ?_
   obtain ⟨y18, hy19, he⟩ := Option.bind_eq_some_iff.1 he
   refine w_a rfl (o_call co77 (vs := [v15]) rfl (ct_at (F := fun z_ => i12 :: z_ :: some (b_a, .cells ⟨[.bool a_0, v_a_1]⟩ 36 (0, 0)) :: L) (slices_Reverse_byte_byte.calls k hy19 h17) (.there .here) (fun _ => (.there .here)))) ?_
   rintro _ H20 _ ⟨i22, rfl, e21, h23, rfl⟩
   refine w_done <| w_seq <| w_region rfl <| w_d rfl (d_move (v := v15) rfl) <| w_d rfl (d_strof Tryz.underlying22 Tryz.underlying5 Tryz.underlying9 rfl (h23.src (.there .here))) <| w_d rfl (d_assign (v := .string (strOf y18)) rfl) <| w_done ?_
   obtain rfl := Option.some.inj he
   refine w_return fn_40 rs_40 (.tmp (v := .string (strOf y18)) rfl .nil) <| ⟨⟨[_, _, _], rfl⟩, hle.trans e21, rfl⟩
  ·
   refine w_else rfl (Bool.eq_false_iff.2 c10) <| w_skip <| w_seq <| w_region rfl <| w_d rfl (d_move (v := v_out) rfl) ?_
   obtain ⟨y24, hy25, he⟩ := Option.bind_eq_some_iff.1 he
   refine w_a rfl (o_call co77 (vs := [v_out]) rfl (ct_at (F := fun z_ => z_ :: some (b_a, .cells ⟨[.bool a_0, v_a_1]⟩ 36 (0, 0)) :: L) (slices_Reverse_byte_byte.calls k hy25 h_out) .here (fun _ => .here))) ?_
   rintro _ H26 _ ⟨i28, rfl, e27, h29, rfl⟩
   refine w_done <| w_seq <| w_region rfl <| w_d rfl (d_move (v := v_out) rfl) <| w_d rfl (d_strof Tryz.underlying22 Tryz.underlying5 Tryz.underlying9 rfl (h29.src .here)) <| w_d rfl (d_assign (v := .string (strOf y24)) rfl) <| w_done ?_
   obtain rfl := Option.some.inj he
   refine w_return fn_40 rs_40 (.tmp (v := .string (strOf y24)) rfl .nil) <| ⟨⟨[_, _], rfl⟩, hle.trans e27, rfl⟩
theorem wide_Int_Text.b1_ok {k : Nat} {h : wide_Int_Text.Hs} (hh : wide_Int_Text.OK h) {H0 H : Hp} {L : Items} {r : ByteArray} {jk_ : Nat → Value} {a_0 : Bool} {a_1 : List Int} {t2 : ByteArray} {out : List Int} {w : List Int} {r_ : Int} {k_ : Int} {v_a_1 : Value} {v_out : Value} {v_w : Value} {i_out : Item'} {b_a : Nat} (hle : H0.le H) (he : wide_Int_Text.b1 k h a_0 a_1 t2 out w r_ k_ = some r) (h_a_1 : Ro (Kd.int .u32) H v_a_1 a_1) (h_out : Sl (Kd.int .u8) H 5 i_out v_out out) (h_w : Ro (Kd.int .u32) H v_w w) : Wp Tryz.prog 40 52 wide_Int_Text.Kl1 (upd (upd (upd (upd (upd (upd jk_ 1 (.pointer (some ⟨b_a, 0, none⟩))) 2 (.string t2)) 3 (v_out)) 4 (v_w)) 5 (.int .u32 r_)) 6 (.int .i64 k_)) H (i_out :: some (b_a, .cells ⟨[.bool a_0, v_a_1]⟩ 36 (0, 0)) :: L) (wide_Int_Text.R H0 L r) := by
 unfold wide_Int_Text.b1 at he
 unfold wide_Int_Text.Kl1
 refine w_seq <| w_seq <| w_region rfl <| w_d rfl (d_move (v := .int .i64 k_) rfl) <| w_d rfl (d_lss rfl rfl) <| w_d rfl (d_move (v := .bool (decide (k_ < 9))) rfl) <| w_g (g := decide (k_ < 9)) rfl rfl rfl wn_t (fun g30 => d_move (v := v_w) rfl) <| w_g (g := decide (k_ < 9)) rfl rfl rfl wn_t (fun g31 => d_len Tryz.underlying34 (cvt g31) h_w.src) <| w_g (g := decide (k_ < 9)) rfl rfl rfl wn_t (fun g32 => d_gtr (cvt g32) rfl) <| w_g (g := decide (k_ < 9)) rfl rfl rfl wn_t (fun g33 => d_move (v := .bool (decide (0 < (w.length : Int)))) (cvt g33)) <| w_g (g := (decide (k_ < 9)) && (!(decide (0 < (w.length : Int))))) rfl rfl rfl wn_gf (fun g34 => d_move (v := .int .u32 r_) rfl) <| w_g (g := (decide (k_ < 9)) && (!(decide (0 < (w.length : Int))))) rfl rfl rfl wn_gf (fun g35 => d_gtr (cvt g35) rfl) ?_
 refine w_g (g := decide (k_ < 9)) rfl rfl rfl wn_t (fun g36 => d_or' (b := (decide (0 < (w.length : Int)))) (p := (decide (0 < r_))) (cvt g36) rfl (cva g36)) <| w_d rfl (d_and' (b := (decide (k_ < 9))) (p := ((decide (0 < (w.length : Int))) || (decide (0 < r_)))) rfl rfl rfl) <| w_done ?_
 rcases its he with ⟨c37, he⟩ | ⟨c37, he⟩
 ·
  refine w_then rfl c37 <| w_skip <| w_seq <| w_block <| w_seq <| w_region rfl <| w_d rfl (d_move (v := v_out) rfl) <| w_d rfl (d_move (v := .int .u32 r_) rfl) <| w_d rfl (d_rem rfl rfl (by decide)) <| w_d rfl (d_conv (c := (Int.tmod r_ 10) % 256) Tryz.underlying90 Tryz.underlying5 rfl rfl) <| w_d rfl (d_add (c := (48 + ((Int.tmod r_ 10) % 256)) % 256) rfl rfl rfl) <| w_a rfl (o_buildSlice' (kd := (Kd.int .u8)) (css := [[.int .u8 ((48 + ((Int.tmod r_ 10) % 256)) % 256)]]) (xs := [(48 + ((Int.tmod r_ 10) % 256)) % 256]) (parts := [(0, .int .u8 ((48 + ((Int.tmod r_ 10) % 256)) % 256))]) Tryz.underlying22 ti5 rfl ⟨_, _, rfl, rfl, rfl⟩ ⟨rfl, trivial⟩ rfl (by decide)) ?_
  rintro v38 _ _ ⟨i39, rfl, rfl, h40⟩
  obtain ⟨c41, he⟩ := rq he
  refine w_a rfl (o_append' (kd := (Kd.int .u8)) (F := fun z_ => i39 :: z_ :: some (b_a, .cells ⟨[.bool a_0, v_a_1]⟩ 36 (0, 0)) :: L) Tryz.underlying22 Tryz.underlying22 ti5 rfl (by first | omega | (simp only [List.nil_append, List.length_cons, List.length_nil]; omega)) rfl rfl h_out (h40.src .here) (fun _ => (.there .here))) ?_
  rintro v42 _ _ ⟨i43, rfl, rfl, h44⟩
  refine w_d rfl (d_assign (v := v42) rfl) <| w_done <| w_region rfl <| w_d rfl (d_move (v := .int .u32 r_) rfl) <| w_d rfl (d_quo (c := (Int.tdiv r_ 10) % 4294967296) rfl rfl (by decide) rfl) <| w_d rfl (d_assign (v := .int .u32 ((Int.tdiv r_ 10) % 4294967296)) rfl) <| w_done <| w_inBlock <| w_region rfl <| w_d rfl (d_move (v := .int .i64 k_) rfl) <| w_d rfl (d_add (c := w64 (k_ + 1)) rfl rfl rfl) <| w_d rfl (d_assign (v := .int .i64 (w64 (k_ + 1))) rfl) ?_
  refine w_done <| w_inLoop <| w_del .here <| w_sl 1 (.pointer (some ⟨b_a, 0, none⟩)) rfl <| w_sl 2 (.string t2) rfl <| w_sl 3 (v42) rfl <| w_sl 4 (v_w) rfl <| w_sl 5 (.int .u32 ((Int.tdiv r_ 10) % 4294967296)) rfl <| w_sl 6 (.int .i64 (w64 (k_ + 1))) rfl <| hh.l1 hle he h_a_1 h44 h_w
 ·
  refine w_else rfl (Bool.eq_false_iff.2 c37) <| w_exit rfl <| w_inBlock <| w_inLoop <| w_sl 1 (.pointer (some ⟨b_a, 0, none⟩)) rfl <| w_sl 2 (.string t2) rfl <| w_sl 3 (v_out) rfl <| w_sl 4 (v_w) rfl <| hh.l0 hle he h_a_1 h_out h_w
theorem wide_Int_Text.ok : ∀ k, wide_Int_Text.OK (wide_Int_Text.hs k)
 | 0 => ⟨(by intros; exact nomatch (show none = some _ from by assumption)), (by intros; exact nomatch (show none = some _ from by assumption))⟩
 | k + 1 => ⟨wide_Int_Text.b0_ok (k := k) (wide_Int_Text.ok k), wide_Int_Text.b1_ok (k := k) (wide_Int_Text.ok k)⟩
theorem wide_Int_Text.calls (k : Nat) {H : Hp} {L : Items} {a : wide_Int} {v0_a : Value} {r : ByteArray} (he : wide_Int_Text.f k a = some r) (h0_a : Ro (Kd.int .u32) H v0_a a.f_w) : Ct Tryz.prog 40 ⟨[.agg ⟨[.bool a.f_neg, v0_a]⟩]⟩ H L (fun v H' L' => L = L' ∧ H = H' ∧ v = .string r) := by
 refine ct_outs (O := wide_Int_Text.out r) (fun _ _ h => h) ?_
 have hle : H.le H := .refl _
 have hh := wide_Int_Text.ok k
 unfold wide_Int_Text.f at he
 refine ct_enter (args := [.agg ⟨[.bool a.f_neg, v0_a]⟩]) fn_40 rfl nt_40 rfl <| w_seq <| w_region rfl <| w_a rfl (o_box (v := .agg ⟨[.bool a.f_neg, v0_a]⟩) rfl rfl) ?_
 rintro _ _ _ ⟨b1, rfl, rfl, rfl⟩
 refine w_d rfl (d_assign (v := .string str_0) rfl) <| w_done <| w_seq <| w_seq <| w_region rfl <| w_d rfl (d_fld (o' := 1) Tryz.underlying36 rfl sz34 rfl rfl rfl) <| w_d rfl (d_loado (v := v0_a) ty34 rfl .here rfl rfl rfl rfl) <| w_d rfl (d_len Tryz.underlying34 rfl h0_a.src) <| w_d rfl (d_eql rfl rfl) <| w_done ?_
 rcases its he with ⟨c2, he⟩ | ⟨c2, he⟩
 ·
  refine w_then rfl (decide_eq_true c2) <| w_seq <| w_region rfl <| w_d rfl (d_assign (v := .string str_2) rfl) <| w_done ?_
  obtain rfl := Option.some.inj he
  refine w_return fn_40 rs_40 (.tmp (v := .string str_2) rfl .nil) <| ⟨⟨[_], rfl⟩, hle, rfl⟩
 ·
  refine w_else rfl (decide_eq_false c2) <| w_skip <| w_seq <| w_region rfl <| w_d rfl (d_assign (v := .slice none 0 0) rfl) <| w_done <| w_seq <| w_seq <| w_region rfl <| w_d rfl (d_fld (o' := 1) Tryz.underlying36 rfl sz34 rfl rfl rfl) <| w_d rfl (d_loado (v := v0_a) ty34 rfl .here rfl rfl rfl rfl) <| w_d rfl (d_assign (v := v0_a) rfl) ?_
  refine w_done <| w_block <| w_loop <| w_none <| w_sl 1 (.pointer (some ⟨b1, 0, none⟩)) rfl <| w_sl 2 (.string str_0) rfl <| w_sl 3 (.slice none 0 0) rfl <| w_sl 4 (v0_a) rfl <| hh.l0 hle he h0_a (sl_nil _ _ _) h0_a
/-! ### (radome/ratio.Ratio).Text -/
noncomputable def ratio_Ratio_Text.C : Code := (Tryz.f10.body).getD .skip
def ratio_Ratio_Text.out (r : ByteArray) (H : Hp) (v : Value) : Prop := v = .string r
abbrev ratio_Ratio_Text.R (H0 : Hp) (L : Items) (r : ByteArray) : Value → Hp → Items → Prop := fun v H' L' => (∃ p, L' = p ++ L) ∧ H0.le H' ∧ ratio_Ratio_Text.out r H' v
noncomputable def ratio_Ratio_Text.f (k : Nat) (a : ratio_Ratio) : Option ByteArray := (wide_Int_Text.f k (⟨a.f_n.f_neg, a.f_n.f_w⟩ : wide_Int)).bind fun y2 => if (y2.size + str_5.size : Int) ≤ 9223372036854775807 then ((ratio_Ratio_under.f k (⟨(⟨a.f_n.f_neg, a.f_n.f_w⟩ : wide_Int), (⟨a.f_d.f_neg, a.f_d.f_w⟩ : wide_Int)⟩ : ratio_Ratio)).bind fun y7 => (wide_Int_Text.f k (⟨y7.f_neg, y7.f_w⟩ : wide_Int)).bind fun y13 => if ((y2 ++ str_5).size + y13.size : Int) ≤ 9223372036854775807 then (some ((y2 ++ str_5) ++ y13)) else none) else none
theorem ratio_Ratio_Text.mono : ∀ k y0, LeO (ratio_Ratio_Text.f k y0) (ratio_Ratio_Text.f (k + 1) y0) := fun k _ => by unfold ratio_Ratio_Text.f; exact (LeO.bind (wide_Int_Text.mono k _) fun _ => LeO.ite (LeO.bind (ratio_Ratio_under.mono k _) fun _ => LeO.bind (wide_Int_Text.mono k _) fun _ => LeO.ite (LeO.refl _) (LeO.refl _)) (LeO.refl _))
theorem ratio_Ratio_Text.calls (k : Nat) {H : Hp} {L : Items} {a : ratio_Ratio} {v0_a : Value} {v1_a : Value} {r : ByteArray} (he : ratio_Ratio_Text.f k a = some r) (h0_a : Ro (Kd.int .u32) H v0_a a.f_n.f_w) (h1_a : Ro (Kd.int .u32) H v1_a a.f_d.f_w) : Ct Tryz.prog 10 ⟨[.agg ⟨[.bool a.f_n.f_neg, v0_a, .bool a.f_d.f_neg, v1_a]⟩]⟩ H L (fun v H' L' => L = L' ∧ H = H' ∧ v = .string r) := by
 refine ct_outs (O := ratio_Ratio_Text.out r) (fun _ _ h => h) ?_
 have hle : H.le H := .refl _
 unfold ratio_Ratio_Text.f at he
 refine ct_enter (args := [.agg ⟨[.bool a.f_n.f_neg, v0_a, .bool a.f_d.f_neg, v1_a]⟩]) fn_10 rfl nt_10 rfl <| w_seq <| w_region rfl <| w_a rfl (o_box (v := .agg ⟨[.bool a.f_n.f_neg, v0_a, .bool a.f_d.f_neg, v1_a]⟩) rfl rfl) ?_
 rintro _ _ _ ⟨b1, rfl, rfl, rfl⟩
 refine w_d rfl (d_assign (v := .string str_0) rfl) <| w_done <| w_seq ?_
 obtain ⟨y2, hy3, he⟩ := Option.bind_eq_some_iff.1 he
 obtain ⟨c6, he⟩ := rq he
 obtain ⟨y7, hy8, he⟩ := Option.bind_eq_some_iff.1 he
 obtain ⟨y13, hy14, he⟩ := Option.bind_eq_some_iff.1 he
 refine w_drawn (p := 7) (tl := [7, 8]) [[], [(0, some 3)], [(1, some 4)], [(2, some 5)], [], [(4, some 7)], [(5, some 8)]] [some 3, some 4, some 5, some 6, some 7, some 8, some 9] (fctF (.is (.pointer (some ⟨b1, 0, none⟩)) :: .is (.agg ⟨[.bool a.f_n.f_neg, v0_a]⟩) :: .is (.string y2) :: .is (.string (y2 ++ str_5)) :: .is (.agg ⟨[.bool a.f_n.f_neg, v0_a, .bool a.f_d.f_neg, v1_a]⟩) :: .of (ratio_Ratio_under.out y7) (ratio_Ratio_under.out_mono _) :: .is (.string y13) :: [])) (fun m_ => some (b1, .cells ⟨[.bool a.f_n.f_neg, v0_a, .bool a.f_d.f_neg, v1_a]⟩ 38 (0, 0)) :: L) (fun _ => none) mixed (by kernel_rfl) (by kernel_rfl) rfl (fct_mono (by kernel_rfl)) ⟨(fun H' m_ hH hm_ hu_ => depK_nil <| s_d (m_ 0) rfl (d_fld (o' := 0) Tryz.underlying38 rfl sz36 rfl rfl rfl) (by exact rfl) rfl), (by rintro H' m_ hH hm_ hu_ _ rfl; exact depK_nil <| s_d (m_ 1) rfl (d_loado (v := .agg ⟨[.bool a.f_n.f_neg, v0_a]⟩) ty36 rfl .here rfl rfl rfl rfl) (by exact rfl) rfl), (by rintro H' m_ hH hm_ hu_ _ rfl; exact depK_nil <| s_d (m_ 2) rfl (call_d (o_call co40 (vs := [.agg ⟨[.bool a.f_n.f_neg, v0_a]⟩]) rfl (wide_Int_Text.calls k (a := ⟨a.f_n.f_neg, a.f_n.f_w⟩) hy3 (h0_a.mono hH)))) (by exact rfl) rfl), (by rintro H' m_ hH hm_ hu_ _ rfl; exact depK_nil <| s_d (m_ 3) rfl (d_cat rfl rfl c6) (by exact rfl) rfl), (fun H' m_ hH hm_ hu_ => depK_nil <| s_d (m_ 4) rfl (d_loado (v := .agg ⟨[.bool a.f_n.f_neg, v0_a, .bool a.f_d.f_neg, v1_a]⟩) ty38 rfl .here rfl rfl rfl rfl) (by exact rfl) rfl), (by rintro H' m_ hH hm_ hu_ _ rfl; exact depK_nil <| s_k (m_ 5) rfl (o_call co34 (vs := [.agg ⟨[.bool a.f_n.f_neg, v0_a, .bool a.f_d.f_neg, v1_a]⟩]) rfl (ratio_Ratio_under.calls k (a := ⟨⟨a.f_n.f_neg, a.f_n.f_w⟩, ⟨a.f_d.f_neg, a.f_d.f_w⟩⟩) hy8 (h0_a.mono hH) (h1_a.mono hH))) rfl (by rintro v_ H_ _ ⟨rfl, e_, h_⟩; exact ⟨rfl, e_, h_⟩)), (by rintro H' m_ hH hm_ hu_ _ ⟨v11, rfl, h12⟩; exact depK_nil <| s_d (m_ 6) rfl (call_d (o_call co40 (vs := [.agg ⟨[.bool y7.f_neg, v11]⟩]) rfl (wide_Int_Text.calls k (a := ⟨y7.f_neg, y7.f_w⟩) hy14 h12))) (by exact rfl) rfl), trivial⟩ ?_
 intro H17 e18
 rintro _ _ rfl _ _ rfl _ _ rfl _ _ rfl _ _ rfl _ _ ⟨v11, rfl, h12⟩ _ _ rfl
 obtain ⟨c19, he⟩ := rq he
 refine w_d rfl (d_cat rfl rfl c19) <| w_d rfl (d_assign (v := .string ((y2 ++ str_5) ++ y13)) rfl) <| w_done ?_
 obtain rfl := Option.some.inj he
 refine w_return fn_10 rs_10 (.tmp (v := .string ((y2 ++ str_5) ++ y13)) rfl .nil) <| ⟨⟨[_], rfl⟩, hle.trans e18, rfl⟩
end Go.Proofs.YtmnhbbckndlnkaaGreatDoor.GRN

/- A text of this session, written by a program (wip/k/gen.py): Go functions as Lean functions, and proofs that the code comes to them. -/
import Derived.Test.YtmnhbbckndlnkaaDoorGRLx3
namespace Go.Proofs.YtmnhbbckndlnkaaDoor.GRL
open Go Go.RowKit Go.Proofs.YtmnhbbckndlnkaaDoorK Go.Proofs.YtmnhbbckndlnkaaDoor
set_option maxRecDepth 100000
set_option maxHeartbeats 2000000
set_option linter.unusedVariables false
set_option linter.unusedSimpArgs false
/-! ### (radome/wide.Int).Mul -/
noncomputable def wide_Int_Mul.C : Code := (Tryd.f11.body).getD .skip
def wide_Int_Mul.out (r : wide_Int × (Option Int)) (H : Hp) (v : Value) : Prop := ∃ v0, v = .tuple ⟨[.agg ⟨[.bool r.1.f_neg, v0]⟩, errV 89 r.2]⟩ ∧ Ro (Kd.int .u32) H v0 r.1.f_w
theorem wide_Int_Mul.out_mono (r : wide_Int × (Option Int)) {H H' : Hp} {v : Value} (hle : H.le H') (h : wide_Int_Mul.out r H v) : wide_Int_Mul.out r H' v := by
 obtain ⟨v0, rfl, h0⟩ := h; exact ⟨v0, rfl, h0.mono hle⟩
abbrev wide_Int_Mul.R (H0 : Hp) (L : Items) (r : wide_Int × (Option Int)) : Value → Hp → Items → Prop := fun v H' L' => (∃ p, L' = p ++ L) ∧ H0.le H' ∧ wide_Int_Mul.out r H' v
noncomputable def wide_Int_Mul.f (k : Nat) (a : wide_Int) (b : wide_Int) : Option (wide_Int × (Option Int)) := (wide_times.f k a.f_w b.f_w).bind fun y4 => (wide_made.f k (!(a.f_neg == b.f_neg)) y4).bind fun y10 => some ((⟨y10.1.f_neg, y10.1.f_w⟩ : wide_Int), y10.2)
theorem wide_Int_Mul.mono : ∀ k y0 y1, LeO (wide_Int_Mul.f k y0 y1) (wide_Int_Mul.f (k + 1) y0 y1) := fun k _ _ => by unfold wide_Int_Mul.f; exact (LeO.bind (wide_times.mono k _ _) fun _ => LeO.bind (wide_made.mono k _ _) fun _ => LeO.refl _)
theorem wide_Int_Mul.calls (k : Nat) {H : Hp} {L : Items} {a : wide_Int} {b : wide_Int} {v0_a : Value} {v1_b : Value} {r : wide_Int × (Option Int)} (he : wide_Int_Mul.f k a b = some r) (h0_a : Ro (Kd.int .u32) H v0_a a.f_w) (h1_b : Ro (Kd.int .u32) H v1_b b.f_w) : Ct Tryd.prog 11 ⟨[.agg ⟨[.bool a.f_neg, v0_a]⟩, .agg ⟨[.bool b.f_neg, v1_b]⟩]⟩ H L (fun v H' L' => L = L' ∧ H.le H' ∧ wide_Int_Mul.out r H' v) := by
 refine ct_out (O := wide_Int_Mul.out r) ?_
 have hle : H.le H := .refl _
 unfold wide_Int_Mul.f at he
 refine ct_enter (args := [.agg ⟨[.bool a.f_neg, v0_a]⟩, .agg ⟨[.bool b.f_neg, v1_b]⟩]) fn_11 rfl nt_11 rfl <| w_seq <| w_region rfl <| w_a rfl (o_box (v := .agg ⟨[.bool a.f_neg, v0_a]⟩) rfl rfl) ?_
 rintro _ _ _ ⟨b1, rfl, rfl, rfl⟩
 refine w_a rfl (o_box (v := .agg ⟨[.bool b.f_neg, v1_b]⟩) rfl rfl) ?_
 rintro _ _ _ ⟨b2, rfl, rfl, rfl⟩
 refine w_a rfl (o_alloc zr30 rfl) ?_
 rintro _ _ _ ⟨b3, rfl, rfl, rfl⟩
 refine w_d rfl (d_assign (v := errV 89 none) rfl) <| w_done <| w_seq ?_
 obtain ⟨y4, hy5, he⟩ := Option.bind_eq_some_iff.1 he
 obtain ⟨y10, hy11, he⟩ := Option.bind_eq_some_iff.1 he
 refine w_drawn (p := 13) (tl := [13, 14]) [[], [(0, some 6)], [], [(2, some 8)], [(1, some 7), (3, some 9)], [], [(5, some 11)], [], [(7, some 13)], [(6, some 12), (8, some 14)], [(4, some 10), (9, some 15)], [(10, some 16)], [(10, some 16)]] [some 6, some 7, some 8, some 9, some 10, some 11, some 12, some 13, some 14, some 15, some 16, some 17, some 18] (fctF (.is (.pointer (some ⟨b1, 0, none⟩)) :: .is (.bool a.f_neg) :: .is (.pointer (some ⟨b2, 0, none⟩)) :: .is (.bool b.f_neg) :: .is (.bool (!(a.f_neg == b.f_neg))) :: .is (.pointer (some ⟨b1, 1, none⟩)) :: .is (v0_a) :: .is (.pointer (some ⟨b2, 1, none⟩)) :: .is (v1_b) :: .ro (Kd.int .u32) (y4) :: .of (wide_made.out y10) (wide_made.out_mono _) :: .of (fun H v => ∃ v16, v = .agg ⟨[.bool y10.1.f_neg, v16]⟩ ∧ Ro (Kd.int .u32) H v16 y10.1.f_w) (by rintro _ _ _ hle ⟨v16, rfl, h17⟩; exact ⟨v16, rfl, h17.mono hle⟩) :: .is (errV 89 y10.2) :: [])) (fun m_ => some (b3, .cells ⟨[.bool false, .slice none 0 0]⟩ 30 (0, 0)) :: some (b2, .cells ⟨[.bool b.f_neg, v1_b]⟩ 30 (0, 0)) :: some (b1, .cells ⟨[.bool a.f_neg, v0_a]⟩ 30 (0, 0)) :: L) (fun _ => none) mixed (by kernel_rfl) (by kernel_rfl) rfl (fct_mono (by kernel_rfl)) ⟨(fun H' m_ hH hm_ hu_ => depK_nil <| s_d (m_ 0) rfl (d_fld (o' := 0) Tryd.underlying30 rfl sz4 rfl rfl rfl) (by exact rfl) rfl), (by rintro H' m_ hH hm_ hu_ _ rfl; exact depK_nil <| s_d (m_ 1) rfl (d_loado (v := .bool a.f_neg) ty4 rfl (.there (.there .here)) rfl rfl rfl rfl) (by exact rfl) rfl), (fun H' m_ hH hm_ hu_ => depK_nil <| s_d (m_ 2) rfl (d_fld (o' := 0) Tryd.underlying30 rfl sz4 rfl rfl rfl) (by exact rfl) rfl), (by rintro H' m_ hH hm_ hu_ _ rfl; exact depK_nil <| s_d (m_ 3) rfl (d_loado (v := .bool b.f_neg) ty4 rfl (.there .here) rfl rfl rfl rfl) (by exact rfl) rfl), (by rintro H' m_ hH hm_ hu_ _ rfl _ rfl; exact depK_nil <| s_d (m_ 4) rfl (d_neb (a := a.f_neg) (b := b.f_neg) Tryd.underlying4 rfl rfl) (by exact rfl) rfl), (fun H' m_ hH hm_ hu_ => depK_nil <| s_d (m_ 5) rfl (d_fld (o' := 1) Tryd.underlying30 rfl sz28 rfl rfl rfl) (by exact rfl) rfl), (by rintro H' m_ hH hm_ hu_ _ rfl; exact depK_nil <| s_d (m_ 6) rfl (d_loado (v := v0_a) ty28 rfl (.there (.there .here)) rfl rfl rfl rfl) (by exact rfl) rfl), (fun H' m_ hH hm_ hu_ => depK_nil <| s_d (m_ 7) rfl (d_fld (o' := 1) Tryd.underlying30 rfl sz28 rfl rfl rfl) (by exact rfl) rfl), (by rintro H' m_ hH hm_ hu_ _ rfl; exact depK_nil <| s_d (m_ 8) rfl (d_loado (v := v1_b) ty28 rfl (.there .here) rfl rfl rfl rfl) (by exact rfl) rfl), (by rintro H' m_ hH hm_ hu_ _ rfl _ rfl; exact depK_nil <| s_k (m_ 9) rfl (o_call co49 (vs := [v0_a, v1_b]) rfl (wide_times.calls k hy5 ((h0_a.mono hH).src) ((h1_b.mono hH).src))) rfl (by rintro v_ H_ _ ⟨rfl, e_, h_⟩; exact ⟨rfl, e_, h_⟩)), (by rintro H' m_ hH hm_ hu_ _ rfl v8 (h9 : Ro (Kd.int .u32) H' v8 y4); exact depK_nil <| s_k (m_ 10) rfl (o_call co45 (vs := [.bool (!(a.f_neg == b.f_neg)), v8]) rfl (wide_made.calls k hy11 h9)) rfl (by rintro v_ H_ _ ⟨rfl, e_, h_⟩; exact ⟨rfl, e_, h_⟩)), (by rintro H' m_ hH hm_ hu_ _ ⟨v14, rfl, h15⟩; exact depK_nil <| s_d (m_ 11) rfl (d_ext (vs := [.agg ⟨[.bool y10.1.f_neg, v14]⟩, errV 89 y10.2]) rfl rfl) (by exact ⟨v14, rfl, h15⟩) rfl), (by rintro H' m_ hH hm_ hu_ _ ⟨v14, rfl, h15⟩; exact depK_nil <| s_d (m_ 12) rfl (d_ext (vs := [.agg ⟨[.bool y10.1.f_neg, v14]⟩, errV 89 y10.2]) rfl rfl) (by exact rfl) rfl), trivial⟩ ?_
 intro H18 e19
 rintro _ _ rfl _ _ rfl _ _ rfl _ _ rfl _ _ rfl _ _ rfl _ _ rfl _ _ rfl _ _ rfl v8 _ (h9 : Ro (Kd.int .u32) H18 v8 y4) _ _ ⟨v14, rfl, h15⟩ _ _ ⟨v16, rfl, h17⟩ _ _ rfl
 refine w_a0 rfl (o_store (v := .agg ⟨[.bool y10.1.f_neg, v16]⟩) sz30 rfl rfl rfl rfl (one_cons rfl (one_cons (h17.one) one_nil)) .here (.here (.here .done))) ?_
 rintro _ _ _ ⟨rfl, rfl, rfl⟩
 refine w_d rfl (d_assign (v := errV 89 y10.2) rfl) <| w_done ?_
 obtain rfl := Option.some.inj he
 refine w_return fn_11 rs_11 (.box (v := .agg ⟨[.bool y10.1.f_neg, v16]⟩) rfl ty30 rfl rfl .here rfl (.tmp (v := errV 89 y10.2) rfl .nil)) <| ⟨⟨[_, _, _], rfl⟩, hle.trans e19, ⟨v16, rfl, h17⟩⟩
/-! ### (radome/ratio.Ratio).cross -/
noncomputable def ratio_Ratio_cross.C : Code := (Tryd.f91.body).getD .skip
def ratio_Ratio_cross.out (r : wide_Int × wide_Int × (Option Int)) (H : Hp) (v : Value) : Prop := ∃ v0, ∃ v1, v = .tuple ⟨[.agg ⟨[.bool r.1.f_neg, v0]⟩, .agg ⟨[.bool r.2.1.f_neg, v1]⟩, errV 89 r.2.2]⟩ ∧ Ro (Kd.int .u32) H v0 r.1.f_w ∧ Ro (Kd.int .u32) H v1 r.2.1.f_w
theorem ratio_Ratio_cross.out_mono (r : wide_Int × wide_Int × (Option Int)) {H H' : Hp} {v : Value} (hle : H.le H') (h : ratio_Ratio_cross.out r H v) : ratio_Ratio_cross.out r H' v := by
 obtain ⟨v0, v1, rfl, h0, h1⟩ := h; exact ⟨v0, v1, rfl, h0.mono hle, h1.mono hle⟩
abbrev ratio_Ratio_cross.R (H0 : Hp) (L : Items) (r : wide_Int × wide_Int × (Option Int)) : Value → Hp → Items → Prop := fun v H' L' => (∃ p, L' = p ++ L) ∧ H0.le H' ∧ ratio_Ratio_cross.out r H' v
noncomputable def ratio_Ratio_cross.f (k : Nat) (a : ratio_Ratio) (b : ratio_Ratio) : Option (wide_Int × wide_Int × (Option Int)) := (ratio_Ratio_under.f k (⟨(⟨b.f_n.f_neg, b.f_n.f_w⟩ : wide_Int), (⟨b.f_d.f_neg, b.f_d.f_w⟩ : wide_Int)⟩ : ratio_Ratio)).bind fun y5 => (wide_Int_Mul.f k (⟨a.f_n.f_neg, a.f_n.f_w⟩ : wide_Int) (⟨y5.f_neg, y5.f_w⟩ : wide_Int)).bind fun y11 => if y11.2.isSome = true then (some ((⟨y11.1.f_neg, y11.1.f_w⟩ : wide_Int), (⟨y11.1.f_neg, y11.1.f_w⟩ : wide_Int), y11.2)) else ((ratio_Ratio_under.f k (⟨(⟨a.f_n.f_neg, a.f_n.f_w⟩ : wide_Int), (⟨a.f_d.f_neg, a.f_d.f_w⟩ : wide_Int)⟩ : ratio_Ratio)).bind fun y31 => (wide_Int_Mul.f k (⟨b.f_n.f_neg, b.f_n.f_w⟩ : wide_Int) (⟨y31.f_neg, y31.f_w⟩ : wide_Int)).bind fun y37 => some ((⟨y11.1.f_neg, y11.1.f_w⟩ : wide_Int), (⟨y37.1.f_neg, y37.1.f_w⟩ : wide_Int), y37.2))
theorem ratio_Ratio_cross.mono : ∀ k y0 y1, LeO (ratio_Ratio_cross.f k y0 y1) (ratio_Ratio_cross.f (k + 1) y0 y1) := fun k _ _ => by unfold ratio_Ratio_cross.f; exact (LeO.bind (ratio_Ratio_under.mono k _) fun _ => LeO.bind (wide_Int_Mul.mono k _ _) fun _ => LeO.ite (LeO.refl _) (LeO.bind (ratio_Ratio_under.mono k _) fun _ => LeO.bind (wide_Int_Mul.mono k _ _) fun _ => LeO.refl _))
theorem ratio_Ratio_cross.calls (k : Nat) {H : Hp} {L : Items} {a : ratio_Ratio} {b : ratio_Ratio} {v0_a : Value} {v1_a : Value} {v2_b : Value} {v3_b : Value} {r : wide_Int × wide_Int × (Option Int)} (he : ratio_Ratio_cross.f k a b = some r) (h0_a : Ro (Kd.int .u32) H v0_a a.f_n.f_w) (h1_a : Ro (Kd.int .u32) H v1_a a.f_d.f_w) (h2_b : Ro (Kd.int .u32) H v2_b b.f_n.f_w) (h3_b : Ro (Kd.int .u32) H v3_b b.f_d.f_w) : Ct Tryd.prog 91 ⟨[.agg ⟨[.bool a.f_n.f_neg, v0_a, .bool a.f_d.f_neg, v1_a]⟩, .agg ⟨[.bool b.f_n.f_neg, v2_b, .bool b.f_d.f_neg, v3_b]⟩]⟩ H L (fun v H' L' => L = L' ∧ H.le H' ∧ ratio_Ratio_cross.out r H' v) := by
 refine ct_out (O := ratio_Ratio_cross.out r) ?_
 have hle : H.le H := .refl _
 unfold ratio_Ratio_cross.f at he
 refine ct_enter (args := [.agg ⟨[.bool a.f_n.f_neg, v0_a, .bool a.f_d.f_neg, v1_a]⟩, .agg ⟨[.bool b.f_n.f_neg, v2_b, .bool b.f_d.f_neg, v3_b]⟩]) fn_91 rfl nt_91 rfl <| w_seq <| w_region rfl <| w_a rfl (o_box (v := .agg ⟨[.bool a.f_n.f_neg, v0_a, .bool a.f_d.f_neg, v1_a]⟩) rfl rfl) ?_
 rintro _ _ _ ⟨b1, rfl, rfl, rfl⟩
 refine w_a rfl (o_box (v := .agg ⟨[.bool b.f_n.f_neg, v2_b, .bool b.f_d.f_neg, v3_b]⟩) rfl rfl) ?_
 rintro _ _ _ ⟨b2, rfl, rfl, rfl⟩
 refine w_a rfl (o_alloc zr30 rfl) ?_
 rintro _ _ _ ⟨b3, rfl, rfl, rfl⟩
 refine w_a rfl (o_alloc zr30 rfl) ?_
 rintro _ _ _ ⟨b4, rfl, rfl, rfl⟩
 refine w_d rfl (d_assign (v := errV 89 none) rfl) <| w_done <| w_seq ?_
 obtain ⟨y5, hy6, he⟩ := Option.bind_eq_some_iff.1 he
 obtain ⟨y11, hy12, he⟩ := Option.bind_eq_some_iff.1 he
 refine w_none (?_)
 refine w_drawn (p := 10) (tl := [10]) [[], [(0, some 11)], [], [(2, some 13)], [(1, some 12), (3, some 14)], [(4, some 15)], [(5, some 10)], [(5, some 10)], [], [(6, some 16), (8, some 7)]] [some 11, some 12, some 13, some 14, some 15, some 10, some 16, some 17, some 7, none] (fctF (.is (.pointer (some ⟨b1, 0, none⟩)) :: .is (.agg ⟨[.bool a.f_n.f_neg, v0_a]⟩) :: .is (.agg ⟨[.bool b.f_n.f_neg, v2_b, .bool b.f_d.f_neg, v3_b]⟩) :: .of (ratio_Ratio_under.out y5) (ratio_Ratio_under.out_mono _) :: .of (wide_Int_Mul.out y11) (wide_Int_Mul.out_mono _) :: .of (fun H v => ∃ v17, v = .tuple ⟨[.agg ⟨[.bool y11.1.f_neg, v17]⟩, errV 89 y11.2]⟩ ∧ Ro (Kd.int .u32) H v17 y11.1.f_w) (by rintro _ _ _ hle ⟨v17, rfl, h18⟩; exact ⟨v17, rfl, h18.mono hle⟩) :: .of (fun H v => ∃ v19, v = .agg ⟨[.bool y11.1.f_neg, v19]⟩ ∧ Ro (Kd.int .u32) H v19 y11.1.f_w) (by rintro _ _ _ hle ⟨v19, rfl, h20⟩; exact ⟨v19, rfl, h20.mono hle⟩) :: .is (errV 89 y11.2) :: .box 30 [.bool false, .slice none 0 0] :: .st 8 (fun H bq_ itq_ => ∃ v22, itq_ = some (bq_, .cells ⟨[.bool y11.1.f_neg, v22]⟩ 30 (0, 0)) ∧ Ro (Kd.int .u32) H v22 y11.1.f_w) (by rintro _ _ _ _ hle ⟨v22, rfl, h23⟩; exact ⟨v22, rfl, h23.mono hle⟩) :: [])) (fun m_ => pk (m_ 9) (m_ 8) :: some (b4, .cells ⟨[.bool false, .slice none 0 0]⟩ 30 (0, 0)) :: some (b3, .cells ⟨[.bool false, .slice none 0 0]⟩ 30 (0, 0)) :: some (b2, .cells ⟨[.bool b.f_n.f_neg, v2_b, .bool b.f_d.f_neg, v3_b]⟩ 64 (0, 0)) :: some (b1, .cells ⟨[.bool a.f_n.f_neg, v0_a, .bool a.f_d.f_neg, v1_a]⟩ 64 (0, 0)) :: L) (fun _ => none) mixed (by kernel_rfl) (by kernel_rfl) rfl (fct_mono (by kernel_rfl)) ⟨(fun H' m_ hH hm_ hu_ => depK_nil <| s_d (m_ 0) rfl (d_fld (o' := 0) Tryd.underlying64 rfl sz30 rfl rfl rfl) (by exact rfl) rfl), (by rintro H' m_ hH hm_ hu_ _ rfl; exact depK_nil <| s_d (m_ 1) rfl (d_loado (v := .agg ⟨[.bool a.f_n.f_neg, v0_a]⟩) ty30 rfl (.there (.there (.there (.there .here)))) rfl rfl rfl rfl) (by exact rfl) rfl), (fun H' m_ hH hm_ hu_ => depK_nil <| s_d (m_ 2) rfl (d_loado (v := .agg ⟨[.bool b.f_n.f_neg, v2_b, .bool b.f_d.f_neg, v3_b]⟩) ty64 rfl (.there (.there (.there .here))) rfl rfl rfl rfl) (by exact rfl) rfl), (by rintro H' m_ hH hm_ hu_ _ rfl; exact depK_nil <| s_k (m_ 3) rfl (o_call co71 (vs := [.agg ⟨[.bool b.f_n.f_neg, v2_b, .bool b.f_d.f_neg, v3_b]⟩]) rfl (ratio_Ratio_under.calls k (a := ⟨⟨b.f_n.f_neg, b.f_n.f_w⟩, ⟨b.f_d.f_neg, b.f_d.f_w⟩⟩) hy6 (h2_b.mono hH) (h3_b.mono hH))) rfl (by rintro v_ H_ _ ⟨rfl, e_, h_⟩; exact ⟨rfl, e_, h_⟩)), (by rintro H' m_ hH hm_ hu_ _ rfl _ ⟨v9, rfl, h10⟩; exact depK_nil <| s_k (m_ 4) rfl (o_call co11 (vs := [.agg ⟨[.bool a.f_n.f_neg, v0_a]⟩, .agg ⟨[.bool y5.f_neg, v9]⟩]) rfl (wide_Int_Mul.calls k (a := ⟨a.f_n.f_neg, a.f_n.f_w⟩) (b := ⟨y5.f_neg, y5.f_w⟩) hy12 (h0_a.mono hH) h10)) rfl (by rintro v_ H_ _ ⟨rfl, e_, h_⟩; exact ⟨rfl, e_, h_⟩)), (by rintro H' m_ hH hm_ hu_ _ ⟨v15, rfl, h16⟩; exact depK_nil <| s_d (m_ 5) rfl (d_move (v := .tuple ⟨[.agg ⟨[.bool y11.1.f_neg, v15]⟩, errV 89 y11.2]⟩) rfl) (by exact ⟨v15, rfl, h16⟩) rfl), (by rintro H' m_ hH hm_ hu_ _ ⟨v17, rfl, h18⟩; exact depK_nil <| s_d (m_ 6) rfl (d_ext (vs := [.agg ⟨[.bool y11.1.f_neg, v17]⟩, errV 89 y11.2]) rfl rfl) (by exact ⟨v17, rfl, h18⟩) rfl), (by rintro H' m_ hH hm_ hu_ _ ⟨v17, rfl, h18⟩; exact depK_nil <| s_d (m_ 7) rfl (d_ext (vs := [.agg ⟨[.bool y11.1.f_neg, v17]⟩, errV 89 y11.2]) rfl rfl) (by exact rfl) rfl), (fun H' m_ hH hm_ hu_ => depK_nil <| s_box hm_ rfl rfl (o_alloc zr30 rfl) rfl (fun _ => (pk_upd (hu_ 9 (by kernel_rfl)))) (by exact fun b_ => ⟨b_, rfl, rfl⟩)), (by rintro H' m_ hH hm_ hu_ _ ⟨v19, rfl, h20⟩ _ ⟨b21, rfl, hb21_⟩; exact depK_nil <| s_store2 (Λ' := fun z_ => z_ :: some (b4, .cells ⟨[.bool false, .slice none 0 0]⟩ 30 (0, 0)) :: some (b3, .cells ⟨[.bool false, .slice none 0 0]⟩ 30 (0, 0)) :: some (b2, .cells ⟨[.bool b.f_n.f_neg, v2_b, .bool b.f_d.f_neg, v3_b]⟩ 64 (0, 0)) :: some (b1, .cells ⟨[.bool a.f_n.f_neg, v0_a, .bool a.f_d.f_neg, v1_a]⟩ 64 (0, 0)) :: L) (some (b21, .cells ⟨[.bool y11.1.f_neg, v19]⟩ 30 (0, 0))) hm_ rfl hb21_ rfl (o_store (v := .agg ⟨[.bool y11.1.f_neg, v19]⟩) sz30 rfl rfl rfl rfl (one_cons rfl (one_cons (h20.one) one_nil)) .here (.here (.here .done))) rfl rfl (by exact ⟨rfl, v19, congrArg (fun b_ => (some (b_, Obj.cells ⟨[.bool y11.1.f_neg, v19]⟩ 30 (0, 0)) : Item')) (bof_eq hb21_).symm, h20⟩)), trivial⟩ ?_
 intro H26 e27
 rintro _ _ rfl _ _ rfl _ _ rfl _ _ ⟨v9, rfl, h10⟩ _ _ ⟨v15, rfl, h16⟩ _ _ ⟨v17, rfl, h18⟩ _ _ ⟨v19, rfl, h20⟩ _ _ rfl _ _ ⟨b21, rfl, rfl⟩ _ i24 ⟨rfl, v22, h25, h23⟩
 replace h25 : i24 = some (b21, .cells ⟨[.bool y11.1.f_neg, v22]⟩ 30 (0, 0)) := h25
 subst h25
 refine w_it (L' := some (b21, .cells ⟨[.bool y11.1.f_neg, v22]⟩ 30 (0, 0)) :: some (b4, .cells ⟨[.bool false, .slice none 0 0]⟩ 30 (0, 0)) :: some (b3, .cells ⟨[.bool false, .slice none 0 0]⟩ 30 (0, 0)) :: some (b2, .cells ⟨[.bool b.f_n.f_neg, v2_b, .bool b.f_d.f_neg, v3_b]⟩ 64 (0, 0)) :: some (b1, .cells ⟨[.bool a.f_n.f_neg, v0_a, .bool a.f_d.f_neg, v1_a]⟩ 64 (0, 0)) :: L) rfl <| w_d rfl (d_assign (v := errV 89 y11.2) rfl) <| w_done <| w_seq <| w_seq <| w_region rfl <| w_d rfl (d_move (v := errV 89 y11.2) rfl) <| w_d rfl (d_nenil (e := y11.2) Tryd.underlying33 rfl) <| w_done ?_
 rcases its he with ⟨c28, he⟩ | ⟨c28, he⟩
 ·
  refine w_then rfl c28 <| w_seq <| w_drawn (p := 5) (tl := [5]) [[], [], [], [(0, some 20)], [(1, some 21)]] [some 20, some 21, some 22, none, none] (fctF (.is (.agg ⟨[.bool y11.1.f_neg, v22]⟩) :: .is (.agg ⟨[.bool y11.1.f_neg, v22]⟩) :: .is (errV 89 y11.2) :: .itm (fun H itq_ => itq_ = some (b3, .cells ⟨[.bool y11.1.f_neg, v22]⟩ 30 (0, 0))) (by rintro _ _ _ hle rfl; exact rfl) :: .itm (fun H itq_ => itq_ = some (b4, .cells ⟨[.bool y11.1.f_neg, v22]⟩ 30 (0, 0))) (by rintro _ _ _ hle rfl; exact rfl) :: [])) (fun m_ => some (b21, .cells ⟨[.bool y11.1.f_neg, v22]⟩ 30 (0, 0)) :: m_ 4 :: m_ 3 :: some (b2, .cells ⟨[.bool b.f_n.f_neg, v2_b, .bool b.f_d.f_neg, v3_b]⟩ 64 (0, 0)) :: some (b1, .cells ⟨[.bool a.f_n.f_neg, v0_a, .bool a.f_d.f_neg, v1_a]⟩ 64 (0, 0)) :: L) (fun i_ => if i_ = 3 then some (b3, .cells ⟨[.bool false, .slice none 0 0]⟩ 30 (0, 0)) else if i_ = 4 then some (b4, .cells ⟨[.bool false, .slice none 0 0]⟩ 30 (0, 0)) else none) mixed (by kernel_rfl) (by kernel_rfl) rfl (fct_mono (by kernel_rfl)) ⟨(fun H' m_ hH hm_ hu_ => depK_nil <| s_d (m_ 0) rfl (d_loado (v := .agg ⟨[.bool y11.1.f_neg, v22]⟩) ty30 rfl .here rfl rfl rfl rfl) (by exact rfl) rfl), (fun H' m_ hH hm_ hu_ => depK_nil <| s_d (m_ 1) rfl (d_loado (v := .agg ⟨[.bool y11.1.f_neg, v22]⟩) ty30 rfl .here rfl rfl rfl rfl) (by exact rfl) rfl), (fun H' m_ hH hm_ hu_ => depK_nil <| s_d (m_ 2) rfl (d_move (v := errV 89 y11.2) rfl) (by exact rfl) rfl), (by rintro H' m_ hH hm_ hu_ _ rfl; exact depK_nil <| s_store (some (b3, .cells ⟨[.bool y11.1.f_neg, v22]⟩ 30 (0, 0))) hm_ rfl (o_store (v := .agg ⟨[.bool y11.1.f_neg, v22]⟩) sz30 rfl rfl rfl rfl (one_cons rfl (one_cons (h23.one) one_nil)) (.there (.there .here)) (.here (.here .done))) rfl (by exact ⟨rfl, rfl⟩)), (by rintro H' m_ hH hm_ hu_ _ rfl; exact depK_nil <| s_store (some (b4, .cells ⟨[.bool y11.1.f_neg, v22]⟩ 30 (0, 0))) hm_ rfl (o_store (v := .agg ⟨[.bool y11.1.f_neg, v22]⟩) sz30 rfl rfl rfl rfl (one_cons rfl (one_cons (h23.one) one_nil)) (.there .here) (.here (.here .done))) rfl (by exact ⟨rfl, rfl⟩)), trivial⟩ ?_
  intro H29 e30
  rintro _ _ rfl _ _ rfl _ _ rfl _ _ ⟨rfl, rfl⟩ _ _ ⟨rfl, rfl⟩
  refine w_it (L' := some (b21, .cells ⟨[.bool y11.1.f_neg, v22]⟩ 30 (0, 0)) :: some (b4, .cells ⟨[.bool y11.1.f_neg, v22]⟩ 30 (0, 0)) :: some (b3, .cells ⟨[.bool y11.1.f_neg, v22]⟩ 30 (0, 0)) :: some (b2, .cells ⟨[.bool b.f_n.f_neg, v2_b, .bool b.f_d.f_neg, v3_b]⟩ 64 (0, 0)) :: some (b1, .cells ⟨[.bool a.f_n.f_neg, v0_a, .bool a.f_d.f_neg, v1_a]⟩ 64 (0, 0)) :: L) rfl <| w_d rfl (d_assign (v := errV 89 y11.2) rfl) <| w_done ?_
  obtain rfl := Option.some.inj he
  refine w_return fn_91 rs_91 (.box (v := .agg ⟨[.bool y11.1.f_neg, v22]⟩) rfl ty30 rfl rfl (.there (.there .here)) rfl (.box (v := .agg ⟨[.bool y11.1.f_neg, v22]⟩) rfl ty30 rfl rfl (.there .here) rfl (.tmp (v := errV 89 y11.2) rfl .nil))) <| ⟨⟨[_, _, _, _, _], rfl⟩, hle.trans (e27.trans e30), ⟨v22, v22, rfl, (h23.mono e30), (h23.mono e30)⟩⟩
 ·
  refine w_else rfl (Bool.eq_false_iff.2 c28) <| w_skip <| w_seq ?_
  obtain ⟨y31, hy32, he⟩ := Option.bind_eq_some_iff.1 he
  obtain ⟨y37, hy38, he⟩ := Option.bind_eq_some_iff.1 he
  refine w_none (?_)
  refine w_drawn (p := 10) (tl := [10]) [[], [(0, some 24)], [], [(2, some 26)], [(1, some 25), (3, some 27)], [(4, some 28)], [(5, some 23)], [(5, some 23)], [], [(6, some 29), (8, some 9)]] [some 24, some 25, some 26, some 27, some 28, some 23, some 29, some 30, some 9, none] (fctF (.is (.pointer (some ⟨b2, 0, none⟩)) :: .is (.agg ⟨[.bool b.f_n.f_neg, v2_b]⟩) :: .is (.agg ⟨[.bool a.f_n.f_neg, v0_a, .bool a.f_d.f_neg, v1_a]⟩) :: .of (ratio_Ratio_under.out y31) (ratio_Ratio_under.out_mono _) :: .of (wide_Int_Mul.out y37) (wide_Int_Mul.out_mono _) :: .of (fun H v => ∃ v43, v = .tuple ⟨[.agg ⟨[.bool y37.1.f_neg, v43]⟩, errV 89 y37.2]⟩ ∧ Ro (Kd.int .u32) H v43 y37.1.f_w) (by rintro _ _ _ hle ⟨v43, rfl, h44⟩; exact ⟨v43, rfl, h44.mono hle⟩) :: .of (fun H v => ∃ v45, v = .agg ⟨[.bool y37.1.f_neg, v45]⟩ ∧ Ro (Kd.int .u32) H v45 y37.1.f_w) (by rintro _ _ _ hle ⟨v45, rfl, h46⟩; exact ⟨v45, rfl, h46.mono hle⟩) :: .is (errV 89 y37.2) :: .box 30 [.bool false, .slice none 0 0] :: .st 8 (fun H bq_ itq_ => ∃ v48, itq_ = some (bq_, .cells ⟨[.bool y37.1.f_neg, v48]⟩ 30 (0, 0)) ∧ Ro (Kd.int .u32) H v48 y37.1.f_w) (by rintro _ _ _ _ hle ⟨v48, rfl, h49⟩; exact ⟨v48, rfl, h49.mono hle⟩) :: [])) (fun m_ => pk (m_ 9) (m_ 8) :: some (b21, .cells ⟨[.bool y11.1.f_neg, v22]⟩ 30 (0, 0)) :: some (b4, .cells ⟨[.bool false, .slice none 0 0]⟩ 30 (0, 0)) :: some (b3, .cells ⟨[.bool false, .slice none 0 0]⟩ 30 (0, 0)) :: some (b2, .cells ⟨[.bool b.f_n.f_neg, v2_b, .bool b.f_d.f_neg, v3_b]⟩ 64 (0, 0)) :: some (b1, .cells ⟨[.bool a.f_n.f_neg, v0_a, .bool a.f_d.f_neg, v1_a]⟩ 64 (0, 0)) :: L) (fun _ => none) mixed (by kernel_rfl) (by kernel_rfl) rfl (fct_mono (by kernel_rfl)) ⟨(fun H' m_ hH hm_ hu_ => depK_nil <| s_d (m_ 0) rfl (d_fld (o' := 0) Tryd.underlying64 rfl sz30 rfl rfl rfl) (by exact rfl) rfl), (by rintro H' m_ hH hm_ hu_ _ rfl; exact depK_nil <| s_d (m_ 1) rfl (d_loado (v := .agg ⟨[.bool b.f_n.f_neg, v2_b]⟩) ty30 rfl (.there (.there (.there (.there .here)))) rfl rfl rfl rfl) (by exact rfl) rfl), (fun H' m_ hH hm_ hu_ => depK_nil <| s_d (m_ 2) rfl (d_loado (v := .agg ⟨[.bool a.f_n.f_neg, v0_a, .bool a.f_d.f_neg, v1_a]⟩) ty64 rfl (.there (.there (.there (.there (.there .here))))) rfl rfl rfl rfl) (by exact rfl) rfl), (by rintro H' m_ hH hm_ hu_ _ rfl; exact depK_nil <| s_k (m_ 3) rfl (o_call co71 (vs := [.agg ⟨[.bool a.f_n.f_neg, v0_a, .bool a.f_d.f_neg, v1_a]⟩]) rfl (ratio_Ratio_under.calls k (a := ⟨⟨a.f_n.f_neg, a.f_n.f_w⟩, ⟨a.f_d.f_neg, a.f_d.f_w⟩⟩) hy32 (h0_a.mono (e27.trans hH)) (h1_a.mono (e27.trans hH)))) rfl (by rintro v_ H_ _ ⟨rfl, e_, h_⟩; exact ⟨rfl, e_, h_⟩)), (by rintro H' m_ hH hm_ hu_ _ rfl _ ⟨v35, rfl, h36⟩; exact depK_nil <| s_k (m_ 4) rfl (o_call co11 (vs := [.agg ⟨[.bool b.f_n.f_neg, v2_b]⟩, .agg ⟨[.bool y31.f_neg, v35]⟩]) rfl (wide_Int_Mul.calls k (a := ⟨b.f_n.f_neg, b.f_n.f_w⟩) (b := ⟨y31.f_neg, y31.f_w⟩) hy38 (h2_b.mono (e27.trans hH)) h36)) rfl (by rintro v_ H_ _ ⟨rfl, e_, h_⟩; exact ⟨rfl, e_, h_⟩)), (by rintro H' m_ hH hm_ hu_ _ ⟨v41, rfl, h42⟩; exact depK_nil <| s_d (m_ 5) rfl (d_move (v := .tuple ⟨[.agg ⟨[.bool y37.1.f_neg, v41]⟩, errV 89 y37.2]⟩) rfl) (by exact ⟨v41, rfl, h42⟩) rfl), (by rintro H' m_ hH hm_ hu_ _ ⟨v43, rfl, h44⟩; exact depK_nil <| s_d (m_ 6) rfl (d_ext (vs := [.agg ⟨[.bool y37.1.f_neg, v43]⟩, errV 89 y37.2]) rfl rfl) (by exact ⟨v43, rfl, h44⟩) rfl), (by rintro H' m_ hH hm_ hu_ _ ⟨v43, rfl, h44⟩; exact depK_nil <| s_d (m_ 7) rfl (d_ext (vs := [.agg ⟨[.bool y37.1.f_neg, v43]⟩, errV 89 y37.2]) rfl rfl) (by exact rfl) rfl), (fun H' m_ hH hm_ hu_ => depK_nil <| s_box hm_ rfl rfl (o_alloc zr30 rfl) rfl (fun _ => (pk_upd (hu_ 9 (by kernel_rfl)))) (by exact fun b_ => ⟨b_, rfl, rfl⟩)), (by rintro H' m_ hH hm_ hu_ _ ⟨v45, rfl, h46⟩ _ ⟨b47, rfl, hb47_⟩; exact depK_nil <| s_store2 (Λ' := fun z_ => z_ :: some (b21, .cells ⟨[.bool y11.1.f_neg, v22]⟩ 30 (0, 0)) :: some (b4, .cells ⟨[.bool false, .slice none 0 0]⟩ 30 (0, 0)) :: some (b3, .cells ⟨[.bool false, .slice none 0 0]⟩ 30 (0, 0)) :: some (b2, .cells ⟨[.bool b.f_n.f_neg, v2_b, .bool b.f_d.f_neg, v3_b]⟩ 64 (0, 0)) :: some (b1, .cells ⟨[.bool a.f_n.f_neg, v0_a, .bool a.f_d.f_neg, v1_a]⟩ 64 (0, 0)) :: L) (some (b47, .cells ⟨[.bool y37.1.f_neg, v45]⟩ 30 (0, 0))) hm_ rfl hb47_ rfl (o_store (v := .agg ⟨[.bool y37.1.f_neg, v45]⟩) sz30 rfl rfl rfl rfl (one_cons rfl (one_cons (h46.one) one_nil)) .here (.here (.here .done))) rfl rfl (by exact ⟨rfl, v45, congrArg (fun b_ => (some (b_, Obj.cells ⟨[.bool y37.1.f_neg, v45]⟩ 30 (0, 0)) : Item')) (bof_eq hb47_).symm, h46⟩)), trivial⟩ ?_
  intro H52 e53
  rintro _ _ rfl _ _ rfl _ _ rfl _ _ ⟨v35, rfl, h36⟩ _ _ ⟨v41, rfl, h42⟩ _ _ ⟨v43, rfl, h44⟩ _ _ ⟨v45, rfl, h46⟩ _ _ rfl _ _ ⟨b47, rfl, rfl⟩ _ i50 ⟨rfl, v48, h51, h49⟩
  replace h51 : i50 = some (b47, .cells ⟨[.bool y37.1.f_neg, v48]⟩ 30 (0, 0)) := h51
  subst h51
  refine w_it (L' := some (b47, .cells ⟨[.bool y37.1.f_neg, v48]⟩ 30 (0, 0)) :: some (b21, .cells ⟨[.bool y11.1.f_neg, v22]⟩ 30 (0, 0)) :: some (b4, .cells ⟨[.bool false, .slice none 0 0]⟩ 30 (0, 0)) :: some (b3, .cells ⟨[.bool false, .slice none 0 0]⟩ 30 (0, 0)) :: some (b2, .cells ⟨[.bool b.f_n.f_neg, v2_b, .bool b.f_d.f_neg, v3_b]⟩ 64 (0, 0)) :: some (b1, .cells ⟨[.bool a.f_n.f_neg, v0_a, .bool a.f_d.f_neg, v1_a]⟩ 64 (0, 0)) :: L) rfl <| w_d rfl (d_assign (v := errV 89 y37.2) rfl) <| w_done <| w_seq <| w_drawn (p := 5) (tl := [5]) [[], [], [], [(0, some 31)], [(1, some 32)]] [some 31, some 32, some 33, none, none] (fctF (.is (.agg ⟨[.bool y11.1.f_neg, v22]⟩) :: .is (.agg ⟨[.bool y37.1.f_neg, v48]⟩) :: .is (errV 89 y37.2) :: .itm (fun H itq_ => itq_ = some (b3, .cells ⟨[.bool y11.1.f_neg, v22]⟩ 30 (0, 0))) (by rintro _ _ _ hle rfl; exact rfl) :: .itm (fun H itq_ => itq_ = some (b4, .cells ⟨[.bool y37.1.f_neg, v48]⟩ 30 (0, 0))) (by rintro _ _ _ hle rfl; exact rfl) :: [])) (fun m_ => some (b47, .cells ⟨[.bool y37.1.f_neg, v48]⟩ 30 (0, 0)) :: some (b21, .cells ⟨[.bool y11.1.f_neg, v22]⟩ 30 (0, 0)) :: m_ 4 :: m_ 3 :: some (b2, .cells ⟨[.bool b.f_n.f_neg, v2_b, .bool b.f_d.f_neg, v3_b]⟩ 64 (0, 0)) :: some (b1, .cells ⟨[.bool a.f_n.f_neg, v0_a, .bool a.f_d.f_neg, v1_a]⟩ 64 (0, 0)) :: L) (fun i_ => if i_ = 3 then some (b3, .cells ⟨[.bool false, .slice none 0 0]⟩ 30 (0, 0)) else if i_ = 4 then some (b4, .cells ⟨[.bool false, .slice none 0 0]⟩ 30 (0, 0)) else none) mixed (by kernel_rfl) (by kernel_rfl) rfl (fct_mono (by kernel_rfl)) ⟨(fun H' m_ hH hm_ hu_ => depK_nil <| s_d (m_ 0) rfl (d_loado (v := .agg ⟨[.bool y11.1.f_neg, v22]⟩) ty30 rfl (.there .here) rfl rfl rfl rfl) (by exact rfl) rfl), (fun H' m_ hH hm_ hu_ => depK_nil <| s_d (m_ 1) rfl (d_loado (v := .agg ⟨[.bool y37.1.f_neg, v48]⟩) ty30 rfl .here rfl rfl rfl rfl) (by exact rfl) rfl), (fun H' m_ hH hm_ hu_ => depK_nil <| s_d (m_ 2) rfl (d_move (v := errV 89 y37.2) rfl) (by exact rfl) rfl), (by rintro H' m_ hH hm_ hu_ _ rfl; exact depK_nil <| s_store (some (b3, .cells ⟨[.bool y11.1.f_neg, v22]⟩ 30 (0, 0))) hm_ rfl (o_store (v := .agg ⟨[.bool y11.1.f_neg, v22]⟩) sz30 rfl rfl rfl rfl (one_cons rfl (one_cons (h23.one) one_nil)) (.there (.there (.there .here))) (.here (.here .done))) rfl (by exact ⟨rfl, rfl⟩)), (by rintro H' m_ hH hm_ hu_ _ rfl; exact depK_nil <| s_store (some (b4, .cells ⟨[.bool y37.1.f_neg, v48]⟩ 30 (0, 0))) hm_ rfl (o_store (v := .agg ⟨[.bool y37.1.f_neg, v48]⟩) sz30 rfl rfl rfl rfl (one_cons rfl (one_cons (h49.one) one_nil)) (.there (.there .here)) (.here (.here .done))) rfl (by exact ⟨rfl, rfl⟩)), trivial⟩ ?_
  intro H54 e55
  rintro _ _ rfl _ _ rfl _ _ rfl _ _ ⟨rfl, rfl⟩ _ _ ⟨rfl, rfl⟩
  refine w_it (L' := some (b47, .cells ⟨[.bool y37.1.f_neg, v48]⟩ 30 (0, 0)) :: some (b21, .cells ⟨[.bool y11.1.f_neg, v22]⟩ 30 (0, 0)) :: some (b4, .cells ⟨[.bool y37.1.f_neg, v48]⟩ 30 (0, 0)) :: some (b3, .cells ⟨[.bool y11.1.f_neg, v22]⟩ 30 (0, 0)) :: some (b2, .cells ⟨[.bool b.f_n.f_neg, v2_b, .bool b.f_d.f_neg, v3_b]⟩ 64 (0, 0)) :: some (b1, .cells ⟨[.bool a.f_n.f_neg, v0_a, .bool a.f_d.f_neg, v1_a]⟩ 64 (0, 0)) :: L) rfl <| w_d rfl (d_assign (v := errV 89 y37.2) rfl) <| w_done ?_
  obtain rfl := Option.some.inj he
  refine w_return fn_91 rs_91 (.box (v := .agg ⟨[.bool y11.1.f_neg, v22]⟩) rfl ty30 rfl rfl (.there (.there (.there .here))) rfl (.box (v := .agg ⟨[.bool y37.1.f_neg, v48]⟩) rfl ty30 rfl rfl (.there (.there .here)) rfl (.tmp (v := errV 89 y37.2) rfl .nil))) <| ⟨⟨[_, _, _, _, _, _], rfl⟩, hle.trans ((e27.trans e53).trans e55), ⟨v22, v48, rfl, (h23.mono (e53.trans e55)), (h49.mono e55)⟩⟩
/-! ### (radome/ratio.Ratio).joined -/
noncomputable def ratio_Ratio_joined.C : Code := (Tryd.f69.body).getD .skip
def ratio_Ratio_joined.out (r : ratio_Ratio × (Option Int)) (H : Hp) (v : Value) : Prop := ∃ v0, ∃ v1, v = .tuple ⟨[.agg ⟨[.bool r.1.f_n.f_neg, v0, .bool r.1.f_d.f_neg, v1]⟩, errV 89 r.2]⟩ ∧ Ro (Kd.int .u32) H v0 r.1.f_n.f_w ∧ Ro (Kd.int .u32) H v1 r.1.f_d.f_w
theorem ratio_Ratio_joined.out_mono (r : ratio_Ratio × (Option Int)) {H H' : Hp} {v : Value} (hle : H.le H') (h : ratio_Ratio_joined.out r H v) : ratio_Ratio_joined.out r H' v := by
 obtain ⟨v0, v1, rfl, h0, h1⟩ := h; exact ⟨v0, v1, rfl, h0.mono hle, h1.mono hle⟩
abbrev ratio_Ratio_joined.R (H0 : Hp) (L : Items) (r : ratio_Ratio × (Option Int)) : Value → Hp → Items → Prop := fun v H' L' => (∃ p, L' = p ++ L) ∧ H0.le H' ∧ ratio_Ratio_joined.out r H' v
noncomputable def ratio_Ratio_joined.j1 (k : Nat)  (a_0 : Bool) (a_1 : List Int) (a_2 : Bool) (a_3 : List Int) (b_0 : Bool) (b_1 : List Int) (b_2 : Bool) (b_3 : List Int) (x_0 : Bool) (x_1 : List Int) (y_0 : Bool) (y_1 : List Int) : Option (ratio_Ratio × (Option Int)) := (wide_Int_Add.f k (⟨x_0, x_1⟩ : wide_Int) (⟨y_0, y_1⟩ : wide_Int)).bind fun y22 => if y22.2.isSome = true then (some ((⟨(⟨false, []⟩ : wide_Int), (⟨false, []⟩ : wide_Int)⟩ : ratio_Ratio), y22.2)) else ((ratio_Ratio_under.f k (⟨(⟨a_0, a_1⟩ : wide_Int), (⟨a_2, a_3⟩ : wide_Int)⟩ : ratio_Ratio)).bind fun y30 => (ratio_Ratio_under.f k (⟨(⟨b_0, b_1⟩ : wide_Int), (⟨b_2, b_3⟩ : wide_Int)⟩ : ratio_Ratio)).bind fun y36 => (wide_Int_Mul.f k (⟨y30.f_neg, y30.f_w⟩ : wide_Int) (⟨y36.f_neg, y36.f_w⟩ : wide_Int)).bind fun y42 => if y42.2.isSome = true then (some ((⟨(⟨false, []⟩ : wide_Int), (⟨false, []⟩ : wide_Int)⟩ : ratio_Ratio), y42.2)) else ((ratio_Of.f k (⟨y22.1.f_neg, y22.1.f_w⟩ : wide_Int) (⟨y42.1.f_neg, y42.1.f_w⟩ : wide_Int)).bind fun y60 => some ((⟨(⟨y60.1.f_n.f_neg, y60.1.f_n.f_w⟩ : wide_Int), (⟨y60.1.f_d.f_neg, y60.1.f_d.f_w⟩ : wide_Int)⟩ : ratio_Ratio), y60.2)))
noncomputable def ratio_Ratio_joined.f (k : Nat) (a : ratio_Ratio) (b : ratio_Ratio) (less : Bool) : Option (ratio_Ratio × (Option Int)) := (ratio_Ratio_cross.f k (⟨(⟨a.f_n.f_neg, a.f_n.f_w⟩ : wide_Int), (⟨a.f_d.f_neg, a.f_d.f_w⟩ : wide_Int)⟩ : ratio_Ratio) (⟨(⟨b.f_n.f_neg, b.f_n.f_w⟩ : wide_Int), (⟨b.f_d.f_neg, b.f_d.f_w⟩ : wide_Int)⟩ : ratio_Ratio)).bind fun y4 => if y4.2.2.isSome = true then (some ((⟨(⟨false, []⟩ : wide_Int), (⟨false, []⟩ : wide_Int)⟩ : ratio_Ratio), y4.2.2)) else (if less = true then ((wide_Int_Neg.f k (⟨y4.2.1.f_neg, y4.2.1.f_w⟩ : wide_Int)).bind fun y16 => ratio_Ratio_joined.j1 k a.f_n.f_neg a.f_n.f_w a.f_d.f_neg a.f_d.f_w b.f_n.f_neg b.f_n.f_w b.f_d.f_neg b.f_d.f_w y4.1.f_neg y4.1.f_w y16.f_neg y16.f_w) else (ratio_Ratio_joined.j1 k a.f_n.f_neg a.f_n.f_w a.f_d.f_neg a.f_d.f_w b.f_n.f_neg b.f_n.f_w b.f_d.f_neg b.f_d.f_w y4.1.f_neg y4.1.f_w y4.2.1.f_neg y4.2.1.f_w))
theorem ratio_Ratio_joined.j1_mono {k : Nat} : ∀ y0 y1 y2 y3 y4 y5 y6 y7 y8 y9 y10 y11, LeO (ratio_Ratio_joined.j1 k y0 y1 y2 y3 y4 y5 y6 y7 y8 y9 y10 y11) (ratio_Ratio_joined.j1 (k + 1) y0 y1 y2 y3 y4 y5 y6 y7 y8 y9 y10 y11) := fun _ _ _ _ _ _ _ _ _ _ _ _ => (LeO.bind (wide_Int_Add.mono k _ _) fun _ => LeO.ite (LeO.refl _) (LeO.bind (ratio_Ratio_under.mono k _) fun _ => LeO.bind (ratio_Ratio_under.mono k _) fun _ => LeO.bind (wide_Int_Mul.mono k _ _) fun _ => LeO.ite (LeO.refl _) (LeO.bind (ratio_Of.mono k _ _) fun _ => LeO.refl _)))
theorem ratio_Ratio_joined.mono : ∀ k y0 y1 y2, LeO (ratio_Ratio_joined.f k y0 y1 y2) (ratio_Ratio_joined.f (k + 1) y0 y1 y2) := fun k _ _ _ => by unfold ratio_Ratio_joined.f; exact (LeO.bind (ratio_Ratio_cross.mono k _ _) fun _ => LeO.ite (LeO.refl _) (LeO.ite (LeO.bind (wide_Int_Neg.mono k _) fun _ => ratio_Ratio_joined.j1_mono (k := k)  _ _ _ _ _ _ _ _ _ _ _ _) (ratio_Ratio_joined.j1_mono (k := k)  _ _ _ _ _ _ _ _ _ _ _ _)))
noncomputable def ratio_Ratio_joined.Kj1 : List Item := .code (seqR (seqR (seqR (seqR ratio_Ratio_joined.C)))) :: []
theorem ratio_Ratio_joined.j1_ok {k : Nat} {H0 H : Hp} {L : Items} {r : ratio_Ratio × (Option Int)} {jk_ : Nat → Value} {a_0 : Bool} {a_1 : List Int} {a_2 : Bool} {a_3 : List Int} {b_0 : Bool} {b_1 : List Int} {b_2 : Bool} {b_3 : List Int} {x_0 : Bool} {x_1 : List Int} {y_0 : Bool} {y_1 : List Int} {v_a_1 : Value} {v_a_3 : Value} {v_b_1 : Value} {v_b_3 : Value} {v_x_1 : Value} {v_y_1 : Value} {b_a : Nat} {b_b : Nat} {b_t6 : Nat} {b_x : Nat} {b_y : Nat} (hle : H0.le H) (he : ratio_Ratio_joined.j1 k a_0 a_1 a_2 a_3 b_0 b_1 b_2 b_3 x_0 x_1 y_0 y_1 = some r) (h_a_1 : Ro (Kd.int .u32) H v_a_1 a_1) (h_a_3 : Ro (Kd.int .u32) H v_a_3 a_3) (h_b_1 : Ro (Kd.int .u32) H v_b_1 b_1) (h_b_3 : Ro (Kd.int .u32) H v_b_3 b_3) (h_x_1 : Ro (Kd.int .u32) H v_x_1 x_1) (h_y_1 : Ro (Kd.int .u32) H v_y_1 y_1) : Wp Tryd.prog 69 54 ratio_Ratio_joined.Kj1 (upd (upd (upd (upd (upd (upd jk_ 3 (.pointer (some ⟨b_a, 0, none⟩))) 4 (.pointer (some ⟨b_b, 0, none⟩))) 6 (.pointer (some ⟨b_t6, 0, none⟩))) 7 (errV 89 none)) 8 (.pointer (some ⟨b_x, 0, none⟩))) 9 (.pointer (some ⟨b_y, 0, none⟩))) H (some (b_y, .cells ⟨[.bool y_0, v_y_1]⟩ 30 (0, 0)) :: some (b_x, .cells ⟨[.bool x_0, v_x_1]⟩ 30 (0, 0)) :: some (b_t6, .cells ⟨[.bool false, .slice none 0 0, .bool false, .slice none 0 0]⟩ 64 (0, 0)) :: some (b_b, .cells ⟨[.bool b_0, v_b_1, .bool b_2, v_b_3]⟩ 64 (0, 0)) :: some (b_a, .cells ⟨[.bool a_0, v_a_1, .bool a_2, v_a_3]⟩ 64 (0, 0)) :: L) (ratio_Ratio_joined.R H0 L r) := by
 unfold ratio_Ratio_joined.j1 at he
 unfold ratio_Ratio_joined.Kj1
 refine w_seq <| w_region rfl <| w_d rfl (d_loado (v := .agg ⟨[.bool x_0, v_x_1]⟩) ty30 rfl (.there .here) rfl rfl rfl rfl) <| w_d rfl (d_loado (v := .agg ⟨[.bool y_0, v_y_1]⟩) ty30 rfl .here rfl rfl rfl rfl) ?_
 obtain ⟨y22, hy23, he⟩ := Option.bind_eq_some_iff.1 he
 refine w_a rfl (o_call co9 (vs := [.agg ⟨[.bool x_0, v_x_1]⟩, .agg ⟨[.bool y_0, v_y_1]⟩]) rfl (wide_Int_Add.calls k (a := ⟨x_0, x_1⟩) (b := ⟨y_0, y_1⟩) hy23 h_x_1 h_y_1)) ?_
 rintro _ H24 _ ⟨rfl, e25, ⟨v26, rfl, h27⟩⟩
 refine w_d rfl (d_move (v := .tuple ⟨[.agg ⟨[.bool y22.1.f_neg, v26]⟩, errV 89 y22.2]⟩) rfl) <| w_d rfl (d_ext (vs := [.agg ⟨[.bool y22.1.f_neg, v26]⟩, errV 89 y22.2]) rfl rfl) <| w_d rfl (d_ext (vs := [.agg ⟨[.bool y22.1.f_neg, v26]⟩, errV 89 y22.2]) rfl rfl) <| w_a rfl (o_alloc zr30 rfl) ?_
 rintro _ _ _ ⟨b28, rfl, rfl, rfl⟩
 refine w_a0 rfl (o_store (v := .agg ⟨[.bool y22.1.f_neg, v26]⟩) sz30 rfl rfl rfl rfl (one_cons rfl (one_cons (h27.one) one_nil)) .here (.here (.here .done))) ?_
 rintro _ _ _ ⟨rfl, rfl, rfl⟩
 refine w_d rfl (d_assign (v := errV 89 y22.2) rfl) <| w_done <| w_seq <| w_seq <| w_region rfl <| w_d rfl (d_move (v := errV 89 y22.2) rfl) <| w_d rfl (d_nenil (e := y22.2) Tryd.underlying33 rfl) <| w_done ?_
 rcases its he with ⟨c29, he⟩ | ⟨c29, he⟩
 ·
  refine w_then rfl c29 <| w_seq <| w_region rfl <| w_d rfl (d_build (cs' := [.bool false, .slice none 0 0, .bool false, .slice none 0 0]) Tryd.underlying64 zr64 rfl (by kernel_rfl) (parts := []) rfl .nil) <| w_d rfl (d_move (v := errV 89 y22.2) rfl) <| w_a0 rfl (o_store (v := .agg ⟨[.bool false, .slice none 0 0, .bool false, .slice none 0 0]⟩) sz64 rfl rfl rfl rfl (one_cons rfl (one_cons rfl (one_cons rfl (one_cons rfl one_nil)))) (.there (.there (.there .here))) (.here (.here (.here (.here .done))))) ?_
  rintro _ _ _ ⟨rfl, rfl, rfl⟩
  refine w_d rfl (d_assign (v := errV 89 y22.2) rfl) <| w_done ?_
  obtain rfl := Option.some.inj he
  refine w_return fn_69 rs_69 (.box (v := .agg ⟨[.bool false, .slice none 0 0, .bool false, .slice none 0 0]⟩) rfl ty64 rfl rfl (.there (.there (.there .here))) rfl (.tmp (v := errV 89 y22.2) rfl .nil)) <| ⟨⟨[_, _, _, _, _, _], rfl⟩, hle.trans e25, ⟨.slice none 0 0, .slice none 0 0, rfl, (ro_nil _ _), (ro_nil _ _)⟩⟩
 ·
  refine w_else rfl (Bool.eq_false_iff.2 c29) <| w_skip <| w_seq ?_
  obtain ⟨y30, hy31, he⟩ := Option.bind_eq_some_iff.1 he
  obtain ⟨y36, hy37, he⟩ := Option.bind_eq_some_iff.1 he
  obtain ⟨y42, hy43, he⟩ := Option.bind_eq_some_iff.1 he
  refine w_none (?_)
  refine w_drawn (p := 10) (tl := [10]) [[], [(0, some 38)], [], [(2, some 40)], [(1, some 39), (3, some 41)], [(4, some 42)], [(5, some 37)], [(5, some 37)], [], [(6, some 43), (8, some 12)]] [some 38, some 39, some 40, some 41, some 42, some 37, some 43, some 44, some 12, none] (fctF (.is (.agg ⟨[.bool a_0, v_a_1, .bool a_2, v_a_3]⟩) :: .of (ratio_Ratio_under.out y30) (ratio_Ratio_under.out_mono _) :: .is (.agg ⟨[.bool b_0, v_b_1, .bool b_2, v_b_3]⟩) :: .of (ratio_Ratio_under.out y36) (ratio_Ratio_under.out_mono _) :: .of (wide_Int_Mul.out y42) (wide_Int_Mul.out_mono _) :: .of (fun H v => ∃ v48, v = .tuple ⟨[.agg ⟨[.bool y42.1.f_neg, v48]⟩, errV 89 y42.2]⟩ ∧ Ro (Kd.int .u32) H v48 y42.1.f_w) (by rintro _ _ _ hle ⟨v48, rfl, h49⟩; exact ⟨v48, rfl, h49.mono hle⟩) :: .of (fun H v => ∃ v50, v = .agg ⟨[.bool y42.1.f_neg, v50]⟩ ∧ Ro (Kd.int .u32) H v50 y42.1.f_w) (by rintro _ _ _ hle ⟨v50, rfl, h51⟩; exact ⟨v50, rfl, h51.mono hle⟩) :: .is (errV 89 y42.2) :: .box 30 [.bool false, .slice none 0 0] :: .st 8 (fun H bq_ itq_ => ∃ v53, itq_ = some (bq_, .cells ⟨[.bool y42.1.f_neg, v53]⟩ 30 (0, 0)) ∧ Ro (Kd.int .u32) H v53 y42.1.f_w) (by rintro _ _ _ _ hle ⟨v53, rfl, h54⟩; exact ⟨v53, rfl, h54.mono hle⟩) :: [])) (fun m_ => pk (m_ 9) (m_ 8) :: some (b28, .cells ⟨[.bool y22.1.f_neg, v26]⟩ 30 (0, 0)) :: some (b_y, .cells ⟨[.bool y_0, v_y_1]⟩ 30 (0, 0)) :: some (b_x, .cells ⟨[.bool x_0, v_x_1]⟩ 30 (0, 0)) :: some (b_t6, .cells ⟨[.bool false, .slice none 0 0, .bool false, .slice none 0 0]⟩ 64 (0, 0)) :: some (b_b, .cells ⟨[.bool b_0, v_b_1, .bool b_2, v_b_3]⟩ 64 (0, 0)) :: some (b_a, .cells ⟨[.bool a_0, v_a_1, .bool a_2, v_a_3]⟩ 64 (0, 0)) :: L) (fun _ => none) mixed (by kernel_rfl) (by kernel_rfl) rfl (fct_mono (by kernel_rfl)) ⟨(fun H' m_ hH hm_ hu_ => depK_nil <| s_d (m_ 0) rfl (d_loado (v := .agg ⟨[.bool a_0, v_a_1, .bool a_2, v_a_3]⟩) ty64 rfl (.there (.there (.there (.there (.there (.there .here)))))) rfl rfl rfl rfl) (by exact rfl) rfl), (by rintro H' m_ hH hm_ hu_ _ rfl; exact depK_nil <| s_k (m_ 1) rfl (o_call co71 (vs := [.agg ⟨[.bool a_0, v_a_1, .bool a_2, v_a_3]⟩]) rfl (ratio_Ratio_under.calls k (a := ⟨⟨a_0, a_1⟩, ⟨a_2, a_3⟩⟩) hy31 (h_a_1.mono (e25.trans hH)) (h_a_3.mono (e25.trans hH)))) rfl (by rintro v_ H_ _ ⟨rfl, e_, h_⟩; exact ⟨rfl, e_, h_⟩)), (fun H' m_ hH hm_ hu_ => depK_nil <| s_d (m_ 2) rfl (d_loado (v := .agg ⟨[.bool b_0, v_b_1, .bool b_2, v_b_3]⟩) ty64 rfl (.there (.there (.there (.there (.there .here))))) rfl rfl rfl rfl) (by exact rfl) rfl), (by rintro H' m_ hH hm_ hu_ _ rfl; exact depK_nil <| s_k (m_ 3) rfl (o_call co71 (vs := [.agg ⟨[.bool b_0, v_b_1, .bool b_2, v_b_3]⟩]) rfl (ratio_Ratio_under.calls k (a := ⟨⟨b_0, b_1⟩, ⟨b_2, b_3⟩⟩) hy37 (h_b_1.mono (e25.trans hH)) (h_b_3.mono (e25.trans hH)))) rfl (by rintro v_ H_ _ ⟨rfl, e_, h_⟩; exact ⟨rfl, e_, h_⟩)), (by rintro H' m_ hH hm_ hu_ _ ⟨v34, rfl, h35⟩ _ ⟨v40, rfl, h41⟩; exact depK_nil <| s_k (m_ 4) rfl (o_call co11 (vs := [.agg ⟨[.bool y30.f_neg, v34]⟩, .agg ⟨[.bool y36.f_neg, v40]⟩]) rfl (wide_Int_Mul.calls k (a := ⟨y30.f_neg, y30.f_w⟩) (b := ⟨y36.f_neg, y36.f_w⟩) hy43 h35 h41)) rfl (by rintro v_ H_ _ ⟨rfl, e_, h_⟩; exact ⟨rfl, e_, h_⟩)), (by rintro H' m_ hH hm_ hu_ _ ⟨v46, rfl, h47⟩; exact depK_nil <| s_d (m_ 5) rfl (d_move (v := .tuple ⟨[.agg ⟨[.bool y42.1.f_neg, v46]⟩, errV 89 y42.2]⟩) rfl) (by exact ⟨v46, rfl, h47⟩) rfl), (by rintro H' m_ hH hm_ hu_ _ ⟨v48, rfl, h49⟩; exact depK_nil <| s_d (m_ 6) rfl (d_ext (vs := [.agg ⟨[.bool y42.1.f_neg, v48]⟩, errV 89 y42.2]) rfl rfl) (by exact ⟨v48, rfl, h49⟩) rfl), (by rintro H' m_ hH hm_ hu_ _ ⟨v48, rfl, h49⟩; exact depK_nil <| s_d (m_ 7) rfl (d_ext (vs := [.agg ⟨[.bool y42.1.f_neg, v48]⟩, errV 89 y42.2]) rfl rfl) (by exact rfl) rfl), (fun H' m_ hH hm_ hu_ => depK_nil <| s_box hm_ rfl rfl (o_alloc zr30 rfl) rfl (fun _ => (pk_upd (hu_ 9 (by kernel_rfl)))) (by exact fun b_ => ⟨b_, rfl, rfl⟩)), (by rintro H' m_ hH hm_ hu_ _ ⟨v50, rfl, h51⟩ _ ⟨b52, rfl, hb52_⟩; exact depK_nil <| s_store2 (Λ' := fun z_ => z_ :: some (b28, .cells ⟨[.bool y22.1.f_neg, v26]⟩ 30 (0, 0)) :: some (b_y, .cells ⟨[.bool y_0, v_y_1]⟩ 30 (0, 0)) :: some (b_x, .cells ⟨[.bool x_0, v_x_1]⟩ 30 (0, 0)) :: some (b_t6, .cells ⟨[.bool false, .slice none 0 0, .bool false, .slice none 0 0]⟩ 64 (0, 0)) :: some (b_b, .cells ⟨[.bool b_0, v_b_1, .bool b_2, v_b_3]⟩ 64 (0, 0)) :: some (b_a, .cells ⟨[.bool a_0, v_a_1, .bool a_2, v_a_3]⟩ 64 (0, 0)) :: L) (some (b52, .cells ⟨[.bool y42.1.f_neg, v50]⟩ 30 (0, 0))) hm_ rfl hb52_ rfl (o_store (v := .agg ⟨[.bool y42.1.f_neg, v50]⟩) sz30 rfl rfl rfl rfl (one_cons rfl (one_cons (h51.one) one_nil)) .here (.here (.here .done))) rfl rfl (by exact ⟨rfl, v50, congrArg (fun b_ => (some (b_, Obj.cells ⟨[.bool y42.1.f_neg, v50]⟩ 30 (0, 0)) : Item')) (bof_eq hb52_).symm, h51⟩)), trivial⟩ ?_
  intro H57 e58
  rintro _ _ rfl _ _ ⟨v34, rfl, h35⟩ _ _ rfl _ _ ⟨v40, rfl, h41⟩ _ _ ⟨v46, rfl, h47⟩ _ _ ⟨v48, rfl, h49⟩ _ _ ⟨v50, rfl, h51⟩ _ _ rfl _ _ ⟨b52, rfl, rfl⟩ _ i55 ⟨rfl, v53, h56, h54⟩
  replace h56 : i55 = some (b52, .cells ⟨[.bool y42.1.f_neg, v53]⟩ 30 (0, 0)) := h56
  subst h56
  refine w_it (L' := some (b52, .cells ⟨[.bool y42.1.f_neg, v53]⟩ 30 (0, 0)) :: some (b28, .cells ⟨[.bool y22.1.f_neg, v26]⟩ 30 (0, 0)) :: some (b_y, .cells ⟨[.bool y_0, v_y_1]⟩ 30 (0, 0)) :: some (b_x, .cells ⟨[.bool x_0, v_x_1]⟩ 30 (0, 0)) :: some (b_t6, .cells ⟨[.bool false, .slice none 0 0, .bool false, .slice none 0 0]⟩ 64 (0, 0)) :: some (b_b, .cells ⟨[.bool b_0, v_b_1, .bool b_2, v_b_3]⟩ 64 (0, 0)) :: some (b_a, .cells ⟨[.bool a_0, v_a_1, .bool a_2, v_a_3]⟩ 64 (0, 0)) :: L) rfl <| w_d rfl (d_assign (v := errV 89 y42.2) rfl) <| w_done <| w_seq <| w_seq <| w_region rfl <| w_d rfl (d_move (v := errV 89 y42.2) rfl) <| w_d rfl (d_nenil (e := y42.2) Tryd.underlying33 rfl) <| w_done ?_
  rcases its he with ⟨c59, he⟩ | ⟨c59, he⟩
  ·
   refine w_then rfl c59 <| w_seq <| w_region rfl <| w_d rfl (d_build (cs' := [.bool false, .slice none 0 0, .bool false, .slice none 0 0]) Tryd.underlying64 zr64 rfl (by kernel_rfl) (parts := []) rfl .nil) <| w_d rfl (d_move (v := errV 89 y42.2) rfl) <| w_a0 rfl (o_store (v := .agg ⟨[.bool false, .slice none 0 0, .bool false, .slice none 0 0]⟩) sz64 rfl rfl rfl rfl (one_cons rfl (one_cons rfl (one_cons rfl (one_cons rfl one_nil)))) (.there (.there (.there (.there .here)))) (.here (.here (.here (.here .done))))) ?_
   rintro _ _ _ ⟨rfl, rfl, rfl⟩
   refine w_d rfl (d_assign (v := errV 89 y42.2) rfl) <| w_done ?_
   obtain rfl := Option.some.inj he
   refine w_return fn_69 rs_69 (.box (v := .agg ⟨[.bool false, .slice none 0 0, .bool false, .slice none 0 0]⟩) rfl ty64 rfl rfl (.there (.there (.there (.there .here)))) rfl (.tmp (v := errV 89 y42.2) rfl .nil)) <| ⟨⟨[_, _, _, _, _, _, _], rfl⟩, hle.trans (e25.trans e58), ⟨.slice none 0 0, .slice none 0 0, rfl, (ro_nil _ _), (ro_nil _ _)⟩⟩
  ·
   refine w_else rfl (Bool.eq_false_iff.2 c59) <| w_skip <| w_seq <| w_region rfl <| w_d rfl (d_loado (v := .agg ⟨[.bool y22.1.f_neg, v26]⟩) ty30 rfl (.there .here) rfl rfl rfl rfl) <| w_d rfl (d_loado (v := .agg ⟨[.bool y42.1.f_neg, v53]⟩) ty30 rfl .here rfl rfl rfl rfl) ?_
   obtain ⟨y60, hy61, he⟩ := Option.bind_eq_some_iff.1 he
   refine w_a rfl (o_call co65 (vs := [.agg ⟨[.bool y22.1.f_neg, v26]⟩, .agg ⟨[.bool y42.1.f_neg, v53]⟩]) rfl (ratio_Of.calls k (n := ⟨y22.1.f_neg, y22.1.f_w⟩) (d := ⟨y42.1.f_neg, y42.1.f_w⟩) hy61 (h27.mono e58) h54)) ?_
   rintro _ H62 _ ⟨rfl, e63, ⟨v64, v66, rfl, h65, h67⟩⟩
   refine w_d rfl (d_ext (vs := [.agg ⟨[.bool y60.1.f_n.f_neg, v64, .bool y60.1.f_d.f_neg, v66]⟩, errV 89 y60.2]) rfl rfl) <| w_d rfl (d_ext (vs := [.agg ⟨[.bool y60.1.f_n.f_neg, v64, .bool y60.1.f_d.f_neg, v66]⟩, errV 89 y60.2]) rfl rfl) <| w_a0 rfl (o_store (v := .agg ⟨[.bool y60.1.f_n.f_neg, v64, .bool y60.1.f_d.f_neg, v66]⟩) sz64 rfl rfl rfl rfl (one_cons rfl (one_cons (h65.one) (one_cons rfl (one_cons (h67.one) one_nil)))) (.there (.there (.there (.there .here)))) (.here (.here (.here (.here .done))))) ?_
   rintro _ _ _ ⟨rfl, rfl, rfl⟩
   refine w_d rfl (d_assign (v := errV 89 y60.2) rfl) <| w_done ?_
   obtain rfl := Option.some.inj he
   refine w_return fn_69 rs_69 (.box (v := .agg ⟨[.bool y60.1.f_n.f_neg, v64, .bool y60.1.f_d.f_neg, v66]⟩) rfl ty64 rfl rfl (.there (.there (.there (.there .here)))) rfl (.tmp (v := errV 89 y60.2) rfl .nil)) <| ⟨⟨[_, _, _, _, _, _, _], rfl⟩, hle.trans ((e25.trans e58).trans e63), ⟨v64, v66, rfl, h65, h67⟩⟩
theorem ratio_Ratio_joined.calls (k : Nat) {H : Hp} {L : Items} {a : ratio_Ratio} {b : ratio_Ratio} {less : Bool} {v0_a : Value} {v1_a : Value} {v2_b : Value} {v3_b : Value} {r : ratio_Ratio × (Option Int)} (he : ratio_Ratio_joined.f k a b less = some r) (h0_a : Ro (Kd.int .u32) H v0_a a.f_n.f_w) (h1_a : Ro (Kd.int .u32) H v1_a a.f_d.f_w) (h2_b : Ro (Kd.int .u32) H v2_b b.f_n.f_w) (h3_b : Ro (Kd.int .u32) H v3_b b.f_d.f_w) : Ct Tryd.prog 69 ⟨[.agg ⟨[.bool a.f_n.f_neg, v0_a, .bool a.f_d.f_neg, v1_a]⟩, .agg ⟨[.bool b.f_n.f_neg, v2_b, .bool b.f_d.f_neg, v3_b]⟩, .bool less]⟩ H L (fun v H' L' => L = L' ∧ H.le H' ∧ ratio_Ratio_joined.out r H' v) := by
 refine ct_out (O := ratio_Ratio_joined.out r) ?_
 have hle : H.le H := .refl _
 unfold ratio_Ratio_joined.f at he
 refine ct_enter (args := [.agg ⟨[.bool a.f_n.f_neg, v0_a, .bool a.f_d.f_neg, v1_a]⟩, .agg ⟨[.bool b.f_n.f_neg, v2_b, .bool b.f_d.f_neg, v3_b]⟩, .bool less]) fn_69 rfl nt_69 rfl <| w_seq <| w_region rfl <| w_a rfl (o_box (v := .agg ⟨[.bool a.f_n.f_neg, v0_a, .bool a.f_d.f_neg, v1_a]⟩) rfl rfl) ?_
 rintro _ _ _ ⟨b1, rfl, rfl, rfl⟩
 refine w_a rfl (o_box (v := .agg ⟨[.bool b.f_n.f_neg, v2_b, .bool b.f_d.f_neg, v3_b]⟩) rfl rfl) ?_
 rintro _ _ _ ⟨b2, rfl, rfl, rfl⟩
 refine w_a rfl (o_alloc zr64 rfl) ?_
 rintro _ _ _ ⟨b3, rfl, rfl, rfl⟩
 refine w_d rfl (d_assign (v := errV 89 none) rfl) <| w_done <| w_seq <| w_region rfl <| w_d rfl (d_loado (v := .agg ⟨[.bool a.f_n.f_neg, v0_a, .bool a.f_d.f_neg, v1_a]⟩) ty64 rfl (.there (.there .here)) rfl rfl rfl rfl) <| w_d rfl (d_loado (v := .agg ⟨[.bool b.f_n.f_neg, v2_b, .bool b.f_d.f_neg, v3_b]⟩) ty64 rfl (.there .here) rfl rfl rfl rfl) ?_
 obtain ⟨y4, hy5, he⟩ := Option.bind_eq_some_iff.1 he
 refine w_a rfl (o_call co91 (vs := [.agg ⟨[.bool a.f_n.f_neg, v0_a, .bool a.f_d.f_neg, v1_a]⟩, .agg ⟨[.bool b.f_n.f_neg, v2_b, .bool b.f_d.f_neg, v3_b]⟩]) rfl (ratio_Ratio_cross.calls k (a := ⟨⟨a.f_n.f_neg, a.f_n.f_w⟩, ⟨a.f_d.f_neg, a.f_d.f_w⟩⟩) (b := ⟨⟨b.f_n.f_neg, b.f_n.f_w⟩, ⟨b.f_d.f_neg, b.f_d.f_w⟩⟩) hy5 h0_a h1_a h2_b h3_b)) ?_
 rintro _ H6 _ ⟨rfl, e7, ⟨v8, v10, rfl, h9, h11⟩⟩
 refine w_d rfl (d_move (v := .tuple ⟨[.agg ⟨[.bool y4.1.f_neg, v8]⟩, .agg ⟨[.bool y4.2.1.f_neg, v10]⟩, errV 89 y4.2.2]⟩) rfl) <| w_d rfl (d_ext (vs := [.agg ⟨[.bool y4.1.f_neg, v8]⟩, .agg ⟨[.bool y4.2.1.f_neg, v10]⟩, errV 89 y4.2.2]) rfl rfl) <| w_d rfl (d_ext (vs := [.agg ⟨[.bool y4.1.f_neg, v8]⟩, .agg ⟨[.bool y4.2.1.f_neg, v10]⟩, errV 89 y4.2.2]) rfl rfl) <| w_d rfl (d_ext (vs := [.agg ⟨[.bool y4.1.f_neg, v8]⟩, .agg ⟨[.bool y4.2.1.f_neg, v10]⟩, errV 89 y4.2.2]) rfl rfl) <| w_a rfl (o_alloc zr30 rfl) ?_
 rintro _ _ _ ⟨b12, rfl, rfl, rfl⟩
 refine w_a rfl (o_alloc zr30 rfl) ?_
 rintro _ _ _ ⟨b13, rfl, rfl, rfl⟩
 refine w_a0 rfl (o_store (v := .agg ⟨[.bool y4.1.f_neg, v8]⟩) sz30 rfl rfl rfl rfl (one_cons rfl (one_cons (h9.one) one_nil)) (.there .here) (.here (.here .done))) ?_
 rintro _ _ _ ⟨rfl, rfl, rfl⟩
 refine w_a0 rfl (o_store (v := .agg ⟨[.bool y4.2.1.f_neg, v10]⟩) sz30 rfl rfl rfl rfl (one_cons rfl (one_cons (h11.one) one_nil)) .here (.here (.here .done))) ?_
 rintro _ _ _ ⟨rfl, rfl, rfl⟩
 refine w_d rfl (d_assign (v := errV 89 y4.2.2) rfl) <| w_done <| w_seq <| w_seq <| w_region rfl <| w_d rfl (d_move (v := errV 89 y4.2.2) rfl) <| w_d rfl (d_nenil (e := y4.2.2) Tryd.underlying33 rfl) <| w_done ?_
 rcases its he with ⟨c14, he⟩ | ⟨c14, he⟩
 ·
  refine w_then rfl c14 <| w_seq <| w_region rfl <| w_d rfl (d_build (cs' := [.bool false, .slice none 0 0, .bool false, .slice none 0 0]) Tryd.underlying64 zr64 rfl (by kernel_rfl) (parts := []) rfl .nil) <| w_d rfl (d_move (v := errV 89 y4.2.2) rfl) <| w_a0 rfl (o_store (v := .agg ⟨[.bool false, .slice none 0 0, .bool false, .slice none 0 0]⟩) sz64 rfl rfl rfl rfl (one_cons rfl (one_cons rfl (one_cons rfl (one_cons rfl one_nil)))) (.there (.there .here)) (.here (.here (.here (.here .done))))) ?_
  rintro _ _ _ ⟨rfl, rfl, rfl⟩
  refine w_d rfl (d_assign (v := errV 89 y4.2.2) rfl) <| w_done ?_
  obtain rfl := Option.some.inj he
  refine w_return fn_69 rs_69 (.box (v := .agg ⟨[.bool false, .slice none 0 0, .bool false, .slice none 0 0]⟩) rfl ty64 rfl rfl (.there (.there .here)) rfl (.tmp (v := errV 89 y4.2.2) rfl .nil)) <| ⟨⟨[_, _, _, _, _], rfl⟩, hle.trans e7, ⟨.slice none 0 0, .slice none 0 0, rfl, (ro_nil _ _), (ro_nil _ _)⟩⟩
 ·
  refine w_else rfl (Bool.eq_false_iff.2 c14) <| w_skip <| w_seq <| w_seq <| w_region rfl <| w_d rfl (d_move (v := .bool less) rfl) <| w_done ?_
  rcases its he with ⟨c15, he⟩ | ⟨c15, he⟩
  ·
   refine w_then rfl c15 <| w_region rfl <| w_d rfl (d_loado (v := .agg ⟨[.bool y4.2.1.f_neg, v10]⟩) ty30 rfl .here rfl rfl rfl rfl) ?_
   obtain ⟨y16, hy17, he⟩ := Option.bind_eq_some_iff.1 he
   refine w_a rfl (o_call co20 (vs := [.agg ⟨[.bool y4.2.1.f_neg, v10]⟩]) rfl (wide_Int_Neg.calls k (a := ⟨y4.2.1.f_neg, y4.2.1.f_w⟩) hy17 h11)) ?_
   rintro _ H18 _ ⟨rfl, e19, ⟨v20, rfl, h21⟩⟩
   refine w_a0 rfl (o_store (v := .agg ⟨[.bool y16.f_neg, v20]⟩) sz30 rfl rfl rfl rfl (one_cons rfl (one_cons (h21.one) one_nil)) .here (.here (.here .done))) ?_
   rintro _ _ _ ⟨rfl, rfl, rfl⟩
   refine w_done <| w_sl 3 (.pointer (some ⟨b1, 0, none⟩)) rfl <| w_sl 4 (.pointer (some ⟨b2, 0, none⟩)) rfl <| w_sl 6 (.pointer (some ⟨b3, 0, none⟩)) rfl <| w_sl 7 (errV 89 none) rfl <| w_sl 8 (.pointer (some ⟨b12, 0, none⟩)) rfl <| w_sl 9 (.pointer (some ⟨b13, 0, none⟩)) rfl <| ratio_Ratio_joined.j1_ok (k := k) (hle.trans (e7.trans e19)) he (h0_a.mono (e7.trans e19)) (h1_a.mono (e7.trans e19)) (h2_b.mono (e7.trans e19)) (h3_b.mono (e7.trans e19)) (h9.mono e19) h21
  ·
   refine w_else rfl (Bool.eq_false_iff.2 c15) <| w_skip <| w_sl 3 (.pointer (some ⟨b1, 0, none⟩)) rfl <| w_sl 4 (.pointer (some ⟨b2, 0, none⟩)) rfl <| w_sl 6 (.pointer (some ⟨b3, 0, none⟩)) rfl <| w_sl 7 (errV 89 none) rfl <| w_sl 8 (.pointer (some ⟨b12, 0, none⟩)) rfl <| w_sl 9 (.pointer (some ⟨b13, 0, none⟩)) rfl <| ratio_Ratio_joined.j1_ok (k := k) (hle.trans e7) he (h0_a.mono e7) (h1_a.mono e7) (h2_b.mono e7) (h3_b.mono e7) h9 h11
/-! ### (radome/ratio.Ratio).Add -/
noncomputable def ratio_Ratio_Add.C : Code := (Tryd.f33.body).getD .skip
def ratio_Ratio_Add.out (r : ratio_Ratio × (Option Int)) (H : Hp) (v : Value) : Prop := ∃ v0, ∃ v1, v = .tuple ⟨[.agg ⟨[.bool r.1.f_n.f_neg, v0, .bool r.1.f_d.f_neg, v1]⟩, errV 89 r.2]⟩ ∧ Ro (Kd.int .u32) H v0 r.1.f_n.f_w ∧ Ro (Kd.int .u32) H v1 r.1.f_d.f_w
theorem ratio_Ratio_Add.out_mono (r : ratio_Ratio × (Option Int)) {H H' : Hp} {v : Value} (hle : H.le H') (h : ratio_Ratio_Add.out r H v) : ratio_Ratio_Add.out r H' v := by
 obtain ⟨v0, v1, rfl, h0, h1⟩ := h; exact ⟨v0, v1, rfl, h0.mono hle, h1.mono hle⟩
abbrev ratio_Ratio_Add.R (H0 : Hp) (L : Items) (r : ratio_Ratio × (Option Int)) : Value → Hp → Items → Prop := fun v H' L' => (∃ p, L' = p ++ L) ∧ H0.le H' ∧ ratio_Ratio_Add.out r H' v
noncomputable def ratio_Ratio_Add.f (k : Nat) (a : ratio_Ratio) (b : ratio_Ratio) : Option (ratio_Ratio × (Option Int)) := (ratio_Ratio_joined.f k (⟨(⟨a.f_n.f_neg, a.f_n.f_w⟩ : wide_Int), (⟨a.f_d.f_neg, a.f_d.f_w⟩ : wide_Int)⟩ : ratio_Ratio) (⟨(⟨b.f_n.f_neg, b.f_n.f_w⟩ : wide_Int), (⟨b.f_d.f_neg, b.f_d.f_w⟩ : wide_Int)⟩ : ratio_Ratio) false).bind fun y4 => some ((⟨(⟨y4.1.f_n.f_neg, y4.1.f_n.f_w⟩ : wide_Int), (⟨y4.1.f_d.f_neg, y4.1.f_d.f_w⟩ : wide_Int)⟩ : ratio_Ratio), y4.2)
theorem ratio_Ratio_Add.mono : ∀ k y0 y1, LeO (ratio_Ratio_Add.f k y0 y1) (ratio_Ratio_Add.f (k + 1) y0 y1) := fun k _ _ => by unfold ratio_Ratio_Add.f; exact (LeO.bind (ratio_Ratio_joined.mono k _ _ _) fun _ => LeO.refl _)
theorem ratio_Ratio_Add.calls (k : Nat) {H : Hp} {L : Items} {a : ratio_Ratio} {b : ratio_Ratio} {v0_a : Value} {v1_a : Value} {v2_b : Value} {v3_b : Value} {r : ratio_Ratio × (Option Int)} (he : ratio_Ratio_Add.f k a b = some r) (h0_a : Ro (Kd.int .u32) H v0_a a.f_n.f_w) (h1_a : Ro (Kd.int .u32) H v1_a a.f_d.f_w) (h2_b : Ro (Kd.int .u32) H v2_b b.f_n.f_w) (h3_b : Ro (Kd.int .u32) H v3_b b.f_d.f_w) : Ct Tryd.prog 33 ⟨[.agg ⟨[.bool a.f_n.f_neg, v0_a, .bool a.f_d.f_neg, v1_a]⟩, .agg ⟨[.bool b.f_n.f_neg, v2_b, .bool b.f_d.f_neg, v3_b]⟩]⟩ H L (fun v H' L' => L = L' ∧ H.le H' ∧ ratio_Ratio_Add.out r H' v) := by
 refine ct_out (O := ratio_Ratio_Add.out r) ?_
 have hle : H.le H := .refl _
 unfold ratio_Ratio_Add.f at he
 refine ct_enter (args := [.agg ⟨[.bool a.f_n.f_neg, v0_a, .bool a.f_d.f_neg, v1_a]⟩, .agg ⟨[.bool b.f_n.f_neg, v2_b, .bool b.f_d.f_neg, v3_b]⟩]) fn_33 rfl nt_33 rfl <| w_seq <| w_region rfl <| w_a rfl (o_box (v := .agg ⟨[.bool a.f_n.f_neg, v0_a, .bool a.f_d.f_neg, v1_a]⟩) rfl rfl) ?_
 rintro _ _ _ ⟨b1, rfl, rfl, rfl⟩
 refine w_a rfl (o_box (v := .agg ⟨[.bool b.f_n.f_neg, v2_b, .bool b.f_d.f_neg, v3_b]⟩) rfl rfl) ?_
 rintro _ _ _ ⟨b2, rfl, rfl, rfl⟩
 refine w_a rfl (o_alloc zr64 rfl) ?_
 rintro _ _ _ ⟨b3, rfl, rfl, rfl⟩
 refine w_d rfl (d_assign (v := errV 89 none) rfl) <| w_done <| w_seq <| w_region rfl <| w_d rfl (d_loado (v := .agg ⟨[.bool a.f_n.f_neg, v0_a, .bool a.f_d.f_neg, v1_a]⟩) ty64 rfl (.there (.there .here)) rfl rfl rfl rfl) <| w_d rfl (d_loado (v := .agg ⟨[.bool b.f_n.f_neg, v2_b, .bool b.f_d.f_neg, v3_b]⟩) ty64 rfl (.there .here) rfl rfl rfl rfl) ?_
 obtain ⟨y4, hy5, he⟩ := Option.bind_eq_some_iff.1 he
 refine w_a rfl (o_call co69 (vs := [.agg ⟨[.bool a.f_n.f_neg, v0_a, .bool a.f_d.f_neg, v1_a]⟩, .agg ⟨[.bool b.f_n.f_neg, v2_b, .bool b.f_d.f_neg, v3_b]⟩, .bool false]) rfl (ratio_Ratio_joined.calls k (a := ⟨⟨a.f_n.f_neg, a.f_n.f_w⟩, ⟨a.f_d.f_neg, a.f_d.f_w⟩⟩) (b := ⟨⟨b.f_n.f_neg, b.f_n.f_w⟩, ⟨b.f_d.f_neg, b.f_d.f_w⟩⟩) hy5 h0_a h1_a h2_b h3_b)) ?_
 rintro _ H6 _ ⟨rfl, e7, ⟨v8, v10, rfl, h9, h11⟩⟩
 refine w_d rfl (d_ext (vs := [.agg ⟨[.bool y4.1.f_n.f_neg, v8, .bool y4.1.f_d.f_neg, v10]⟩, errV 89 y4.2]) rfl rfl) <| w_d rfl (d_ext (vs := [.agg ⟨[.bool y4.1.f_n.f_neg, v8, .bool y4.1.f_d.f_neg, v10]⟩, errV 89 y4.2]) rfl rfl) <| w_a0 rfl (o_store (v := .agg ⟨[.bool y4.1.f_n.f_neg, v8, .bool y4.1.f_d.f_neg, v10]⟩) sz64 rfl rfl rfl rfl (one_cons rfl (one_cons (h9.one) (one_cons rfl (one_cons (h11.one) one_nil)))) .here (.here (.here (.here (.here .done))))) ?_
 rintro _ _ _ ⟨rfl, rfl, rfl⟩
 refine w_d rfl (d_assign (v := errV 89 y4.2) rfl) <| w_done ?_
 obtain rfl := Option.some.inj he
 refine w_return fn_33 rs_33 (.box (v := .agg ⟨[.bool y4.1.f_n.f_neg, v8, .bool y4.1.f_d.f_neg, v10]⟩) rfl ty64 rfl rfl .here rfl (.tmp (v := errV 89 y4.2) rfl .nil)) <| ⟨⟨[_, _, _], rfl⟩, hle.trans e7, ⟨v8, v10, rfl, h9, h11⟩⟩
/-! ### radome/ratio.product -/
noncomputable def ratio_product.C : Code := (Tryd.f70.body).getD .skip
def ratio_product.out (r : ratio_Ratio × (Option Int)) (H : Hp) (v : Value) : Prop := ∃ v0, ∃ v1, v = .tuple ⟨[.agg ⟨[.bool r.1.f_n.f_neg, v0, .bool r.1.f_d.f_neg, v1]⟩, errV 89 r.2]⟩ ∧ Ro (Kd.int .u32) H v0 r.1.f_n.f_w ∧ Ro (Kd.int .u32) H v1 r.1.f_d.f_w
theorem ratio_product.out_mono (r : ratio_Ratio × (Option Int)) {H H' : Hp} {v : Value} (hle : H.le H') (h : ratio_product.out r H v) : ratio_product.out r H' v := by
 obtain ⟨v0, v1, rfl, h0, h1⟩ := h; exact ⟨v0, v1, rfl, h0.mono hle, h1.mono hle⟩
abbrev ratio_product.R (H0 : Hp) (L : Items) (r : ratio_Ratio × (Option Int)) : Value → Hp → Items → Prop := fun v H' L' => (∃ p, L' = p ++ L) ∧ H0.le H' ∧ ratio_product.out r H' v
noncomputable def ratio_product.f (k : Nat) (n : wide_Int) (m : wide_Int) (d : wide_Int) (e_ : wide_Int) : Option (ratio_Ratio × (Option Int)) := (wide_Int_Mul.f k (⟨n.f_neg, n.f_w⟩ : wide_Int) (⟨m.f_neg, m.f_w⟩ : wide_Int)).bind fun y6 => if y6.2.isSome = true then (some ((⟨(⟨false, []⟩ : wide_Int), (⟨false, []⟩ : wide_Int)⟩ : ratio_Ratio), y6.2)) else ((wide_Int_Mul.f k (⟨d.f_neg, d.f_w⟩ : wide_Int) (⟨e_.f_neg, e_.f_w⟩ : wide_Int)).bind fun y14 => if y14.2.isSome = true then (some ((⟨(⟨false, []⟩ : wide_Int), (⟨false, []⟩ : wide_Int)⟩ : ratio_Ratio), y14.2)) else ((ratio_Of.f k (⟨y6.1.f_neg, y6.1.f_w⟩ : wide_Int) (⟨y14.1.f_neg, y14.1.f_w⟩ : wide_Int)).bind fun y22 => some ((⟨(⟨y22.1.f_n.f_neg, y22.1.f_n.f_w⟩ : wide_Int), (⟨y22.1.f_d.f_neg, y22.1.f_d.f_w⟩ : wide_Int)⟩ : ratio_Ratio), y22.2)))
theorem ratio_product.mono : ∀ k y0 y1 y2 y3, LeO (ratio_product.f k y0 y1 y2 y3) (ratio_product.f (k + 1) y0 y1 y2 y3) := fun k _ _ _ _ => by unfold ratio_product.f; exact (LeO.bind (wide_Int_Mul.mono k _ _) fun _ => LeO.ite (LeO.refl _) (LeO.bind (wide_Int_Mul.mono k _ _) fun _ => LeO.ite (LeO.refl _) (LeO.bind (ratio_Of.mono k _ _) fun _ => LeO.refl _)))
theorem ratio_product.calls (k : Nat) {H : Hp} {L : Items} {n : wide_Int} {m : wide_Int} {d : wide_Int} {e_ : wide_Int} {v0_n : Value} {v1_m : Value} {v2_d : Value} {v3_e_ : Value} {r : ratio_Ratio × (Option Int)} (he : ratio_product.f k n m d e_ = some r) (h0_n : Ro (Kd.int .u32) H v0_n n.f_w) (h1_m : Ro (Kd.int .u32) H v1_m m.f_w) (h2_d : Ro (Kd.int .u32) H v2_d d.f_w) (h3_e_ : Ro (Kd.int .u32) H v3_e_ e_.f_w) : Ct Tryd.prog 70 ⟨[.agg ⟨[.bool n.f_neg, v0_n]⟩, .agg ⟨[.bool m.f_neg, v1_m]⟩, .agg ⟨[.bool d.f_neg, v2_d]⟩, .agg ⟨[.bool e_.f_neg, v3_e_]⟩]⟩ H L (fun v H' L' => L = L' ∧ H.le H' ∧ ratio_product.out r H' v) := by
 refine ct_out (O := ratio_product.out r) ?_
 have hle : H.le H := .refl _
 unfold ratio_product.f at he
 refine ct_enter (args := [.agg ⟨[.bool n.f_neg, v0_n]⟩, .agg ⟨[.bool m.f_neg, v1_m]⟩, .agg ⟨[.bool d.f_neg, v2_d]⟩, .agg ⟨[.bool e_.f_neg, v3_e_]⟩]) fn_70 rfl nt_70 rfl <| w_seq <| w_region rfl <| w_a rfl (o_box (v := .agg ⟨[.bool n.f_neg, v0_n]⟩) rfl rfl) ?_
 rintro _ _ _ ⟨b1, rfl, rfl, rfl⟩
 refine w_a rfl (o_box (v := .agg ⟨[.bool m.f_neg, v1_m]⟩) rfl rfl) ?_
 rintro _ _ _ ⟨b2, rfl, rfl, rfl⟩
 refine w_a rfl (o_box (v := .agg ⟨[.bool d.f_neg, v2_d]⟩) rfl rfl) ?_
 rintro _ _ _ ⟨b3, rfl, rfl, rfl⟩
 refine w_a rfl (o_box (v := .agg ⟨[.bool e_.f_neg, v3_e_]⟩) rfl rfl) ?_
 rintro _ _ _ ⟨b4, rfl, rfl, rfl⟩
 refine w_a rfl (o_alloc zr64 rfl) ?_
 rintro _ _ _ ⟨b5, rfl, rfl, rfl⟩
 refine w_d rfl (d_assign (v := errV 89 none) rfl) <| w_done <| w_seq <| w_region rfl <| w_d rfl (d_loado (v := .agg ⟨[.bool n.f_neg, v0_n]⟩) ty30 rfl (.there (.there (.there (.there .here)))) rfl rfl rfl rfl) <| w_d rfl (d_loado (v := .agg ⟨[.bool m.f_neg, v1_m]⟩) ty30 rfl (.there (.there (.there .here))) rfl rfl rfl rfl) ?_
 obtain ⟨y6, hy7, he⟩ := Option.bind_eq_some_iff.1 he
 refine w_a rfl (o_call co11 (vs := [.agg ⟨[.bool n.f_neg, v0_n]⟩, .agg ⟨[.bool m.f_neg, v1_m]⟩]) rfl (wide_Int_Mul.calls k (a := ⟨n.f_neg, n.f_w⟩) (b := ⟨m.f_neg, m.f_w⟩) hy7 h0_n h1_m)) ?_
 rintro _ H8 _ ⟨rfl, e9, ⟨v10, rfl, h11⟩⟩
 refine w_d rfl (d_move (v := .tuple ⟨[.agg ⟨[.bool y6.1.f_neg, v10]⟩, errV 89 y6.2]⟩) rfl) <| w_d rfl (d_ext (vs := [.agg ⟨[.bool y6.1.f_neg, v10]⟩, errV 89 y6.2]) rfl rfl) <| w_d rfl (d_ext (vs := [.agg ⟨[.bool y6.1.f_neg, v10]⟩, errV 89 y6.2]) rfl rfl) <| w_a rfl (o_alloc zr30 rfl) ?_
 rintro _ _ _ ⟨b12, rfl, rfl, rfl⟩
 refine w_a0 rfl (o_store (v := .agg ⟨[.bool y6.1.f_neg, v10]⟩) sz30 rfl rfl rfl rfl (one_cons rfl (one_cons (h11.one) one_nil)) .here (.here (.here .done))) ?_
 rintro _ _ _ ⟨rfl, rfl, rfl⟩
 refine w_d rfl (d_assign (v := errV 89 y6.2) rfl) <| w_done <| w_seq <| w_seq <| w_region rfl <| w_d rfl (d_move (v := errV 89 y6.2) rfl) <| w_d rfl (d_nenil (e := y6.2) Tryd.underlying33 rfl) <| w_done ?_
 rcases its he with ⟨c13, he⟩ | ⟨c13, he⟩
 ·
  refine w_then rfl c13 <| w_seq <| w_region rfl <| w_d rfl (d_build (cs' := [.bool false, .slice none 0 0, .bool false, .slice none 0 0]) Tryd.underlying64 zr64 rfl (by kernel_rfl) (parts := []) rfl .nil) <| w_d rfl (d_move (v := errV 89 y6.2) rfl) <| w_a0 rfl (o_store (v := .agg ⟨[.bool false, .slice none 0 0, .bool false, .slice none 0 0]⟩) sz64 rfl rfl rfl rfl (one_cons rfl (one_cons rfl (one_cons rfl (one_cons rfl one_nil)))) (.there .here) (.here (.here (.here (.here .done))))) ?_
  rintro _ _ _ ⟨rfl, rfl, rfl⟩
  refine w_d rfl (d_assign (v := errV 89 y6.2) rfl) <| w_done ?_
  obtain rfl := Option.some.inj he
  refine w_return fn_70 rs_70 (.box (v := .agg ⟨[.bool false, .slice none 0 0, .bool false, .slice none 0 0]⟩) rfl ty64 rfl rfl (.there .here) rfl (.tmp (v := errV 89 y6.2) rfl .nil)) <| ⟨⟨[_, _, _, _, _, _], rfl⟩, hle.trans e9, ⟨.slice none 0 0, .slice none 0 0, rfl, (ro_nil _ _), (ro_nil _ _)⟩⟩
 ·
  refine w_else rfl (Bool.eq_false_iff.2 c13) <| w_skip <| w_seq <| w_region rfl <| w_d rfl (d_loado (v := .agg ⟨[.bool d.f_neg, v2_d]⟩) ty30 rfl (.there (.there (.there .here))) rfl rfl rfl rfl) <| w_d rfl (d_loado (v := .agg ⟨[.bool e_.f_neg, v3_e_]⟩) ty30 rfl (.there (.there .here)) rfl rfl rfl rfl) ?_
  obtain ⟨y14, hy15, he⟩ := Option.bind_eq_some_iff.1 he
  refine w_a rfl (o_call co11 (vs := [.agg ⟨[.bool d.f_neg, v2_d]⟩, .agg ⟨[.bool e_.f_neg, v3_e_]⟩]) rfl (wide_Int_Mul.calls k (a := ⟨d.f_neg, d.f_w⟩) (b := ⟨e_.f_neg, e_.f_w⟩) hy15 (h2_d.mono e9) (h3_e_.mono e9))) ?_
  rintro _ H16 _ ⟨rfl, e17, ⟨v18, rfl, h19⟩⟩
  refine w_d rfl (d_move (v := .tuple ⟨[.agg ⟨[.bool y14.1.f_neg, v18]⟩, errV 89 y14.2]⟩) rfl) <| w_d rfl (d_ext (vs := [.agg ⟨[.bool y14.1.f_neg, v18]⟩, errV 89 y14.2]) rfl rfl) <| w_d rfl (d_ext (vs := [.agg ⟨[.bool y14.1.f_neg, v18]⟩, errV 89 y14.2]) rfl rfl) <| w_a rfl (o_alloc zr30 rfl) ?_
  rintro _ _ _ ⟨b20, rfl, rfl, rfl⟩
  refine w_a0 rfl (o_store (v := .agg ⟨[.bool y14.1.f_neg, v18]⟩) sz30 rfl rfl rfl rfl (one_cons rfl (one_cons (h19.one) one_nil)) .here (.here (.here .done))) ?_
  rintro _ _ _ ⟨rfl, rfl, rfl⟩
  refine w_d rfl (d_assign (v := errV 89 y14.2) rfl) <| w_done <| w_seq <| w_seq <| w_region rfl <| w_d rfl (d_move (v := errV 89 y14.2) rfl) <| w_d rfl (d_nenil (e := y14.2) Tryd.underlying33 rfl) <| w_done ?_
  rcases its he with ⟨c21, he⟩ | ⟨c21, he⟩
  ·
   refine w_then rfl c21 <| w_seq <| w_region rfl <| w_d rfl (d_build (cs' := [.bool false, .slice none 0 0, .bool false, .slice none 0 0]) Tryd.underlying64 zr64 rfl (by kernel_rfl) (parts := []) rfl .nil) <| w_d rfl (d_move (v := errV 89 y14.2) rfl) <| w_a0 rfl (o_store (v := .agg ⟨[.bool false, .slice none 0 0, .bool false, .slice none 0 0]⟩) sz64 rfl rfl rfl rfl (one_cons rfl (one_cons rfl (one_cons rfl (one_cons rfl one_nil)))) (.there (.there .here)) (.here (.here (.here (.here .done))))) ?_
   rintro _ _ _ ⟨rfl, rfl, rfl⟩
   refine w_d rfl (d_assign (v := errV 89 y14.2) rfl) <| w_done ?_
   obtain rfl := Option.some.inj he
   refine w_return fn_70 rs_70 (.box (v := .agg ⟨[.bool false, .slice none 0 0, .bool false, .slice none 0 0]⟩) rfl ty64 rfl rfl (.there (.there .here)) rfl (.tmp (v := errV 89 y14.2) rfl .nil)) <| ⟨⟨[_, _, _, _, _, _, _], rfl⟩, hle.trans (e9.trans e17), ⟨.slice none 0 0, .slice none 0 0, rfl, (ro_nil _ _), (ro_nil _ _)⟩⟩
  ·
   refine w_else rfl (Bool.eq_false_iff.2 c21) <| w_skip <| w_seq <| w_region rfl <| w_d rfl (d_loado (v := .agg ⟨[.bool y6.1.f_neg, v10]⟩) ty30 rfl (.there .here) rfl rfl rfl rfl) <| w_d rfl (d_loado (v := .agg ⟨[.bool y14.1.f_neg, v18]⟩) ty30 rfl .here rfl rfl rfl rfl) ?_
   obtain ⟨y22, hy23, he⟩ := Option.bind_eq_some_iff.1 he
   refine w_a rfl (o_call co65 (vs := [.agg ⟨[.bool y6.1.f_neg, v10]⟩, .agg ⟨[.bool y14.1.f_neg, v18]⟩]) rfl (ratio_Of.calls k (n := ⟨y6.1.f_neg, y6.1.f_w⟩) (d := ⟨y14.1.f_neg, y14.1.f_w⟩) hy23 (h11.mono e17) h19)) ?_
   rintro _ H24 _ ⟨rfl, e25, ⟨v26, v28, rfl, h27, h29⟩⟩
   refine w_d rfl (d_ext (vs := [.agg ⟨[.bool y22.1.f_n.f_neg, v26, .bool y22.1.f_d.f_neg, v28]⟩, errV 89 y22.2]) rfl rfl) <| w_d rfl (d_ext (vs := [.agg ⟨[.bool y22.1.f_n.f_neg, v26, .bool y22.1.f_d.f_neg, v28]⟩, errV 89 y22.2]) rfl rfl) <| w_a0 rfl (o_store (v := .agg ⟨[.bool y22.1.f_n.f_neg, v26, .bool y22.1.f_d.f_neg, v28]⟩) sz64 rfl rfl rfl rfl (one_cons rfl (one_cons (h27.one) (one_cons rfl (one_cons (h29.one) one_nil)))) (.there (.there .here)) (.here (.here (.here (.here .done))))) ?_
   rintro _ _ _ ⟨rfl, rfl, rfl⟩
   refine w_d rfl (d_assign (v := errV 89 y22.2) rfl) <| w_done ?_
   obtain rfl := Option.some.inj he
   refine w_return fn_70 rs_70 (.box (v := .agg ⟨[.bool y22.1.f_n.f_neg, v26, .bool y22.1.f_d.f_neg, v28]⟩) rfl ty64 rfl rfl (.there (.there .here)) rfl (.tmp (v := errV 89 y22.2) rfl .nil)) <| ⟨⟨[_, _, _, _, _, _, _], rfl⟩, hle.trans ((e9.trans e17).trans e25), ⟨v26, v28, rfl, h27, h29⟩⟩
/-! ### (radome/ratio.Ratio).Mul -/
noncomputable def ratio_Ratio_Mul.C : Code := (Tryd.f34.body).getD .skip
def ratio_Ratio_Mul.out (r : ratio_Ratio × (Option Int)) (H : Hp) (v : Value) : Prop := ∃ v0, ∃ v1, v = .tuple ⟨[.agg ⟨[.bool r.1.f_n.f_neg, v0, .bool r.1.f_d.f_neg, v1]⟩, errV 89 r.2]⟩ ∧ Ro (Kd.int .u32) H v0 r.1.f_n.f_w ∧ Ro (Kd.int .u32) H v1 r.1.f_d.f_w
theorem ratio_Ratio_Mul.out_mono (r : ratio_Ratio × (Option Int)) {H H' : Hp} {v : Value} (hle : H.le H') (h : ratio_Ratio_Mul.out r H v) : ratio_Ratio_Mul.out r H' v := by
 obtain ⟨v0, v1, rfl, h0, h1⟩ := h; exact ⟨v0, v1, rfl, h0.mono hle, h1.mono hle⟩
abbrev ratio_Ratio_Mul.R (H0 : Hp) (L : Items) (r : ratio_Ratio × (Option Int)) : Value → Hp → Items → Prop := fun v H' L' => (∃ p, L' = p ++ L) ∧ H0.le H' ∧ ratio_Ratio_Mul.out r H' v
noncomputable def ratio_Ratio_Mul.f (k : Nat) (a : ratio_Ratio) (b : ratio_Ratio) : Option (ratio_Ratio × (Option Int)) := (ratio_Ratio_under.f k (⟨(⟨a.f_n.f_neg, a.f_n.f_w⟩ : wide_Int), (⟨a.f_d.f_neg, a.f_d.f_w⟩ : wide_Int)⟩ : ratio_Ratio)).bind fun y4 => (ratio_Ratio_under.f k (⟨(⟨b.f_n.f_neg, b.f_n.f_w⟩ : wide_Int), (⟨b.f_d.f_neg, b.f_d.f_w⟩ : wide_Int)⟩ : ratio_Ratio)).bind fun y10 => (ratio_product.f k (⟨a.f_n.f_neg, a.f_n.f_w⟩ : wide_Int) (⟨b.f_n.f_neg, b.f_n.f_w⟩ : wide_Int) (⟨y4.f_neg, y4.f_w⟩ : wide_Int) (⟨y10.f_neg, y10.f_w⟩ : wide_Int)).bind fun y16 => some ((⟨(⟨y16.1.f_n.f_neg, y16.1.f_n.f_w⟩ : wide_Int), (⟨y16.1.f_d.f_neg, y16.1.f_d.f_w⟩ : wide_Int)⟩ : ratio_Ratio), y16.2)
theorem ratio_Ratio_Mul.mono : ∀ k y0 y1, LeO (ratio_Ratio_Mul.f k y0 y1) (ratio_Ratio_Mul.f (k + 1) y0 y1) := fun k _ _ => by unfold ratio_Ratio_Mul.f; exact (LeO.bind (ratio_Ratio_under.mono k _) fun _ => LeO.bind (ratio_Ratio_under.mono k _) fun _ => LeO.bind (ratio_product.mono k _ _ _ _) fun _ => LeO.refl _)
theorem ratio_Ratio_Mul.calls (k : Nat) {H : Hp} {L : Items} {a : ratio_Ratio} {b : ratio_Ratio} {v0_a : Value} {v1_a : Value} {v2_b : Value} {v3_b : Value} {r : ratio_Ratio × (Option Int)} (he : ratio_Ratio_Mul.f k a b = some r) (h0_a : Ro (Kd.int .u32) H v0_a a.f_n.f_w) (h1_a : Ro (Kd.int .u32) H v1_a a.f_d.f_w) (h2_b : Ro (Kd.int .u32) H v2_b b.f_n.f_w) (h3_b : Ro (Kd.int .u32) H v3_b b.f_d.f_w) : Ct Tryd.prog 34 ⟨[.agg ⟨[.bool a.f_n.f_neg, v0_a, .bool a.f_d.f_neg, v1_a]⟩, .agg ⟨[.bool b.f_n.f_neg, v2_b, .bool b.f_d.f_neg, v3_b]⟩]⟩ H L (fun v H' L' => L = L' ∧ H.le H' ∧ ratio_Ratio_Mul.out r H' v) := by
 refine ct_out (O := ratio_Ratio_Mul.out r) ?_
 have hle : H.le H := .refl _
 unfold ratio_Ratio_Mul.f at he
 refine ct_enter (args := [.agg ⟨[.bool a.f_n.f_neg, v0_a, .bool a.f_d.f_neg, v1_a]⟩, .agg ⟨[.bool b.f_n.f_neg, v2_b, .bool b.f_d.f_neg, v3_b]⟩]) fn_34 rfl nt_34 rfl <| w_seq <| w_region rfl <| w_a rfl (o_box (v := .agg ⟨[.bool a.f_n.f_neg, v0_a, .bool a.f_d.f_neg, v1_a]⟩) rfl rfl) ?_
 rintro _ _ _ ⟨b1, rfl, rfl, rfl⟩
 refine w_a rfl (o_box (v := .agg ⟨[.bool b.f_n.f_neg, v2_b, .bool b.f_d.f_neg, v3_b]⟩) rfl rfl) ?_
 rintro _ _ _ ⟨b2, rfl, rfl, rfl⟩
 refine w_a rfl (o_alloc zr64 rfl) ?_
 rintro _ _ _ ⟨b3, rfl, rfl, rfl⟩
 refine w_d rfl (d_assign (v := errV 89 none) rfl) <| w_done <| w_seq ?_
 obtain ⟨y4, hy5, he⟩ := Option.bind_eq_some_iff.1 he
 obtain ⟨y10, hy11, he⟩ := Option.bind_eq_some_iff.1 he
 obtain ⟨y16, hy17, he⟩ := Option.bind_eq_some_iff.1 he
 refine w_drawn (p := 11) (tl := [11, 12]) [[], [(0, some 6)], [], [(2, some 8)], [], [(4, some 10)], [], [(6, some 12)], [(1, some 7), (3, some 9), (5, some 11), (7, some 13)], [(8, some 14)], [(8, some 14)]] [some 6, some 7, some 8, some 9, some 10, some 11, some 12, some 13, some 14, some 15, some 16] (fctF (.is (.pointer (some ⟨b1, 0, none⟩)) :: .is (.agg ⟨[.bool a.f_n.f_neg, v0_a]⟩) :: .is (.pointer (some ⟨b2, 0, none⟩)) :: .is (.agg ⟨[.bool b.f_n.f_neg, v2_b]⟩) :: .is (.agg ⟨[.bool a.f_n.f_neg, v0_a, .bool a.f_d.f_neg, v1_a]⟩) :: .of (ratio_Ratio_under.out y4) (ratio_Ratio_under.out_mono _) :: .is (.agg ⟨[.bool b.f_n.f_neg, v2_b, .bool b.f_d.f_neg, v3_b]⟩) :: .of (ratio_Ratio_under.out y10) (ratio_Ratio_under.out_mono _) :: .of (ratio_product.out y16) (ratio_product.out_mono _) :: .of (fun H v => ∃ v24, ∃ v26, v = .agg ⟨[.bool y16.1.f_n.f_neg, v24, .bool y16.1.f_d.f_neg, v26]⟩ ∧ Ro (Kd.int .u32) H v24 y16.1.f_n.f_w ∧ Ro (Kd.int .u32) H v26 y16.1.f_d.f_w) (by rintro _ _ _ hle ⟨v24, v26, rfl, h25, h27⟩; exact ⟨v24, v26, rfl, h25.mono hle, h27.mono hle⟩) :: .is (errV 89 y16.2) :: [])) (fun m_ => some (b3, .cells ⟨[.bool false, .slice none 0 0, .bool false, .slice none 0 0]⟩ 64 (0, 0)) :: some (b2, .cells ⟨[.bool b.f_n.f_neg, v2_b, .bool b.f_d.f_neg, v3_b]⟩ 64 (0, 0)) :: some (b1, .cells ⟨[.bool a.f_n.f_neg, v0_a, .bool a.f_d.f_neg, v1_a]⟩ 64 (0, 0)) :: L) (fun _ => none) mixed (by kernel_rfl) (by kernel_rfl) rfl (fct_mono (by kernel_rfl)) ⟨(fun H' m_ hH hm_ hu_ => depK_nil <| s_d (m_ 0) rfl (d_fld (o' := 0) Tryd.underlying64 rfl sz30 rfl rfl rfl) (by exact rfl) rfl), (by rintro H' m_ hH hm_ hu_ _ rfl; exact depK_nil <| s_d (m_ 1) rfl (d_loado (v := .agg ⟨[.bool a.f_n.f_neg, v0_a]⟩) ty30 rfl (.there (.there .here)) rfl rfl rfl rfl) (by exact rfl) rfl), (fun H' m_ hH hm_ hu_ => depK_nil <| s_d (m_ 2) rfl (d_fld (o' := 0) Tryd.underlying64 rfl sz30 rfl rfl rfl) (by exact rfl) rfl), (by rintro H' m_ hH hm_ hu_ _ rfl; exact depK_nil <| s_d (m_ 3) rfl (d_loado (v := .agg ⟨[.bool b.f_n.f_neg, v2_b]⟩) ty30 rfl (.there .here) rfl rfl rfl rfl) (by exact rfl) rfl), (fun H' m_ hH hm_ hu_ => depK_nil <| s_d (m_ 4) rfl (d_loado (v := .agg ⟨[.bool a.f_n.f_neg, v0_a, .bool a.f_d.f_neg, v1_a]⟩) ty64 rfl (.there (.there .here)) rfl rfl rfl rfl) (by exact rfl) rfl), (by rintro H' m_ hH hm_ hu_ _ rfl; exact depK_nil <| s_k (m_ 5) rfl (o_call co71 (vs := [.agg ⟨[.bool a.f_n.f_neg, v0_a, .bool a.f_d.f_neg, v1_a]⟩]) rfl (ratio_Ratio_under.calls k (a := ⟨⟨a.f_n.f_neg, a.f_n.f_w⟩, ⟨a.f_d.f_neg, a.f_d.f_w⟩⟩) hy5 (h0_a.mono hH) (h1_a.mono hH))) rfl (by rintro v_ H_ _ ⟨rfl, e_, h_⟩; exact ⟨rfl, e_, h_⟩)), (fun H' m_ hH hm_ hu_ => depK_nil <| s_d (m_ 6) rfl (d_loado (v := .agg ⟨[.bool b.f_n.f_neg, v2_b, .bool b.f_d.f_neg, v3_b]⟩) ty64 rfl (.there .here) rfl rfl rfl rfl) (by exact rfl) rfl), (by rintro H' m_ hH hm_ hu_ _ rfl; exact depK_nil <| s_k (m_ 7) rfl (o_call co71 (vs := [.agg ⟨[.bool b.f_n.f_neg, v2_b, .bool b.f_d.f_neg, v3_b]⟩]) rfl (ratio_Ratio_under.calls k (a := ⟨⟨b.f_n.f_neg, b.f_n.f_w⟩, ⟨b.f_d.f_neg, b.f_d.f_w⟩⟩) hy11 (h2_b.mono hH) (h3_b.mono hH))) rfl (by rintro v_ H_ _ ⟨rfl, e_, h_⟩; exact ⟨rfl, e_, h_⟩)), (by rintro H' m_ hH hm_ hu_ _ rfl _ rfl _ ⟨v8, rfl, h9⟩ _ ⟨v14, rfl, h15⟩; exact depK_nil <| s_k (m_ 8) rfl (o_call co70 (vs := [.agg ⟨[.bool a.f_n.f_neg, v0_a]⟩, .agg ⟨[.bool b.f_n.f_neg, v2_b]⟩, .agg ⟨[.bool y4.f_neg, v8]⟩, .agg ⟨[.bool y10.f_neg, v14]⟩]) rfl (ratio_product.calls k (n := ⟨a.f_n.f_neg, a.f_n.f_w⟩) (m := ⟨b.f_n.f_neg, b.f_n.f_w⟩) (d := ⟨y4.f_neg, y4.f_w⟩) (e_ := ⟨y10.f_neg, y10.f_w⟩) hy17 (h0_a.mono hH) (h2_b.mono hH) h9 h15)) rfl (by rintro v_ H_ _ ⟨rfl, e_, h_⟩; exact ⟨rfl, e_, h_⟩)), (by rintro H' m_ hH hm_ hu_ _ ⟨v20, v22, rfl, h21, h23⟩; exact depK_nil <| s_d (m_ 9) rfl (d_ext (vs := [.agg ⟨[.bool y16.1.f_n.f_neg, v20, .bool y16.1.f_d.f_neg, v22]⟩, errV 89 y16.2]) rfl rfl) (by exact ⟨v20, v22, rfl, h21, h23⟩) rfl), (by rintro H' m_ hH hm_ hu_ _ ⟨v20, v22, rfl, h21, h23⟩; exact depK_nil <| s_d (m_ 10) rfl (d_ext (vs := [.agg ⟨[.bool y16.1.f_n.f_neg, v20, .bool y16.1.f_d.f_neg, v22]⟩, errV 89 y16.2]) rfl rfl) (by exact rfl) rfl), trivial⟩ ?_
 intro H28 e29
 rintro _ _ rfl _ _ rfl _ _ rfl _ _ rfl _ _ rfl _ _ ⟨v8, rfl, h9⟩ _ _ rfl _ _ ⟨v14, rfl, h15⟩ _ _ ⟨v20, v22, rfl, h21, h23⟩ _ _ ⟨v24, v26, rfl, h25, h27⟩ _ _ rfl
 refine w_a0 rfl (o_store (v := .agg ⟨[.bool y16.1.f_n.f_neg, v24, .bool y16.1.f_d.f_neg, v26]⟩) sz64 rfl rfl rfl rfl (one_cons rfl (one_cons (h25.one) (one_cons rfl (one_cons (h27.one) one_nil)))) .here (.here (.here (.here (.here .done))))) ?_
 rintro _ _ _ ⟨rfl, rfl, rfl⟩
 refine w_d rfl (d_assign (v := errV 89 y16.2) rfl) <| w_done ?_
 obtain rfl := Option.some.inj he
 refine w_return fn_34 rs_34 (.box (v := .agg ⟨[.bool y16.1.f_n.f_neg, v24, .bool y16.1.f_d.f_neg, v26]⟩) rfl ty64 rfl rfl .here rfl (.tmp (v := errV 89 y16.2) rfl .nil)) <| ⟨⟨[_, _, _], rfl⟩, hle.trans e29, ⟨v24, v26, rfl, h25, h27⟩⟩
/-! ### (radome/ratio.Ratio).Sub -/
noncomputable def ratio_Ratio_Sub.C : Code := (Tryd.f35.body).getD .skip
def ratio_Ratio_Sub.out (r : ratio_Ratio × (Option Int)) (H : Hp) (v : Value) : Prop := ∃ v0, ∃ v1, v = .tuple ⟨[.agg ⟨[.bool r.1.f_n.f_neg, v0, .bool r.1.f_d.f_neg, v1]⟩, errV 89 r.2]⟩ ∧ Ro (Kd.int .u32) H v0 r.1.f_n.f_w ∧ Ro (Kd.int .u32) H v1 r.1.f_d.f_w
theorem ratio_Ratio_Sub.out_mono (r : ratio_Ratio × (Option Int)) {H H' : Hp} {v : Value} (hle : H.le H') (h : ratio_Ratio_Sub.out r H v) : ratio_Ratio_Sub.out r H' v := by
 obtain ⟨v0, v1, rfl, h0, h1⟩ := h; exact ⟨v0, v1, rfl, h0.mono hle, h1.mono hle⟩
abbrev ratio_Ratio_Sub.R (H0 : Hp) (L : Items) (r : ratio_Ratio × (Option Int)) : Value → Hp → Items → Prop := fun v H' L' => (∃ p, L' = p ++ L) ∧ H0.le H' ∧ ratio_Ratio_Sub.out r H' v
noncomputable def ratio_Ratio_Sub.f (k : Nat) (a : ratio_Ratio) (b : ratio_Ratio) : Option (ratio_Ratio × (Option Int)) := (ratio_Ratio_joined.f k (⟨(⟨a.f_n.f_neg, a.f_n.f_w⟩ : wide_Int), (⟨a.f_d.f_neg, a.f_d.f_w⟩ : wide_Int)⟩ : ratio_Ratio) (⟨(⟨b.f_n.f_neg, b.f_n.f_w⟩ : wide_Int), (⟨b.f_d.f_neg, b.f_d.f_w⟩ : wide_Int)⟩ : ratio_Ratio) true).bind fun y4 => some ((⟨(⟨y4.1.f_n.f_neg, y4.1.f_n.f_w⟩ : wide_Int), (⟨y4.1.f_d.f_neg, y4.1.f_d.f_w⟩ : wide_Int)⟩ : ratio_Ratio), y4.2)
theorem ratio_Ratio_Sub.mono : ∀ k y0 y1, LeO (ratio_Ratio_Sub.f k y0 y1) (ratio_Ratio_Sub.f (k + 1) y0 y1) := fun k _ _ => by unfold ratio_Ratio_Sub.f; exact (LeO.bind (ratio_Ratio_joined.mono k _ _ _) fun _ => LeO.refl _)
theorem ratio_Ratio_Sub.calls (k : Nat) {H : Hp} {L : Items} {a : ratio_Ratio} {b : ratio_Ratio} {v0_a : Value} {v1_a : Value} {v2_b : Value} {v3_b : Value} {r : ratio_Ratio × (Option Int)} (he : ratio_Ratio_Sub.f k a b = some r) (h0_a : Ro (Kd.int .u32) H v0_a a.f_n.f_w) (h1_a : Ro (Kd.int .u32) H v1_a a.f_d.f_w) (h2_b : Ro (Kd.int .u32) H v2_b b.f_n.f_w) (h3_b : Ro (Kd.int .u32) H v3_b b.f_d.f_w) : Ct Tryd.prog 35 ⟨[.agg ⟨[.bool a.f_n.f_neg, v0_a, .bool a.f_d.f_neg, v1_a]⟩, .agg ⟨[.bool b.f_n.f_neg, v2_b, .bool b.f_d.f_neg, v3_b]⟩]⟩ H L (fun v H' L' => L = L' ∧ H.le H' ∧ ratio_Ratio_Sub.out r H' v) := by
 refine ct_out (O := ratio_Ratio_Sub.out r) ?_
 have hle : H.le H := .refl _
 unfold ratio_Ratio_Sub.f at he
 refine ct_enter (args := [.agg ⟨[.bool a.f_n.f_neg, v0_a, .bool a.f_d.f_neg, v1_a]⟩, .agg ⟨[.bool b.f_n.f_neg, v2_b, .bool b.f_d.f_neg, v3_b]⟩]) fn_35 rfl nt_35 rfl <| w_seq <| w_region rfl <| w_a rfl (o_box (v := .agg ⟨[.bool a.f_n.f_neg, v0_a, .bool a.f_d.f_neg, v1_a]⟩) rfl rfl) ?_
 rintro _ _ _ ⟨b1, rfl, rfl, rfl⟩
 refine w_a rfl (o_box (v := .agg ⟨[.bool b.f_n.f_neg, v2_b, .bool b.f_d.f_neg, v3_b]⟩) rfl rfl) ?_
 rintro _ _ _ ⟨b2, rfl, rfl, rfl⟩
 refine w_a rfl (o_alloc zr64 rfl) ?_
 rintro _ _ _ ⟨b3, rfl, rfl, rfl⟩
 refine w_d rfl (d_assign (v := errV 89 none) rfl) <| w_done <| w_seq <| w_region rfl <| w_d rfl (d_loado (v := .agg ⟨[.bool a.f_n.f_neg, v0_a, .bool a.f_d.f_neg, v1_a]⟩) ty64 rfl (.there (.there .here)) rfl rfl rfl rfl) <| w_d rfl (d_loado (v := .agg ⟨[.bool b.f_n.f_neg, v2_b, .bool b.f_d.f_neg, v3_b]⟩) ty64 rfl (.there .here) rfl rfl rfl rfl) ?_
 obtain ⟨y4, hy5, he⟩ := Option.bind_eq_some_iff.1 he
 refine w_a rfl (o_call co69 (vs := [.agg ⟨[.bool a.f_n.f_neg, v0_a, .bool a.f_d.f_neg, v1_a]⟩, .agg ⟨[.bool b.f_n.f_neg, v2_b, .bool b.f_d.f_neg, v3_b]⟩, .bool true]) rfl (ratio_Ratio_joined.calls k (a := ⟨⟨a.f_n.f_neg, a.f_n.f_w⟩, ⟨a.f_d.f_neg, a.f_d.f_w⟩⟩) (b := ⟨⟨b.f_n.f_neg, b.f_n.f_w⟩, ⟨b.f_d.f_neg, b.f_d.f_w⟩⟩) hy5 h0_a h1_a h2_b h3_b)) ?_
 rintro _ H6 _ ⟨rfl, e7, ⟨v8, v10, rfl, h9, h11⟩⟩
 refine w_d rfl (d_ext (vs := [.agg ⟨[.bool y4.1.f_n.f_neg, v8, .bool y4.1.f_d.f_neg, v10]⟩, errV 89 y4.2]) rfl rfl) <| w_d rfl (d_ext (vs := [.agg ⟨[.bool y4.1.f_n.f_neg, v8, .bool y4.1.f_d.f_neg, v10]⟩, errV 89 y4.2]) rfl rfl) <| w_a0 rfl (o_store (v := .agg ⟨[.bool y4.1.f_n.f_neg, v8, .bool y4.1.f_d.f_neg, v10]⟩) sz64 rfl rfl rfl rfl (one_cons rfl (one_cons (h9.one) (one_cons rfl (one_cons (h11.one) one_nil)))) .here (.here (.here (.here (.here .done))))) ?_
 rintro _ _ _ ⟨rfl, rfl, rfl⟩
 refine w_d rfl (d_assign (v := errV 89 y4.2) rfl) <| w_done ?_
 obtain rfl := Option.some.inj he
 refine w_return fn_35 rs_35 (.box (v := .agg ⟨[.bool y4.1.f_n.f_neg, v8, .bool y4.1.f_d.f_neg, v10]⟩) rfl ty64 rfl rfl .here rfl (.tmp (v := errV 89 y4.2) rfl .nil)) <| ⟨⟨[_, _, _], rfl⟩, hle.trans e7, ⟨v8, v10, rfl, h9, h11⟩⟩
/-! ### slices.Reverse[[]byte,byte] -/
noncomputable def slices_Reverse_byte_byte.C : Code := (Tryd.f77.body).getD .skip
def slices_Reverse_byte_byte.out (r : (List Int)) (H : Hp) (v : Value) : Prop := v = .tuple ⟨[]⟩
abbrev slices_Reverse_byte_byte.R (vr_ : Value) (H0 : Hp) (L : Items) (r : (List Int)) : Value → Hp → Items → Prop := fun v H' L' => (∃ p it', L' = p ++ it' :: L ∧ Sl (Kd.int .u8) H' 5 it' vr_ r) ∧ H0.le H' ∧ v = .tuple ⟨[]⟩
structure slices_Reverse_byte_byte.Hs where
 l0 : (List Int) → Int → Int → Option (List Int)
noncomputable def slices_Reverse_byte_byte.b0 (k : Nat) (h : slices_Reverse_byte_byte.Hs)  (s : List Int) (i : Int) (j_ : Int) : Option (List Int) := if i < j_ then (if (0 : Int) ≤ j_ ∧ j_ < (s.length : Int) then (if (0 : Int) ≤ i ∧ i < (s.length : Int) then (if (0 : Int) ≤ i ∧ i < (s.length : Int) then (if (0 : Int) ≤ j_ ∧ j_ < ((s.set (i : Int).toNat (rd s j_)).length : Int) then (h.l0 ((s.set (i : Int).toNat (rd s j_)).set (j_ : Int).toNat (rd s i)) (w64 (i + 1)) (w64 (j_ - 1))) else none) else none) else none) else none) else (some (s))
noncomputable def slices_Reverse_byte_byte.hs : Nat → slices_Reverse_byte_byte.Hs
 | 0 => ⟨fun _ _ _ => none⟩
 | k + 1 => ⟨fun x0 x1 x2 => slices_Reverse_byte_byte.b0 k (slices_Reverse_byte_byte.hs k) x0 x1 x2⟩
noncomputable def slices_Reverse_byte_byte.f (k : Nat) (s : List Int) : Option (List Int) := (fun h : slices_Reverse_byte_byte.Hs => h.l0 s 0 (w64 ((s.length : Int) - 1))) (slices_Reverse_byte_byte.hs k)
structure slices_Reverse_byte_byte.LE (h h' : slices_Reverse_byte_byte.Hs) : Prop where
 l0 : ∀ y0 y1 y2, LeO (h.l0 y0 y1 y2) (h'.l0 y0 y1 y2)
theorem slices_Reverse_byte_byte.b0_mono {k : Nat} {h h' : slices_Reverse_byte_byte.Hs} (hl : slices_Reverse_byte_byte.LE h h') : ∀ y0 y1 y2, LeO (slices_Reverse_byte_byte.b0 k h y0 y1 y2) (slices_Reverse_byte_byte.b0 (k + 1) h' y0 y1 y2) := fun _ _ _ => (LeO.ite (LeO.ite (LeO.ite (LeO.ite (LeO.ite (hl.l0 _ _ _) (LeO.refl _)) (LeO.refl _)) (LeO.refl _)) (LeO.refl _)) (LeO.refl _))
theorem slices_Reverse_byte_byte.hs_mono : ∀ k, slices_Reverse_byte_byte.LE (slices_Reverse_byte_byte.hs k) (slices_Reverse_byte_byte.hs (k + 1))
 | 0 => ⟨fun _ _ _ => LeO.none _⟩
 | k + 1 => ⟨slices_Reverse_byte_byte.b0_mono (k := k) (slices_Reverse_byte_byte.hs_mono k)⟩
theorem slices_Reverse_byte_byte.mono : ∀ k y0, LeO (slices_Reverse_byte_byte.f k y0) (slices_Reverse_byte_byte.f (k + 1) y0) := fun k _ => have hl := slices_Reverse_byte_byte.hs_mono k; by unfold slices_Reverse_byte_byte.f; exact (hl.l0 _ _ _)
noncomputable def slices_Reverse_byte_byte.Kl0 : List Item := .code (lopB (blkB (seqR slices_Reverse_byte_byte.C))) :: .inLoop (lopB (blkB (seqR slices_Reverse_byte_byte.C))) :: .inBlock 0 :: []
structure slices_Reverse_byte_byte.OK (h : slices_Reverse_byte_byte.Hs) : Prop where
 l0 : ∀ {H0 H : Hp} {L : Items} {r : (List Int)} {jk_ : Nat → Value} {s : List Int} {i : Int} {j_ : Int} {vr_ : Value} {i_s : Item'} (_ : H0.le H) (_he : h.l0 s i j_ = some r) (_h_s : Sl (Kd.int .u8) H 5 i_s vr_ s), Wp Tryd.prog 77 28 slices_Reverse_byte_byte.Kl0 (upd (upd (upd jk_ 0 (vr_)) 2 (.int .i64 i)) 3 (.int .i64 j_)) H (i_s :: L) (slices_Reverse_byte_byte.R vr_ H0 L r)
theorem slices_Reverse_byte_byte.b0_ok {k : Nat} {h : slices_Reverse_byte_byte.Hs} (hh : slices_Reverse_byte_byte.OK h) {H0 H : Hp} {L : Items} {r : (List Int)} {jk_ : Nat → Value} {s : List Int} {i : Int} {j_ : Int} {vr_ : Value} {i_s : Item'} (hle : H0.le H) (he : slices_Reverse_byte_byte.b0 k h s i j_ = some r) (h_s : Sl (Kd.int .u8) H 5 i_s vr_ s) : Wp Tryd.prog 77 28 slices_Reverse_byte_byte.Kl0 (upd (upd (upd jk_ 0 (vr_)) 2 (.int .i64 i)) 3 (.int .i64 j_)) H (i_s :: L) (slices_Reverse_byte_byte.R vr_ H0 L r) := by
 unfold slices_Reverse_byte_byte.b0 at he
 unfold slices_Reverse_byte_byte.Kl0
 refine w_seq <| w_seq <| w_region rfl <| w_d rfl (d_move (v := .int .i64 i) rfl) <| w_d rfl (d_move (v := .int .i64 j_) rfl) <| w_d rfl (d_lss rfl rfl) <| w_done ?_
 rcases its he with ⟨c1, he⟩ | ⟨c1, he⟩
 ·
  refine w_then rfl (decide_eq_true c1) <| w_skip <| w_seq <| w_block ?_
  obtain ⟨c2, he⟩ := rq he
  obtain ⟨c3, he⟩ := rq he
  obtain ⟨c4, he⟩ := rq he
  refine w_drawn (p := 14) (tl := [14, 15]) [[], [], [], [], [], [], [(4, some 18), (5, some 19)], [(6, some 20)], [], [], [(8, some 22), (9, some 23)], [(10, some 24)], [(0, some 14), (1, some 15)], [(7, some 21), (12, some 26)]] [some 14, some 15, some 16, some 17, some 18, some 19, some 20, some 21, some 22, some 23, some 24, some 25, some 26, none] (fctF (.is (vr_) :: .is (.int .i64 i) :: .is (vr_) :: .is (.int .i64 j_) :: .is (vr_) :: .is (.int .i64 j_) :: .is (.pointer (some (pel vr_ j_ 1))) :: .is (.int .u8 (rd s j_)) :: .is (vr_) :: .is (.int .i64 i) :: .is (.pointer (some (pel vr_ i 1))) :: .is (.int .u8 (rd s i)) :: .is (.pointer (some (pel vr_ i 1))) :: .itm (fun H it_ => Sl (Kd.int .u8) H 5 it_ vr_ (s.set (i : Int).toNat (rd s j_))) (fun hle_ h_ => h_.mono hle_) :: [])) (fun m_ => m_ 13 :: L) (fun i_ => if i_ = 13 then i_s else none) mixed (by kernel_rfl) (by kernel_rfl) rfl (fct_mono (by kernel_rfl)) ⟨(fun H' m_ hH hm_ hu_ => depK_nil <| s_d (m_ 0) rfl (d_move (v := vr_) rfl) (by exact rfl) rfl), (fun H' m_ hH hm_ hu_ => depK_nil <| s_d (m_ 1) rfl (d_move (v := .int .i64 i) rfl) (by exact rfl) rfl), (fun H' m_ hH hm_ hu_ => depK_nil <| s_d (m_ 2) rfl (d_move (v := vr_) rfl) (by exact rfl) rfl), (fun H' m_ hH hm_ hu_ => depK_nil <| s_d (m_ 3) rfl (d_move (v := .int .i64 j_) rfl) (by exact rfl) rfl), (fun H' m_ hH hm_ hu_ => depK_nil <| s_d (m_ 4) rfl (d_move (v := vr_) rfl) (by exact rfl) rfl), (fun H' m_ hH hm_ hu_ => depK_nil <| s_d (m_ 5) rfl (d_move (v := .int .i64 j_) rfl) (by exact rfl) rfl), (by rintro H' m_ hH hm_ hu_ _ rfl _ rfl; exact depK_nil <| s_d (m_ 6) rfl (d_indexS (sz := 1) Tryd.underlying22 sz5 rfl (h_s.mono hH).shp rfl c2) (by exact rfl) rfl), (by rintro H' m_ hH hm_ hu_ _ rfl; exact depK_nil <| s_d (m_ 7) rfl (d_ldint ty5 rfl ((h_s.mono hH).src (has_eq (hu_ 13 (by kernel_rfl)))) c2) (by exact rfl) rfl), (fun H' m_ hH hm_ hu_ => depK_nil <| s_d (m_ 8) rfl (d_move (v := vr_) rfl) (by exact rfl) rfl), (fun H' m_ hH hm_ hu_ => depK_nil <| s_d (m_ 9) rfl (d_move (v := .int .i64 i) rfl) (by exact rfl) rfl), (by rintro H' m_ hH hm_ hu_ _ rfl _ rfl; exact depK_nil <| s_d (m_ 10) rfl (d_indexS (sz := 1) Tryd.underlying22 sz5 rfl (h_s.mono hH).shp rfl c3) (by exact rfl) rfl), (by rintro H' m_ hH hm_ hu_ _ rfl; exact depK_nil <| s_d (m_ 11) rfl (d_ldint ty5 rfl ((h_s.mono hH).src (has_eq (hu_ 13 (by kernel_rfl)))) c3) (by exact rfl) rfl), (by rintro H' m_ hH hm_ hu_ _ rfl _ rfl; exact depK_nil <| s_d (m_ 12) rfl (d_indexS (sz := 1) Tryd.underlying22 sz5 rfl (h_s.mono hH).shp rfl c4) (by exact rfl) rfl), (by rintro H' m_ hH hm_ hu_ _ rfl _ rfl; exact depK_nil <| s_stEl (i_s) hm_ rfl (o_storeEl (kd := (Kd.int .u8)) (v := .int .u8 (rd s j_)) sz5 rfl rfl rfl rfl (h_s.mono hH) c4 (fun _ => .here)) rfl (by exact fun _ h_ => ⟨rfl, h_⟩)), trivial⟩ ?_
  intro H7 e8
  rintro _ _ rfl _ _ rfl _ _ rfl _ _ rfl _ _ rfl _ _ rfl _ _ rfl _ _ rfl _ _ rfl _ _ rfl _ _ rfl _ _ rfl _ _ rfl _ i5 ⟨rfl, h6⟩
  refine w_it (L' := i5 :: L) rfl ?_
  obtain ⟨c9, he⟩ := rq he
  refine w_d rfl (d_indexS (sz := 1) Tryd.underlying22 sz5 rfl h6.shp rfl c9) <| w_a0 rfl (o_storeEl (kd := (Kd.int .u8)) (v := .int .u8 (rd s i)) (F := fun z_ => z_ :: L) sz5 rfl rfl rfl rfl h6 c9 (fun _ => .here)) ?_
  rintro _ _ _ ⟨i10, rfl, rfl, rfl, h11⟩
  refine w_done <| w_inBlock <| w_region rfl <| w_d rfl (d_move (v := .int .i64 i) rfl) <| w_d rfl (d_add (c := w64 (i + 1)) rfl rfl rfl) <| w_d rfl (d_move (v := .int .i64 j_) rfl) <| w_d rfl (d_sub (c := w64 (j_ - 1)) rfl rfl rfl) <| w_d rfl (d_assign (v := .int .i64 (w64 (i + 1))) rfl) <| w_d rfl (d_assign (v := .int .i64 (w64 (j_ - 1))) rfl) <| w_done <| w_inLoop <| w_sl 0 (vr_) rfl ?_
  refine w_sl 2 (.int .i64 (w64 (i + 1))) rfl <| w_sl 3 (.int .i64 (w64 (j_ - 1))) rfl <| hh.l0 (hle.trans e8) he h11
 ·
  refine w_else rfl (decide_eq_false c1) <| w_exit rfl ?_
  obtain rfl := Option.some.inj he
  refine w_finish fn_77 rs_77 .nil <| ⟨⟨[], _, rfl, h_s⟩, hle, rfl⟩
theorem slices_Reverse_byte_byte.ok : ∀ k, slices_Reverse_byte_byte.OK (slices_Reverse_byte_byte.hs k)
 | 0 => ⟨(by intros; exact nomatch (show none = some _ from by assumption))⟩
 | k + 1 => ⟨slices_Reverse_byte_byte.b0_ok (k := k) (slices_Reverse_byte_byte.ok k)⟩
theorem slices_Reverse_byte_byte.calls (k : Nat) {H : Hp} {L : Items} {s : List Int} {vr_ : Value} {it_ : Item'} {r : (List Int)} (he : slices_Reverse_byte_byte.f k s = some r) (hr_ : Sl (Kd.int .u8) H 5 it_ vr_ s) : Ct Tryd.prog 77 ⟨[vr_]⟩ H (it_ :: L) (fun v H' L' => ∃ it', L' = it' :: L ∧ H.le H' ∧ Sl (Kd.int .u8) H' 5 it' vr_ r ∧ v = .tuple ⟨[]⟩) := by
 refine ct_mut (Q := fun v => v = .tuple ⟨[]⟩) ?_
 have hle : H.le H := .refl _
 have hh := slices_Reverse_byte_byte.ok k
 unfold slices_Reverse_byte_byte.f at he
 refine ct_enter (args := [vr_]) fn_77 rfl nt_77 rfl <| w_seq <| w_region rfl <| w_d rfl (d_move (v := vr_) rfl) <| w_d rfl (d_lenS Tryd.underlying22 rfl hr_.shp) <| w_d rfl (d_sub (c := w64 ((s.length : Int) - 1)) rfl rfl rfl) <| w_d rfl (d_assign (v := .int .i64 0) rfl) <| w_d rfl (d_assign (v := .int .i64 (w64 ((s.length : Int) - 1))) rfl) <| w_done <| w_block <| w_loop <| w_sl 0 (vr_) rfl ?_
 refine w_sl 2 (.int .i64 0) rfl <| w_sl 3 (.int .i64 (w64 ((s.length : Int) - 1))) rfl <| hh.l0 hle he hr_
/-! ### (radome/wide.Int).Text -/
noncomputable def wide_Int_Text.C : Code := (Tryd.f50.body).getD .skip
def wide_Int_Text.out (r : ByteArray) (H : Hp) (v : Value) : Prop := v = .string r
abbrev wide_Int_Text.R (H0 : Hp) (L : Items) (r : ByteArray) : Value → Hp → Items → Prop := fun v H' L' => (∃ p, L' = p ++ L) ∧ H0.le H' ∧ wide_Int_Text.out r H' v
structure wide_Int_Text.Hs where
 l0 : Bool → (List Int) → ByteArray → (List Int) → (List Int) → Option ByteArray
 l1 : Bool → (List Int) → ByteArray → (List Int) → (List Int) → Int → Int → Option ByteArray
noncomputable def wide_Int_Text.b0 (k : Nat) (h : wide_Int_Text.Hs)  (a_0 : Bool) (a_1 : List Int) (t2 : ByteArray) (out : List Int) (w : List Int) : Option ByteArray := if 0 < (w.length : Int) then ((wide_short.f k w 1000000000).bind fun y4 => h.l1 a_0 a_1 t2 out y4.1 y4.2 0) else (if a_0 = true then (if out.length + 1 ≤ 140737488355200 then ((slices_Reverse_byte_byte.f k (out ++ [45])).bind fun y18 => some (strOf y18)) else none) else ((slices_Reverse_byte_byte.f k out).bind fun y24 => some (strOf y24)))
noncomputable def wide_Int_Text.b1 (k : Nat) (h : wide_Int_Text.Hs)  (a_0 : Bool) (a_1 : List Int) (t2 : ByteArray) (out : List Int) (w : List Int) (r_ : Int) (k_ : Int) : Option ByteArray := if ((decide (k_ < 9)) && ((decide (0 < (w.length : Int))) || (decide (0 < r_)))) = true then (if out.length + 1 ≤ 140737488355200 then (h.l1 a_0 a_1 t2 (out ++ [(48 + ((Int.tmod r_ 10) % 256)) % 256]) w ((Int.tdiv r_ 10) % 4294967296) (w64 (k_ + 1))) else none) else (h.l0 a_0 a_1 t2 out w)
noncomputable def wide_Int_Text.hs : Nat → wide_Int_Text.Hs
 | 0 => ⟨fun _ _ _ _ _ => none, fun _ _ _ _ _ _ _ => none⟩
 | k + 1 => ⟨fun x0 x1 x2 x3 x4 => wide_Int_Text.b0 k (wide_Int_Text.hs k) x0 x1 x2 x3 x4, fun x0 x1 x2 x3 x4 x5 x6 => wide_Int_Text.b1 k (wide_Int_Text.hs k) x0 x1 x2 x3 x4 x5 x6⟩
noncomputable def wide_Int_Text.f (k : Nat) (a : wide_Int) : Option ByteArray := (fun h : wide_Int_Text.Hs => if (a.f_w.length : Int) = 0 then (some (str_2)) else (h.l0 a.f_neg a.f_w str_0 [] a.f_w)) (wide_Int_Text.hs k)
structure wide_Int_Text.LE (h h' : wide_Int_Text.Hs) : Prop where
 l0 : ∀ y0 y1 y2 y3 y4, LeO (h.l0 y0 y1 y2 y3 y4) (h'.l0 y0 y1 y2 y3 y4)
 l1 : ∀ y0 y1 y2 y3 y4 y5 y6, LeO (h.l1 y0 y1 y2 y3 y4 y5 y6) (h'.l1 y0 y1 y2 y3 y4 y5 y6)
theorem wide_Int_Text.b0_mono {k : Nat} {h h' : wide_Int_Text.Hs} (hl : wide_Int_Text.LE h h') : ∀ y0 y1 y2 y3 y4, LeO (wide_Int_Text.b0 k h y0 y1 y2 y3 y4) (wide_Int_Text.b0 (k + 1) h' y0 y1 y2 y3 y4) := fun _ _ _ _ _ => (LeO.ite (LeO.bind (wide_short.mono k _ _) fun _ => hl.l1 _ _ _ _ _ _ _) (LeO.ite (LeO.ite (LeO.bind (slices_Reverse_byte_byte.mono k _) fun _ => LeO.refl _) (LeO.refl _)) (LeO.bind (slices_Reverse_byte_byte.mono k _) fun _ => LeO.refl _)))
theorem wide_Int_Text.b1_mono {k : Nat} {h h' : wide_Int_Text.Hs} (hl : wide_Int_Text.LE h h') : ∀ y0 y1 y2 y3 y4 y5 y6, LeO (wide_Int_Text.b1 k h y0 y1 y2 y3 y4 y5 y6) (wide_Int_Text.b1 (k + 1) h' y0 y1 y2 y3 y4 y5 y6) := fun _ _ _ _ _ _ _ => (LeO.ite (LeO.ite (hl.l1 _ _ _ _ _ _ _) (LeO.refl _)) (hl.l0 _ _ _ _ _))
theorem wide_Int_Text.hs_mono : ∀ k, wide_Int_Text.LE (wide_Int_Text.hs k) (wide_Int_Text.hs (k + 1))
 | 0 => ⟨fun _ _ _ _ _ => LeO.none _, fun _ _ _ _ _ _ _ => LeO.none _⟩
 | k + 1 => ⟨wide_Int_Text.b0_mono (k := k) (wide_Int_Text.hs_mono k), wide_Int_Text.b1_mono (k := k) (wide_Int_Text.hs_mono k)⟩
theorem wide_Int_Text.mono : ∀ k y0, LeO (wide_Int_Text.f k y0) (wide_Int_Text.f (k + 1) y0) := fun k _ => have hl := wide_Int_Text.hs_mono k; by unfold wide_Int_Text.f; exact (LeO.ite (LeO.refl _) (hl.l0 _ _ _ _ _))
noncomputable def wide_Int_Text.Kl0 : List Item := .code (lopB (blkB (seqR (seqL (seqR (seqR (seqR wide_Int_Text.C))))))) :: .inLoop (lopB (blkB (seqR (seqL (seqR (seqR (seqR wide_Int_Text.C))))))) :: .inBlock 0 :: .code (seqR (seqR (seqR (seqR wide_Int_Text.C)))) :: []
noncomputable def wide_Int_Text.Kl1 : List Item := .code (lopB (blkB (seqR (seqR (seqR (blkB (seqR (lopB (blkB (seqR (seqL (seqR (seqR (seqR wide_Int_Text.C)))))))))))))) :: .inLoop (lopB (blkB (seqR (seqR (seqR (blkB (seqR (lopB (blkB (seqR (seqL (seqR (seqR (seqR wide_Int_Text.C)))))))))))))) :: .inBlock 2 :: .inBlock 1 :: .inLoop (lopB (blkB (seqR (seqL (seqR (seqR (seqR wide_Int_Text.C))))))) :: .inBlock 0 :: .code (seqR (seqR (seqR (seqR wide_Int_Text.C)))) :: []
structure wide_Int_Text.OK (h : wide_Int_Text.Hs) : Prop where
 l0 : ∀ {H0 H : Hp} {L : Items} {r : ByteArray} {jk_ : Nat → Value} {a_0 : Bool} {a_1 : List Int} {t2 : ByteArray} {out : List Int} {w : List Int} {v_a_1 : Value} {v_out : Value} {v_w : Value} {i_out : Item'} {b_a : Nat} (_ : H0.le H) (_he : h.l0 a_0 a_1 t2 out w = some r) (_h_a_1 : Ro (Kd.int .u32) H v_a_1 a_1) (_h_out : Sl (Kd.int .u8) H 5 i_out v_out out) (_h_w : Ro (Kd.int .u32) H v_w w), Wp Tryd.prog 50 52 wide_Int_Text.Kl0 (upd (upd (upd (upd jk_ 1 (.pointer (some ⟨b_a, 0, none⟩))) 2 (.string t2)) 3 (v_out)) 4 (v_w)) H (i_out :: some (b_a, .cells ⟨[.bool a_0, v_a_1]⟩ 30 (0, 0)) :: L) (wide_Int_Text.R H0 L r)
 l1 : ∀ {H0 H : Hp} {L : Items} {r : ByteArray} {jk_ : Nat → Value} {a_0 : Bool} {a_1 : List Int} {t2 : ByteArray} {out : List Int} {w : List Int} {r_ : Int} {k_ : Int} {v_a_1 : Value} {v_out : Value} {v_w : Value} {i_out : Item'} {b_a : Nat} (_ : H0.le H) (_he : h.l1 a_0 a_1 t2 out w r_ k_ = some r) (_h_a_1 : Ro (Kd.int .u32) H v_a_1 a_1) (_h_out : Sl (Kd.int .u8) H 5 i_out v_out out) (_h_w : Ro (Kd.int .u32) H v_w w), Wp Tryd.prog 50 52 wide_Int_Text.Kl1 (upd (upd (upd (upd (upd (upd jk_ 1 (.pointer (some ⟨b_a, 0, none⟩))) 2 (.string t2)) 3 (v_out)) 4 (v_w)) 5 (.int .u32 r_)) 6 (.int .i64 k_)) H (i_out :: some (b_a, .cells ⟨[.bool a_0, v_a_1]⟩ 30 (0, 0)) :: L) (wide_Int_Text.R H0 L r)
theorem wide_Int_Text.b0_ok {k : Nat} {h : wide_Int_Text.Hs} (hh : wide_Int_Text.OK h) {H0 H : Hp} {L : Items} {r : ByteArray} {jk_ : Nat → Value} {a_0 : Bool} {a_1 : List Int} {t2 : ByteArray} {out : List Int} {w : List Int} {v_a_1 : Value} {v_out : Value} {v_w : Value} {i_out : Item'} {b_a : Nat} (hle : H0.le H) (he : wide_Int_Text.b0 k h a_0 a_1 t2 out w = some r) (h_a_1 : Ro (Kd.int .u32) H v_a_1 a_1) (h_out : Sl (Kd.int .u8) H 5 i_out v_out out) (h_w : Ro (Kd.int .u32) H v_w w) : Wp Tryd.prog 50 52 wide_Int_Text.Kl0 (upd (upd (upd (upd jk_ 1 (.pointer (some ⟨b_a, 0, none⟩))) 2 (.string t2)) 3 (v_out)) 4 (v_w)) H (i_out :: some (b_a, .cells ⟨[.bool a_0, v_a_1]⟩ 30 (0, 0)) :: L) (wide_Int_Text.R H0 L r) := by
 unfold wide_Int_Text.b0 at he
 unfold wide_Int_Text.Kl0
 refine w_seq <| w_seq <| w_region rfl <| w_d rfl (d_move (v := v_w) rfl) <| w_d rfl (d_len Tryd.underlying28 rfl h_w.src) <| w_d rfl (d_gtr rfl rfl) <| w_done ?_
 rcases its he with ⟨c3, he⟩ | ⟨c3, he⟩
 ·
  refine w_then rfl (decide_eq_true c3) <| w_skip <| w_block <| w_seq <| w_region rfl <| w_d rfl (d_assign (v := .int .u32 0) rfl) <| w_done <| w_seq <| w_region rfl <| w_d rfl (d_move (v := v_w) rfl) ?_
  obtain ⟨y4, hy5, he⟩ := Option.bind_eq_some_iff.1 he
  refine w_a rfl (o_call co76 (vs := [v_w, .int .u32 1000000000]) rfl (wide_short.calls k hy5 h_w.src)) ?_
  rintro _ H6 _ ⟨rfl, e7, ⟨v8, rfl, h9⟩⟩
  refine w_d rfl (d_move (v := .tuple ⟨[v8, .int .u32 y4.2]⟩) rfl) <| w_d rfl (d_ext (vs := [v8, .int .u32 y4.2]) rfl rfl) <| w_d rfl (d_ext (vs := [v8, .int .u32 y4.2]) rfl rfl) <| w_d rfl (d_assign (v := v8) rfl) <| w_d rfl (d_assign (v := .int .u32 y4.2) rfl) <| w_done <| w_seq <| w_region rfl <| w_d rfl (d_assign (v := .int .i64 0) rfl) <| w_done <| w_block <| w_loop ?_
  refine w_sl 1 (.pointer (some ⟨b_a, 0, none⟩)) rfl <| w_sl 2 (.string t2) rfl <| w_sl 3 (v_out) rfl <| w_sl 4 (v8) rfl <| w_sl 5 (.int .u32 y4.2) rfl <| w_sl 6 (.int .i64 0) rfl <| hh.l1 (hle.trans e7) he (h_a_1.mono e7) (h_out.mono e7) h9
 ·
  refine w_else rfl (decide_eq_false c3) <| w_exit rfl <| w_seq <| w_seq <| w_region rfl <| w_d rfl (d_fld (o' := 0) Tryd.underlying30 rfl sz4 rfl rfl rfl) <| w_d rfl (d_loado (v := .bool a_0) ty4 rfl (.there .here) rfl rfl rfl rfl) <| w_done ?_
  rcases its he with ⟨c10, he⟩ | ⟨c10, he⟩
  ·
   refine w_then rfl c10 <| w_region rfl <| w_d rfl (d_move (v := v_out) rfl) <| w_a rfl (o_buildSlice' (kd := (Kd.int .u8)) (css := [[.int .u8 45]]) (xs := [45]) (parts := [(0, .int .u8 45)]) Tryd.underlying22 ti5 rfl ⟨_, _, rfl, rfl, rfl⟩ ⟨rfl, trivial⟩ rfl (by decide)) ?_
   rintro v11 _ _ ⟨i12, rfl, rfl, h13⟩
   obtain ⟨c14, he⟩ := rq he
   refine w_a rfl (o_append' (kd := (Kd.int .u8)) (F := fun z_ => i12 :: z_ :: some (b_a, .cells ⟨[.bool a_0, v_a_1]⟩ 30 (0, 0)) :: L) Tryd.underlying22 Tryd.underlying22 ti5 rfl (by first | omega | (simp only [List.nil_append, List.length_cons, List.length_nil]; omega)) rfl rfl h_out (h13.src .here) (fun _ => (.there .here))) ?_
   rintro v15 _ _ ⟨i16, rfl, rfl, h17⟩
   refine w_d rfl (d_assign (v := v15) rfl) <| w_done <| w_seq <| w_region rfl <| w_d rfl (d_move (v := v15) rfl) ?_
   obtain ⟨y18, hy19, he⟩ := Option.bind_eq_some_iff.1 he
   refine w_a rfl (o_call co77 (vs := [v15]) rfl (ct_at (F := fun z_ => i12 :: z_ :: some (b_a, .cells ⟨[.bool a_0, v_a_1]⟩ 30 (0, 0)) :: L) (slices_Reverse_byte_byte.calls k hy19 h17) (.there .here) (fun _ => (.there .here)))) ?_
   rintro _ H20 _ ⟨i22, rfl, e21, h23, rfl⟩
   refine w_done <| w_seq <| w_region rfl <| w_d rfl (d_move (v := v15) rfl) <| w_d rfl (d_strof Tryd.underlying22 Tryd.underlying5 Tryd.underlying9 rfl (h23.src (.there .here))) <| w_d rfl (d_assign (v := .string (strOf y18)) rfl) <| w_done ?_
   obtain rfl := Option.some.inj he
   refine w_return fn_50 rs_50 (.tmp (v := .string (strOf y18)) rfl .nil) <| ⟨⟨[_, _, _], rfl⟩, hle.trans e21, rfl⟩
  ·
   refine w_else rfl (Bool.eq_false_iff.2 c10) <| w_skip <| w_seq <| w_region rfl <| w_d rfl (d_move (v := v_out) rfl) ?_
   obtain ⟨y24, hy25, he⟩ := Option.bind_eq_some_iff.1 he
   refine w_a rfl (o_call co77 (vs := [v_out]) rfl (ct_at (F := fun z_ => z_ :: some (b_a, .cells ⟨[.bool a_0, v_a_1]⟩ 30 (0, 0)) :: L) (slices_Reverse_byte_byte.calls k hy25 h_out) .here (fun _ => .here))) ?_
   rintro _ H26 _ ⟨i28, rfl, e27, h29, rfl⟩
   refine w_done <| w_seq <| w_region rfl <| w_d rfl (d_move (v := v_out) rfl) <| w_d rfl (d_strof Tryd.underlying22 Tryd.underlying5 Tryd.underlying9 rfl (h29.src .here)) <| w_d rfl (d_assign (v := .string (strOf y24)) rfl) <| w_done ?_
   obtain rfl := Option.some.inj he
   refine w_return fn_50 rs_50 (.tmp (v := .string (strOf y24)) rfl .nil) <| ⟨⟨[_, _], rfl⟩, hle.trans e27, rfl⟩
theorem wide_Int_Text.b1_ok {k : Nat} {h : wide_Int_Text.Hs} (hh : wide_Int_Text.OK h) {H0 H : Hp} {L : Items} {r : ByteArray} {jk_ : Nat → Value} {a_0 : Bool} {a_1 : List Int} {t2 : ByteArray} {out : List Int} {w : List Int} {r_ : Int} {k_ : Int} {v_a_1 : Value} {v_out : Value} {v_w : Value} {i_out : Item'} {b_a : Nat} (hle : H0.le H) (he : wide_Int_Text.b1 k h a_0 a_1 t2 out w r_ k_ = some r) (h_a_1 : Ro (Kd.int .u32) H v_a_1 a_1) (h_out : Sl (Kd.int .u8) H 5 i_out v_out out) (h_w : Ro (Kd.int .u32) H v_w w) : Wp Tryd.prog 50 52 wide_Int_Text.Kl1 (upd (upd (upd (upd (upd (upd jk_ 1 (.pointer (some ⟨b_a, 0, none⟩))) 2 (.string t2)) 3 (v_out)) 4 (v_w)) 5 (.int .u32 r_)) 6 (.int .i64 k_)) H (i_out :: some (b_a, .cells ⟨[.bool a_0, v_a_1]⟩ 30 (0, 0)) :: L) (wide_Int_Text.R H0 L r) := by
 unfold wide_Int_Text.b1 at he
 unfold wide_Int_Text.Kl1
 refine w_seq <| w_seq <| w_region rfl <| w_d rfl (d_move (v := .int .i64 k_) rfl) <| w_d rfl (d_lss rfl rfl) <| w_d rfl (d_move (v := .bool (decide (k_ < 9))) rfl) <| w_g (g := decide (k_ < 9)) rfl rfl rfl wn_t (fun g30 => d_move (v := v_w) rfl) <| w_g (g := decide (k_ < 9)) rfl rfl rfl wn_t (fun g31 => d_len Tryd.underlying28 (cvt g31) h_w.src) <| w_g (g := decide (k_ < 9)) rfl rfl rfl wn_t (fun g32 => d_gtr (cvt g32) rfl) <| w_g (g := decide (k_ < 9)) rfl rfl rfl wn_t (fun g33 => d_move (v := .bool (decide (0 < (w.length : Int)))) (cvt g33)) <| w_g (g := (decide (k_ < 9)) && (!(decide (0 < (w.length : Int))))) rfl rfl rfl wn_gf (fun g34 => d_move (v := .int .u32 r_) rfl) <| w_g (g := (decide (k_ < 9)) && (!(decide (0 < (w.length : Int))))) rfl rfl rfl wn_gf (fun g35 => d_gtr (cvt g35) rfl) ?_
 refine w_g (g := decide (k_ < 9)) rfl rfl rfl wn_t (fun g36 => d_or' (b := (decide (0 < (w.length : Int)))) (p := (decide (0 < r_))) (cvt g36) rfl (cva g36)) <| w_d rfl (d_and' (b := (decide (k_ < 9))) (p := ((decide (0 < (w.length : Int))) || (decide (0 < r_)))) rfl rfl rfl) <| w_done ?_
 rcases its he with ⟨c37, he⟩ | ⟨c37, he⟩
 ·
  refine w_then rfl c37 <| w_skip <| w_seq <| w_block <| w_seq <| w_region rfl <| w_d rfl (d_move (v := v_out) rfl) <| w_d rfl (d_move (v := .int .u32 r_) rfl) <| w_d rfl (d_rem rfl rfl (by decide)) <| w_d rfl (d_conv (c := (Int.tmod r_ 10) % 256) Tryd.underlying93 Tryd.underlying5 rfl rfl) <| w_d rfl (d_add (c := (48 + ((Int.tmod r_ 10) % 256)) % 256) rfl rfl rfl) <| w_a rfl (o_buildSlice' (kd := (Kd.int .u8)) (css := [[.int .u8 ((48 + ((Int.tmod r_ 10) % 256)) % 256)]]) (xs := [(48 + ((Int.tmod r_ 10) % 256)) % 256]) (parts := [(0, .int .u8 ((48 + ((Int.tmod r_ 10) % 256)) % 256))]) Tryd.underlying22 ti5 rfl ⟨_, _, rfl, rfl, rfl⟩ ⟨rfl, trivial⟩ rfl (by decide)) ?_
  rintro v38 _ _ ⟨i39, rfl, rfl, h40⟩
  obtain ⟨c41, he⟩ := rq he
  refine w_a rfl (o_append' (kd := (Kd.int .u8)) (F := fun z_ => i39 :: z_ :: some (b_a, .cells ⟨[.bool a_0, v_a_1]⟩ 30 (0, 0)) :: L) Tryd.underlying22 Tryd.underlying22 ti5 rfl (by first | omega | (simp only [List.nil_append, List.length_cons, List.length_nil]; omega)) rfl rfl h_out (h40.src .here) (fun _ => (.there .here))) ?_
  rintro v42 _ _ ⟨i43, rfl, rfl, h44⟩
  refine w_d rfl (d_assign (v := v42) rfl) <| w_done <| w_region rfl <| w_d rfl (d_move (v := .int .u32 r_) rfl) <| w_d rfl (d_quo (c := (Int.tdiv r_ 10) % 4294967296) rfl rfl (by decide) rfl) <| w_d rfl (d_assign (v := .int .u32 ((Int.tdiv r_ 10) % 4294967296)) rfl) <| w_done <| w_inBlock <| w_region rfl <| w_d rfl (d_move (v := .int .i64 k_) rfl) <| w_d rfl (d_add (c := w64 (k_ + 1)) rfl rfl rfl) <| w_d rfl (d_assign (v := .int .i64 (w64 (k_ + 1))) rfl) ?_
  refine w_done <| w_inLoop <| w_del .here <| w_sl 1 (.pointer (some ⟨b_a, 0, none⟩)) rfl <| w_sl 2 (.string t2) rfl <| w_sl 3 (v42) rfl <| w_sl 4 (v_w) rfl <| w_sl 5 (.int .u32 ((Int.tdiv r_ 10) % 4294967296)) rfl <| w_sl 6 (.int .i64 (w64 (k_ + 1))) rfl <| hh.l1 hle he h_a_1 h44 h_w
 ·
  refine w_else rfl (Bool.eq_false_iff.2 c37) <| w_exit rfl <| w_inBlock <| w_inLoop <| w_sl 1 (.pointer (some ⟨b_a, 0, none⟩)) rfl <| w_sl 2 (.string t2) rfl <| w_sl 3 (v_out) rfl <| w_sl 4 (v_w) rfl <| hh.l0 hle he h_a_1 h_out h_w
theorem wide_Int_Text.ok : ∀ k, wide_Int_Text.OK (wide_Int_Text.hs k)
 | 0 => ⟨(by intros; exact nomatch (show none = some _ from by assumption)), (by intros; exact nomatch (show none = some _ from by assumption))⟩
 | k + 1 => ⟨wide_Int_Text.b0_ok (k := k) (wide_Int_Text.ok k), wide_Int_Text.b1_ok (k := k) (wide_Int_Text.ok k)⟩
theorem wide_Int_Text.calls (k : Nat) {H : Hp} {L : Items} {a : wide_Int} {v0_a : Value} {r : ByteArray} (he : wide_Int_Text.f k a = some r) (h0_a : Ro (Kd.int .u32) H v0_a a.f_w) : Ct Tryd.prog 50 ⟨[.agg ⟨[.bool a.f_neg, v0_a]⟩]⟩ H L (fun v H' L' => L = L' ∧ H = H' ∧ v = .string r) := by
 refine ct_outs (O := wide_Int_Text.out r) (fun _ _ h => h) ?_
 have hle : H.le H := .refl _
 have hh := wide_Int_Text.ok k
 unfold wide_Int_Text.f at he
 refine ct_enter (args := [.agg ⟨[.bool a.f_neg, v0_a]⟩]) fn_50 rfl nt_50 rfl <| w_seq <| w_region rfl <| w_a rfl (o_box (v := .agg ⟨[.bool a.f_neg, v0_a]⟩) rfl rfl) ?_
 rintro _ _ _ ⟨b1, rfl, rfl, rfl⟩
 refine w_d rfl (d_assign (v := .string str_0) rfl) <| w_done <| w_seq <| w_seq <| w_region rfl <| w_d rfl (d_fld (o' := 1) Tryd.underlying30 rfl sz28 rfl rfl rfl) <| w_d rfl (d_loado (v := v0_a) ty28 rfl .here rfl rfl rfl rfl) <| w_d rfl (d_len Tryd.underlying28 rfl h0_a.src) <| w_d rfl (d_eql rfl rfl) <| w_done ?_
 rcases its he with ⟨c2, he⟩ | ⟨c2, he⟩
 ·
  refine w_then rfl (decide_eq_true c2) <| w_seq <| w_region rfl <| w_d rfl (d_assign (v := .string str_2) rfl) <| w_done ?_
  obtain rfl := Option.some.inj he
  refine w_return fn_50 rs_50 (.tmp (v := .string str_2) rfl .nil) <| ⟨⟨[_], rfl⟩, hle, rfl⟩
 ·
  refine w_else rfl (decide_eq_false c2) <| w_skip <| w_seq <| w_region rfl <| w_d rfl (d_assign (v := .slice none 0 0) rfl) <| w_done <| w_seq <| w_seq <| w_region rfl <| w_d rfl (d_fld (o' := 1) Tryd.underlying30 rfl sz28 rfl rfl rfl) <| w_d rfl (d_loado (v := v0_a) ty28 rfl .here rfl rfl rfl rfl) <| w_d rfl (d_assign (v := v0_a) rfl) ?_
  refine w_done <| w_block <| w_loop <| w_none <| w_sl 1 (.pointer (some ⟨b1, 0, none⟩)) rfl <| w_sl 2 (.string str_0) rfl <| w_sl 3 (.slice none 0 0) rfl <| w_sl 4 (v0_a) rfl <| hh.l0 hle he h0_a (sl_nil _ _ _) h0_a
/-! ### (radome/ratio.Ratio).Text -/
noncomputable def ratio_Ratio_Text.C : Code := (Tryd.f36.body).getD .skip
def ratio_Ratio_Text.out (r : ByteArray) (H : Hp) (v : Value) : Prop := v = .string r
abbrev ratio_Ratio_Text.R (H0 : Hp) (L : Items) (r : ByteArray) : Value → Hp → Items → Prop := fun v H' L' => (∃ p, L' = p ++ L) ∧ H0.le H' ∧ ratio_Ratio_Text.out r H' v
noncomputable def ratio_Ratio_Text.f (k : Nat) (a : ratio_Ratio) : Option ByteArray := (wide_Int_Text.f k (⟨a.f_n.f_neg, a.f_n.f_w⟩ : wide_Int)).bind fun y2 => if (y2.size + str_5.size : Int) ≤ 9223372036854775807 then ((ratio_Ratio_under.f k (⟨(⟨a.f_n.f_neg, a.f_n.f_w⟩ : wide_Int), (⟨a.f_d.f_neg, a.f_d.f_w⟩ : wide_Int)⟩ : ratio_Ratio)).bind fun y7 => (wide_Int_Text.f k (⟨y7.f_neg, y7.f_w⟩ : wide_Int)).bind fun y13 => if ((y2 ++ str_5).size + y13.size : Int) ≤ 9223372036854775807 then (some ((y2 ++ str_5) ++ y13)) else none) else none
theorem ratio_Ratio_Text.mono : ∀ k y0, LeO (ratio_Ratio_Text.f k y0) (ratio_Ratio_Text.f (k + 1) y0) := fun k _ => by unfold ratio_Ratio_Text.f; exact (LeO.bind (wide_Int_Text.mono k _) fun _ => LeO.ite (LeO.bind (ratio_Ratio_under.mono k _) fun _ => LeO.bind (wide_Int_Text.mono k _) fun _ => LeO.ite (LeO.refl _) (LeO.refl _)) (LeO.refl _))
theorem ratio_Ratio_Text.calls (k : Nat) {H : Hp} {L : Items} {a : ratio_Ratio} {v0_a : Value} {v1_a : Value} {r : ByteArray} (he : ratio_Ratio_Text.f k a = some r) (h0_a : Ro (Kd.int .u32) H v0_a a.f_n.f_w) (h1_a : Ro (Kd.int .u32) H v1_a a.f_d.f_w) : Ct Tryd.prog 36 ⟨[.agg ⟨[.bool a.f_n.f_neg, v0_a, .bool a.f_d.f_neg, v1_a]⟩]⟩ H L (fun v H' L' => L = L' ∧ H = H' ∧ v = .string r) := by
 refine ct_outs (O := ratio_Ratio_Text.out r) (fun _ _ h => h) ?_
 have hle : H.le H := .refl _
 unfold ratio_Ratio_Text.f at he
 refine ct_enter (args := [.agg ⟨[.bool a.f_n.f_neg, v0_a, .bool a.f_d.f_neg, v1_a]⟩]) fn_36 rfl nt_36 rfl <| w_seq <| w_region rfl <| w_a rfl (o_box (v := .agg ⟨[.bool a.f_n.f_neg, v0_a, .bool a.f_d.f_neg, v1_a]⟩) rfl rfl) ?_
 rintro _ _ _ ⟨b1, rfl, rfl, rfl⟩
 refine w_d rfl (d_assign (v := .string str_0) rfl) <| w_done <| w_seq ?_
 obtain ⟨y2, hy3, he⟩ := Option.bind_eq_some_iff.1 he
 obtain ⟨c6, he⟩ := rq he
 obtain ⟨y7, hy8, he⟩ := Option.bind_eq_some_iff.1 he
 obtain ⟨y13, hy14, he⟩ := Option.bind_eq_some_iff.1 he
 refine w_drawn (p := 7) (tl := [7, 8]) [[], [(0, some 3)], [(1, some 4)], [(2, some 5)], [], [(4, some 7)], [(5, some 8)]] [some 3, some 4, some 5, some 6, some 7, some 8, some 9] (fctF (.is (.pointer (some ⟨b1, 0, none⟩)) :: .is (.agg ⟨[.bool a.f_n.f_neg, v0_a]⟩) :: .is (.string y2) :: .is (.string (y2 ++ str_5)) :: .is (.agg ⟨[.bool a.f_n.f_neg, v0_a, .bool a.f_d.f_neg, v1_a]⟩) :: .of (ratio_Ratio_under.out y7) (ratio_Ratio_under.out_mono _) :: .is (.string y13) :: [])) (fun m_ => some (b1, .cells ⟨[.bool a.f_n.f_neg, v0_a, .bool a.f_d.f_neg, v1_a]⟩ 64 (0, 0)) :: L) (fun _ => none) mixed (by kernel_rfl) (by kernel_rfl) rfl (fct_mono (by kernel_rfl)) ⟨(fun H' m_ hH hm_ hu_ => depK_nil <| s_d (m_ 0) rfl (d_fld (o' := 0) Tryd.underlying64 rfl sz30 rfl rfl rfl) (by exact rfl) rfl), (by rintro H' m_ hH hm_ hu_ _ rfl; exact depK_nil <| s_d (m_ 1) rfl (d_loado (v := .agg ⟨[.bool a.f_n.f_neg, v0_a]⟩) ty30 rfl .here rfl rfl rfl rfl) (by exact rfl) rfl), (by rintro H' m_ hH hm_ hu_ _ rfl; exact depK_nil <| s_d (m_ 2) rfl (call_d (o_call co50 (vs := [.agg ⟨[.bool a.f_n.f_neg, v0_a]⟩]) rfl (wide_Int_Text.calls k (a := ⟨a.f_n.f_neg, a.f_n.f_w⟩) hy3 (h0_a.mono hH)))) (by exact rfl) rfl), (by rintro H' m_ hH hm_ hu_ _ rfl; exact depK_nil <| s_d (m_ 3) rfl (d_cat rfl rfl c6) (by exact rfl) rfl), (fun H' m_ hH hm_ hu_ => depK_nil <| s_d (m_ 4) rfl (d_loado (v := .agg ⟨[.bool a.f_n.f_neg, v0_a, .bool a.f_d.f_neg, v1_a]⟩) ty64 rfl .here rfl rfl rfl rfl) (by exact rfl) rfl), (by rintro H' m_ hH hm_ hu_ _ rfl; exact depK_nil <| s_k (m_ 5) rfl (o_call co71 (vs := [.agg ⟨[.bool a.f_n.f_neg, v0_a, .bool a.f_d.f_neg, v1_a]⟩]) rfl (ratio_Ratio_under.calls k (a := ⟨⟨a.f_n.f_neg, a.f_n.f_w⟩, ⟨a.f_d.f_neg, a.f_d.f_w⟩⟩) hy8 (h0_a.mono hH) (h1_a.mono hH))) rfl (by rintro v_ H_ _ ⟨rfl, e_, h_⟩; exact ⟨rfl, e_, h_⟩)), (by rintro H' m_ hH hm_ hu_ _ ⟨v11, rfl, h12⟩; exact depK_nil <| s_d (m_ 6) rfl (call_d (o_call co50 (vs := [.agg ⟨[.bool y7.f_neg, v11]⟩]) rfl (wide_Int_Text.calls k (a := ⟨y7.f_neg, y7.f_w⟩) hy14 h12))) (by exact rfl) rfl), trivial⟩ ?_
 intro H17 e18
 rintro _ _ rfl _ _ rfl _ _ rfl _ _ rfl _ _ rfl _ _ ⟨v11, rfl, h12⟩ _ _ rfl
 obtain ⟨c19, he⟩ := rq he
 refine w_d rfl (d_cat rfl rfl c19) <| w_d rfl (d_assign (v := .string ((y2 ++ str_5) ++ y13)) rfl) <| w_done ?_
 obtain rfl := Option.some.inj he
 refine w_return fn_36 rs_36 (.tmp (v := .string ((y2 ++ str_5) ++ y13)) rfl .nil) <| ⟨⟨[_], rfl⟩, hle.trans e18, rfl⟩
/-! ### (radome/wide.Int).Move$1 -/
noncomputable def wide_Int_Move_1.C : Code := (Tryd.f62.body).getD .skip
def wide_Int_Move_1.out (r : Bool) (H : Hp) (v : Value) : Prop := v = .bool r
abbrev wide_Int_Move_1.R (H0 : Hp) (L : Items) (r : Bool) : Value → Hp → Items → Prop := fun v H' L' => (∃ p, L' = p ++ L) ∧ H0.le H' ∧ wide_Int_Move_1.out r H' v
noncomputable def wide_Int_Move_1.f (k : Nat) (x : Int) : Option Bool := some (!decide (x = 0))
theorem wide_Int_Move_1.mono : ∀ k y0, LeO (wide_Int_Move_1.f k y0) (wide_Int_Move_1.f (k + 1) y0) := fun k _ => by unfold wide_Int_Move_1.f; exact (LeO.refl _)
theorem wide_Int_Move_1.calls (k : Nat) {H : Hp} {L : Items} {x : Int} {r : Bool} (he : wide_Int_Move_1.f k x = some r) : Ct Tryd.prog 62 ⟨[.int .u32 x]⟩ H L (fun v H' L' => L = L' ∧ H = H' ∧ v = .bool r) := by
 refine ct_outs (O := wide_Int_Move_1.out r) (fun _ _ h => h) ?_
 have hle : H.le H := .refl _
 unfold wide_Int_Move_1.f at he
 refine ct_enter (args := [.int .u32 x]) fn_62 rfl nt_62 rfl <| w_seq <| w_region rfl <| w_d rfl (d_assign (v := .bool false) rfl) <| w_done <| w_seq <| w_region rfl <| w_d rfl (d_move (v := .int .u32 x) rfl) <| w_d rfl (d_neq rfl rfl) <| w_d rfl (d_assign (v := .bool (!decide (x = 0))) rfl) <| w_done ?_
 obtain rfl := Option.some.inj he
 refine w_return fn_62 rs_62 (.tmp (v := .bool (!decide (x = 0))) rfl .nil) <| ⟨⟨[], rfl⟩, hle, rfl⟩
/-! ### slices.IndexFunc[[]uint32,uint32] -/
noncomputable def slices_IndexFunc_uint32_uint32_wide_Int_Move_1.C : Code := (Tryd.f87.body).getD .skip
def slices_IndexFunc_uint32_uint32_wide_Int_Move_1.out (r : Int) (H : Hp) (v : Value) : Prop := v = .int .i64 r
abbrev slices_IndexFunc_uint32_uint32_wide_Int_Move_1.R (H0 : Hp) (L : Items) (r : Int) : Value → Hp → Items → Prop := fun v H' L' => (∃ p, L' = p ++ L) ∧ H0.le H' ∧ slices_IndexFunc_uint32_uint32_wide_Int_Move_1.out r H' v
structure slices_IndexFunc_uint32_uint32_wide_Int_Move_1.Hs where
 l0 : (List Int) → Int → Int → Int → Option Int
noncomputable def slices_IndexFunc_uint32_uint32_wide_Int_Move_1.b0 (k : Nat) (h : slices_IndexFunc_uint32_uint32_wide_Int_Move_1.Hs)  (s : List Int) (t4 : Int) (t7 : Int) (t8 : Int) : Option Int := if t8 < t7 then (if (0 : Int) ≤ t8 ∧ t8 < (s.length : Int) then ((wide_Int_Move_1.f k (rd s t8)).bind fun y3 => if y3 = true then (some (t8)) else (h.l0 s t4 t7 (w64 (t8 + 1)))) else none) else (some ((-1)))
noncomputable def slices_IndexFunc_uint32_uint32_wide_Int_Move_1.hs : Nat → slices_IndexFunc_uint32_uint32_wide_Int_Move_1.Hs
 | 0 => ⟨fun _ _ _ _ => none⟩
 | k + 1 => ⟨fun x0 x1 x2 x3 => slices_IndexFunc_uint32_uint32_wide_Int_Move_1.b0 k (slices_IndexFunc_uint32_uint32_wide_Int_Move_1.hs k) x0 x1 x2 x3⟩
noncomputable def slices_IndexFunc_uint32_uint32_wide_Int_Move_1.f (k : Nat) (s : List Int) : Option Int := (fun h : slices_IndexFunc_uint32_uint32_wide_Int_Move_1.Hs => h.l0 s 0 (s.length : Int) 0) (slices_IndexFunc_uint32_uint32_wide_Int_Move_1.hs k)
structure slices_IndexFunc_uint32_uint32_wide_Int_Move_1.LE (h h' : slices_IndexFunc_uint32_uint32_wide_Int_Move_1.Hs) : Prop where
 l0 : ∀ y0 y1 y2 y3, LeO (h.l0 y0 y1 y2 y3) (h'.l0 y0 y1 y2 y3)
theorem slices_IndexFunc_uint32_uint32_wide_Int_Move_1.b0_mono {k : Nat} {h h' : slices_IndexFunc_uint32_uint32_wide_Int_Move_1.Hs} (hl : slices_IndexFunc_uint32_uint32_wide_Int_Move_1.LE h h') : ∀ y0 y1 y2 y3, LeO (slices_IndexFunc_uint32_uint32_wide_Int_Move_1.b0 k h y0 y1 y2 y3) (slices_IndexFunc_uint32_uint32_wide_Int_Move_1.b0 (k + 1) h' y0 y1 y2 y3) := fun _ _ _ _ => (LeO.ite (LeO.ite (LeO.bind (wide_Int_Move_1.mono k _) fun _ => LeO.ite (LeO.refl _) (hl.l0 _ _ _ _)) (LeO.refl _)) (LeO.refl _))
theorem slices_IndexFunc_uint32_uint32_wide_Int_Move_1.hs_mono : ∀ k, slices_IndexFunc_uint32_uint32_wide_Int_Move_1.LE (slices_IndexFunc_uint32_uint32_wide_Int_Move_1.hs k) (slices_IndexFunc_uint32_uint32_wide_Int_Move_1.hs (k + 1))
 | 0 => ⟨fun _ _ _ _ => LeO.none _⟩
 | k + 1 => ⟨slices_IndexFunc_uint32_uint32_wide_Int_Move_1.b0_mono (k := k) (slices_IndexFunc_uint32_uint32_wide_Int_Move_1.hs_mono k)⟩
theorem slices_IndexFunc_uint32_uint32_wide_Int_Move_1.mono : ∀ k y0, LeO (slices_IndexFunc_uint32_uint32_wide_Int_Move_1.f k y0) (slices_IndexFunc_uint32_uint32_wide_Int_Move_1.f (k + 1) y0) := fun k _ => have hl := slices_IndexFunc_uint32_uint32_wide_Int_Move_1.hs_mono k; by unfold slices_IndexFunc_uint32_uint32_wide_Int_Move_1.f; exact (hl.l0 _ _ _ _)
noncomputable def slices_IndexFunc_uint32_uint32_wide_Int_Move_1.Kl0 : List Item := .code (lopB (blkB (seqR (seqL (seqR slices_IndexFunc_uint32_uint32_wide_Int_Move_1.C))))) :: .inLoop (lopB (blkB (seqR (seqL (seqR slices_IndexFunc_uint32_uint32_wide_Int_Move_1.C))))) :: .inBlock 0 :: .code (seqR (seqR slices_IndexFunc_uint32_uint32_wide_Int_Move_1.C)) :: []
structure slices_IndexFunc_uint32_uint32_wide_Int_Move_1.OK (h : slices_IndexFunc_uint32_uint32_wide_Int_Move_1.Hs) : Prop where
 l0 : ∀ {H0 H : Hp} {L : Items} {r : Int} {jk_ : Nat → Value} {s : List Int} {t4 : Int} {t7 : Int} {t8 : Int} {v_s : Value} (_ : H0.le H) (_he : h.l0 s t4 t7 t8 = some r) (_h_s : Src (Kd.int .u32) H L v_s s), Wp Tryd.prog 87 19 slices_IndexFunc_uint32_uint32_wide_Int_Move_1.Kl0 (upd (upd (upd (upd (upd jk_ 0 (v_s)) 1 (.func (.func 62) #[] #[])) 4 (.int .i64 t4)) 7 (.int .i64 t7)) 8 (.int .i64 t8)) H (L) (slices_IndexFunc_uint32_uint32_wide_Int_Move_1.R H0 L r)
theorem slices_IndexFunc_uint32_uint32_wide_Int_Move_1.b0_ok {k : Nat} {h : slices_IndexFunc_uint32_uint32_wide_Int_Move_1.Hs} (hh : slices_IndexFunc_uint32_uint32_wide_Int_Move_1.OK h) {H0 H : Hp} {L : Items} {r : Int} {jk_ : Nat → Value} {s : List Int} {t4 : Int} {t7 : Int} {t8 : Int} {v_s : Value} (hle : H0.le H) (he : slices_IndexFunc_uint32_uint32_wide_Int_Move_1.b0 k h s t4 t7 t8 = some r) (h_s : Src (Kd.int .u32) H L v_s s) : Wp Tryd.prog 87 19 slices_IndexFunc_uint32_uint32_wide_Int_Move_1.Kl0 (upd (upd (upd (upd (upd jk_ 0 (v_s)) 1 (.func (.func 62) #[] #[])) 4 (.int .i64 t4)) 7 (.int .i64 t7)) 8 (.int .i64 t8)) H (L) (slices_IndexFunc_uint32_uint32_wide_Int_Move_1.R H0 L r) := by
 unfold slices_IndexFunc_uint32_uint32_wide_Int_Move_1.b0 at he
 unfold slices_IndexFunc_uint32_uint32_wide_Int_Move_1.Kl0
 refine w_seq <| w_region rfl <| w_d rfl (d_lss rfl rfl) <| w_done <| w_seq ?_
 rcases its he with ⟨c1, he⟩ | ⟨c1, he⟩
 ·
  refine w_then rfl (decide_eq_true c1) <| w_skip <| w_seq <| w_block <| w_seq <| w_region rfl <| w_d rfl (d_move (v := .int .i64 t8) rfl) <| w_d rfl (d_assign (v := .int .i64 t8) rfl) <| w_done <| w_seq <| w_region rfl <| w_d rfl (d_move (v := .func (.func 62) #[] #[]) rfl) ?_
  refine w_d rfl (d_move (v := v_s) rfl) <| w_d rfl (d_move (v := .int .i64 t8) rfl) ?_
  obtain ⟨c2, he⟩ := rq he
  refine w_d rfl (d_index (sz := 1) Tryd.underlying28 sz93 rfl h_s rfl c2) <| w_d rfl (d_ldint ty93 rfl h_s c2) ?_
  obtain ⟨y3, hy4, he⟩ := Option.bind_eq_some_iff.1 he
  refine w_d rfl (call_d (o_callv rfl co62 (vs := [.int .u32 (rd s t8)]) rfl (wide_Int_Move_1.calls k hy4))) <| w_done ?_
  rcases its he with ⟨c7, he⟩ | ⟨c7, he⟩
  ·
   refine w_then rfl c7 <| w_seq <| w_region rfl <| w_d rfl (d_move (v := .int .i64 t8) rfl) <| w_d rfl (d_assign (v := .int .i64 t8) rfl) <| w_done ?_
   obtain rfl := Option.some.inj he
   refine w_return fn_87 rs_87 (.tmp (v := .int .i64 t8) rfl .nil) <| ⟨⟨[], rfl⟩, hle, rfl⟩
  ·
   refine w_else rfl (Bool.eq_false_iff.2 c7) <| w_skip <| w_inBlock <| w_region rfl <| w_d rfl (d_add (c := w64 (t8 + 1)) rfl rfl rfl) <| w_d rfl (d_move (v := .int .i64 (w64 (t8 + 1))) rfl) <| w_done <| w_inLoop <| w_sl 0 (v_s) rfl <| w_sl 1 (.func (.func 62) #[] #[]) rfl <| w_sl 4 (.int .i64 t4) rfl <| w_sl 7 (.int .i64 t7) rfl ?_
   refine w_sl 8 (.int .i64 (w64 (t8 + 1))) rfl <| hh.l0 hle he h_s
 ·
  refine w_else rfl (decide_eq_false c1) <| w_exit rfl <| w_seq <| w_region rfl <| w_d rfl (d_assign (v := .int .i64 (-1)) rfl) <| w_done ?_
  obtain rfl := Option.some.inj he
  refine w_return fn_87 rs_87 (.tmp (v := .int .i64 (-1)) rfl .nil) <| ⟨⟨[], rfl⟩, hle, rfl⟩
theorem slices_IndexFunc_uint32_uint32_wide_Int_Move_1.ok : ∀ k, slices_IndexFunc_uint32_uint32_wide_Int_Move_1.OK (slices_IndexFunc_uint32_uint32_wide_Int_Move_1.hs k)
 | 0 => ⟨(by intros; exact nomatch (show none = some _ from by assumption))⟩
 | k + 1 => ⟨slices_IndexFunc_uint32_uint32_wide_Int_Move_1.b0_ok (k := k) (slices_IndexFunc_uint32_uint32_wide_Int_Move_1.ok k)⟩
theorem slices_IndexFunc_uint32_uint32_wide_Int_Move_1.calls (k : Nat) {H : Hp} {L : Items} {s : List Int} {v0_s : Value} {r : Int} (he : slices_IndexFunc_uint32_uint32_wide_Int_Move_1.f k s = some r) (h0_s : Src (Kd.int .u32) H L v0_s s) : Ct Tryd.prog 87 ⟨[v0_s, .func (.func 62) #[] #[]]⟩ H L (fun v H' L' => L = L' ∧ H = H' ∧ v = .int .i64 r) := by
 refine ct_outs (O := slices_IndexFunc_uint32_uint32_wide_Int_Move_1.out r) (fun _ _ h => h) ?_
 have hle : H.le H := .refl _
 have hh := slices_IndexFunc_uint32_uint32_wide_Int_Move_1.ok k
 unfold slices_IndexFunc_uint32_uint32_wide_Int_Move_1.f at he
 refine ct_enter (args := [v0_s, .func (.func 62) #[] #[]]) fn_87 rfl nt_87 rfl <| w_seq <| w_region rfl <| w_d rfl (d_assign (v := .int .i64 0) rfl) <| w_done <| w_seq <| w_seq <| w_region rfl <| w_d rfl (d_move (v := v0_s) rfl) <| w_d rfl (d_len Tryd.underlying28 rfl h0_s) <| w_d rfl (d_move (v := .int .i64 0) rfl) <| w_done ?_
 refine w_block <| w_loop <| w_sl 0 (v0_s) rfl <| w_sl 1 (.func (.func 62) #[] #[]) rfl <| w_sl 4 (.int .i64 0) rfl <| w_sl 7 (.int .i64 (s.length : Int)) rfl <| w_sl 8 (.int .i64 0) rfl <| hh.l0 hle he h0_s
/-! ### slices.ContainsFunc[[]uint32,uint32] -/
noncomputable def slices_ContainsFunc_uint32_uint32_wide_Int_Move_1.C : Code := (Tryd.f61.body).getD .skip
def slices_ContainsFunc_uint32_uint32_wide_Int_Move_1.out (r : Bool) (H : Hp) (v : Value) : Prop := v = .bool r
abbrev slices_ContainsFunc_uint32_uint32_wide_Int_Move_1.R (H0 : Hp) (L : Items) (r : Bool) : Value → Hp → Items → Prop := fun v H' L' => (∃ p, L' = p ++ L) ∧ H0.le H' ∧ slices_ContainsFunc_uint32_uint32_wide_Int_Move_1.out r H' v
noncomputable def slices_ContainsFunc_uint32_uint32_wide_Int_Move_1.f (k : Nat) (s : List Int) : Option Bool := (slices_IndexFunc_uint32_uint32_wide_Int_Move_1.f k s).bind fun y1 => some (decide (0 ≤ y1))
theorem slices_ContainsFunc_uint32_uint32_wide_Int_Move_1.mono : ∀ k y0, LeO (slices_ContainsFunc_uint32_uint32_wide_Int_Move_1.f k y0) (slices_ContainsFunc_uint32_uint32_wide_Int_Move_1.f (k + 1) y0) := fun k _ => by unfold slices_ContainsFunc_uint32_uint32_wide_Int_Move_1.f; exact (LeO.bind (slices_IndexFunc_uint32_uint32_wide_Int_Move_1.mono k _) fun _ => LeO.refl _)
theorem slices_ContainsFunc_uint32_uint32_wide_Int_Move_1.calls (k : Nat) {H : Hp} {L : Items} {s : List Int} {v0_s : Value} {r : Bool} (he : slices_ContainsFunc_uint32_uint32_wide_Int_Move_1.f k s = some r) (h0_s : Src (Kd.int .u32) H L v0_s s) : Ct Tryd.prog 61 ⟨[v0_s, .func (.func 62) #[] #[]]⟩ H L (fun v H' L' => L = L' ∧ H = H' ∧ v = .bool r) := by
 refine ct_outs (O := slices_ContainsFunc_uint32_uint32_wide_Int_Move_1.out r) (fun _ _ h => h) ?_
 have hle : H.le H := .refl _
 unfold slices_ContainsFunc_uint32_uint32_wide_Int_Move_1.f at he
 refine ct_enter (args := [v0_s, .func (.func 62) #[] #[]]) fn_61 rfl nt_61 rfl <| w_seq <| w_region rfl <| w_d rfl (d_assign (v := .bool false) rfl) <| w_done <| w_seq <| w_region rfl <| w_d rfl (d_move (v := v0_s) rfl) <| w_d rfl (d_move (v := .func (.func 62) #[] #[]) rfl) ?_
 obtain ⟨y1, hy2, he⟩ := Option.bind_eq_some_iff.1 he
 refine w_d rfl (call_d (o_call co87 (vs := [v0_s, .func (.func 62) #[] #[]]) rfl (slices_IndexFunc_uint32_uint32_wide_Int_Move_1.calls k hy2 h0_s))) <| w_d rfl (d_geq rfl rfl) <| w_d rfl (d_assign (v := .bool (decide (0 ≤ y1))) rfl) <| w_done ?_
 obtain rfl := Option.some.inj he
 refine w_return fn_61 rs_61 (.tmp (v := .bool (decide (0 ≤ y1))) rfl .nil) <| ⟨⟨[], rfl⟩, hle, rfl⟩
/-! ### (radome/wide.Int).Sub -/
noncomputable def wide_Int_Sub.C : Code := (Tryd.f10.body).getD .skip
def wide_Int_Sub.out (r : wide_Int × (Option Int)) (H : Hp) (v : Value) : Prop := ∃ v0, v = .tuple ⟨[.agg ⟨[.bool r.1.f_neg, v0]⟩, errV 89 r.2]⟩ ∧ Ro (Kd.int .u32) H v0 r.1.f_w
theorem wide_Int_Sub.out_mono (r : wide_Int × (Option Int)) {H H' : Hp} {v : Value} (hle : H.le H') (h : wide_Int_Sub.out r H v) : wide_Int_Sub.out r H' v := by
 obtain ⟨v0, rfl, h0⟩ := h; exact ⟨v0, rfl, h0.mono hle⟩
abbrev wide_Int_Sub.R (H0 : Hp) (L : Items) (r : wide_Int × (Option Int)) : Value → Hp → Items → Prop := fun v H' L' => (∃ p, L' = p ++ L) ∧ H0.le H' ∧ wide_Int_Sub.out r H' v
noncomputable def wide_Int_Sub.f (k : Nat) (a : wide_Int) (b : wide_Int) : Option (wide_Int × (Option Int)) := (wide_Int_Neg.f k (⟨b.f_neg, b.f_w⟩ : wide_Int)).bind fun y4 => (wide_Int_Add.f k (⟨a.f_neg, a.f_w⟩ : wide_Int) (⟨y4.f_neg, y4.f_w⟩ : wide_Int)).bind fun y10 => some ((⟨y10.1.f_neg, y10.1.f_w⟩ : wide_Int), y10.2)
theorem wide_Int_Sub.mono : ∀ k y0 y1, LeO (wide_Int_Sub.f k y0 y1) (wide_Int_Sub.f (k + 1) y0 y1) := fun k _ _ => by unfold wide_Int_Sub.f; exact (LeO.bind (wide_Int_Neg.mono k _) fun _ => LeO.bind (wide_Int_Add.mono k _ _) fun _ => LeO.refl _)
theorem wide_Int_Sub.calls (k : Nat) {H : Hp} {L : Items} {a : wide_Int} {b : wide_Int} {v0_a : Value} {v1_b : Value} {r : wide_Int × (Option Int)} (he : wide_Int_Sub.f k a b = some r) (h0_a : Ro (Kd.int .u32) H v0_a a.f_w) (h1_b : Ro (Kd.int .u32) H v1_b b.f_w) : Ct Tryd.prog 10 ⟨[.agg ⟨[.bool a.f_neg, v0_a]⟩, .agg ⟨[.bool b.f_neg, v1_b]⟩]⟩ H L (fun v H' L' => L = L' ∧ H.le H' ∧ wide_Int_Sub.out r H' v) := by
 refine ct_out (O := wide_Int_Sub.out r) ?_
 have hle : H.le H := .refl _
 unfold wide_Int_Sub.f at he
 refine ct_enter (args := [.agg ⟨[.bool a.f_neg, v0_a]⟩, .agg ⟨[.bool b.f_neg, v1_b]⟩]) fn_10 rfl nt_10 rfl <| w_seq <| w_region rfl <| w_a rfl (o_box (v := .agg ⟨[.bool a.f_neg, v0_a]⟩) rfl rfl) ?_
 rintro _ _ _ ⟨b1, rfl, rfl, rfl⟩
 refine w_a rfl (o_box (v := .agg ⟨[.bool b.f_neg, v1_b]⟩) rfl rfl) ?_
 rintro _ _ _ ⟨b2, rfl, rfl, rfl⟩
 refine w_a rfl (o_alloc zr30 rfl) ?_
 rintro _ _ _ ⟨b3, rfl, rfl, rfl⟩
 refine w_d rfl (d_assign (v := errV 89 none) rfl) <| w_done <| w_seq ?_
 obtain ⟨y4, hy5, he⟩ := Option.bind_eq_some_iff.1 he
 obtain ⟨y10, hy11, he⟩ := Option.bind_eq_some_iff.1 he
 refine w_drawn (p := 6) (tl := [6, 7]) [[], [], [(1, some 7)], [(0, some 6), (2, some 8)], [(3, some 9)], [(3, some 9)]] [some 6, some 7, some 8, some 9, some 10, some 11] (fctF (.is (.agg ⟨[.bool a.f_neg, v0_a]⟩) :: .is (.agg ⟨[.bool b.f_neg, v1_b]⟩) :: .of (wide_Int_Neg.out y4) (wide_Int_Neg.out_mono _) :: .of (wide_Int_Add.out y10) (wide_Int_Add.out_mono _) :: .of (fun H v => ∃ v16, v = .agg ⟨[.bool y10.1.f_neg, v16]⟩ ∧ Ro (Kd.int .u32) H v16 y10.1.f_w) (by rintro _ _ _ hle ⟨v16, rfl, h17⟩; exact ⟨v16, rfl, h17.mono hle⟩) :: .is (errV 89 y10.2) :: [])) (fun m_ => some (b3, .cells ⟨[.bool false, .slice none 0 0]⟩ 30 (0, 0)) :: some (b2, .cells ⟨[.bool b.f_neg, v1_b]⟩ 30 (0, 0)) :: some (b1, .cells ⟨[.bool a.f_neg, v0_a]⟩ 30 (0, 0)) :: L) (fun _ => none) mixed (by kernel_rfl) (by kernel_rfl) rfl (fct_mono (by kernel_rfl)) ⟨(fun H' m_ hH hm_ hu_ => depK_nil <| s_d (m_ 0) rfl (d_loado (v := .agg ⟨[.bool a.f_neg, v0_a]⟩) ty30 rfl (.there (.there .here)) rfl rfl rfl rfl) (by exact rfl) rfl), (fun H' m_ hH hm_ hu_ => depK_nil <| s_d (m_ 1) rfl (d_loado (v := .agg ⟨[.bool b.f_neg, v1_b]⟩) ty30 rfl (.there .here) rfl rfl rfl rfl) (by exact rfl) rfl), (by rintro H' m_ hH hm_ hu_ _ rfl; exact depK_nil <| s_k (m_ 2) rfl (o_call co20 (vs := [.agg ⟨[.bool b.f_neg, v1_b]⟩]) rfl (wide_Int_Neg.calls k (a := ⟨b.f_neg, b.f_w⟩) hy5 (h1_b.mono hH))) rfl (by rintro v_ H_ _ ⟨rfl, e_, h_⟩; exact ⟨rfl, e_, h_⟩)), (by rintro H' m_ hH hm_ hu_ _ rfl _ ⟨v8, rfl, h9⟩; exact depK_nil <| s_k (m_ 3) rfl (o_call co9 (vs := [.agg ⟨[.bool a.f_neg, v0_a]⟩, .agg ⟨[.bool y4.f_neg, v8]⟩]) rfl (wide_Int_Add.calls k (a := ⟨a.f_neg, a.f_w⟩) (b := ⟨y4.f_neg, y4.f_w⟩) hy11 (h0_a.mono hH) h9)) rfl (by rintro v_ H_ _ ⟨rfl, e_, h_⟩; exact ⟨rfl, e_, h_⟩)), (by rintro H' m_ hH hm_ hu_ _ ⟨v14, rfl, h15⟩; exact depK_nil <| s_d (m_ 4) rfl (d_ext (vs := [.agg ⟨[.bool y10.1.f_neg, v14]⟩, errV 89 y10.2]) rfl rfl) (by exact ⟨v14, rfl, h15⟩) rfl), (by rintro H' m_ hH hm_ hu_ _ ⟨v14, rfl, h15⟩; exact depK_nil <| s_d (m_ 5) rfl (d_ext (vs := [.agg ⟨[.bool y10.1.f_neg, v14]⟩, errV 89 y10.2]) rfl rfl) (by exact rfl) rfl), trivial⟩ ?_
 intro H18 e19
 rintro _ _ rfl _ _ rfl _ _ ⟨v8, rfl, h9⟩ _ _ ⟨v14, rfl, h15⟩ _ _ ⟨v16, rfl, h17⟩ _ _ rfl
 refine w_a0 rfl (o_store (v := .agg ⟨[.bool y10.1.f_neg, v16]⟩) sz30 rfl rfl rfl rfl (one_cons rfl (one_cons (h17.one) one_nil)) .here (.here (.here .done))) ?_
 rintro _ _ _ ⟨rfl, rfl, rfl⟩
 refine w_d rfl (d_assign (v := errV 89 y10.2) rfl) <| w_done ?_
 obtain rfl := Option.some.inj he
 refine w_return fn_10 rs_10 (.box (v := .agg ⟨[.bool y10.1.f_neg, v16]⟩) rfl ty30 rfl rfl .here rfl (.tmp (v := errV 89 y10.2) rfl .nil)) <| ⟨⟨[_, _, _], rfl⟩, hle.trans e19, ⟨v16, rfl, h17⟩⟩
end Go.Proofs.YtmnhbbckndlnkaaDoor.GRL

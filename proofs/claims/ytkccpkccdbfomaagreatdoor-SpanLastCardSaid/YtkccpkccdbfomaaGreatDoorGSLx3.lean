/- A text of this session, written by a program (wip/k/gen.py): Go functions as Lean functions, and proofs that the code comes to them. -/
import Derived.Test.YtkccpkccdbfomaaGreatDoorGSLx2
namespace Go.Proofs.YtkccpkccdbfomaaGreatDoor.GSL
open Go Go.RowKit Go.Proofs.YtkccpkccdbfomaaGreatDoorK Go.Proofs.YtkccpkccdbfomaaGreatDoor
set_option maxRecDepth 100000
set_option maxHeartbeats 2000000
set_option linter.unusedVariables false
set_option linter.unusedSimpArgs false
/-! ### (radome/ratio.Ratio).Add -/
noncomputable def ratio_Ratio_Add.C : Code := (Tryz.f23.body).getD .skip
def ratio_Ratio_Add.out (r : ratio_Ratio × (Option Int)) (H : Hp) (v : Value) : Prop := ∃ v0, ∃ v1, v = .tuple ⟨[.agg ⟨[.bool r.1.f_n.f_neg, v0, .bool r.1.f_d.f_neg, v1]⟩, errV 104 r.2]⟩ ∧ Ro (Kd.int .u32) H v0 r.1.f_n.f_w ∧ Ro (Kd.int .u32) H v1 r.1.f_d.f_w
theorem ratio_Ratio_Add.out_mono (r : ratio_Ratio × (Option Int)) {H H' : Hp} {v : Value} (hle : H.le H') (h : ratio_Ratio_Add.out r H v) : ratio_Ratio_Add.out r H' v := by
 obtain ⟨v0, v1, rfl, h0, h1⟩ := h; exact ⟨v0, v1, rfl, h0.mono hle, h1.mono hle⟩
abbrev ratio_Ratio_Add.R (H0 : Hp) (L : Items) (r : ratio_Ratio × (Option Int)) : Value → Hp → Items → Prop := fun v H' L' => (∃ p, L' = p ++ L) ∧ H0.le H' ∧ ratio_Ratio_Add.out r H' v
noncomputable def ratio_Ratio_Add.f (k : Nat) (a : ratio_Ratio) (b : ratio_Ratio) : Option (ratio_Ratio × (Option Int)) := (ratio_Ratio_joined.f k a b false).bind fun y4 => some (y4.1, y4.2)
theorem ratio_Ratio_Add.mono : ∀ k y0 y1, LeO (ratio_Ratio_Add.f k y0 y1) (ratio_Ratio_Add.f (k + 1) y0 y1) := fun k _ _ => by unfold ratio_Ratio_Add.f; exact (LeO.bind (ratio_Ratio_joined.mono k _ _ _) fun _ => LeO.refl _)
theorem ratio_Ratio_Add.calls (k : Nat) {H : Hp} {L : Items} {a : ratio_Ratio} {b : ratio_Ratio} {v0_a : Value} {v1_a : Value} {v2_b : Value} {v3_b : Value} {r : ratio_Ratio × (Option Int)} (he : ratio_Ratio_Add.f k a b = some r) (h0_a : Ro (Kd.int .u32) H v0_a a.f_n.f_w) (h1_a : Ro (Kd.int .u32) H v1_a a.f_d.f_w) (h2_b : Ro (Kd.int .u32) H v2_b b.f_n.f_w) (h3_b : Ro (Kd.int .u32) H v3_b b.f_d.f_w) : Ct Tryz.prog 23 ⟨[.agg ⟨[.bool a.f_n.f_neg, v0_a, .bool a.f_d.f_neg, v1_a]⟩, .agg ⟨[.bool b.f_n.f_neg, v2_b, .bool b.f_d.f_neg, v3_b]⟩]⟩ H L (fun v H' L' => L = L' ∧ H.le H' ∧ ratio_Ratio_Add.out r H' v) := by
 refine ct_out (O := ratio_Ratio_Add.out r) ?_
 have hle : H.le H := .refl _
 unfold ratio_Ratio_Add.f at he
 refine ct_enter (args := [.agg ⟨[.bool a.f_n.f_neg, v0_a, .bool a.f_d.f_neg, v1_a]⟩, .agg ⟨[.bool b.f_n.f_neg, v2_b, .bool b.f_d.f_neg, v3_b]⟩]) fn_23 rfl nt_23 rfl <| w_seq <| w_region rfl <| w_a rfl (o_box (v := .agg ⟨[.bool a.f_n.f_neg, v0_a, .bool a.f_d.f_neg, v1_a]⟩) rfl rfl) ?_
 rintro _ _ _ ⟨b1, rfl, rfl, rfl⟩
 refine w_a rfl (o_box (v := .agg ⟨[.bool b.f_n.f_neg, v2_b, .bool b.f_d.f_neg, v3_b]⟩) rfl rfl) ?_
 rintro _ _ _ ⟨b2, rfl, rfl, rfl⟩
 refine w_a rfl (o_alloc zr26 rfl) ?_
 rintro _ _ _ ⟨b3, rfl, rfl, rfl⟩
 refine w_d rfl (d_assign (v := errV 104 none) rfl) <| w_done <| w_seq <| w_region rfl <| w_d rfl (d_loado (v := .agg ⟨[.bool a.f_n.f_neg, v0_a, .bool a.f_d.f_neg, v1_a]⟩) ty26 rfl (.there (.there .here)) rfl rfl rfl rfl) <| w_d rfl (d_loado (v := .agg ⟨[.bool b.f_n.f_neg, v2_b, .bool b.f_d.f_neg, v3_b]⟩) ty26 rfl (.there .here) rfl rfl rfl rfl) ?_
 obtain ⟨y4, hy5, he⟩ := Option.bind_eq_some_iff.1 he
 refine w_a rfl (o_call co76 (vs := [.agg ⟨[.bool a.f_n.f_neg, v0_a, .bool a.f_d.f_neg, v1_a]⟩, .agg ⟨[.bool b.f_n.f_neg, v2_b, .bool b.f_d.f_neg, v3_b]⟩, .bool false]) rfl (ratio_Ratio_joined.calls k (a := a) (b := b) hy5 h0_a h1_a h2_b h3_b)) ?_
 rintro _ H6 _ ⟨rfl, e7, ⟨v8, v10, rfl, h9, h11⟩⟩
 refine w_d rfl (d_ext (vs := [.agg ⟨[.bool y4.1.f_n.f_neg, v8, .bool y4.1.f_d.f_neg, v10]⟩, errV 104 y4.2]) rfl rfl) <| w_d rfl (d_ext (vs := [.agg ⟨[.bool y4.1.f_n.f_neg, v8, .bool y4.1.f_d.f_neg, v10]⟩, errV 104 y4.2]) rfl rfl) <| w_a0 rfl (o_store (v := .agg ⟨[.bool y4.1.f_n.f_neg, v8, .bool y4.1.f_d.f_neg, v10]⟩) sz26 rfl rfl rfl rfl (one_cons rfl (one_cons (h9.one) (one_cons rfl (one_cons (h11.one) one_nil)))) .here (.here (.here (.here (.here .done))))) ?_
 rintro _ _ _ ⟨rfl, rfl, rfl⟩
 refine w_d rfl (d_assign (v := errV 104 y4.2) rfl) <| w_done ?_
 obtain rfl := Option.some.inj he
 refine w_return fn_23 rs_23 (.box (v := .agg ⟨[.bool y4.1.f_n.f_neg, v8, .bool y4.1.f_d.f_neg, v10]⟩) rfl ty26 rfl rfl .here rfl (.tmp (v := errV 104 y4.2) rfl .nil)) <| ⟨⟨[_, _, _], rfl⟩, hle.trans e7, ⟨v8, v10, rfl, h9, h11⟩⟩
/-! ### radome/interval.Last -/
noncomputable def interval_Last.C : Code := (Tryz.f9.body).getD .skip
def interval_Last.out (r : interval_Span × (Option Int)) (H : Hp) (v : Value) : Prop := ∃ v0, ∃ v1, ∃ v2, ∃ v3, v = .tuple ⟨[.agg ⟨[.bool r.1.f_Low.f_n.f_neg, v0, .bool r.1.f_Low.f_d.f_neg, v1, .bool r.1.f_High.f_n.f_neg, v2, .bool r.1.f_High.f_d.f_neg, v3]⟩, errV 104 r.2]⟩ ∧ Ro (Kd.int .u32) H v0 r.1.f_Low.f_n.f_w ∧ Ro (Kd.int .u32) H v1 r.1.f_Low.f_d.f_w ∧ Ro (Kd.int .u32) H v2 r.1.f_High.f_n.f_w ∧ Ro (Kd.int .u32) H v3 r.1.f_High.f_d.f_w
theorem interval_Last.out_mono (r : interval_Span × (Option Int)) {H H' : Hp} {v : Value} (hle : H.le H') (h : interval_Last.out r H v) : interval_Last.out r H' v := by
 obtain ⟨v0, v1, v2, v3, rfl, h0, h1, h2, h3⟩ := h; exact ⟨v0, v1, v2, v3, rfl, h0.mono hle, h1.mono hle, h2.mono hle, h3.mono hle⟩
abbrev interval_Last.R (H0 : Hp) (L : Items) (r : interval_Span × (Option Int)) : Value → Hp → Items → Prop := fun v H' L' => (∃ p, L' = p ++ L) ∧ H0.le H' ∧ interval_Last.out r H' v
noncomputable def interval_Last.f (k : Nat) (n : Int) (bits : Int) : Option (interval_Span × (Option Int)) := if ((decide (bits < 0)) || (decide (62 < bits))) = true then (some ((⟨(⟨(⟨false, []⟩ : wide_Int), (⟨false, []⟩ : wide_Int)⟩ : ratio_Ratio), (⟨(⟨false, []⟩ : wide_Int), (⟨false, []⟩ : wide_Int)⟩ : ratio_Ratio)⟩ : interval_Span), some 1)) else ((ratio_Bits.f k n bits).bind fun y5 => if y5.2.isSome = true then (some ((⟨(⟨(⟨false, []⟩ : wide_Int), (⟨false, []⟩ : wide_Int)⟩ : ratio_Ratio), (⟨(⟨false, []⟩ : wide_Int), (⟨false, []⟩ : wide_Int)⟩ : ratio_Ratio)⟩ : interval_Span), y5.2)) else ((ratio_Bits.f k 1 (w64 (bits + 1))).bind fun y15 => if y15.2.isSome = true then (some ((⟨(⟨(⟨false, []⟩ : wide_Int), (⟨false, []⟩ : wide_Int)⟩ : ratio_Ratio), (⟨(⟨false, []⟩ : wide_Int), (⟨false, []⟩ : wide_Int)⟩ : ratio_Ratio)⟩ : interval_Span), y15.2)) else ((ratio_Ratio_Sub.f k y5.1 y15.1).bind fun y25 => if y25.2.isSome = true then (some ((⟨(⟨(⟨false, []⟩ : wide_Int), (⟨false, []⟩ : wide_Int)⟩ : ratio_Ratio), (⟨(⟨false, []⟩ : wide_Int), (⟨false, []⟩ : wide_Int)⟩ : ratio_Ratio)⟩ : interval_Span), y25.2)) else ((ratio_Ratio_Add.f k y5.1 y15.1).bind fun y35 => some ((⟨y25.1, y35.1⟩ : interval_Span), y35.2)))))
theorem interval_Last.mono : ∀ k y0 y1, LeO (interval_Last.f k y0 y1) (interval_Last.f (k + 1) y0 y1) := fun k _ _ => by unfold interval_Last.f; exact (LeO.ite (LeO.refl _) (LeO.bind (ratio_Bits.mono k _ _) fun _ => LeO.ite (LeO.refl _) (LeO.bind (ratio_Bits.mono k _ _) fun _ => LeO.ite (LeO.refl _) (LeO.bind (ratio_Ratio_Sub.mono k _ _) fun _ => LeO.ite (LeO.refl _) (LeO.bind (ratio_Ratio_Add.mono k _ _) fun _ => LeO.refl _)))))
theorem interval_Last.calls (k : Nat) {H : Hp} {L : Items} {n : Int} {bits : Int} {r : interval_Span × (Option Int)} (he : interval_Last.f k n bits = some r) : Ct Tryz.prog 9 ⟨[.int .i64 n, .int .i64 bits]⟩ H L (fun v H' L' => L = L' ∧ H.le H' ∧ interval_Last.out r H' v) := by
 refine ct_out (O := interval_Last.out r) ?_
 have hle : H.le H := .refl _
 unfold interval_Last.f at he
 refine ct_enter (args := [.int .i64 n, .int .i64 bits]) fn_9 rfl nt_9 rfl <| w_seq <| w_region rfl <| w_a rfl (o_alloc zr28 rfl) ?_
 rintro _ _ _ ⟨b1, rfl, rfl, rfl⟩
 refine w_d rfl (d_assign (v := errV 104 none) rfl) <| w_done <| w_seq <| w_seq <| w_region rfl <| w_d rfl (d_move (v := .int .i64 bits) rfl) <| w_d rfl (d_lss rfl rfl) <| w_d rfl (d_move (v := .bool (decide (bits < 0))) rfl) <| w_g (g := !(decide (bits < 0))) rfl rfl rfl wn_f (fun g2 => d_move (v := .int .i64 bits) rfl) <| w_g (g := !(decide (bits < 0))) rfl rfl rfl wn_f (fun g3 => d_gtr (cvt g3) rfl) <| w_d rfl (d_or' (b := (decide (bits < 0))) (p := (decide (62 < bits))) rfl rfl rfl) <| w_done ?_
 rcases its he with ⟨c4, he⟩ | ⟨c4, he⟩
 ·
  refine w_then rfl c4 <| w_seq <| w_region rfl <| w_d rfl (d_build (cs' := [.bool false, .slice none 0 0, .bool false, .slice none 0 0, .bool false, .slice none 0 0, .bool false, .slice none 0 0]) Tryz.underlying28 zr28 rfl (by kernel_rfl) (parts := []) rfl .nil) <| w_d rfl (d_iface (v := .int .i64 1) Tryz.underlying104 rfl rfl) <| w_a0 rfl (o_store (v := .agg ⟨[.bool false, .slice none 0 0, .bool false, .slice none 0 0, .bool false, .slice none 0 0, .bool false, .slice none 0 0]⟩) sz28 rfl rfl rfl rfl (one_cons rfl (one_cons rfl (one_cons rfl (one_cons rfl (one_cons rfl (one_cons rfl (one_cons rfl (one_cons rfl one_nil)))))))) .here (.here (.here (.here (.here (.here (.here (.here (.here .done))))))))) ?_
  rintro _ _ _ ⟨rfl, rfl, rfl⟩
  refine w_d rfl (d_assign (v := errV 104 (some 1)) rfl) <| w_done ?_
  obtain rfl := Option.some.inj he
  refine w_return fn_9 rs_9 (.box (v := .agg ⟨[.bool false, .slice none 0 0, .bool false, .slice none 0 0, .bool false, .slice none 0 0, .bool false, .slice none 0 0]⟩) rfl ty28 rfl rfl .here rfl (.tmp (v := errV 104 (some 1)) rfl .nil)) <| ⟨⟨[_], rfl⟩, hle, ⟨.slice none 0 0, .slice none 0 0, .slice none 0 0, .slice none 0 0, rfl, (ro_nil _ _), (ro_nil _ _), (ro_nil _ _), (ro_nil _ _)⟩⟩
 ·
  refine w_else rfl (Bool.eq_false_iff.2 c4) <| w_skip <| w_seq <| w_region rfl <| w_d rfl (d_move (v := .int .i64 n) rfl) <| w_d rfl (d_move (v := .int .i64 bits) rfl) ?_
  obtain ⟨y5, hy6, he⟩ := Option.bind_eq_some_iff.1 he
  refine w_a rfl (o_call co18 (vs := [.int .i64 n, .int .i64 bits]) rfl (ratio_Bits.calls k hy6)) ?_
  rintro _ H7 _ ⟨rfl, e8, ⟨v9, v11, rfl, h10, h12⟩⟩
  refine w_d rfl (d_move (v := .tuple ⟨[.agg ⟨[.bool y5.1.f_n.f_neg, v9, .bool y5.1.f_d.f_neg, v11]⟩, errV 104 y5.2]⟩) rfl) <| w_d rfl (d_ext (vs := [.agg ⟨[.bool y5.1.f_n.f_neg, v9, .bool y5.1.f_d.f_neg, v11]⟩, errV 104 y5.2]) rfl rfl) <| w_d rfl (d_ext (vs := [.agg ⟨[.bool y5.1.f_n.f_neg, v9, .bool y5.1.f_d.f_neg, v11]⟩, errV 104 y5.2]) rfl rfl) <| w_a rfl (o_alloc zr26 rfl) ?_
  rintro _ _ _ ⟨b13, rfl, rfl, rfl⟩
  refine w_a0 rfl (o_store (v := .agg ⟨[.bool y5.1.f_n.f_neg, v9, .bool y5.1.f_d.f_neg, v11]⟩) sz26 rfl rfl rfl rfl (one_cons rfl (one_cons (h10.one) (one_cons rfl (one_cons (h12.one) one_nil)))) .here (.here (.here (.here (.here .done))))) ?_
  rintro _ _ _ ⟨rfl, rfl, rfl⟩
  refine w_d rfl (d_assign (v := errV 104 y5.2) rfl) <| w_done <| w_seq <| w_seq <| w_region rfl <| w_d rfl (d_move (v := errV 104 y5.2) rfl) <| w_d rfl (d_nenil (e := y5.2) Tryz.underlying30 rfl) <| w_done ?_
  rcases its he with ⟨c14, he⟩ | ⟨c14, he⟩
  ·
   refine w_then rfl c14 <| w_seq <| w_region rfl <| w_d rfl (d_build (cs' := [.bool false, .slice none 0 0, .bool false, .slice none 0 0, .bool false, .slice none 0 0, .bool false, .slice none 0 0]) Tryz.underlying28 zr28 rfl (by kernel_rfl) (parts := []) rfl .nil) <| w_d rfl (d_move (v := errV 104 y5.2) rfl) <| w_a0 rfl (o_store (v := .agg ⟨[.bool false, .slice none 0 0, .bool false, .slice none 0 0, .bool false, .slice none 0 0, .bool false, .slice none 0 0]⟩) sz28 rfl rfl rfl rfl (one_cons rfl (one_cons rfl (one_cons rfl (one_cons rfl (one_cons rfl (one_cons rfl (one_cons rfl (one_cons rfl one_nil)))))))) (.there .here) (.here (.here (.here (.here (.here (.here (.here (.here .done))))))))) ?_
   rintro _ _ _ ⟨rfl, rfl, rfl⟩
   refine w_d rfl (d_assign (v := errV 104 y5.2) rfl) <| w_done ?_
   obtain rfl := Option.some.inj he
   refine w_return fn_9 rs_9 (.box (v := .agg ⟨[.bool false, .slice none 0 0, .bool false, .slice none 0 0, .bool false, .slice none 0 0, .bool false, .slice none 0 0]⟩) rfl ty28 rfl rfl (.there .here) rfl (.tmp (v := errV 104 y5.2) rfl .nil)) <| ⟨⟨[_, _], rfl⟩, hle.trans e8, ⟨.slice none 0 0, .slice none 0 0, .slice none 0 0, .slice none 0 0, rfl, (ro_nil _ _), (ro_nil _ _), (ro_nil _ _), (ro_nil _ _)⟩⟩
  ·
   refine w_else rfl (Bool.eq_false_iff.2 c14) <| w_skip <| w_seq <| w_region rfl <| w_d rfl (d_move (v := .int .i64 bits) rfl) <| w_d rfl (d_add (c := w64 (bits + 1)) rfl rfl rfl) ?_
   obtain ⟨y15, hy16, he⟩ := Option.bind_eq_some_iff.1 he
   refine w_a rfl (o_call co18 (vs := [.int .i64 1, .int .i64 (w64 (bits + 1))]) rfl (ratio_Bits.calls k hy16)) ?_
   rintro _ H17 _ ⟨rfl, e18, ⟨v19, v21, rfl, h20, h22⟩⟩
   refine w_d rfl (d_move (v := .tuple ⟨[.agg ⟨[.bool y15.1.f_n.f_neg, v19, .bool y15.1.f_d.f_neg, v21]⟩, errV 104 y15.2]⟩) rfl) <| w_d rfl (d_ext (vs := [.agg ⟨[.bool y15.1.f_n.f_neg, v19, .bool y15.1.f_d.f_neg, v21]⟩, errV 104 y15.2]) rfl rfl) <| w_d rfl (d_ext (vs := [.agg ⟨[.bool y15.1.f_n.f_neg, v19, .bool y15.1.f_d.f_neg, v21]⟩, errV 104 y15.2]) rfl rfl) <| w_a rfl (o_alloc zr26 rfl) ?_
   rintro _ _ _ ⟨b23, rfl, rfl, rfl⟩
   refine w_a0 rfl (o_store (v := .agg ⟨[.bool y15.1.f_n.f_neg, v19, .bool y15.1.f_d.f_neg, v21]⟩) sz26 rfl rfl rfl rfl (one_cons rfl (one_cons (h20.one) (one_cons rfl (one_cons (h22.one) one_nil)))) .here (.here (.here (.here (.here .done))))) ?_
   rintro _ _ _ ⟨rfl, rfl, rfl⟩
   refine w_d rfl (d_assign (v := errV 104 y15.2) rfl) <| w_done <| w_seq <| w_seq <| w_region rfl <| w_d rfl (d_move (v := errV 104 y15.2) rfl) <| w_d rfl (d_nenil (e := y15.2) Tryz.underlying30 rfl) <| w_done ?_
   rcases its he with ⟨c24, he⟩ | ⟨c24, he⟩
   ·
    refine w_then rfl c24 <| w_seq <| w_region rfl <| w_d rfl (d_build (cs' := [.bool false, .slice none 0 0, .bool false, .slice none 0 0, .bool false, .slice none 0 0, .bool false, .slice none 0 0]) Tryz.underlying28 zr28 rfl (by kernel_rfl) (parts := []) rfl .nil) <| w_d rfl (d_move (v := errV 104 y15.2) rfl) <| w_a0 rfl (o_store (v := .agg ⟨[.bool false, .slice none 0 0, .bool false, .slice none 0 0, .bool false, .slice none 0 0, .bool false, .slice none 0 0]⟩) sz28 rfl rfl rfl rfl (one_cons rfl (one_cons rfl (one_cons rfl (one_cons rfl (one_cons rfl (one_cons rfl (one_cons rfl (one_cons rfl one_nil)))))))) (.there (.there .here)) (.here (.here (.here (.here (.here (.here (.here (.here .done))))))))) ?_
    rintro _ _ _ ⟨rfl, rfl, rfl⟩
    refine w_d rfl (d_assign (v := errV 104 y15.2) rfl) <| w_done ?_
    obtain rfl := Option.some.inj he
    refine w_return fn_9 rs_9 (.box (v := .agg ⟨[.bool false, .slice none 0 0, .bool false, .slice none 0 0, .bool false, .slice none 0 0, .bool false, .slice none 0 0]⟩) rfl ty28 rfl rfl (.there (.there .here)) rfl (.tmp (v := errV 104 y15.2) rfl .nil)) <| ⟨⟨[_, _, _], rfl⟩, hle.trans (e8.trans e18), ⟨.slice none 0 0, .slice none 0 0, .slice none 0 0, .slice none 0 0, rfl, (ro_nil _ _), (ro_nil _ _), (ro_nil _ _), (ro_nil _ _)⟩⟩
   ·
    refine w_else rfl (Bool.eq_false_iff.2 c24) <| w_skip <| w_seq <| w_region rfl <| w_d rfl (d_loado (v := .agg ⟨[.bool y5.1.f_n.f_neg, v9, .bool y5.1.f_d.f_neg, v11]⟩) ty26 rfl (.there .here) rfl rfl rfl rfl) <| w_d rfl (d_loado (v := .agg ⟨[.bool y15.1.f_n.f_neg, v19, .bool y15.1.f_d.f_neg, v21]⟩) ty26 rfl .here rfl rfl rfl rfl) ?_
    obtain ⟨y25, hy26, he⟩ := Option.bind_eq_some_iff.1 he
    refine w_a rfl (o_call co60 (vs := [.agg ⟨[.bool y5.1.f_n.f_neg, v9, .bool y5.1.f_d.f_neg, v11]⟩, .agg ⟨[.bool y15.1.f_n.f_neg, v19, .bool y15.1.f_d.f_neg, v21]⟩]) rfl (ratio_Ratio_Sub.calls k (a := y5.1) (b := y15.1) hy26 (h10.mono e18) (h12.mono e18) h20 h22)) ?_
    rintro _ H27 _ ⟨rfl, e28, ⟨v29, v31, rfl, h30, h32⟩⟩
    refine w_d rfl (d_move (v := .tuple ⟨[.agg ⟨[.bool y25.1.f_n.f_neg, v29, .bool y25.1.f_d.f_neg, v31]⟩, errV 104 y25.2]⟩) rfl) <| w_d rfl (d_ext (vs := [.agg ⟨[.bool y25.1.f_n.f_neg, v29, .bool y25.1.f_d.f_neg, v31]⟩, errV 104 y25.2]) rfl rfl) <| w_d rfl (d_ext (vs := [.agg ⟨[.bool y25.1.f_n.f_neg, v29, .bool y25.1.f_d.f_neg, v31]⟩, errV 104 y25.2]) rfl rfl) <| w_a rfl (o_alloc zr26 rfl) ?_
    rintro _ _ _ ⟨b33, rfl, rfl, rfl⟩
    refine w_a0 rfl (o_store (v := .agg ⟨[.bool y25.1.f_n.f_neg, v29, .bool y25.1.f_d.f_neg, v31]⟩) sz26 rfl rfl rfl rfl (one_cons rfl (one_cons (h30.one) (one_cons rfl (one_cons (h32.one) one_nil)))) .here (.here (.here (.here (.here .done))))) ?_
    rintro _ _ _ ⟨rfl, rfl, rfl⟩
    refine w_d rfl (d_assign (v := errV 104 y25.2) rfl) <| w_done <| w_seq <| w_seq <| w_region rfl <| w_d rfl (d_move (v := errV 104 y25.2) rfl) <| w_d rfl (d_nenil (e := y25.2) Tryz.underlying30 rfl) <| w_done ?_
    rcases its he with ⟨c34, he⟩ | ⟨c34, he⟩
    ·
     refine w_then rfl c34 <| w_seq <| w_region rfl <| w_d rfl (d_build (cs' := [.bool false, .slice none 0 0, .bool false, .slice none 0 0, .bool false, .slice none 0 0, .bool false, .slice none 0 0]) Tryz.underlying28 zr28 rfl (by kernel_rfl) (parts := []) rfl .nil) <| w_d rfl (d_move (v := errV 104 y25.2) rfl) <| w_a0 rfl (o_store (v := .agg ⟨[.bool false, .slice none 0 0, .bool false, .slice none 0 0, .bool false, .slice none 0 0, .bool false, .slice none 0 0]⟩) sz28 rfl rfl rfl rfl (one_cons rfl (one_cons rfl (one_cons rfl (one_cons rfl (one_cons rfl (one_cons rfl (one_cons rfl (one_cons rfl one_nil)))))))) (.there (.there (.there .here))) (.here (.here (.here (.here (.here (.here (.here (.here .done))))))))) ?_
     rintro _ _ _ ⟨rfl, rfl, rfl⟩
     refine w_d rfl (d_assign (v := errV 104 y25.2) rfl) <| w_done ?_
     obtain rfl := Option.some.inj he
     refine w_return fn_9 rs_9 (.box (v := .agg ⟨[.bool false, .slice none 0 0, .bool false, .slice none 0 0, .bool false, .slice none 0 0, .bool false, .slice none 0 0]⟩) rfl ty28 rfl rfl (.there (.there (.there .here))) rfl (.tmp (v := errV 104 y25.2) rfl .nil)) <| ⟨⟨[_, _, _, _], rfl⟩, hle.trans ((e8.trans e18).trans e28), ⟨.slice none 0 0, .slice none 0 0, .slice none 0 0, .slice none 0 0, rfl, (ro_nil _ _), (ro_nil _ _), (ro_nil _ _), (ro_nil _ _)⟩⟩
    ·
     refine w_else rfl (Bool.eq_false_iff.2 c34) <| w_skip <| w_seq <| w_region rfl <| w_d rfl (d_loado (v := .agg ⟨[.bool y5.1.f_n.f_neg, v9, .bool y5.1.f_d.f_neg, v11]⟩) ty26 rfl (.there (.there .here)) rfl rfl rfl rfl) <| w_d rfl (d_loado (v := .agg ⟨[.bool y15.1.f_n.f_neg, v19, .bool y15.1.f_d.f_neg, v21]⟩) ty26 rfl (.there .here) rfl rfl rfl rfl) ?_
     obtain ⟨y35, hy36, he⟩ := Option.bind_eq_some_iff.1 he
     refine w_a rfl (o_call co23 (vs := [.agg ⟨[.bool y5.1.f_n.f_neg, v9, .bool y5.1.f_d.f_neg, v11]⟩, .agg ⟨[.bool y15.1.f_n.f_neg, v19, .bool y15.1.f_d.f_neg, v21]⟩]) rfl (ratio_Ratio_Add.calls k (a := y5.1) (b := y15.1) hy36 (h10.mono (e18.trans e28)) (h12.mono (e18.trans e28)) (h20.mono e28) (h22.mono e28))) ?_
     rintro _ H37 _ ⟨rfl, e38, ⟨v39, v41, rfl, h40, h42⟩⟩
     refine w_d rfl (d_move (v := .tuple ⟨[.agg ⟨[.bool y35.1.f_n.f_neg, v39, .bool y35.1.f_d.f_neg, v41]⟩, errV 104 y35.2]⟩) rfl) <| w_d rfl (d_ext (vs := [.agg ⟨[.bool y35.1.f_n.f_neg, v39, .bool y35.1.f_d.f_neg, v41]⟩, errV 104 y35.2]) rfl rfl) <| w_d rfl (d_ext (vs := [.agg ⟨[.bool y35.1.f_n.f_neg, v39, .bool y35.1.f_d.f_neg, v41]⟩, errV 104 y35.2]) rfl rfl) <| w_a rfl (o_alloc zr26 rfl) ?_
     rintro _ _ _ ⟨b43, rfl, rfl, rfl⟩
     refine w_a0 rfl (o_store (v := .agg ⟨[.bool y35.1.f_n.f_neg, v39, .bool y35.1.f_d.f_neg, v41]⟩) sz26 rfl rfl rfl rfl (one_cons rfl (one_cons (h40.one) (one_cons rfl (one_cons (h42.one) one_nil)))) .here (.here (.here (.here (.here .done))))) ?_
     rintro _ _ _ ⟨rfl, rfl, rfl⟩
     refine w_d rfl (d_assign (v := errV 104 y35.2) rfl) <| w_done <| w_seq <| w_region rfl <| w_d rfl (d_loado (v := .agg ⟨[.bool y25.1.f_n.f_neg, v29, .bool y25.1.f_d.f_neg, v31]⟩) ty26 rfl (.there .here) rfl rfl rfl rfl) <| w_d rfl (d_loado (v := .agg ⟨[.bool y35.1.f_n.f_neg, v39, .bool y35.1.f_d.f_neg, v41]⟩) ty26 rfl .here rfl rfl rfl rfl) <| w_d rfl (d_build (cs' := [.bool y25.1.f_n.f_neg, v29, .bool y25.1.f_d.f_neg, v31, .bool y35.1.f_n.f_neg, v39, .bool y35.1.f_d.f_neg, v41]) Tryz.underlying28 zr28 rfl (by kernel_rfl) (parts := [(0, .agg ⟨[.bool y25.1.f_n.f_neg, v29, .bool y25.1.f_d.f_neg, v31]⟩), (1, .agg ⟨[.bool y35.1.f_n.f_neg, v39, .bool y35.1.f_d.f_neg, v41]⟩)]) rfl (.cons (place_of rfl sz26 rfl) rfl rfl (.here (.here (.here (.here .done)))) (.cons (place_of rfl sz26 rfl) rfl rfl (.there (.there (.there (.there (.here (.here (.here (.here .done)))))))) .nil))) <| w_d rfl (d_move (v := errV 104 y35.2) rfl) <| w_a0 rfl (o_store (v := .agg ⟨[.bool y25.1.f_n.f_neg, v29, .bool y25.1.f_d.f_neg, v31, .bool y35.1.f_n.f_neg, v39, .bool y35.1.f_d.f_neg, v41]⟩) sz28 rfl rfl rfl rfl (one_cons rfl (one_cons (h30.one) (one_cons rfl (one_cons (h32.one) (one_cons rfl (one_cons (h40.one) (one_cons rfl (one_cons (h42.one) one_nil)))))))) (.there (.there (.there (.there .here)))) (.here (.here (.here (.here (.here (.here (.here (.here .done))))))))) ?_
     rintro _ _ _ ⟨rfl, rfl, rfl⟩
     refine w_d rfl (d_assign (v := errV 104 y35.2) rfl) <| w_done ?_
     obtain rfl := Option.some.inj he
     refine w_return fn_9 rs_9 (.box (v := .agg ⟨[.bool y25.1.f_n.f_neg, v29, .bool y25.1.f_d.f_neg, v31, .bool y35.1.f_n.f_neg, v39, .bool y35.1.f_d.f_neg, v41]⟩) rfl ty28 rfl rfl (.there (.there (.there (.there .here)))) rfl (.tmp (v := errV 104 y35.2) rfl .nil)) <| ⟨⟨[_, _, _, _, _], rfl⟩, hle.trans (((e8.trans e18).trans e28).trans e38), ⟨v29, v31, v39, v41, rfl, (h30.mono e38), (h32.mono e38), h40, h42⟩⟩
/-! ### (radome/wide.Int).Cmp -/
noncomputable def wide_Int_Cmp.C : Code := (Tryz.f107.body).getD .skip
def wide_Int_Cmp.out (r : Int) (H : Hp) (v : Value) : Prop := v = .int .i64 r
abbrev wide_Int_Cmp.R (H0 : Hp) (L : Items) (r : Int) : Value → Hp → Items → Prop := fun v H' L' => (∃ p, L' = p ++ L) ∧ H0.le H' ∧ wide_Int_Cmp.out r H' v
noncomputable def wide_Int_Cmp.f (k : Nat) (a : wide_Int) (b : wide_Int) : Option Int := (wide_Int_Sign.f k a).bind fun y3 => (wide_Int_Sign.f k b).bind fun y9 => (cmp_Compare_int.f k y3 y9).bind fun y13 => if ((!decide (y13 = 0)) || (!(a.f_neg == b.f_neg))) = true then (some (y13)) else (if a.f_neg = true then ((wide_less.f k b.f_w a.f_w).bind fun y24 => some (y24)) else ((wide_less.f k a.f_w b.f_w).bind fun y28 => some (y28)))
theorem wide_Int_Cmp.mono : ∀ k y0 y1, LeO (wide_Int_Cmp.f k y0 y1) (wide_Int_Cmp.f (k + 1) y0 y1) := fun k _ _ => by unfold wide_Int_Cmp.f; exact (LeO.bind (wide_Int_Sign.mono k _) fun _ => LeO.bind (wide_Int_Sign.mono k _) fun _ => LeO.bind (cmp_Compare_int.mono k _ _) fun _ => LeO.ite (LeO.refl _) (LeO.ite (LeO.bind (wide_less.mono k _ _) fun _ => LeO.refl _) (LeO.bind (wide_less.mono k _ _) fun _ => LeO.refl _)))
theorem wide_Int_Cmp.calls (k : Nat) {H : Hp} {L : Items} {a : wide_Int} {b : wide_Int} {v0_a : Value} {v1_b : Value} {r : Int} (he : wide_Int_Cmp.f k a b = some r) (h0_a : Ro (Kd.int .u32) H v0_a a.f_w) (h1_b : Ro (Kd.int .u32) H v1_b b.f_w) : Ct Tryz.prog 107 ⟨[.agg ⟨[.bool a.f_neg, v0_a]⟩, .agg ⟨[.bool b.f_neg, v1_b]⟩]⟩ H L (fun v H' L' => L = L' ∧ H = H' ∧ v = .int .i64 r) := by
 refine ct_outs (O := wide_Int_Cmp.out r) (fun _ _ h => h) ?_
 have hle : H.le H := .refl _
 unfold wide_Int_Cmp.f at he
 refine ct_enter (args := [.agg ⟨[.bool a.f_neg, v0_a]⟩, .agg ⟨[.bool b.f_neg, v1_b]⟩]) fn_107 rfl nt_107 rfl <| w_seq <| w_region rfl <| w_a rfl (o_box (v := .agg ⟨[.bool a.f_neg, v0_a]⟩) rfl rfl) ?_
 rintro _ _ _ ⟨b1, rfl, rfl, rfl⟩
 refine w_a rfl (o_box (v := .agg ⟨[.bool b.f_neg, v1_b]⟩) rfl rfl) ?_
 rintro _ _ _ ⟨b2, rfl, rfl, rfl⟩
 refine w_d rfl (d_assign (v := .int .i64 0) rfl) <| w_done <| w_seq <| w_seq ?_
 obtain ⟨y3, hy4, he⟩ := Option.bind_eq_some_iff.1 he
 refine w_drawn (p := 3) (tl := [3, 4, 5]) [[], [(0, some 6)], []] [some 6, some 7, some 8] (fctF (.is (.agg ⟨[.bool a.f_neg, v0_a]⟩) :: .is (.int .i64 y3) :: .is (.agg ⟨[.bool b.f_neg, v1_b]⟩) :: [])) (fun m_ => some (b2, .cells ⟨[.bool b.f_neg, v1_b]⟩ 24 (0, 0)) :: some (b1, .cells ⟨[.bool a.f_neg, v0_a]⟩ 24 (0, 0)) :: L) (fun _ => none) mixed (by kernel_rfl) (by kernel_rfl) rfl (fct_mono (by kernel_rfl)) ⟨(fun H' m_ hH hm_ hu_ => depK_nil <| s_d (m_ 0) rfl (d_loado (v := .agg ⟨[.bool a.f_neg, v0_a]⟩) ty24 rfl (.there .here) rfl rfl rfl rfl) (by exact rfl) rfl), (by rintro H' m_ hH hm_ hu_ _ rfl; exact depK_nil <| s_d (m_ 1) rfl (call_d (o_call co84 (vs := [.agg ⟨[.bool a.f_neg, v0_a]⟩]) rfl (wide_Int_Sign.calls k (a := a) hy4 (h0_a.mono hH)))) (by exact rfl) rfl), (fun H' m_ hH hm_ hu_ => depK_nil <| s_d (m_ 2) rfl (d_loado (v := .agg ⟨[.bool b.f_neg, v1_b]⟩) ty24 rfl .here rfl rfl rfl rfl) (by exact rfl) rfl), trivial⟩ ?_
 intro H7 e8
 rintro _ _ rfl _ _ rfl _ _ rfl
 obtain ⟨y9, hy10, he⟩ := Option.bind_eq_some_iff.1 he
 refine w_d rfl (call_d (o_call co84 (vs := [.agg ⟨[.bool b.f_neg, v1_b]⟩]) rfl (wide_Int_Sign.calls k (a := b) hy10 (h1_b.mono e8)))) ?_
 obtain ⟨y13, hy14, he⟩ := Option.bind_eq_some_iff.1 he
 refine w_d rfl (call_d (o_call co136 (vs := [.int .i64 y3, .int .i64 y9]) rfl (cmp_Compare_int.calls k hy14))) <| w_d rfl (d_assign (v := .int .i64 y13) rfl) <| w_done <| w_seq <| w_region rfl <| w_d rfl (d_move (v := .int .i64 y13) rfl) <| w_d rfl (d_neq rfl rfl) <| w_d rfl (d_move (v := .bool (!decide (y13 = 0))) rfl) <| w_g (g := !(!decide (y13 = 0))) rfl rfl rfl wn_f (fun g17 => d_fld (o' := 0) Tryz.underlying24 rfl sz4 rfl rfl rfl) <| w_g (g := !(!decide (y13 = 0))) rfl rfl rfl wn_f (fun g18 => d_loado (v := .bool a.f_neg) ty4 (cvt g18) (.there .here) rfl rfl rfl rfl) <| w_g (g := !(!decide (y13 = 0))) rfl rfl rfl wn_f (fun g19 => d_fld (o' := 0) Tryz.underlying24 rfl sz4 rfl rfl rfl) <| w_g (g := !(!decide (y13 = 0))) rfl rfl rfl wn_f (fun g20 => d_loado (v := .bool b.f_neg) ty4 (cvt g20) .here rfl rfl rfl rfl) ?_
 refine w_g (g := !(!decide (y13 = 0))) rfl rfl rfl wn_f (fun g21 => d_neb (a := a.f_neg) (b := b.f_neg) Tryz.underlying4 (cvt g21) (cvt g21)) <| w_d rfl (d_or' (b := (!decide (y13 = 0))) (p := (!(a.f_neg == b.f_neg))) rfl rfl rfl) <| w_done ?_
 rcases its he with ⟨c22, he⟩ | ⟨c22, he⟩
 ·
  refine w_then rfl c22 <| w_seq <| w_region rfl <| w_d rfl (d_move (v := .int .i64 y13) rfl) <| w_d rfl (d_assign (v := .int .i64 y13) rfl) <| w_done ?_
  obtain rfl := Option.some.inj he
  refine w_return fn_107 rs_107 (.tmp (v := .int .i64 y13) rfl .nil) <| ⟨⟨[_, _], rfl⟩, hle.trans e8, rfl⟩
 ·
  refine w_else rfl (Bool.eq_false_iff.2 c22) <| w_skip <| w_seq <| w_seq <| w_region rfl <| w_d rfl (d_fld (o' := 0) Tryz.underlying24 rfl sz4 rfl rfl rfl) <| w_d rfl (d_loado (v := .bool a.f_neg) ty4 rfl (.there .here) rfl rfl rfl rfl) <| w_done ?_
  rcases its he with ⟨c23, he⟩ | ⟨c23, he⟩
  ·
   refine w_then rfl c23 <| w_seq <| w_region rfl <| w_d rfl (d_fld (o' := 1) Tryz.underlying24 rfl sz22 rfl rfl rfl) <| w_d rfl (d_loado (v := v1_b) ty22 rfl .here rfl rfl rfl rfl) <| w_d rfl (d_fld (o' := 1) Tryz.underlying24 rfl sz22 rfl rfl rfl) <| w_d rfl (d_loado (v := v0_a) ty22 rfl (.there .here) rfl rfl rfl rfl) ?_
   obtain ⟨y24, hy25, he⟩ := Option.bind_eq_some_iff.1 he
   refine w_d rfl (call_d (o_call co137 (vs := [v1_b, v0_a]) rfl (wide_less.calls k hy25 ((h1_b.mono e8).src) ((h0_a.mono e8).src)))) <| w_d rfl (d_assign (v := .int .i64 y24) rfl) <| w_done ?_
   obtain rfl := Option.some.inj he
   refine w_return fn_107 rs_107 (.tmp (v := .int .i64 y24) rfl .nil) <| ⟨⟨[_, _], rfl⟩, hle.trans e8, rfl⟩
  ·
   refine w_else rfl (Bool.eq_false_iff.2 c23) <| w_skip <| w_seq <| w_region rfl <| w_d rfl (d_fld (o' := 1) Tryz.underlying24 rfl sz22 rfl rfl rfl) <| w_d rfl (d_loado (v := v0_a) ty22 rfl (.there .here) rfl rfl rfl rfl) <| w_d rfl (d_fld (o' := 1) Tryz.underlying24 rfl sz22 rfl rfl rfl) <| w_d rfl (d_loado (v := v1_b) ty22 rfl .here rfl rfl rfl rfl) ?_
   obtain ⟨y28, hy29, he⟩ := Option.bind_eq_some_iff.1 he
   refine w_d rfl (call_d (o_call co137 (vs := [v0_a, v1_b]) rfl (wide_less.calls k hy29 ((h0_a.mono e8).src) ((h1_b.mono e8).src)))) <| w_d rfl (d_assign (v := .int .i64 y28) rfl) <| w_done ?_
   obtain rfl := Option.some.inj he
   refine w_return fn_107 rs_107 (.tmp (v := .int .i64 y28) rfl .nil) <| ⟨⟨[_, _], rfl⟩, hle.trans e8, rfl⟩
/-! ### (radome/ratio.Ratio).Cmp -/
noncomputable def ratio_Ratio_Cmp.C : Code := (Tryz.f56.body).getD .skip
def ratio_Ratio_Cmp.out (r : Int × (Option Int)) (H : Hp) (v : Value) : Prop := v = .tuple ⟨[.int .i64 r.1, errV 104 r.2]⟩
abbrev ratio_Ratio_Cmp.R (H0 : Hp) (L : Items) (r : Int × (Option Int)) : Value → Hp → Items → Prop := fun v H' L' => (∃ p, L' = p ++ L) ∧ H0.le H' ∧ ratio_Ratio_Cmp.out r H' v
noncomputable def ratio_Ratio_Cmp.f (k : Nat) (a : ratio_Ratio) (b : ratio_Ratio) : Option (Int × (Option Int)) := (ratio_Ratio_cross.f k a b).bind fun y3 => if y3.2.2.isSome = true then (some (0, y3.2.2)) else ((wide_Int_Cmp.f k y3.1 y3.2.1).bind fun y14 => some (y14, none))
theorem ratio_Ratio_Cmp.mono : ∀ k y0 y1, LeO (ratio_Ratio_Cmp.f k y0 y1) (ratio_Ratio_Cmp.f (k + 1) y0 y1) := fun k _ _ => by unfold ratio_Ratio_Cmp.f; exact (LeO.bind (ratio_Ratio_cross.mono k _ _) fun _ => LeO.ite (LeO.refl _) (LeO.bind (wide_Int_Cmp.mono k _ _) fun _ => LeO.refl _))
theorem ratio_Ratio_Cmp.calls (k : Nat) {H : Hp} {L : Items} {a : ratio_Ratio} {b : ratio_Ratio} {v0_a : Value} {v1_a : Value} {v2_b : Value} {v3_b : Value} {r : Int × (Option Int)} (he : ratio_Ratio_Cmp.f k a b = some r) (h0_a : Ro (Kd.int .u32) H v0_a a.f_n.f_w) (h1_a : Ro (Kd.int .u32) H v1_a a.f_d.f_w) (h2_b : Ro (Kd.int .u32) H v2_b b.f_n.f_w) (h3_b : Ro (Kd.int .u32) H v3_b b.f_d.f_w) : Ct Tryz.prog 56 ⟨[.agg ⟨[.bool a.f_n.f_neg, v0_a, .bool a.f_d.f_neg, v1_a]⟩, .agg ⟨[.bool b.f_n.f_neg, v2_b, .bool b.f_d.f_neg, v3_b]⟩]⟩ H L (fun v H' L' => L = L' ∧ H = H' ∧ v = .tuple ⟨[.int .i64 r.1, errV 104 r.2]⟩) := by
 refine ct_outs (O := ratio_Ratio_Cmp.out r) (fun _ _ h => h) ?_
 have hle : H.le H := .refl _
 unfold ratio_Ratio_Cmp.f at he
 refine ct_enter (args := [.agg ⟨[.bool a.f_n.f_neg, v0_a, .bool a.f_d.f_neg, v1_a]⟩, .agg ⟨[.bool b.f_n.f_neg, v2_b, .bool b.f_d.f_neg, v3_b]⟩]) fn_56 rfl nt_56 rfl <| w_seq <| w_region rfl <| w_a rfl (o_box (v := .agg ⟨[.bool a.f_n.f_neg, v0_a, .bool a.f_d.f_neg, v1_a]⟩) rfl rfl) ?_
 rintro _ _ _ ⟨b1, rfl, rfl, rfl⟩
 refine w_a rfl (o_box (v := .agg ⟨[.bool b.f_n.f_neg, v2_b, .bool b.f_d.f_neg, v3_b]⟩) rfl rfl) ?_
 rintro _ _ _ ⟨b2, rfl, rfl, rfl⟩
 refine w_d rfl (d_assign (v := .int .i64 0) rfl) <| w_d rfl (d_assign (v := errV 104 none) rfl) <| w_done <| w_seq <| w_region rfl <| w_d rfl (d_loado (v := .agg ⟨[.bool a.f_n.f_neg, v0_a, .bool a.f_d.f_neg, v1_a]⟩) ty26 rfl (.there .here) rfl rfl rfl rfl) <| w_d rfl (d_loado (v := .agg ⟨[.bool b.f_n.f_neg, v2_b, .bool b.f_d.f_neg, v3_b]⟩) ty26 rfl .here rfl rfl rfl rfl) ?_
 obtain ⟨y3, hy4, he⟩ := Option.bind_eq_some_iff.1 he
 refine w_a rfl (o_call co106 (vs := [.agg ⟨[.bool a.f_n.f_neg, v0_a, .bool a.f_d.f_neg, v1_a]⟩, .agg ⟨[.bool b.f_n.f_neg, v2_b, .bool b.f_d.f_neg, v3_b]⟩]) rfl (ratio_Ratio_cross.calls k (a := a) (b := b) hy4 h0_a h1_a h2_b h3_b)) ?_
 rintro _ H5 _ ⟨rfl, e6, ⟨v7, v9, rfl, h8, h10⟩⟩
 refine w_d rfl (d_move (v := .tuple ⟨[.agg ⟨[.bool y3.1.f_neg, v7]⟩, .agg ⟨[.bool y3.2.1.f_neg, v9]⟩, errV 104 y3.2.2]⟩) rfl) <| w_d rfl (d_ext (vs := [.agg ⟨[.bool y3.1.f_neg, v7]⟩, .agg ⟨[.bool y3.2.1.f_neg, v9]⟩, errV 104 y3.2.2]) rfl rfl) <| w_d rfl (d_ext (vs := [.agg ⟨[.bool y3.1.f_neg, v7]⟩, .agg ⟨[.bool y3.2.1.f_neg, v9]⟩, errV 104 y3.2.2]) rfl rfl) <| w_d rfl (d_ext (vs := [.agg ⟨[.bool y3.1.f_neg, v7]⟩, .agg ⟨[.bool y3.2.1.f_neg, v9]⟩, errV 104 y3.2.2]) rfl rfl) <| w_a rfl (o_alloc zr24 rfl) ?_
 rintro _ _ _ ⟨b11, rfl, rfl, rfl⟩
 refine w_a rfl (o_alloc zr24 rfl) ?_
 rintro _ _ _ ⟨b12, rfl, rfl, rfl⟩
 refine w_a0 rfl (o_store (v := .agg ⟨[.bool y3.1.f_neg, v7]⟩) sz24 rfl rfl rfl rfl (one_cons rfl (one_cons (h8.one) one_nil)) (.there .here) (.here (.here .done))) ?_
 rintro _ _ _ ⟨rfl, rfl, rfl⟩
 refine w_a0 rfl (o_store (v := .agg ⟨[.bool y3.2.1.f_neg, v9]⟩) sz24 rfl rfl rfl rfl (one_cons rfl (one_cons (h10.one) one_nil)) .here (.here (.here .done))) ?_
 rintro _ _ _ ⟨rfl, rfl, rfl⟩
 refine w_d rfl (d_assign (v := errV 104 y3.2.2) rfl) <| w_done <| w_seq <| w_seq <| w_region rfl <| w_d rfl (d_move (v := errV 104 y3.2.2) rfl) <| w_d rfl (d_nenil (e := y3.2.2) Tryz.underlying30 rfl) <| w_done ?_
 rcases its he with ⟨c13, he⟩ | ⟨c13, he⟩
 ·
  refine w_then rfl c13 <| w_seq <| w_region rfl <| w_d rfl (d_move (v := errV 104 y3.2.2) rfl) <| w_d rfl (d_assign (v := .int .i64 0) rfl) <| w_d rfl (d_assign (v := errV 104 y3.2.2) rfl) <| w_done ?_
  obtain rfl := Option.some.inj he
  refine w_return fn_56 rs_56 (.tmp (v := .int .i64 0) rfl (.tmp (v := errV 104 y3.2.2) rfl .nil)) <| ⟨⟨[_, _, _, _], rfl⟩, hle.trans e6, rfl⟩
 ·
  refine w_else rfl (Bool.eq_false_iff.2 c13) <| w_skip <| w_seq <| w_region rfl <| w_d rfl (d_loado (v := .agg ⟨[.bool y3.1.f_neg, v7]⟩) ty24 rfl (.there .here) rfl rfl rfl rfl) <| w_d rfl (d_loado (v := .agg ⟨[.bool y3.2.1.f_neg, v9]⟩) ty24 rfl .here rfl rfl rfl rfl) ?_
  obtain ⟨y14, hy15, he⟩ := Option.bind_eq_some_iff.1 he
  refine w_d rfl (call_d (o_call co107 (vs := [.agg ⟨[.bool y3.1.f_neg, v7]⟩, .agg ⟨[.bool y3.2.1.f_neg, v9]⟩]) rfl (wide_Int_Cmp.calls k (a := y3.1) (b := y3.2.1) hy15 h8 h10))) <| w_d rfl (d_assign (v := .int .i64 y14) rfl) <| w_d rfl (d_assign (v := errV 104 none) rfl) <| w_done ?_
  obtain rfl := Option.some.inj he
  refine w_return fn_56 rs_56 (.tmp (v := .int .i64 y14) rfl (.tmp (v := errV 104 none) rfl .nil)) <| ⟨⟨[_, _, _, _], rfl⟩, hle.trans e6, rfl⟩
/-! ### radome/interval.Of -/
noncomputable def interval_Of.C : Code := (Tryz.f31.body).getD .skip
def interval_Of.out (r : interval_Span × (Option Int)) (H : Hp) (v : Value) : Prop := ∃ v0, ∃ v1, ∃ v2, ∃ v3, v = .tuple ⟨[.agg ⟨[.bool r.1.f_Low.f_n.f_neg, v0, .bool r.1.f_Low.f_d.f_neg, v1, .bool r.1.f_High.f_n.f_neg, v2, .bool r.1.f_High.f_d.f_neg, v3]⟩, errV 104 r.2]⟩ ∧ Ro (Kd.int .u32) H v0 r.1.f_Low.f_n.f_w ∧ Ro (Kd.int .u32) H v1 r.1.f_Low.f_d.f_w ∧ Ro (Kd.int .u32) H v2 r.1.f_High.f_n.f_w ∧ Ro (Kd.int .u32) H v3 r.1.f_High.f_d.f_w
theorem interval_Of.out_mono (r : interval_Span × (Option Int)) {H H' : Hp} {v : Value} (hle : H.le H') (h : interval_Of.out r H v) : interval_Of.out r H' v := by
 obtain ⟨v0, v1, v2, v3, rfl, h0, h1, h2, h3⟩ := h; exact ⟨v0, v1, v2, v3, rfl, h0.mono hle, h1.mono hle, h2.mono hle, h3.mono hle⟩
abbrev interval_Of.R (H0 : Hp) (L : Items) (r : interval_Span × (Option Int)) : Value → Hp → Items → Prop := fun v H' L' => (∃ p, L' = p ++ L) ∧ H0.le H' ∧ interval_Of.out r H' v
noncomputable def interval_Of.f (k : Nat) (low : ratio_Ratio) (high : ratio_Ratio) : Option (interval_Span × (Option Int)) := (ratio_Ratio_Cmp.f k low high).bind fun y4 => if y4.2.isSome = true then (some ((⟨(⟨(⟨false, []⟩ : wide_Int), (⟨false, []⟩ : wide_Int)⟩ : ratio_Ratio), (⟨(⟨false, []⟩ : wide_Int), (⟨false, []⟩ : wide_Int)⟩ : ratio_Ratio)⟩ : interval_Span), y4.2)) else (if 0 < y4.1 then (some ((⟨(⟨(⟨false, []⟩ : wide_Int), (⟨false, []⟩ : wide_Int)⟩ : ratio_Ratio), (⟨(⟨false, []⟩ : wide_Int), (⟨false, []⟩ : wide_Int)⟩ : ratio_Ratio)⟩ : interval_Span), some 1)) else (some ((⟨low, high⟩ : interval_Span), none)))
theorem interval_Of.mono : ∀ k y0 y1, LeO (interval_Of.f k y0 y1) (interval_Of.f (k + 1) y0 y1) := fun k _ _ => by unfold interval_Of.f; exact (LeO.bind (ratio_Ratio_Cmp.mono k _ _) fun _ => LeO.ite (LeO.refl _) (LeO.ite (LeO.refl _) (LeO.refl _)))
theorem interval_Of.calls (k : Nat) {H : Hp} {L : Items} {low : ratio_Ratio} {high : ratio_Ratio} {v0_low : Value} {v1_low : Value} {v2_high : Value} {v3_high : Value} {r : interval_Span × (Option Int)} (he : interval_Of.f k low high = some r) (h0_low : Ro (Kd.int .u32) H v0_low low.f_n.f_w) (h1_low : Ro (Kd.int .u32) H v1_low low.f_d.f_w) (h2_high : Ro (Kd.int .u32) H v2_high high.f_n.f_w) (h3_high : Ro (Kd.int .u32) H v3_high high.f_d.f_w) : Ct Tryz.prog 31 ⟨[.agg ⟨[.bool low.f_n.f_neg, v0_low, .bool low.f_d.f_neg, v1_low]⟩, .agg ⟨[.bool high.f_n.f_neg, v2_high, .bool high.f_d.f_neg, v3_high]⟩]⟩ H L (fun v H' L' => L = L' ∧ H.le H' ∧ interval_Of.out r H' v) := by
 refine ct_out (O := interval_Of.out r) ?_
 have hle : H.le H := .refl _
 unfold interval_Of.f at he
 refine ct_enter (args := [.agg ⟨[.bool low.f_n.f_neg, v0_low, .bool low.f_d.f_neg, v1_low]⟩, .agg ⟨[.bool high.f_n.f_neg, v2_high, .bool high.f_d.f_neg, v3_high]⟩]) fn_31 rfl nt_31 rfl <| w_seq <| w_region rfl <| w_a rfl (o_box (v := .agg ⟨[.bool low.f_n.f_neg, v0_low, .bool low.f_d.f_neg, v1_low]⟩) rfl rfl) ?_
 rintro _ _ _ ⟨b1, rfl, rfl, rfl⟩
 refine w_a rfl (o_box (v := .agg ⟨[.bool high.f_n.f_neg, v2_high, .bool high.f_d.f_neg, v3_high]⟩) rfl rfl) ?_
 rintro _ _ _ ⟨b2, rfl, rfl, rfl⟩
 refine w_a rfl (o_alloc zr28 rfl) ?_
 rintro _ _ _ ⟨b3, rfl, rfl, rfl⟩
 refine w_d rfl (d_assign (v := errV 104 none) rfl) <| w_done <| w_seq <| w_region rfl <| w_d rfl (d_loado (v := .agg ⟨[.bool low.f_n.f_neg, v0_low, .bool low.f_d.f_neg, v1_low]⟩) ty26 rfl (.there (.there .here)) rfl rfl rfl rfl) <| w_d rfl (d_loado (v := .agg ⟨[.bool high.f_n.f_neg, v2_high, .bool high.f_d.f_neg, v3_high]⟩) ty26 rfl (.there .here) rfl rfl rfl rfl) ?_
 obtain ⟨y4, hy5, he⟩ := Option.bind_eq_some_iff.1 he
 refine w_d rfl (call_d (o_call co56 (vs := [.agg ⟨[.bool low.f_n.f_neg, v0_low, .bool low.f_d.f_neg, v1_low]⟩, .agg ⟨[.bool high.f_n.f_neg, v2_high, .bool high.f_d.f_neg, v3_high]⟩]) rfl (ratio_Ratio_Cmp.calls k (a := low) (b := high) hy5 h0_low h1_low h2_high h3_high))) <| w_d rfl (d_move (v := .tuple ⟨[.int .i64 y4.1, errV 104 y4.2]⟩) rfl) <| w_d rfl (d_ext (vs := [.int .i64 y4.1, errV 104 y4.2]) rfl rfl) <| w_d rfl (d_ext (vs := [.int .i64 y4.1, errV 104 y4.2]) rfl rfl) <| w_d rfl (d_assign (v := .int .i64 y4.1) rfl) <| w_d rfl (d_assign (v := errV 104 y4.2) rfl) <| w_done <| w_seq <| w_block <| w_seq <| w_region rfl <| w_d rfl (d_move (v := errV 104 y4.2) rfl) ?_
 refine w_d rfl (d_nenil (e := y4.2) Tryz.underlying30 rfl) <| w_d rfl (d_assign (v := .bool y4.2.isSome) rfl) <| w_done ?_
 rcases its he with ⟨c8, he⟩ | ⟨c8, he⟩
 ·
  refine w_then rfl c8 <| w_seq <| w_region rfl <| w_d rfl (d_build (cs' := [.bool false, .slice none 0 0, .bool false, .slice none 0 0, .bool false, .slice none 0 0, .bool false, .slice none 0 0]) Tryz.underlying28 zr28 rfl (by kernel_rfl) (parts := []) rfl .nil) <| w_d rfl (d_move (v := errV 104 y4.2) rfl) <| w_a0 rfl (o_store (v := .agg ⟨[.bool false, .slice none 0 0, .bool false, .slice none 0 0, .bool false, .slice none 0 0, .bool false, .slice none 0 0]⟩) sz28 rfl rfl rfl rfl (one_cons rfl (one_cons rfl (one_cons rfl (one_cons rfl (one_cons rfl (one_cons rfl (one_cons rfl (one_cons rfl one_nil)))))))) .here (.here (.here (.here (.here (.here (.here (.here (.here .done))))))))) ?_
  rintro _ _ _ ⟨rfl, rfl, rfl⟩
  refine w_d rfl (d_assign (v := errV 104 y4.2) rfl) <| w_done ?_
  obtain rfl := Option.some.inj he
  refine w_return fn_31 rs_31 (.box (v := .agg ⟨[.bool false, .slice none 0 0, .bool false, .slice none 0 0, .bool false, .slice none 0 0, .bool false, .slice none 0 0]⟩) rfl ty28 rfl rfl .here rfl (.tmp (v := errV 104 y4.2) rfl .nil)) <| ⟨⟨[_, _, _], rfl⟩, hle, ⟨.slice none 0 0, .slice none 0 0, .slice none 0 0, .slice none 0 0, rfl, (ro_nil _ _), (ro_nil _ _), (ro_nil _ _), (ro_nil _ _)⟩⟩
 ·
  refine w_else rfl (Bool.eq_false_iff.2 c8) <| w_seq <| w_region rfl <| w_d rfl (d_move (v := .int .i64 y4.1) rfl) <| w_d rfl (d_gtr rfl rfl) <| w_d rfl (d_assign (v := .bool (decide (0 < y4.1))) rfl) <| w_done ?_
  rcases its he with ⟨c9, he⟩ | ⟨c9, he⟩
  ·
   refine w_then rfl (decide_eq_true c9) <| w_seq <| w_region rfl <| w_d rfl (d_build (cs' := [.bool false, .slice none 0 0, .bool false, .slice none 0 0, .bool false, .slice none 0 0, .bool false, .slice none 0 0]) Tryz.underlying28 zr28 rfl (by kernel_rfl) (parts := []) rfl .nil) <| w_d rfl (d_iface (v := .int .i64 1) Tryz.underlying104 rfl rfl) <| w_a0 rfl (o_store (v := .agg ⟨[.bool false, .slice none 0 0, .bool false, .slice none 0 0, .bool false, .slice none 0 0, .bool false, .slice none 0 0]⟩) sz28 rfl rfl rfl rfl (one_cons rfl (one_cons rfl (one_cons rfl (one_cons rfl (one_cons rfl (one_cons rfl (one_cons rfl (one_cons rfl one_nil)))))))) .here (.here (.here (.here (.here (.here (.here (.here (.here .done))))))))) ?_
   rintro _ _ _ ⟨rfl, rfl, rfl⟩
   refine w_d rfl (d_assign (v := errV 104 (some 1)) rfl) <| w_done ?_
   obtain rfl := Option.some.inj he
   refine w_return fn_31 rs_31 (.box (v := .agg ⟨[.bool false, .slice none 0 0, .bool false, .slice none 0 0, .bool false, .slice none 0 0, .bool false, .slice none 0 0]⟩) rfl ty28 rfl rfl .here rfl (.tmp (v := errV 104 (some 1)) rfl .nil)) <| ⟨⟨[_, _, _], rfl⟩, hle, ⟨.slice none 0 0, .slice none 0 0, .slice none 0 0, .slice none 0 0, rfl, (ro_nil _ _), (ro_nil _ _), (ro_nil _ _), (ro_nil _ _)⟩⟩
  ·
   refine w_else rfl (decide_eq_false c9) <| w_skip <| w_inBlock <| w_seq <| w_region rfl <| w_d rfl (d_loado (v := .agg ⟨[.bool low.f_n.f_neg, v0_low, .bool low.f_d.f_neg, v1_low]⟩) ty26 rfl (.there (.there .here)) rfl rfl rfl rfl) <| w_d rfl (d_loado (v := .agg ⟨[.bool high.f_n.f_neg, v2_high, .bool high.f_d.f_neg, v3_high]⟩) ty26 rfl (.there .here) rfl rfl rfl rfl) <| w_d rfl (d_build (cs' := [.bool low.f_n.f_neg, v0_low, .bool low.f_d.f_neg, v1_low, .bool high.f_n.f_neg, v2_high, .bool high.f_d.f_neg, v3_high]) Tryz.underlying28 zr28 rfl (by kernel_rfl) (parts := [(0, .agg ⟨[.bool low.f_n.f_neg, v0_low, .bool low.f_d.f_neg, v1_low]⟩), (1, .agg ⟨[.bool high.f_n.f_neg, v2_high, .bool high.f_d.f_neg, v3_high]⟩)]) rfl (.cons (place_of rfl sz26 rfl) rfl rfl (.here (.here (.here (.here .done)))) (.cons (place_of rfl sz26 rfl) rfl rfl (.there (.there (.there (.there (.here (.here (.here (.here .done)))))))) .nil))) <| w_a0 rfl (o_store (v := .agg ⟨[.bool low.f_n.f_neg, v0_low, .bool low.f_d.f_neg, v1_low, .bool high.f_n.f_neg, v2_high, .bool high.f_d.f_neg, v3_high]⟩) sz28 rfl rfl rfl rfl (one_cons rfl (one_cons (h0_low.one) (one_cons rfl (one_cons (h1_low.one) (one_cons rfl (one_cons (h2_high.one) (one_cons rfl (one_cons (h3_high.one) one_nil)))))))) .here (.here (.here (.here (.here (.here (.here (.here (.here .done))))))))) ?_
   rintro _ _ _ ⟨rfl, rfl, rfl⟩
   refine w_d rfl (d_assign (v := errV 104 none) rfl) <| w_done ?_
   obtain rfl := Option.some.inj he
   refine w_return fn_31 rs_31 (.box (v := .agg ⟨[.bool low.f_n.f_neg, v0_low, .bool low.f_d.f_neg, v1_low, .bool high.f_n.f_neg, v2_high, .bool high.f_d.f_neg, v3_high]⟩) rfl ty28 rfl rfl .here rfl (.tmp (v := errV 104 none) rfl .nil)) <| ⟨⟨[_, _, _], rfl⟩, hle, ⟨v0_low, v1_low, v2_high, v3_high, rfl, h0_low, h1_low, h2_high, h3_high⟩⟩
/-! ### radome/interval.check -/
noncomputable def interval_check.C : Code := (Tryz.f79.body).getD .skip
def interval_check.out (r : (Option Int)) (H : Hp) (v : Value) : Prop := v = errV 104 r
abbrev interval_check.R (H0 : Hp) (L : Items) (r : (Option Int)) : Value → Hp → Items → Prop := fun v H' L' => (∃ p, L' = p ++ L) ∧ H0.le H' ∧ interval_check.out r H' v
structure interval_check.Hs where
 l0 : (Option Int) → (List interval_Span) → Int → Int → Option (Option Int)
noncomputable def interval_check.b0 (k : Nat) (h : interval_check.Hs)  (t2 : Option Int) (t7 : List interval_Span) (t8 : Int) (t9 : Int) : Option (Option Int) := if t9 < t8 then (if (0 : Int) ≤ t9 ∧ t9 < (t7.length : Int) then ((interval_Of.f k ((rd t7 t9).f_Low) ((rd t7 t9).f_High)).bind fun y14 => if y14.2.isSome = true then (some (some 1)) else (h.l0 t2 t7 t8 (w64 (t9 + 1)))) else none) else (some (none))
noncomputable def interval_check.hs : Nat → interval_check.Hs
 | 0 => ⟨fun _ _ _ _ => none⟩
 | k + 1 => ⟨fun x0 x1 x2 x3 => interval_check.b0 k (interval_check.hs k) x0 x1 x2 x3⟩
noncomputable def interval_check.f (k : Nat) (l : List interval_Span) : Option (Option Int) := (fun h : interval_check.Hs => h.l0 none l (l.length : Int) 0) (interval_check.hs k)
structure interval_check.LE (h h' : interval_check.Hs) : Prop where
 l0 : ∀ y0 y1 y2 y3, LeO (h.l0 y0 y1 y2 y3) (h'.l0 y0 y1 y2 y3)
theorem interval_check.b0_mono {k : Nat} {h h' : interval_check.Hs} (hl : interval_check.LE h h') : ∀ y0 y1 y2 y3, LeO (interval_check.b0 k h y0 y1 y2 y3) (interval_check.b0 (k + 1) h' y0 y1 y2 y3) := fun _ _ _ _ => (LeO.ite (LeO.ite (LeO.bind (interval_Of.mono k _ _) fun _ => LeO.ite (LeO.refl _) (hl.l0 _ _ _ _)) (LeO.refl _)) (LeO.refl _))
theorem interval_check.hs_mono : ∀ k, interval_check.LE (interval_check.hs k) (interval_check.hs (k + 1))
 | 0 => ⟨fun _ _ _ _ => LeO.none _⟩
 | k + 1 => ⟨interval_check.b0_mono (k := k) (interval_check.hs_mono k)⟩
theorem interval_check.mono : ∀ k y0, LeO (interval_check.f k y0) (interval_check.f (k + 1) y0) := fun k _ => have hl := interval_check.hs_mono k; by unfold interval_check.f; exact (hl.l0 _ _ _ _)
noncomputable def interval_check.Kl0 : List Item := .code (lopB (blkB (seqR (seqL (seqR interval_check.C))))) :: .inLoop (lopB (blkB (seqR (seqL (seqR interval_check.C))))) :: .inBlock 0 :: .code (seqR (seqR interval_check.C)) :: []
structure interval_check.OK (h : interval_check.Hs) : Prop where
 l0 : ∀ {H0 H : Hp} {L : Items} {r : (Option Int)} {jk_ : Nat → Value} {t2 : Option Int} {t7 : List interval_Span} {t8 : Int} {t9 : Int} {v_t7 : Value} (_ : H0.le H) (_he : h.l0 t2 t7 t8 t9 = some r) (_h_t7 : Src k_interval_Span H L v_t7 t7), Wp Tryz.prog 79 25 interval_check.Kl0 (upd (upd (upd (upd jk_ 2 (errV 104 t2)) 7 (v_t7)) 8 (.int .i64 t8)) 9 (.int .i64 t9)) H (L) (interval_check.R H0 L r)
theorem interval_check.b0_ok {k : Nat} {h : interval_check.Hs} (hh : interval_check.OK h) {H0 H : Hp} {L : Items} {r : (Option Int)} {jk_ : Nat → Value} {t2 : Option Int} {t7 : List interval_Span} {t8 : Int} {t9 : Int} {v_t7 : Value} (hle : H0.le H) (he : interval_check.b0 k h t2 t7 t8 t9 = some r) (h_t7 : Src k_interval_Span H L v_t7 t7) : Wp Tryz.prog 79 25 interval_check.Kl0 (upd (upd (upd (upd jk_ 2 (errV 104 t2)) 7 (v_t7)) 8 (.int .i64 t8)) 9 (.int .i64 t9)) H (L) (interval_check.R H0 L r) := by
 unfold interval_check.b0 at he
 unfold interval_check.Kl0
 refine w_seq <| w_region rfl <| w_d rfl (d_lss rfl rfl) <| w_done <| w_seq ?_
 rcases its he with ⟨c1, he⟩ | ⟨c1, he⟩
 ·
  refine w_then rfl (decide_eq_true c1) <| w_skip <| w_seq <| w_block <| w_seq <| w_region rfl ?_
  obtain ⟨c2, he⟩ := rq he
  refine w_d rfl (d_index (sz := 8) Tryz.underlying178 sz28 rfl h_t7 rfl c2) ?_
  obtain ⟨_, l3, r4⟩ := el_of (kd := k_interval_Span) h_t7 c2
  obtain ⟨v5, v7, v9, v11, rfl, h6, h8, h10, h12⟩ := k_interval_Span_out r4
  refine w_d rfl (d_load (v := .agg ⟨[.bool ((((rd t7 t9).f_Low).f_n).f_neg), v5, .bool ((((rd t7 t9).f_Low).f_d).f_neg), v7, .bool ((((rd t7 t9).f_High).f_n).f_neg), v9, .bool ((((rd t7 t9).f_High).f_d).f_neg), v11]⟩) (cs := [.bool ((((rd t7 t9).f_Low).f_n).f_neg), v5, .bool ((((rd t7 t9).f_Low).f_d).f_neg), v7, .bool ((((rd t7 t9).f_High).f_n).f_neg), v9, .bool ((((rd t7 t9).f_High).f_d).f_neg), v11]) ty28 rfl rfl (by decide) l3 rfl) <| w_a rfl (o_alloc zr28 rfl) ?_
  rintro _ _ _ ⟨b13, rfl, rfl, rfl⟩
  refine w_a0 rfl (o_store (v := .agg ⟨[.bool ((((rd t7 t9).f_Low).f_n).f_neg), v5, .bool ((((rd t7 t9).f_Low).f_d).f_neg), v7, .bool ((((rd t7 t9).f_High).f_n).f_neg), v9, .bool ((((rd t7 t9).f_High).f_d).f_neg), v11]⟩) sz28 rfl rfl rfl rfl (one_cons rfl (one_cons (h6.one) (one_cons rfl (one_cons (h8.one) (one_cons rfl (one_cons (h10.one) (one_cons rfl (one_cons (h12.one) one_nil)))))))) .here (.here (.here (.here (.here (.here (.here (.here (.here .done))))))))) ?_
  rintro _ _ _ ⟨rfl, rfl, rfl⟩
  refine w_done <| w_seq <| w_region rfl <| w_d rfl (d_fld (o' := 0) Tryz.underlying28 rfl sz26 rfl rfl rfl) <| w_d rfl (d_loado (v := .agg ⟨[.bool ((((rd t7 t9).f_Low).f_n).f_neg), v5, .bool ((((rd t7 t9).f_Low).f_d).f_neg), v7]⟩) ty26 rfl .here rfl rfl rfl rfl) <| w_d rfl (d_fld (o' := 4) Tryz.underlying28 rfl sz26 rfl rfl rfl) <| w_d rfl (d_loado (v := .agg ⟨[.bool ((((rd t7 t9).f_High).f_n).f_neg), v9, .bool ((((rd t7 t9).f_High).f_d).f_neg), v11]⟩) ty26 rfl .here rfl rfl rfl rfl) ?_
  obtain ⟨y14, hy15, he⟩ := Option.bind_eq_some_iff.1 he
  refine w_a rfl (o_call co31 (vs := [.agg ⟨[.bool ((((rd t7 t9).f_Low).f_n).f_neg), v5, .bool ((((rd t7 t9).f_Low).f_d).f_neg), v7]⟩, .agg ⟨[.bool ((((rd t7 t9).f_High).f_n).f_neg), v9, .bool ((((rd t7 t9).f_High).f_d).f_neg), v11]⟩]) rfl (interval_Of.calls k (low := ((rd t7 t9).f_Low)) (high := ((rd t7 t9).f_High)) hy15 h6 h8 h10 h12)) ?_
  rintro _ H16 _ ⟨rfl, e17, ⟨v18, v20, v22, v24, rfl, h19, h21, h23, h25⟩⟩
  refine w_d rfl (d_move (v := .tuple ⟨[.agg ⟨[.bool y14.1.f_Low.f_n.f_neg, v18, .bool y14.1.f_Low.f_d.f_neg, v20, .bool y14.1.f_High.f_n.f_neg, v22, .bool y14.1.f_High.f_d.f_neg, v24]⟩, errV 104 y14.2]⟩) rfl) <| w_d rfl (d_ext (vs := [.agg ⟨[.bool y14.1.f_Low.f_n.f_neg, v18, .bool y14.1.f_Low.f_d.f_neg, v20, .bool y14.1.f_High.f_n.f_neg, v22, .bool y14.1.f_High.f_d.f_neg, v24]⟩, errV 104 y14.2]) rfl rfl) <| w_d rfl (d_ext (vs := [.agg ⟨[.bool y14.1.f_Low.f_n.f_neg, v18, .bool y14.1.f_Low.f_d.f_neg, v20, .bool y14.1.f_High.f_n.f_neg, v22, .bool y14.1.f_High.f_d.f_neg, v24]⟩, errV 104 y14.2]) rfl rfl) <| w_a rfl (o_alloc zr28 rfl) ?_
  rintro _ _ _ ⟨b26, rfl, rfl, rfl⟩
  refine w_a0 rfl (o_store (v := .agg ⟨[.bool y14.1.f_Low.f_n.f_neg, v18, .bool y14.1.f_Low.f_d.f_neg, v20, .bool y14.1.f_High.f_n.f_neg, v22, .bool y14.1.f_High.f_d.f_neg, v24]⟩) sz28 rfl rfl rfl rfl (one_cons rfl (one_cons (h19.one) (one_cons rfl (one_cons (h21.one) (one_cons rfl (one_cons (h23.one) (one_cons rfl (one_cons (h25.one) one_nil)))))))) .here (.here (.here (.here (.here (.here (.here (.here (.here .done))))))))) ?_
  rintro _ _ _ ⟨rfl, rfl, rfl⟩
  refine w_d rfl (d_assign (v := errV 104 y14.2) rfl) <| w_done <| w_seq <| w_region rfl <| w_d rfl (d_move (v := errV 104 y14.2) rfl) <| w_d rfl (d_nenil (e := y14.2) Tryz.underlying30 rfl) <| w_done ?_
  rcases its he with ⟨c27, he⟩ | ⟨c27, he⟩
  ·
   refine w_then rfl c27 <| w_seq <| w_region rfl <| w_d rfl (d_iface (v := .int .i64 1) Tryz.underlying104 rfl rfl) <| w_d rfl (d_assign (v := errV 104 (some 1)) rfl) <| w_done ?_
   obtain rfl := Option.some.inj he
   refine w_return fn_79 rs_79 (.tmp (v := errV 104 (some 1)) rfl .nil) <| ⟨⟨[_, _], rfl⟩, hle.trans e17, rfl⟩
  ·
   refine w_else rfl (Bool.eq_false_iff.2 c27) <| w_skip <| w_inBlock <| w_region rfl <| w_d rfl (d_add (c := w64 (t9 + 1)) rfl rfl rfl) <| w_d rfl (d_move (v := .int .i64 (w64 (t9 + 1))) rfl) <| w_done <| w_inLoop <| w_del (.there .here) <| w_del .here <| w_sl 2 (errV 104 t2) rfl <| w_sl 7 (v_t7) rfl ?_
   refine w_sl 8 (.int .i64 t8) rfl <| w_sl 9 (.int .i64 (w64 (t9 + 1))) rfl <| hh.l0 (hle.trans e17) he (h_t7.mono e17)
 ·
  refine w_else rfl (decide_eq_false c1) <| w_exit rfl <| w_seq <| w_region rfl <| w_d rfl (d_assign (v := errV 104 none) rfl) <| w_done ?_
  obtain rfl := Option.some.inj he
  refine w_return fn_79 rs_79 (.tmp (v := errV 104 none) rfl .nil) <| ⟨⟨[], rfl⟩, hle, rfl⟩
theorem interval_check.ok : ∀ k, interval_check.OK (interval_check.hs k)
 | 0 => ⟨(by intros; exact nomatch (show none = some _ from by assumption))⟩
 | k + 1 => ⟨interval_check.b0_ok (k := k) (interval_check.ok k)⟩
theorem interval_check.calls (k : Nat) {H : Hp} {L : Items} {l : List interval_Span} {v0_l : Value} {r : (Option Int)} (he : interval_check.f k l = some r) (h0_l : Src k_interval_Span H L v0_l l) : Ct Tryz.prog 79 ⟨[v0_l]⟩ H L (fun v H' L' => L = L' ∧ H = H' ∧ v = errV 104 r) := by
 refine ct_outs (O := interval_check.out r) (fun _ _ h => h) ?_
 have hle : H.le H := .refl _
 have hh := interval_check.ok k
 unfold interval_check.f at he
 refine ct_enter (args := [v0_l]) fn_79 rfl nt_79 rfl <| w_seq <| w_region rfl <| w_d rfl (d_assign (v := errV 104 none) rfl) <| w_done <| w_seq <| w_seq <| w_region rfl <| w_d rfl (d_move (v := v0_l) rfl) <| w_d rfl (d_len Tryz.underlying178 rfl h0_l) <| w_d rfl (d_move (v := .int .i64 0) rfl) <| w_done ?_
 refine w_block <| w_loop <| w_sl 2 (errV 104 none) rfl <| w_sl 7 (v0_l) rfl <| w_sl 8 (.int .i64 (l.length : Int)) rfl <| w_sl 9 (.int .i64 0) rfl <| hh.l0 hle he h0_l
/-! ### errors.Join -/
noncomputable def errors_Join.C : Code := (Tryz.f129.body).getD .skip
def errors_Join.out (r : (Option Int)) (H : Hp) (v : Value) : Prop := v = errV 104 r
abbrev errors_Join.R (H0 : Hp) (L : Items) (r : (Option Int)) : Value → Hp → Items → Prop := fun v H' L' => (∃ p, L' = p ++ L) ∧ H0.le H' ∧ errors_Join.out r H' v
structure errors_Join.Hs where
 l0 : (List (Option Int)) → Int → (List (Option Int)) → Int → Int → Option (Option Int)
 l1 : (List (Option Int)) → (List (Option Int)) → Int → Int → Option (Option Int)
noncomputable def errors_Join.b0 (k : Nat) (h : errors_Join.Hs)  (errs : List (Option Int)) (n : Int) (t9 : List (Option Int)) (t10 : Int) (t11 : Int) : Option (Option Int) := if t11 < t10 then (if (0 : Int) ≤ t11 ∧ t11 < (t9.length : Int) then (if ((rd t9 t11).isSome) = true then (h.l0 errs (w64 (n + 1)) t9 t10 (w64 (t11 + 1))) else (h.l0 errs n t9 t10 (w64 (t11 + 1)))) else none) else (if n = 0 then (some (none)) else (if 0 ≤ 0 ∧ 0 ≤ n ∧ n ≤ 17592186044416 then (h.l1 (List.replicate (0 : Int).toNat none) errs (errs.length : Int) 0) else none))
noncomputable def errors_Join.b1 (k : Nat) (h : errors_Join.Hs)  (e__1 : List (Option Int)) (t26 : List (Option Int)) (t27 : Int) (t28 : Int) : Option (Option Int) := if t28 < t27 then (if (0 : Int) ≤ t28 ∧ t28 < (t26.length : Int) then (if ((rd t26 t28).isSome) = true then (none) else (h.l1 e__1 t26 t27 (w64 (t28 + 1)))) else none) else (none)
noncomputable def errors_Join.hs : Nat → errors_Join.Hs
 | 0 => ⟨fun _ _ _ _ _ => none, fun _ _ _ _ => none⟩
 | k + 1 => ⟨fun x0 x1 x2 x3 x4 => errors_Join.b0 k (errors_Join.hs k) x0 x1 x2 x3 x4, fun x0 x1 x2 x3 => errors_Join.b1 k (errors_Join.hs k) x0 x1 x2 x3⟩
noncomputable def errors_Join.f (k : Nat) (errs : List (Option Int)) : Option (Option Int) := (fun h : errors_Join.Hs => h.l0 errs 0 errs (errs.length : Int) 0) (errors_Join.hs k)
structure errors_Join.LE (h h' : errors_Join.Hs) : Prop where
 l0 : ∀ y0 y1 y2 y3 y4, LeO (h.l0 y0 y1 y2 y3 y4) (h'.l0 y0 y1 y2 y3 y4)
 l1 : ∀ y0 y1 y2 y3, LeO (h.l1 y0 y1 y2 y3) (h'.l1 y0 y1 y2 y3)
theorem errors_Join.b0_mono {k : Nat} {h h' : errors_Join.Hs} (hl : errors_Join.LE h h') : ∀ y0 y1 y2 y3 y4, LeO (errors_Join.b0 k h y0 y1 y2 y3 y4) (errors_Join.b0 (k + 1) h' y0 y1 y2 y3 y4) := fun _ _ _ _ _ => (LeO.ite (LeO.ite (LeO.ite (hl.l0 _ _ _ _ _) (hl.l0 _ _ _ _ _)) (LeO.refl _)) (LeO.ite (LeO.refl _) (LeO.ite (hl.l1 _ _ _ _) (LeO.refl _))))
theorem errors_Join.b1_mono {k : Nat} {h h' : errors_Join.Hs} (hl : errors_Join.LE h h') : ∀ y0 y1 y2 y3, LeO (errors_Join.b1 k h y0 y1 y2 y3) (errors_Join.b1 (k + 1) h' y0 y1 y2 y3) := fun _ _ _ _ => (LeO.ite (LeO.ite (LeO.ite (LeO.refl _) (hl.l1 _ _ _ _)) (LeO.refl _)) (LeO.refl _))
theorem errors_Join.hs_mono : ∀ k, errors_Join.LE (errors_Join.hs k) (errors_Join.hs (k + 1))
 | 0 => ⟨fun _ _ _ _ _ => LeO.none _, fun _ _ _ _ => LeO.none _⟩
 | k + 1 => ⟨errors_Join.b0_mono (k := k) (errors_Join.hs_mono k), errors_Join.b1_mono (k := k) (errors_Join.hs_mono k)⟩
theorem errors_Join.mono : ∀ k y0, LeO (errors_Join.f k y0) (errors_Join.f (k + 1) y0) := fun k _ => have hl := errors_Join.hs_mono k; by unfold errors_Join.f; exact (hl.l0 _ _ _ _ _)
noncomputable def errors_Join.Kl0 : List Item := .code (lopB (blkB (seqR (seqL (seqR (seqR errors_Join.C)))))) :: .inLoop (lopB (blkB (seqR (seqL (seqR (seqR errors_Join.C)))))) :: .inBlock 0 :: .code (seqR (seqR (seqR errors_Join.C))) :: []
noncomputable def errors_Join.Kl1 : List Item := .code (lopB (blkB (seqR (seqL (seqR (seqR (seqR (seqR (seqR errors_Join.C))))))))) :: .inLoop (lopB (blkB (seqR (seqL (seqR (seqR (seqR (seqR (seqR errors_Join.C))))))))) :: .inBlock 2 :: .code (seqR (seqR (seqR (seqR (seqR (seqR errors_Join.C)))))) :: []
structure errors_Join.OK (h : errors_Join.Hs) : Prop where
 l0 : ∀ {H0 H : Hp} {L : Items} {r : (Option Int)} {jk_ : Nat → Value} {errs : List (Option Int)} {n : Int} {t9 : List (Option Int)} {t10 : Int} {t11 : Int} {v_errs : Value} {v_t9 : Value} (_ : H0.le H) (_he : h.l0 errs n t9 t10 t11 = some r) (_h_errs : Src (Kd.err 104) H L v_errs errs) (_h_t9 : Src (Kd.err 104) H L v_t9 t9), Wp Tryz.prog 129 47 errors_Join.Kl0 (upd (upd (upd (upd (upd (upd jk_ 0 (v_errs)) 2 (errV 104 none)) 3 (.int .i64 n)) 9 (v_t9)) 10 (.int .i64 t10)) 11 (.int .i64 t11)) H (L) (errors_Join.R H0 L r)
 l1 : ∀ {H0 H : Hp} {L : Items} {r : (Option Int)} {jk_ : Nat → Value} {e__1 : List (Option Int)} {t26 : List (Option Int)} {t27 : Int} {t28 : Int} {v_e__1 : Value} {v_t26 : Value} {b_e_ : Nat} (_ : H0.le H) (_he : h.l1 e__1 t26 t27 t28 = some r) (_h_e__1 : Ro (Kd.err 104) H v_e__1 e__1) (_h_t26 : Src (Kd.err 104) H L v_t26 t26), Wp Tryz.prog 129 47 errors_Join.Kl1 (upd (upd (upd (upd (upd jk_ 2 (errV 104 none)) 6 (.pointer (some ⟨b_e_, 0, none⟩))) 26 (v_t26)) 27 (.int .i64 t27)) 28 (.int .i64 t28)) H (some (b_e_, .cells ⟨[v_e__1]⟩ 212 (0, 0)) :: L) (errors_Join.R H0 L r)
theorem errors_Join.b0_ok {k : Nat} {h : errors_Join.Hs} (hh : errors_Join.OK h) {H0 H : Hp} {L : Items} {r : (Option Int)} {jk_ : Nat → Value} {errs : List (Option Int)} {n : Int} {t9 : List (Option Int)} {t10 : Int} {t11 : Int} {v_errs : Value} {v_t9 : Value} (hle : H0.le H) (he : errors_Join.b0 k h errs n t9 t10 t11 = some r) (h_errs : Src (Kd.err 104) H L v_errs errs) (h_t9 : Src (Kd.err 104) H L v_t9 t9) : Wp Tryz.prog 129 47 errors_Join.Kl0 (upd (upd (upd (upd (upd (upd jk_ 0 (v_errs)) 2 (errV 104 none)) 3 (.int .i64 n)) 9 (v_t9)) 10 (.int .i64 t10)) 11 (.int .i64 t11)) H (L) (errors_Join.R H0 L r) := by
 unfold errors_Join.b0 at he
 unfold errors_Join.Kl0
 refine w_seq <| w_region rfl <| w_d rfl (d_lss rfl rfl) <| w_done <| w_seq ?_
 rcases its he with ⟨c1, he⟩ | ⟨c1, he⟩
 ·
  refine w_then rfl (decide_eq_true c1) <| w_skip <| w_seq <| w_block <| w_seq <| w_region rfl ?_
  obtain ⟨c2, he⟩ := rq he
  refine w_d rfl (d_index (sz := 1) Tryz.underlying204 sz30 rfl h_t9 rfl c2) ?_
  obtain ⟨_, l3, r4⟩ := el_of (kd := (Kd.err 104)) h_t9 c2
  obtain rfl := r4
  refine w_d rfl (d_load (v := errV 104 (rd t9 t11)) (cs := [errV 104 (rd t9 t11)]) ty30 rfl rfl (by decide) l3 rfl) <| w_d rfl (d_assign (v := errV 104 (rd t9 t11)) rfl) <| w_done <| w_seq <| w_region rfl <| w_d rfl (d_move (v := errV 104 (rd t9 t11)) rfl) <| w_d rfl (d_nenil (e := (rd t9 t11)) Tryz.underlying30 rfl) <| w_done ?_
  rcases its he with ⟨c5, he⟩ | ⟨c5, he⟩
  ·
   refine w_then rfl c5 <| w_region rfl <| w_d rfl (d_move (v := .int .i64 n) rfl) <| w_d rfl (d_add (c := w64 (n + 1)) rfl rfl rfl) <| w_d rfl (d_assign (v := .int .i64 (w64 (n + 1))) rfl) <| w_done <| w_inBlock <| w_region rfl <| w_d rfl (d_add (c := w64 (t11 + 1)) rfl rfl rfl) <| w_d rfl (d_move (v := .int .i64 (w64 (t11 + 1))) rfl) <| w_done <| w_inLoop ?_
   refine w_sl 0 (v_errs) rfl <| w_sl 2 (errV 104 none) rfl <| w_sl 3 (.int .i64 (w64 (n + 1))) rfl <| w_sl 9 (v_t9) rfl <| w_sl 10 (.int .i64 t10) rfl <| w_sl 11 (.int .i64 (w64 (t11 + 1))) rfl <| hh.l0 hle he h_errs h_t9
  ·
   refine w_else rfl (Bool.eq_false_iff.2 c5) <| w_skip <| w_inBlock <| w_region rfl <| w_d rfl (d_add (c := w64 (t11 + 1)) rfl rfl rfl) <| w_d rfl (d_move (v := .int .i64 (w64 (t11 + 1))) rfl) <| w_done <| w_inLoop <| w_sl 0 (v_errs) rfl <| w_sl 2 (errV 104 none) rfl <| w_sl 3 (.int .i64 n) rfl <| w_sl 9 (v_t9) rfl ?_
   refine w_sl 10 (.int .i64 t10) rfl <| w_sl 11 (.int .i64 (w64 (t11 + 1))) rfl <| hh.l0 hle he h_errs h_t9
 ·
  refine w_else rfl (decide_eq_false c1) <| w_exit rfl <| w_seq <| w_seq <| w_region rfl <| w_d rfl (d_move (v := .int .i64 n) rfl) <| w_d rfl (d_eql rfl rfl) <| w_done ?_
  rcases its he with ⟨c6, he⟩ | ⟨c6, he⟩
  ·
   refine w_then rfl (decide_eq_true c6) <| w_seq <| w_region rfl <| w_d rfl (d_assign (v := errV 104 none) rfl) <| w_done ?_
   obtain rfl := Option.some.inj he
   refine w_return fn_129 rs_129 (.tmp (v := errV 104 none) rfl .nil) <| ⟨⟨[], rfl⟩, hle, rfl⟩
  ·
   refine w_else rfl (decide_eq_false c6) <| w_skip <| w_seq <| w_region rfl <| w_d rfl (d_move (v := .int .i64 n) rfl) ?_
   obtain ⟨c7, he⟩ := rq he
   refine w_a rfl (o_make' (kd := (Kd.err 104)) (z0 := none) Tryz.underlying204 ti30 (zp30 _) rfl rfl (by omega) (by omega) (by omega)) ?_
   rintro v8 _ _ ⟨i9, rfl, rfl, h10⟩
   refine w_freeze h10 .here ?_
   intro H11 e12 h13
   refine w_d rfl (d_build (cs' := [v8]) Tryz.underlying212 zr212 rfl (by kernel_rfl) (parts := [(0, v8)]) rfl (.cons (place_of rfl sz204 rfl) h13.cells rfl (.here .done) .nil)) <| w_a rfl (o_box (v := .agg ⟨[v8]⟩) rfl rfl) ?_
   rintro _ _ _ ⟨b14, rfl, rfl, rfl⟩
   refine w_d rfl (d_assign (v := .pointer (some ⟨b14, 0, none⟩)) rfl) <| w_done <| w_seq <| w_seq <| w_region rfl <| w_d rfl (d_move (v := v_errs) rfl) <| w_d rfl (d_len Tryz.underlying204 rfl (h_errs.mono e12).th.th) <| w_d rfl (d_move (v := .int .i64 0) rfl) <| w_done <| w_block <| w_loop <| w_del (.there .here) ?_
   refine w_sl 2 (errV 104 none) rfl <| w_sl 6 (.pointer (some ⟨b14, 0, none⟩)) rfl <| w_sl 26 (v_errs) rfl <| w_sl 27 (.int .i64 (errs.length : Int)) rfl <| w_sl 28 (.int .i64 0) rfl <| hh.l1 (hle.trans e12) he h13 (h_errs.mono e12)
theorem errors_Join.b1_ok {k : Nat} {h : errors_Join.Hs} (hh : errors_Join.OK h) {H0 H : Hp} {L : Items} {r : (Option Int)} {jk_ : Nat → Value} {e__1 : List (Option Int)} {t26 : List (Option Int)} {t27 : Int} {t28 : Int} {v_e__1 : Value} {v_t26 : Value} {b_e_ : Nat} (hle : H0.le H) (he : errors_Join.b1 k h e__1 t26 t27 t28 = some r) (h_e__1 : Ro (Kd.err 104) H v_e__1 e__1) (h_t26 : Src (Kd.err 104) H L v_t26 t26) : Wp Tryz.prog 129 47 errors_Join.Kl1 (upd (upd (upd (upd (upd jk_ 2 (errV 104 none)) 6 (.pointer (some ⟨b_e_, 0, none⟩))) 26 (v_t26)) 27 (.int .i64 t27)) 28 (.int .i64 t28)) H (some (b_e_, .cells ⟨[v_e__1]⟩ 212 (0, 0)) :: L) (errors_Join.R H0 L r) := by
 unfold errors_Join.b1 at he
 unfold errors_Join.Kl1
 refine w_seq <| w_region rfl <| w_d rfl (d_lss rfl rfl) <| w_done <| w_seq ?_
 rcases its he with ⟨c15, he⟩ | ⟨c15, he⟩
 ·
  refine w_then rfl (decide_eq_true c15) <| w_skip <| w_seq <| w_block <| w_seq <| w_region rfl ?_
  obtain ⟨c16, he⟩ := rq he
  refine w_d rfl (d_index (sz := 1) Tryz.underlying204 sz30 rfl h_t26.th rfl c16) ?_
  obtain ⟨_, l17, r18⟩ := el_of (kd := (Kd.err 104)) h_t26.th c16
  obtain rfl := r18
  refine w_d rfl (d_load (v := errV 104 (rd t26 t28)) (cs := [errV 104 (rd t26 t28)]) ty30 rfl rfl (by decide) l17 rfl) <| w_d rfl (d_assign (v := errV 104 (rd t26 t28)) rfl) <| w_done <| w_seq <| w_region rfl <| w_d rfl (d_move (v := errV 104 (rd t26 t28)) rfl) <| w_d rfl (d_nenil (e := (rd t26 t28)) Tryz.underlying30 rfl) <| w_done ?_
  rcases its he with ⟨c19, he⟩ | ⟨c19, he⟩
  ·
   refine w_then rfl c19 <| absurd he (by simp)
  ·
   refine w_else rfl (Bool.eq_false_iff.2 c19) <| w_skip <| w_inBlock <| w_region rfl <| w_d rfl (d_add (c := w64 (t28 + 1)) rfl rfl rfl) <| w_d rfl (d_move (v := .int .i64 (w64 (t28 + 1))) rfl) <| w_done <| w_inLoop <| w_sl 2 (errV 104 none) rfl <| w_sl 6 (.pointer (some ⟨b_e_, 0, none⟩)) rfl <| w_sl 26 (v_t26) rfl <| w_sl 27 (.int .i64 t27) rfl ?_
   refine w_sl 28 (.int .i64 (w64 (t28 + 1))) rfl <| hh.l1 hle he h_e__1 h_t26
 ·
  refine w_else rfl (decide_eq_false c15) <| absurd he (by simp)
theorem errors_Join.ok : ∀ k, errors_Join.OK (errors_Join.hs k)
 | 0 => ⟨(by intros; exact nomatch (show none = some _ from by assumption)), (by intros; exact nomatch (show none = some _ from by assumption))⟩
 | k + 1 => ⟨errors_Join.b0_ok (k := k) (errors_Join.ok k), errors_Join.b1_ok (k := k) (errors_Join.ok k)⟩
theorem errors_Join.calls (k : Nat) {H : Hp} {L : Items} {errs : List (Option Int)} {v0_errs : Value} {r : (Option Int)} (he : errors_Join.f k errs = some r) (h0_errs : Src (Kd.err 104) H L v0_errs errs) : Ct Tryz.prog 129 ⟨[v0_errs]⟩ H L (fun v H' L' => L = L' ∧ H = H' ∧ v = errV 104 r) := by
 refine ct_outs (O := errors_Join.out r) (fun _ _ h => h) ?_
 have hle : H.le H := .refl _
 have hh := errors_Join.ok k
 unfold errors_Join.f at he
 refine ct_enter (args := [v0_errs]) fn_129 rfl nt_129 rfl <| w_seq <| w_region rfl <| w_d rfl (d_assign (v := errV 104 none) rfl) <| w_done <| w_seq <| w_region rfl <| w_d rfl (d_assign (v := .int .i64 0) rfl) <| w_done <| w_seq <| w_seq <| w_region rfl ?_
 refine w_d rfl (d_move (v := v0_errs) rfl) <| w_d rfl (d_len Tryz.underlying204 rfl h0_errs) <| w_d rfl (d_move (v := .int .i64 0) rfl) <| w_done <| w_block <| w_loop <| w_sl 0 (v0_errs) rfl <| w_sl 2 (errV 104 none) rfl <| w_sl 3 (.int .i64 0) rfl <| w_sl 9 (v0_errs) rfl <| w_sl 10 (.int .i64 (errs.length : Int)) rfl <| w_sl 11 (.int .i64 0) rfl <| hh.l0 hle he h0_errs h0_errs
/-! ### radome/interval.made -/
noncomputable def interval_made.C : Code := (Tryz.f80.body).getD .skip
def interval_made.out (r : interval_Span × (Option Int)) (H : Hp) (v : Value) : Prop := ∃ v0, ∃ v1, ∃ v2, ∃ v3, v = .tuple ⟨[.agg ⟨[.bool r.1.f_Low.f_n.f_neg, v0, .bool r.1.f_Low.f_d.f_neg, v1, .bool r.1.f_High.f_n.f_neg, v2, .bool r.1.f_High.f_d.f_neg, v3]⟩, errV 104 r.2]⟩ ∧ Ro (Kd.int .u32) H v0 r.1.f_Low.f_n.f_w ∧ Ro (Kd.int .u32) H v1 r.1.f_Low.f_d.f_w ∧ Ro (Kd.int .u32) H v2 r.1.f_High.f_n.f_w ∧ Ro (Kd.int .u32) H v3 r.1.f_High.f_d.f_w
theorem interval_made.out_mono (r : interval_Span × (Option Int)) {H H' : Hp} {v : Value} (hle : H.le H') (h : interval_made.out r H v) : interval_made.out r H' v := by
 obtain ⟨v0, v1, v2, v3, rfl, h0, h1, h2, h3⟩ := h; exact ⟨v0, v1, v2, v3, rfl, h0.mono hle, h1.mono hle, h2.mono hle, h3.mono hle⟩
abbrev interval_made.R (H0 : Hp) (L : Items) (r : interval_Span × (Option Int)) : Value → Hp → Items → Prop := fun v H' L' => (∃ p, L' = p ++ L) ∧ H0.le H' ∧ interval_made.out r H' v
noncomputable def interval_made.f (k : Nat) (low : ratio_Ratio) (one_ : Option Int) (high : ratio_Ratio) (two_ : Option Int) : Option (interval_Span × (Option Int)) := (errors_Join.f k [one_, two_]).bind fun y7 => if y7.isSome = true then (some ((⟨(⟨(⟨false, []⟩ : wide_Int), (⟨false, []⟩ : wide_Int)⟩ : ratio_Ratio), (⟨(⟨false, []⟩ : wide_Int), (⟨false, []⟩ : wide_Int)⟩ : ratio_Ratio)⟩ : interval_Span), some 12)) else (some ((⟨low, high⟩ : interval_Span), none))
theorem interval_made.mono : ∀ k y0 y1 y2 y3, LeO (interval_made.f k y0 y1 y2 y3) (interval_made.f (k + 1) y0 y1 y2 y3) := fun k _ _ _ _ => by unfold interval_made.f; exact (LeO.bind (errors_Join.mono k _) fun _ => LeO.ite (LeO.refl _) (LeO.refl _))
theorem interval_made.calls (k : Nat) {H : Hp} {L : Items} {low : ratio_Ratio} {one_ : Option Int} {high : ratio_Ratio} {two_ : Option Int} {v0_low : Value} {v1_low : Value} {v2_high : Value} {v3_high : Value} {r : interval_Span × (Option Int)} (he : interval_made.f k low one_ high two_ = some r) (h0_low : Ro (Kd.int .u32) H v0_low low.f_n.f_w) (h1_low : Ro (Kd.int .u32) H v1_low low.f_d.f_w) (h2_high : Ro (Kd.int .u32) H v2_high high.f_n.f_w) (h3_high : Ro (Kd.int .u32) H v3_high high.f_d.f_w) : Ct Tryz.prog 80 ⟨[.agg ⟨[.bool low.f_n.f_neg, v0_low, .bool low.f_d.f_neg, v1_low]⟩, errV 104 one_, .agg ⟨[.bool high.f_n.f_neg, v2_high, .bool high.f_d.f_neg, v3_high]⟩, errV 104 two_]⟩ H L (fun v H' L' => L = L' ∧ H.le H' ∧ interval_made.out r H' v) := by
 refine ct_out (O := interval_made.out r) ?_
 have hle : H.le H := .refl _
 unfold interval_made.f at he
 refine ct_enter (args := [.agg ⟨[.bool low.f_n.f_neg, v0_low, .bool low.f_d.f_neg, v1_low]⟩, errV 104 one_, .agg ⟨[.bool high.f_n.f_neg, v2_high, .bool high.f_d.f_neg, v3_high]⟩, errV 104 two_]) fn_80 rfl nt_80 rfl <| w_seq <| w_region rfl <| w_a rfl (o_box (v := .agg ⟨[.bool low.f_n.f_neg, v0_low, .bool low.f_d.f_neg, v1_low]⟩) rfl rfl) ?_
 rintro _ _ _ ⟨b1, rfl, rfl, rfl⟩
 refine w_a rfl (o_box (v := .agg ⟨[.bool high.f_n.f_neg, v2_high, .bool high.f_d.f_neg, v3_high]⟩) rfl rfl) ?_
 rintro _ _ _ ⟨b2, rfl, rfl, rfl⟩
 refine w_a rfl (o_alloc zr28 rfl) ?_
 rintro _ _ _ ⟨b3, rfl, rfl, rfl⟩
 refine w_d rfl (d_assign (v := errV 104 none) rfl) <| w_done <| w_seq <| w_seq <| w_region rfl <| w_d rfl (d_move (v := errV 104 one_) rfl) <| w_d rfl (d_move (v := errV 104 two_) rfl) <| w_a rfl (o_buildSlice' (kd := (Kd.err 104)) (css := [[errV 104 one_], [errV 104 two_]]) (xs := [one_, two_]) (parts := [(0, errV 104 one_), (1, errV 104 two_)]) Tryz.underlying204 ti30 rfl ⟨_, _, rfl, (errV_cells _ _), ⟨_, _, rfl, (errV_cells _ _), rfl⟩⟩ ⟨rfl, ⟨rfl, trivial⟩⟩ rfl (by decide)) ?_
 rintro v4 _ _ ⟨i5, rfl, rfl, h6⟩
 obtain ⟨y7, hy8, he⟩ := Option.bind_eq_some_iff.1 he
 refine w_d rfl (call_d (o_call co129 (vs := [v4]) rfl (errors_Join.calls k hy8 (h6.src .here)))) <| w_d rfl (d_assign (v := errV 104 y7) rfl) <| w_done <| w_seq <| w_region rfl <| w_d rfl (d_move (v := errV 104 y7) rfl) <| w_d rfl (d_nenil (e := y7) Tryz.underlying30 rfl) <| w_done ?_
 rcases its he with ⟨c11, he⟩ | ⟨c11, he⟩
 ·
  refine w_then rfl c11 <| w_seq <| w_region rfl <| w_d rfl (d_build (cs' := [.bool false, .slice none 0 0, .bool false, .slice none 0 0, .bool false, .slice none 0 0, .bool false, .slice none 0 0]) Tryz.underlying28 zr28 rfl (by kernel_rfl) (parts := []) rfl .nil) <| w_d rfl (d_iface (v := .int .i64 12) Tryz.underlying104 rfl rfl) <| w_a0 rfl (o_store (v := .agg ⟨[.bool false, .slice none 0 0, .bool false, .slice none 0 0, .bool false, .slice none 0 0, .bool false, .slice none 0 0]⟩) sz28 rfl rfl rfl rfl (one_cons rfl (one_cons rfl (one_cons rfl (one_cons rfl (one_cons rfl (one_cons rfl (one_cons rfl (one_cons rfl one_nil)))))))) (.there .here) (.here (.here (.here (.here (.here (.here (.here (.here .done))))))))) ?_
  rintro _ _ _ ⟨rfl, rfl, rfl⟩
  refine w_d rfl (d_assign (v := errV 104 (some 12)) rfl) <| w_done ?_
  obtain rfl := Option.some.inj he
  refine w_return fn_80 rs_80 (.box (v := .agg ⟨[.bool false, .slice none 0 0, .bool false, .slice none 0 0, .bool false, .slice none 0 0, .bool false, .slice none 0 0]⟩) rfl ty28 rfl rfl (.there .here) rfl (.tmp (v := errV 104 (some 12)) rfl .nil)) <| ⟨⟨[_, _, _, _], rfl⟩, hle, ⟨.slice none 0 0, .slice none 0 0, .slice none 0 0, .slice none 0 0, rfl, (ro_nil _ _), (ro_nil _ _), (ro_nil _ _), (ro_nil _ _)⟩⟩
 ·
  refine w_else rfl (Bool.eq_false_iff.2 c11) <| w_skip <| w_seq <| w_region rfl <| w_d rfl (d_loado (v := .agg ⟨[.bool low.f_n.f_neg, v0_low, .bool low.f_d.f_neg, v1_low]⟩) ty26 rfl (.there (.there (.there .here))) rfl rfl rfl rfl) <| w_d rfl (d_loado (v := .agg ⟨[.bool high.f_n.f_neg, v2_high, .bool high.f_d.f_neg, v3_high]⟩) ty26 rfl (.there (.there .here)) rfl rfl rfl rfl) <| w_d rfl (d_build (cs' := [.bool low.f_n.f_neg, v0_low, .bool low.f_d.f_neg, v1_low, .bool high.f_n.f_neg, v2_high, .bool high.f_d.f_neg, v3_high]) Tryz.underlying28 zr28 rfl (by kernel_rfl) (parts := [(0, .agg ⟨[.bool low.f_n.f_neg, v0_low, .bool low.f_d.f_neg, v1_low]⟩), (1, .agg ⟨[.bool high.f_n.f_neg, v2_high, .bool high.f_d.f_neg, v3_high]⟩)]) rfl (.cons (place_of rfl sz26 rfl) rfl rfl (.here (.here (.here (.here .done)))) (.cons (place_of rfl sz26 rfl) rfl rfl (.there (.there (.there (.there (.here (.here (.here (.here .done)))))))) .nil))) <| w_a0 rfl (o_store (v := .agg ⟨[.bool low.f_n.f_neg, v0_low, .bool low.f_d.f_neg, v1_low, .bool high.f_n.f_neg, v2_high, .bool high.f_d.f_neg, v3_high]⟩) sz28 rfl rfl rfl rfl (one_cons rfl (one_cons (h0_low.one) (one_cons rfl (one_cons (h1_low.one) (one_cons rfl (one_cons (h2_high.one) (one_cons rfl (one_cons (h3_high.one) one_nil)))))))) (.there .here) (.here (.here (.here (.here (.here (.here (.here (.here .done))))))))) ?_
  rintro _ _ _ ⟨rfl, rfl, rfl⟩
  refine w_d rfl (d_assign (v := errV 104 none) rfl) <| w_done ?_
  obtain rfl := Option.some.inj he
  refine w_return fn_80 rs_80 (.box (v := .agg ⟨[.bool low.f_n.f_neg, v0_low, .bool low.f_d.f_neg, v1_low, .bool high.f_n.f_neg, v2_high, .bool high.f_d.f_neg, v3_high]⟩) rfl ty28 rfl rfl (.there .here) rfl (.tmp (v := errV 104 none) rfl .nil)) <| ⟨⟨[_, _, _, _], rfl⟩, hle, ⟨v0_low, v1_low, v2_high, v3_high, rfl, h0_low, h1_low, h2_high, h3_high⟩⟩
/-! ### radome/interval.Add -/
noncomputable def interval_Add.C : Code := (Tryz.f25.body).getD .skip
def interval_Add.out (r : interval_Span × (Option Int)) (H : Hp) (v : Value) : Prop := ∃ v0, ∃ v1, ∃ v2, ∃ v3, v = .tuple ⟨[.agg ⟨[.bool r.1.f_Low.f_n.f_neg, v0, .bool r.1.f_Low.f_d.f_neg, v1, .bool r.1.f_High.f_n.f_neg, v2, .bool r.1.f_High.f_d.f_neg, v3]⟩, errV 104 r.2]⟩ ∧ Ro (Kd.int .u32) H v0 r.1.f_Low.f_n.f_w ∧ Ro (Kd.int .u32) H v1 r.1.f_Low.f_d.f_w ∧ Ro (Kd.int .u32) H v2 r.1.f_High.f_n.f_w ∧ Ro (Kd.int .u32) H v3 r.1.f_High.f_d.f_w
theorem interval_Add.out_mono (r : interval_Span × (Option Int)) {H H' : Hp} {v : Value} (hle : H.le H') (h : interval_Add.out r H v) : interval_Add.out r H' v := by
 obtain ⟨v0, v1, v2, v3, rfl, h0, h1, h2, h3⟩ := h; exact ⟨v0, v1, v2, v3, rfl, h0.mono hle, h1.mono hle, h2.mono hle, h3.mono hle⟩
abbrev interval_Add.R (H0 : Hp) (L : Items) (r : interval_Span × (Option Int)) : Value → Hp → Items → Prop := fun v H' L' => (∃ p, L' = p ++ L) ∧ H0.le H' ∧ interval_Add.out r H' v
noncomputable def interval_Add.f (k : Nat) (a : interval_Span) (b : interval_Span) : Option (interval_Span × (Option Int)) := (interval_check.f k [a, b]).bind fun y7 => if y7.isSome = true then (some ((⟨(⟨(⟨false, []⟩ : wide_Int), (⟨false, []⟩ : wide_Int)⟩ : ratio_Ratio), (⟨(⟨false, []⟩ : wide_Int), (⟨false, []⟩ : wide_Int)⟩ : ratio_Ratio)⟩ : interval_Span), y7)) else ((ratio_Ratio_Add.f k a.f_Low b.f_Low).bind fun y12 => (ratio_Ratio_Add.f k a.f_High b.f_High).bind fun y21 => (interval_made.f k y12.1 y12.2 y21.1 y21.2).bind fun y30 => some (y30.1, y30.2))
theorem interval_Add.mono : ∀ k y0 y1, LeO (interval_Add.f k y0 y1) (interval_Add.f (k + 1) y0 y1) := fun k _ _ => by unfold interval_Add.f; exact (LeO.bind (interval_check.mono k _) fun _ => LeO.ite (LeO.refl _) (LeO.bind (ratio_Ratio_Add.mono k _ _) fun _ => LeO.bind (ratio_Ratio_Add.mono k _ _) fun _ => LeO.bind (interval_made.mono k _ _ _ _) fun _ => LeO.refl _))
theorem interval_Add.calls (k : Nat) {H : Hp} {L : Items} {a : interval_Span} {b : interval_Span} {v0_a : Value} {v1_a : Value} {v2_a : Value} {v3_a : Value} {v4_b : Value} {v5_b : Value} {v6_b : Value} {v7_b : Value} {r : interval_Span × (Option Int)} (he : interval_Add.f k a b = some r) (h0_a : Ro (Kd.int .u32) H v0_a a.f_Low.f_n.f_w) (h1_a : Ro (Kd.int .u32) H v1_a a.f_Low.f_d.f_w) (h2_a : Ro (Kd.int .u32) H v2_a a.f_High.f_n.f_w) (h3_a : Ro (Kd.int .u32) H v3_a a.f_High.f_d.f_w) (h4_b : Ro (Kd.int .u32) H v4_b b.f_Low.f_n.f_w) (h5_b : Ro (Kd.int .u32) H v5_b b.f_Low.f_d.f_w) (h6_b : Ro (Kd.int .u32) H v6_b b.f_High.f_n.f_w) (h7_b : Ro (Kd.int .u32) H v7_b b.f_High.f_d.f_w) : Ct Tryz.prog 25 ⟨[.agg ⟨[.bool a.f_Low.f_n.f_neg, v0_a, .bool a.f_Low.f_d.f_neg, v1_a, .bool a.f_High.f_n.f_neg, v2_a, .bool a.f_High.f_d.f_neg, v3_a]⟩, .agg ⟨[.bool b.f_Low.f_n.f_neg, v4_b, .bool b.f_Low.f_d.f_neg, v5_b, .bool b.f_High.f_n.f_neg, v6_b, .bool b.f_High.f_d.f_neg, v7_b]⟩]⟩ H L (fun v H' L' => L = L' ∧ H.le H' ∧ interval_Add.out r H' v) := by
 refine ct_out (O := interval_Add.out r) ?_
 have hle : H.le H := .refl _
 unfold interval_Add.f at he
 refine ct_enter (args := [.agg ⟨[.bool a.f_Low.f_n.f_neg, v0_a, .bool a.f_Low.f_d.f_neg, v1_a, .bool a.f_High.f_n.f_neg, v2_a, .bool a.f_High.f_d.f_neg, v3_a]⟩, .agg ⟨[.bool b.f_Low.f_n.f_neg, v4_b, .bool b.f_Low.f_d.f_neg, v5_b, .bool b.f_High.f_n.f_neg, v6_b, .bool b.f_High.f_d.f_neg, v7_b]⟩]) fn_25 rfl nt_25 rfl <| w_seq <| w_region rfl <| w_a rfl (o_box (v := .agg ⟨[.bool a.f_Low.f_n.f_neg, v0_a, .bool a.f_Low.f_d.f_neg, v1_a, .bool a.f_High.f_n.f_neg, v2_a, .bool a.f_High.f_d.f_neg, v3_a]⟩) rfl rfl) ?_
 rintro _ _ _ ⟨b1, rfl, rfl, rfl⟩
 refine w_a rfl (o_box (v := .agg ⟨[.bool b.f_Low.f_n.f_neg, v4_b, .bool b.f_Low.f_d.f_neg, v5_b, .bool b.f_High.f_n.f_neg, v6_b, .bool b.f_High.f_d.f_neg, v7_b]⟩) rfl rfl) ?_
 rintro _ _ _ ⟨b2, rfl, rfl, rfl⟩
 refine w_a rfl (o_alloc zr28 rfl) ?_
 rintro _ _ _ ⟨b3, rfl, rfl, rfl⟩
 refine w_d rfl (d_assign (v := errV 104 none) rfl) <| w_done <| w_seq <| w_seq <| w_region rfl <| w_d rfl (d_loado (v := .agg ⟨[.bool a.f_Low.f_n.f_neg, v0_a, .bool a.f_Low.f_d.f_neg, v1_a, .bool a.f_High.f_n.f_neg, v2_a, .bool a.f_High.f_d.f_neg, v3_a]⟩) ty28 rfl (.there (.there .here)) rfl rfl rfl rfl) <| w_d rfl (d_loado (v := .agg ⟨[.bool b.f_Low.f_n.f_neg, v4_b, .bool b.f_Low.f_d.f_neg, v5_b, .bool b.f_High.f_n.f_neg, v6_b, .bool b.f_High.f_d.f_neg, v7_b]⟩) ty28 rfl (.there .here) rfl rfl rfl rfl) <| w_a rfl (o_buildSlice' (kd := k_interval_Span) (css := [[.bool a.f_Low.f_n.f_neg, v0_a, .bool a.f_Low.f_d.f_neg, v1_a, .bool a.f_High.f_n.f_neg, v2_a, .bool a.f_High.f_d.f_neg, v3_a], [.bool b.f_Low.f_n.f_neg, v4_b, .bool b.f_Low.f_d.f_neg, v5_b, .bool b.f_High.f_n.f_neg, v6_b, .bool b.f_High.f_d.f_neg, v7_b]]) (xs := [a, b]) (parts := [(0, .agg ⟨[.bool a.f_Low.f_n.f_neg, v0_a, .bool a.f_Low.f_d.f_neg, v1_a, .bool a.f_High.f_n.f_neg, v2_a, .bool a.f_High.f_d.f_neg, v3_a]⟩), (1, .agg ⟨[.bool b.f_Low.f_n.f_neg, v4_b, .bool b.f_Low.f_d.f_neg, v5_b, .bool b.f_High.f_n.f_neg, v6_b, .bool b.f_High.f_d.f_neg, v7_b]⟩)]) Tryz.underlying178 ti28 rfl ⟨_, _, rfl, rfl, ⟨_, _, rfl, rfl, rfl⟩⟩ ⟨(k_interval_Span_in (x := a) h0_a h1_a h2_a h3_a), ⟨(k_interval_Span_in (x := b) h4_b h5_b h6_b h7_b), trivial⟩⟩ rfl (by decide)) ?_
 rintro v4 _ _ ⟨i5, rfl, rfl, h6⟩
 obtain ⟨y7, hy8, he⟩ := Option.bind_eq_some_iff.1 he
 refine w_d rfl (call_d (o_call co79 (vs := [v4]) rfl (interval_check.calls k hy8 (h6.src .here)))) <| w_d rfl (d_assign (v := errV 104 y7) rfl) <| w_done <| w_seq <| w_region rfl <| w_d rfl (d_move (v := errV 104 y7) rfl) <| w_d rfl (d_nenil (e := y7) Tryz.underlying30 rfl) <| w_done ?_
 rcases its he with ⟨c11, he⟩ | ⟨c11, he⟩
 ·
  refine w_then rfl c11 <| w_seq <| w_region rfl <| w_d rfl (d_build (cs' := [.bool false, .slice none 0 0, .bool false, .slice none 0 0, .bool false, .slice none 0 0, .bool false, .slice none 0 0]) Tryz.underlying28 zr28 rfl (by kernel_rfl) (parts := []) rfl .nil) <| w_d rfl (d_move (v := errV 104 y7) rfl) <| w_a0 rfl (o_store (v := .agg ⟨[.bool false, .slice none 0 0, .bool false, .slice none 0 0, .bool false, .slice none 0 0, .bool false, .slice none 0 0]⟩) sz28 rfl rfl rfl rfl (one_cons rfl (one_cons rfl (one_cons rfl (one_cons rfl (one_cons rfl (one_cons rfl (one_cons rfl (one_cons rfl one_nil)))))))) (.there .here) (.here (.here (.here (.here (.here (.here (.here (.here .done))))))))) ?_
  rintro _ _ _ ⟨rfl, rfl, rfl⟩
  refine w_d rfl (d_assign (v := errV 104 y7) rfl) <| w_done ?_
  obtain rfl := Option.some.inj he
  refine w_return fn_25 rs_25 (.box (v := .agg ⟨[.bool false, .slice none 0 0, .bool false, .slice none 0 0, .bool false, .slice none 0 0, .bool false, .slice none 0 0]⟩) rfl ty28 rfl rfl (.there .here) rfl (.tmp (v := errV 104 y7) rfl .nil)) <| ⟨⟨[_, _, _, _], rfl⟩, hle, ⟨.slice none 0 0, .slice none 0 0, .slice none 0 0, .slice none 0 0, rfl, (ro_nil _ _), (ro_nil _ _), (ro_nil _ _), (ro_nil _ _)⟩⟩
 ·
  refine w_else rfl (Bool.eq_false_iff.2 c11) <| w_skip <| w_seq <| w_region rfl <| w_d rfl (d_fld (o' := 0) Tryz.underlying28 rfl sz26 rfl rfl rfl) <| w_d rfl (d_loado (v := .agg ⟨[.bool a.f_Low.f_n.f_neg, v0_a, .bool a.f_Low.f_d.f_neg, v1_a]⟩) ty26 rfl (.there (.there (.there .here))) rfl rfl rfl rfl) <| w_d rfl (d_fld (o' := 0) Tryz.underlying28 rfl sz26 rfl rfl rfl) <| w_d rfl (d_loado (v := .agg ⟨[.bool b.f_Low.f_n.f_neg, v4_b, .bool b.f_Low.f_d.f_neg, v5_b]⟩) ty26 rfl (.there (.there .here)) rfl rfl rfl rfl) ?_
  obtain ⟨y12, hy13, he⟩ := Option.bind_eq_some_iff.1 he
  refine w_a rfl (o_call co23 (vs := [.agg ⟨[.bool a.f_Low.f_n.f_neg, v0_a, .bool a.f_Low.f_d.f_neg, v1_a]⟩, .agg ⟨[.bool b.f_Low.f_n.f_neg, v4_b, .bool b.f_Low.f_d.f_neg, v5_b]⟩]) rfl (ratio_Ratio_Add.calls k (a := a.f_Low) (b := b.f_Low) hy13 h0_a h1_a h4_b h5_b)) ?_
  rintro _ H14 _ ⟨rfl, e15, ⟨v16, v18, rfl, h17, h19⟩⟩
  refine w_d rfl (d_move (v := .tuple ⟨[.agg ⟨[.bool y12.1.f_n.f_neg, v16, .bool y12.1.f_d.f_neg, v18]⟩, errV 104 y12.2]⟩) rfl) <| w_d rfl (d_ext (vs := [.agg ⟨[.bool y12.1.f_n.f_neg, v16, .bool y12.1.f_d.f_neg, v18]⟩, errV 104 y12.2]) rfl rfl) <| w_d rfl (d_ext (vs := [.agg ⟨[.bool y12.1.f_n.f_neg, v16, .bool y12.1.f_d.f_neg, v18]⟩, errV 104 y12.2]) rfl rfl) <| w_a rfl (o_alloc zr26 rfl) ?_
  rintro _ _ _ ⟨b20, rfl, rfl, rfl⟩
  refine w_a0 rfl (o_store (v := .agg ⟨[.bool y12.1.f_n.f_neg, v16, .bool y12.1.f_d.f_neg, v18]⟩) sz26 rfl rfl rfl rfl (one_cons rfl (one_cons (h17.one) (one_cons rfl (one_cons (h19.one) one_nil)))) .here (.here (.here (.here (.here .done))))) ?_
  rintro _ _ _ ⟨rfl, rfl, rfl⟩
  refine w_d rfl (d_assign (v := errV 104 y12.2) rfl) <| w_done <| w_seq <| w_region rfl <| w_d rfl (d_fld (o' := 4) Tryz.underlying28 rfl sz26 rfl rfl rfl) <| w_d rfl (d_loado (v := .agg ⟨[.bool a.f_High.f_n.f_neg, v2_a, .bool a.f_High.f_d.f_neg, v3_a]⟩) ty26 rfl (.there (.there (.there (.there .here)))) rfl rfl rfl rfl) <| w_d rfl (d_fld (o' := 4) Tryz.underlying28 rfl sz26 rfl rfl rfl) <| w_d rfl (d_loado (v := .agg ⟨[.bool b.f_High.f_n.f_neg, v6_b, .bool b.f_High.f_d.f_neg, v7_b]⟩) ty26 rfl (.there (.there (.there .here))) rfl rfl rfl rfl) ?_
  obtain ⟨y21, hy22, he⟩ := Option.bind_eq_some_iff.1 he
  refine w_a rfl (o_call co23 (vs := [.agg ⟨[.bool a.f_High.f_n.f_neg, v2_a, .bool a.f_High.f_d.f_neg, v3_a]⟩, .agg ⟨[.bool b.f_High.f_n.f_neg, v6_b, .bool b.f_High.f_d.f_neg, v7_b]⟩]) rfl (ratio_Ratio_Add.calls k (a := a.f_High) (b := b.f_High) hy22 (h2_a.mono e15) (h3_a.mono e15) (h6_b.mono e15) (h7_b.mono e15))) ?_
  rintro _ H23 _ ⟨rfl, e24, ⟨v25, v27, rfl, h26, h28⟩⟩
  refine w_d rfl (d_move (v := .tuple ⟨[.agg ⟨[.bool y21.1.f_n.f_neg, v25, .bool y21.1.f_d.f_neg, v27]⟩, errV 104 y21.2]⟩) rfl) <| w_d rfl (d_ext (vs := [.agg ⟨[.bool y21.1.f_n.f_neg, v25, .bool y21.1.f_d.f_neg, v27]⟩, errV 104 y21.2]) rfl rfl) <| w_d rfl (d_ext (vs := [.agg ⟨[.bool y21.1.f_n.f_neg, v25, .bool y21.1.f_d.f_neg, v27]⟩, errV 104 y21.2]) rfl rfl) <| w_a rfl (o_alloc zr26 rfl) ?_
  rintro _ _ _ ⟨b29, rfl, rfl, rfl⟩
  refine w_a0 rfl (o_store (v := .agg ⟨[.bool y21.1.f_n.f_neg, v25, .bool y21.1.f_d.f_neg, v27]⟩) sz26 rfl rfl rfl rfl (one_cons rfl (one_cons (h26.one) (one_cons rfl (one_cons (h28.one) one_nil)))) .here (.here (.here (.here (.here .done))))) ?_
  rintro _ _ _ ⟨rfl, rfl, rfl⟩
  refine w_d rfl (d_assign (v := errV 104 y21.2) rfl) <| w_done <| w_seq <| w_region rfl <| w_d rfl (d_loado (v := .agg ⟨[.bool y12.1.f_n.f_neg, v16, .bool y12.1.f_d.f_neg, v18]⟩) ty26 rfl (.there .here) rfl rfl rfl rfl) <| w_d rfl (d_move (v := errV 104 y12.2) rfl) <| w_d rfl (d_loado (v := .agg ⟨[.bool y21.1.f_n.f_neg, v25, .bool y21.1.f_d.f_neg, v27]⟩) ty26 rfl .here rfl rfl rfl rfl) <| w_d rfl (d_move (v := errV 104 y21.2) rfl) ?_
  obtain ⟨y30, hy31, he⟩ := Option.bind_eq_some_iff.1 he
  refine w_a rfl (o_call co80 (vs := [.agg ⟨[.bool y12.1.f_n.f_neg, v16, .bool y12.1.f_d.f_neg, v18]⟩, errV 104 y12.2, .agg ⟨[.bool y21.1.f_n.f_neg, v25, .bool y21.1.f_d.f_neg, v27]⟩, errV 104 y21.2]) rfl (interval_made.calls k (low := y12.1) (high := y21.1) hy31 (h17.mono e24) (h19.mono e24) h26 h28)) ?_
  rintro _ H32 _ ⟨rfl, e33, ⟨v34, v36, v38, v40, rfl, h35, h37, h39, h41⟩⟩
  refine w_d rfl (d_ext (vs := [.agg ⟨[.bool y30.1.f_Low.f_n.f_neg, v34, .bool y30.1.f_Low.f_d.f_neg, v36, .bool y30.1.f_High.f_n.f_neg, v38, .bool y30.1.f_High.f_d.f_neg, v40]⟩, errV 104 y30.2]) rfl rfl) <| w_d rfl (d_ext (vs := [.agg ⟨[.bool y30.1.f_Low.f_n.f_neg, v34, .bool y30.1.f_Low.f_d.f_neg, v36, .bool y30.1.f_High.f_n.f_neg, v38, .bool y30.1.f_High.f_d.f_neg, v40]⟩, errV 104 y30.2]) rfl rfl) <| w_a0 rfl (o_store (v := .agg ⟨[.bool y30.1.f_Low.f_n.f_neg, v34, .bool y30.1.f_Low.f_d.f_neg, v36, .bool y30.1.f_High.f_n.f_neg, v38, .bool y30.1.f_High.f_d.f_neg, v40]⟩) sz28 rfl rfl rfl rfl (one_cons rfl (one_cons (h35.one) (one_cons rfl (one_cons (h37.one) (one_cons rfl (one_cons (h39.one) (one_cons rfl (one_cons (h41.one) one_nil)))))))) (.there (.there (.there .here))) (.here (.here (.here (.here (.here (.here (.here (.here .done))))))))) ?_
  rintro _ _ _ ⟨rfl, rfl, rfl⟩
  refine w_d rfl (d_assign (v := errV 104 y30.2) rfl) <| w_done ?_
  obtain rfl := Option.some.inj he
  refine w_return fn_25 rs_25 (.box (v := .agg ⟨[.bool y30.1.f_Low.f_n.f_neg, v34, .bool y30.1.f_Low.f_d.f_neg, v36, .bool y30.1.f_High.f_n.f_neg, v38, .bool y30.1.f_High.f_d.f_neg, v40]⟩) rfl ty28 rfl rfl (.there (.there (.there .here))) rfl (.tmp (v := errV 104 y30.2) rfl .nil)) <| ⟨⟨[_, _, _, _, _, _], rfl⟩, hle.trans ((e15.trans e24).trans e33), ⟨v34, v36, v38, v40, rfl, h35, h37, h39, h41⟩⟩
/-! ### slices.Reverse[[]byte,byte] -/
noncomputable def slices_Reverse_byte_byte.C : Code := (Tryz.f131.body).getD .skip
def slices_Reverse_byte_byte.out (r : (List Int)) (H : Hp) (v : Value) : Prop := v = .tuple ⟨[]⟩
abbrev slices_Reverse_byte_byte.R (vr_ : Value) (H0 : Hp) (L : Items) (r : (List Int)) : Value → Hp → Items → Prop := fun v H' L' => (∃ p it', L' = p ++ it' :: L ∧ Sl (Kd.int .u8) H' 5 it' vr_ r) ∧ H0.le H' ∧ v = .tuple ⟨[]⟩
structure slices_Reverse_byte_byte.Hs where
 l0 : (List Int) → Int → Int → Option (List Int)
noncomputable def slices_Reverse_byte_byte.b0 (k : Nat) (h : slices_Reverse_byte_byte.Hs)  (s : List Int) (i : Int) (j_ : Int) : Option (List Int) := if i < j_ then (if (0 : Int) ≤ j_ ∧ j_ < (s.length : Int) then (if (0 : Int) ≤ i ∧ i < (s.length : Int) then (if (0 : Int) ≤ i ∧ i < (s.length : Int) then (if (0 : Int) ≤ j_ ∧ j_ < ((s.set (i : Int).toNat (rd s j_)).length : Int) then (h.l0 ((s.set (i : Int).toNat (rd s j_)).set (j_ : Int).toNat (rd s i)) (w64 (i + 1)) (w64 (j_ - 1))) else none) else none) else none) else none) else (some (s))
noncomputable def slices_Reverse_byte_byte.hs : Nat → slices_Reverse_byte_byte.Hs
 | 0 => ⟨fun _ _ _ => none⟩
 | k + 1 => ⟨fun x0 x1 x2 => slices_Reverse_byte_byte.b0 k (slices_Reverse_byte_byte.hs k) x0 x1 x2⟩
noncomputable def slices_Reverse_byte_byte.f (k : Nat) (s : List Int) : Option (List Int) := (fun h : slices_Reverse_byte_byte.Hs => h.l0 s 0 (w64 ((s.length : Int) - 1))) (slices_Reverse_byte_byte.hs k)
structure slices_Reverse_byte_byte.LE (h h' : slices_Reverse_byte_byte.Hs) : Prop where
 l0 : ∀ y0 y1 y2, LeO (h.l0 y0 y1 y2) (h'.l0 y0 y1 y2)
theorem slices_Reverse_byte_byte.b0_mono {k : Nat} {h h' : slices_Reverse_byte_byte.Hs} (hl : slices_Reverse_byte_byte.LE h h') : ∀ y0 y1 y2, LeO (slices_Reverse_byte_byte.b0 k h y0 y1 y2) (slices_Reverse_byte_byte.b0 (k + 1) h' y0 y1 y2) := fun _ _ _ => (LeO.ite (LeO.ite (LeO.ite (LeO.ite (LeO.ite (hl.l0 _ _ _) (LeO.refl _)) (LeO.refl _)) (LeO.refl _)) (LeO.refl _)) (LeO.refl _))
theorem slices_Reverse_byte_byte.hs_mono : ∀ k, slices_Reverse_byte_byte.LE (slices_Reverse_byte_byte.hs k) (slices_Reverse_byte_byte.hs (k + 1))
 | 0 => ⟨fun _ _ _ => LeO.none _⟩
 | k + 1 => ⟨slices_Reverse_byte_byte.b0_mono (k := k) (slices_Reverse_byte_byte.hs_mono k)⟩
theorem slices_Reverse_byte_byte.mono : ∀ k y0, LeO (slices_Reverse_byte_byte.f k y0) (slices_Reverse_byte_byte.f (k + 1) y0) := fun k _ => have hl := slices_Reverse_byte_byte.hs_mono k; by unfold slices_Reverse_byte_byte.f; exact (hl.l0 _ _ _)
noncomputable def slices_Reverse_byte_byte.Kl0 : List Item := .code (lopB (blkB (seqR slices_Reverse_byte_byte.C))) :: .inLoop (lopB (blkB (seqR slices_Reverse_byte_byte.C))) :: .inBlock 0 :: []
structure slices_Reverse_byte_byte.OK (h : slices_Reverse_byte_byte.Hs) : Prop where
 l0 : ∀ {H0 H : Hp} {L : Items} {r : (List Int)} {jk_ : Nat → Value} {s : List Int} {i : Int} {j_ : Int} {vr_ : Value} {i_s : Item'} (_ : H0.le H) (_he : h.l0 s i j_ = some r) (_h_s : Sl (Kd.int .u8) H 5 i_s vr_ s), Wp Tryz.prog 131 28 slices_Reverse_byte_byte.Kl0 (upd (upd (upd jk_ 0 (vr_)) 2 (.int .i64 i)) 3 (.int .i64 j_)) H (i_s :: L) (slices_Reverse_byte_byte.R vr_ H0 L r)
theorem slices_Reverse_byte_byte.b0_ok {k : Nat} {h : slices_Reverse_byte_byte.Hs} (hh : slices_Reverse_byte_byte.OK h) {H0 H : Hp} {L : Items} {r : (List Int)} {jk_ : Nat → Value} {s : List Int} {i : Int} {j_ : Int} {vr_ : Value} {i_s : Item'} (hle : H0.le H) (he : slices_Reverse_byte_byte.b0 k h s i j_ = some r) (h_s : Sl (Kd.int .u8) H 5 i_s vr_ s) : Wp Tryz.prog 131 28 slices_Reverse_byte_byte.Kl0 (upd (upd (upd jk_ 0 (vr_)) 2 (.int .i64 i)) 3 (.int .i64 j_)) H (i_s :: L) (slices_Reverse_byte_byte.R vr_ H0 L r) := by
 unfold slices_Reverse_byte_byte.b0 at he
 unfold slices_Reverse_byte_byte.Kl0
 refine w_seq <| w_seq <| w_region rfl <| w_d rfl (d_move (v := .int .i64 i) rfl) <| w_d rfl (d_move (v := .int .i64 j_) rfl) <| w_d rfl (d_lss rfl rfl) <| w_done ?_
 rcases its he with ⟨c1, he⟩ | ⟨c1, he⟩
 ·
  refine w_then rfl (decide_eq_true c1) <| w_skip <| w_seq <| w_block ?_
  obtain ⟨c2, he⟩ := rq he
  obtain ⟨c3, he⟩ := rq he
  obtain ⟨c4, he⟩ := rq he
  refine w_drawn (p := 14) (tl := [14, 15]) [[], [], [], [], [], [], [(4, some 18), (5, some 19)], [(6, some 20)], [], [], [(8, some 22), (9, some 23)], [(10, some 24)], [(0, some 14), (1, some 15)], [(7, some 21), (12, some 26)]] [some 14, some 15, some 16, some 17, some 18, some 19, some 20, some 21, some 22, some 23, some 24, some 25, some 26, none] (fctF (.is (vr_) :: .is (.int .i64 i) :: .is (vr_) :: .is (.int .i64 j_) :: .is (vr_) :: .is (.int .i64 j_) :: .is (.pointer (some (pel vr_ j_ 1))) :: .is (.int .u8 (rd s j_)) :: .is (vr_) :: .is (.int .i64 i) :: .is (.pointer (some (pel vr_ i 1))) :: .is (.int .u8 (rd s i)) :: .is (.pointer (some (pel vr_ i 1))) :: .itm (fun H it_ => Sl (Kd.int .u8) H 5 it_ vr_ (s.set (i : Int).toNat (rd s j_))) (fun hle_ h_ => h_.mono hle_) :: [])) (fun m_ => m_ 13 :: L) (fun i_ => if i_ = 13 then i_s else none) mixed (by kernel_rfl) (by kernel_rfl) rfl (fct_mono (by kernel_rfl)) ⟨(fun H' m_ hH hm_ hu_ => depK_nil <| s_d (m_ 0) rfl (d_move (v := vr_) rfl) (by exact rfl) rfl), (fun H' m_ hH hm_ hu_ => depK_nil <| s_d (m_ 1) rfl (d_move (v := .int .i64 i) rfl) (by exact rfl) rfl), (fun H' m_ hH hm_ hu_ => depK_nil <| s_d (m_ 2) rfl (d_move (v := vr_) rfl) (by exact rfl) rfl), (fun H' m_ hH hm_ hu_ => depK_nil <| s_d (m_ 3) rfl (d_move (v := .int .i64 j_) rfl) (by exact rfl) rfl), (fun H' m_ hH hm_ hu_ => depK_nil <| s_d (m_ 4) rfl (d_move (v := vr_) rfl) (by exact rfl) rfl), (fun H' m_ hH hm_ hu_ => depK_nil <| s_d (m_ 5) rfl (d_move (v := .int .i64 j_) rfl) (by exact rfl) rfl), (by rintro H' m_ hH hm_ hu_ _ rfl _ rfl; exact depK_nil <| s_d (m_ 6) rfl (d_indexS (sz := 1) Tryz.underlying52 sz5 rfl (h_s.mono hH).shp rfl c2) (by exact rfl) rfl), (by rintro H' m_ hH hm_ hu_ _ rfl; exact depK_nil <| s_d (m_ 7) rfl (d_ldint ty5 rfl ((h_s.mono hH).src (has_eq (hu_ 13 (by kernel_rfl)))) c2) (by exact rfl) rfl), (fun H' m_ hH hm_ hu_ => depK_nil <| s_d (m_ 8) rfl (d_move (v := vr_) rfl) (by exact rfl) rfl), (fun H' m_ hH hm_ hu_ => depK_nil <| s_d (m_ 9) rfl (d_move (v := .int .i64 i) rfl) (by exact rfl) rfl), (by rintro H' m_ hH hm_ hu_ _ rfl _ rfl; exact depK_nil <| s_d (m_ 10) rfl (d_indexS (sz := 1) Tryz.underlying52 sz5 rfl (h_s.mono hH).shp rfl c3) (by exact rfl) rfl), (by rintro H' m_ hH hm_ hu_ _ rfl; exact depK_nil <| s_d (m_ 11) rfl (d_ldint ty5 rfl ((h_s.mono hH).src (has_eq (hu_ 13 (by kernel_rfl)))) c3) (by exact rfl) rfl), (by rintro H' m_ hH hm_ hu_ _ rfl _ rfl; exact depK_nil <| s_d (m_ 12) rfl (d_indexS (sz := 1) Tryz.underlying52 sz5 rfl (h_s.mono hH).shp rfl c4) (by exact rfl) rfl), (by rintro H' m_ hH hm_ hu_ _ rfl _ rfl; exact depK_nil <| s_stEl (i_s) hm_ rfl (o_storeEl (kd := (Kd.int .u8)) (v := .int .u8 (rd s j_)) sz5 rfl rfl rfl rfl (h_s.mono hH) c4 (fun _ => .here)) rfl (by exact fun _ h_ => ⟨rfl, h_⟩)), trivial⟩ ?_
  intro H7 e8
  rintro _ _ rfl _ _ rfl _ _ rfl _ _ rfl _ _ rfl _ _ rfl _ _ rfl _ _ rfl _ _ rfl _ _ rfl _ _ rfl _ _ rfl _ _ rfl _ i5 ⟨rfl, h6⟩
  refine w_it (L' := i5 :: L) rfl ?_
  obtain ⟨c9, he⟩ := rq he
  refine w_d rfl (d_indexS (sz := 1) Tryz.underlying52 sz5 rfl h6.shp rfl c9) <| w_a0 rfl (o_storeEl (kd := (Kd.int .u8)) (v := .int .u8 (rd s i)) (F := fun z_ => z_ :: L) sz5 rfl rfl rfl rfl h6 c9 (fun _ => .here)) ?_
  rintro _ _ _ ⟨i10, rfl, rfl, rfl, h11⟩
  refine w_done <| w_inBlock <| w_region rfl <| w_d rfl (d_move (v := .int .i64 i) rfl) <| w_d rfl (d_add (c := w64 (i + 1)) rfl rfl rfl) <| w_d rfl (d_move (v := .int .i64 j_) rfl) <| w_d rfl (d_sub (c := w64 (j_ - 1)) rfl rfl rfl) <| w_d rfl (d_assign (v := .int .i64 (w64 (i + 1))) rfl) <| w_d rfl (d_assign (v := .int .i64 (w64 (j_ - 1))) rfl) <| w_done <| w_inLoop <| w_sl 0 (vr_) rfl ?_
  refine w_sl 2 (.int .i64 (w64 (i + 1))) rfl <| w_sl 3 (.int .i64 (w64 (j_ - 1))) rfl <| hh.l0 (hle.trans e8) he h11
 ·
  refine w_else rfl (decide_eq_false c1) <| w_exit rfl ?_
  obtain rfl := Option.some.inj he
  refine w_finish fn_131 rs_131 .nil <| ⟨⟨[], _, rfl, h_s⟩, hle, rfl⟩
theorem slices_Reverse_byte_byte.ok : ∀ k, slices_Reverse_byte_byte.OK (slices_Reverse_byte_byte.hs k)
 | 0 => ⟨(by intros; exact nomatch (show none = some _ from by assumption))⟩
 | k + 1 => ⟨slices_Reverse_byte_byte.b0_ok (k := k) (slices_Reverse_byte_byte.ok k)⟩
theorem slices_Reverse_byte_byte.calls (k : Nat) {H : Hp} {L : Items} {s : List Int} {vr_ : Value} {it_ : Item'} {r : (List Int)} (he : slices_Reverse_byte_byte.f k s = some r) (hr_ : Sl (Kd.int .u8) H 5 it_ vr_ s) : Ct Tryz.prog 131 ⟨[vr_]⟩ H (it_ :: L) (fun v H' L' => ∃ it', L' = it' :: L ∧ H.le H' ∧ Sl (Kd.int .u8) H' 5 it' vr_ r ∧ v = .tuple ⟨[]⟩) := by
 refine ct_mut (Q := fun v => v = .tuple ⟨[]⟩) ?_
 have hle : H.le H := .refl _
 have hh := slices_Reverse_byte_byte.ok k
 unfold slices_Reverse_byte_byte.f at he
 refine ct_enter (args := [vr_]) fn_131 rfl nt_131 rfl <| w_seq <| w_region rfl <| w_d rfl (d_move (v := vr_) rfl) <| w_d rfl (d_lenS Tryz.underlying52 rfl hr_.shp) <| w_d rfl (d_sub (c := w64 ((s.length : Int) - 1)) rfl rfl rfl) <| w_d rfl (d_assign (v := .int .i64 0) rfl) <| w_d rfl (d_assign (v := .int .i64 (w64 ((s.length : Int) - 1))) rfl) <| w_done <| w_block <| w_loop <| w_sl 0 (vr_) rfl ?_
 refine w_sl 2 (.int .i64 0) rfl <| w_sl 3 (.int .i64 (w64 ((s.length : Int) - 1))) rfl <| hh.l0 hle he hr_
/-! ### (radome/wide.Int).Text -/
noncomputable def wide_Int_Text.C : Code := (Tryz.f87.body).getD .skip
def wide_Int_Text.out (r : ByteArray) (H : Hp) (v : Value) : Prop := v = .string r
abbrev wide_Int_Text.R (H0 : Hp) (L : Items) (r : ByteArray) : Value → Hp → Items → Prop := fun v H' L' => (∃ p, L' = p ++ L) ∧ H0.le H' ∧ wide_Int_Text.out r H' v
structure wide_Int_Text.Hs where
 l0 : Bool → (List Int) → ByteArray → (List Int) → (List Int) → Option ByteArray
 l1 : Bool → (List Int) → ByteArray → (List Int) → (List Int) → Int → Int → Option ByteArray
noncomputable def wide_Int_Text.b0 (k : Nat) (h : wide_Int_Text.Hs)  (a_0 : Bool) (a_1 : List Int) (t2 : ByteArray) (out : List Int) (w : List Int) : Option ByteArray := if 0 < (w.length : Int) then ((wide_short.f k w 1000000000).bind fun y4 => h.l1 a_0 a_1 t2 out y4.1 y4.2 0) else (if a_0 = true then (if out.length + 1 ≤ 140737488355200 then ((slices_Reverse_byte_byte.f k (out ++ [45])).bind fun y18 => some (strOf y18)) else none) else ((slices_Reverse_byte_byte.f k out).bind fun y24 => some (strOf y24)))
noncomputable def wide_Int_Text.b1 (k : Nat) (h : wide_Int_Text.Hs)  (a_0 : Bool) (a_1 : List Int) (t2 : ByteArray) (out : List Int) (w : List Int) (r_ : Int) (k_ : Int) : Option ByteArray := if ((decide (k_ < 9)) && ((decide (0 < (w.length : Int))) || (decide (0 < r_)))) = true then (if out.length + 1 ≤ 140737488355200 then (h.l1 a_0 a_1 t2 (out ++ [(48 + ((Int.tmod r_ 10) % 256)) % 256]) w ((Int.tdiv r_ 10) % 4294967296) (w64 (k_ + 1))) else none) else (h.l0 a_0 a_1 t2 out w)
noncomputable def wide_Int_Text.hs : Nat → wide_Int_Text.Hs
 | 0 => ⟨fun _ _ _ _ _ => none, fun _ _ _ _ _ _ _ => none⟩
 | k + 1 => ⟨fun x0 x1 x2 x3 x4 => wide_Int_Text.b0 k (wide_Int_Text.hs k) x0 x1 x2 x3 x4, fun x0 x1 x2 x3 x4 x5 x6 => wide_Int_Text.b1 k (wide_Int_Text.hs k) x0 x1 x2 x3 x4 x5 x6⟩
noncomputable def wide_Int_Text.f (k : Nat) (a : wide_Int) : Option ByteArray := (fun h : wide_Int_Text.Hs => if (a.f_w.length : Int) = 0 then (some (str_2)) else (h.l0 a.f_neg a.f_w str_1 [] a.f_w)) (wide_Int_Text.hs k)
structure wide_Int_Text.LE (h h' : wide_Int_Text.Hs) : Prop where
 l0 : ∀ y0 y1 y2 y3 y4, LeO (h.l0 y0 y1 y2 y3 y4) (h'.l0 y0 y1 y2 y3 y4)
 l1 : ∀ y0 y1 y2 y3 y4 y5 y6, LeO (h.l1 y0 y1 y2 y3 y4 y5 y6) (h'.l1 y0 y1 y2 y3 y4 y5 y6)
theorem wide_Int_Text.b0_mono {k : Nat} {h h' : wide_Int_Text.Hs} (hl : wide_Int_Text.LE h h') : ∀ y0 y1 y2 y3 y4, LeO (wide_Int_Text.b0 k h y0 y1 y2 y3 y4) (wide_Int_Text.b0 (k + 1) h' y0 y1 y2 y3 y4) := fun _ _ _ _ _ => (LeO.ite (LeO.bind (wide_short.mono k _ _) fun _ => hl.l1 _ _ _ _ _ _ _) (LeO.ite (LeO.ite (LeO.bind (slices_Reverse_byte_byte.mono k _) fun _ => LeO.refl _) (LeO.refl _)) (LeO.bind (slices_Reverse_byte_byte.mono k _) fun _ => LeO.refl _)))
theorem wide_Int_Text.b1_mono {k : Nat} {h h' : wide_Int_Text.Hs} (hl : wide_Int_Text.LE h h') : ∀ y0 y1 y2 y3 y4 y5 y6, LeO (wide_Int_Text.b1 k h y0 y1 y2 y3 y4 y5 y6) (wide_Int_Text.b1 (k + 1) h' y0 y1 y2 y3 y4 y5 y6) := fun _ _ _ _ _ _ _ => (LeO.ite (LeO.ite (hl.l1 _ _ _ _ _ _ _) (LeO.refl _)) (hl.l0 _ _ _ _ _))
theorem wide_Int_Text.hs_mono : ∀ k, wide_Int_Text.LE (wide_Int_Text.hs k) (wide_Int_Text.hs (k + 1))
 | 0 => ⟨fun _ _ _ _ _ => LeO.none _, fun _ _ _ _ _ _ _ => LeO.none _⟩
 | k + 1 => ⟨wide_Int_Text.b0_mono (k := k) (wide_Int_Text.hs_mono k), wide_Int_Text.b1_mono (k := k) (wide_Int_Text.hs_mono k)⟩
theorem wide_Int_Text.mono : ∀ k y0, LeO (wide_Int_Text.f k y0) (wide_Int_Text.f (k + 1) y0) := fun k _ => have hl := wide_Int_Text.hs_mono k; by unfold wide_Int_Text.f; exact (LeO.ite (LeO.refl _) (hl.l0 _ _ _ _ _))
noncomputable def wide_Int_Text.Kl0 : List Item := .code (lopB (blkB (seqR (seqL (seqR (seqR (seqR wide_Int_Text.C))))))) :: .inLoop (lopB (blkB (seqR (seqL (seqR (seqR (seqR wide_Int_Text.C))))))) :: .inBlock 0 :: .code (seqR (seqR (seqR (seqR wide_Int_Text.C)))) :: []
noncomputable def wide_Int_Text.Kl1 : List Item := .code (lopB (blkB (seqR (seqR (seqR (blkB (seqR (lopB (blkB (seqR (seqL (seqR (seqR (seqR wide_Int_Text.C)))))))))))))) :: .inLoop (lopB (blkB (seqR (seqR (seqR (blkB (seqR (lopB (blkB (seqR (seqL (seqR (seqR (seqR wide_Int_Text.C)))))))))))))) :: .inBlock 2 :: .inBlock 1 :: .inLoop (lopB (blkB (seqR (seqL (seqR (seqR (seqR wide_Int_Text.C))))))) :: .inBlock 0 :: .code (seqR (seqR (seqR (seqR wide_Int_Text.C)))) :: []
structure wide_Int_Text.OK (h : wide_Int_Text.Hs) : Prop where
 l0 : ∀ {H0 H : Hp} {L : Items} {r : ByteArray} {jk_ : Nat → Value} {a_0 : Bool} {a_1 : List Int} {t2 : ByteArray} {out : List Int} {w : List Int} {v_a_1 : Value} {v_out : Value} {v_w : Value} {i_out : Item'} {b_a : Nat} (_ : H0.le H) (_he : h.l0 a_0 a_1 t2 out w = some r) (_h_a_1 : Ro (Kd.int .u32) H v_a_1 a_1) (_h_out : Sl (Kd.int .u8) H 5 i_out v_out out) (_h_w : Ro (Kd.int .u32) H v_w w), Wp Tryz.prog 87 52 wide_Int_Text.Kl0 (upd (upd (upd (upd jk_ 1 (.pointer (some ⟨b_a, 0, none⟩))) 2 (.string t2)) 3 (v_out)) 4 (v_w)) H (i_out :: some (b_a, .cells ⟨[.bool a_0, v_a_1]⟩ 24 (0, 0)) :: L) (wide_Int_Text.R H0 L r)
 l1 : ∀ {H0 H : Hp} {L : Items} {r : ByteArray} {jk_ : Nat → Value} {a_0 : Bool} {a_1 : List Int} {t2 : ByteArray} {out : List Int} {w : List Int} {r_ : Int} {k_ : Int} {v_a_1 : Value} {v_out : Value} {v_w : Value} {i_out : Item'} {b_a : Nat} (_ : H0.le H) (_he : h.l1 a_0 a_1 t2 out w r_ k_ = some r) (_h_a_1 : Ro (Kd.int .u32) H v_a_1 a_1) (_h_out : Sl (Kd.int .u8) H 5 i_out v_out out) (_h_w : Ro (Kd.int .u32) H v_w w), Wp Tryz.prog 87 52 wide_Int_Text.Kl1 (upd (upd (upd (upd (upd (upd jk_ 1 (.pointer (some ⟨b_a, 0, none⟩))) 2 (.string t2)) 3 (v_out)) 4 (v_w)) 5 (.int .u32 r_)) 6 (.int .i64 k_)) H (i_out :: some (b_a, .cells ⟨[.bool a_0, v_a_1]⟩ 24 (0, 0)) :: L) (wide_Int_Text.R H0 L r)
theorem wide_Int_Text.b0_ok {k : Nat} {h : wide_Int_Text.Hs} (hh : wide_Int_Text.OK h) {H0 H : Hp} {L : Items} {r : ByteArray} {jk_ : Nat → Value} {a_0 : Bool} {a_1 : List Int} {t2 : ByteArray} {out : List Int} {w : List Int} {v_a_1 : Value} {v_out : Value} {v_w : Value} {i_out : Item'} {b_a : Nat} (hle : H0.le H) (he : wide_Int_Text.b0 k h a_0 a_1 t2 out w = some r) (h_a_1 : Ro (Kd.int .u32) H v_a_1 a_1) (h_out : Sl (Kd.int .u8) H 5 i_out v_out out) (h_w : Ro (Kd.int .u32) H v_w w) : Wp Tryz.prog 87 52 wide_Int_Text.Kl0 (upd (upd (upd (upd jk_ 1 (.pointer (some ⟨b_a, 0, none⟩))) 2 (.string t2)) 3 (v_out)) 4 (v_w)) H (i_out :: some (b_a, .cells ⟨[.bool a_0, v_a_1]⟩ 24 (0, 0)) :: L) (wide_Int_Text.R H0 L r) := by
 unfold wide_Int_Text.b0 at he
 unfold wide_Int_Text.Kl0
 refine w_seq <| w_seq <| w_region rfl <| w_d rfl (d_move (v := v_w) rfl) <| w_d rfl (d_len Tryz.underlying22 rfl h_w.src) <| w_d rfl (d_gtr rfl rfl) <| w_done ?_
 rcases its he with ⟨c3, he⟩ | ⟨c3, he⟩
 ·
  refine w_then rfl (decide_eq_true c3) <| w_skip <| w_block <| w_seq <| w_region rfl <| w_d rfl (d_assign (v := .int .u32 0) rfl) <| w_done <| w_seq <| w_region rfl <| w_d rfl (d_move (v := v_w) rfl) ?_
  obtain ⟨y4, hy5, he⟩ := Option.bind_eq_some_iff.1 he
  refine w_a rfl (o_call co130 (vs := [v_w, .int .u32 1000000000]) rfl (wide_short.calls k hy5 h_w.src)) ?_
  rintro _ H6 _ ⟨rfl, e7, ⟨v8, rfl, h9⟩⟩
  refine w_d rfl (d_move (v := .tuple ⟨[v8, .int .u32 y4.2]⟩) rfl) <| w_d rfl (d_ext (vs := [v8, .int .u32 y4.2]) rfl rfl) <| w_d rfl (d_ext (vs := [v8, .int .u32 y4.2]) rfl rfl) <| w_d rfl (d_assign (v := v8) rfl) <| w_d rfl (d_assign (v := .int .u32 y4.2) rfl) <| w_done <| w_seq <| w_region rfl <| w_d rfl (d_assign (v := .int .i64 0) rfl) <| w_done <| w_block <| w_loop ?_
  refine w_sl 1 (.pointer (some ⟨b_a, 0, none⟩)) rfl <| w_sl 2 (.string t2) rfl <| w_sl 3 (v_out) rfl <| w_sl 4 (v8) rfl <| w_sl 5 (.int .u32 y4.2) rfl <| w_sl 6 (.int .i64 0) rfl <| hh.l1 (hle.trans e7) he (h_a_1.mono e7) (h_out.mono e7) h9
 ·
  refine w_else rfl (decide_eq_false c3) <| w_exit rfl <| w_seq <| w_seq <| w_region rfl <| w_d rfl (d_fld (o' := 0) Tryz.underlying24 rfl sz4 rfl rfl rfl) <| w_d rfl (d_loado (v := .bool a_0) ty4 rfl (.there .here) rfl rfl rfl rfl) <| w_done ?_
  rcases its he with ⟨c10, he⟩ | ⟨c10, he⟩
  ·
   refine w_then rfl c10 <| w_region rfl <| w_d rfl (d_move (v := v_out) rfl) <| w_a rfl (o_buildSlice' (kd := (Kd.int .u8)) (css := [[.int .u8 45]]) (xs := [45]) (parts := [(0, .int .u8 45)]) Tryz.underlying52 ti5 rfl ⟨_, _, rfl, rfl, rfl⟩ ⟨rfl, trivial⟩ rfl (by decide)) ?_
   rintro v11 _ _ ⟨i12, rfl, rfl, h13⟩
   obtain ⟨c14, he⟩ := rq he
   refine w_a rfl (o_append' (kd := (Kd.int .u8)) (F := fun z_ => i12 :: z_ :: some (b_a, .cells ⟨[.bool a_0, v_a_1]⟩ 24 (0, 0)) :: L) Tryz.underlying52 Tryz.underlying52 ti5 rfl (by first | omega | (simp only [List.nil_append, List.length_cons, List.length_nil]; omega)) rfl rfl h_out (h13.src .here) (fun _ => (.there .here))) ?_
   rintro v15 _ _ ⟨i16, rfl, rfl, h17⟩
   refine w_d rfl (d_assign (v := v15) rfl) <| w_done <| w_seq <| w_region rfl <| w_d rfl (d_move (v := v15) rfl) ?_
   obtain ⟨y18, hy19, he⟩ := Option.bind_eq_some_iff.1 he
   refine w_a rfl (o_call co131 (vs := [v15]) rfl (ct_at (F := fun z_ => i12 :: z_ :: some (b_a, .cells ⟨[.bool a_0, v_a_1]⟩ 24 (0, 0)) :: L) (slices_Reverse_byte_byte.calls k hy19 h17) (.there .here) (fun _ => (.there .here)))) ?_
   rintro _ H20 _ ⟨i22, rfl, e21, h23, rfl⟩
   refine w_done <| w_seq <| w_region rfl <| w_d rfl (d_move (v := v15) rfl) <| w_d rfl (d_strof Tryz.underlying52 Tryz.underlying5 Tryz.underlying9 rfl (h23.src (.there .here))) <| w_d rfl (d_assign (v := .string (strOf y18)) rfl) <| w_done ?_
   obtain rfl := Option.some.inj he
   refine w_return fn_87 rs_87 (.tmp (v := .string (strOf y18)) rfl .nil) <| ⟨⟨[_, _, _], rfl⟩, hle.trans e21, rfl⟩
  ·
   refine w_else rfl (Bool.eq_false_iff.2 c10) <| w_skip <| w_seq <| w_region rfl <| w_d rfl (d_move (v := v_out) rfl) ?_
   obtain ⟨y24, hy25, he⟩ := Option.bind_eq_some_iff.1 he
   refine w_a rfl (o_call co131 (vs := [v_out]) rfl (ct_at (F := fun z_ => z_ :: some (b_a, .cells ⟨[.bool a_0, v_a_1]⟩ 24 (0, 0)) :: L) (slices_Reverse_byte_byte.calls k hy25 h_out) .here (fun _ => .here))) ?_
   rintro _ H26 _ ⟨i28, rfl, e27, h29, rfl⟩
   refine w_done <| w_seq <| w_region rfl <| w_d rfl (d_move (v := v_out) rfl) <| w_d rfl (d_strof Tryz.underlying52 Tryz.underlying5 Tryz.underlying9 rfl (h29.src .here)) <| w_d rfl (d_assign (v := .string (strOf y24)) rfl) <| w_done ?_
   obtain rfl := Option.some.inj he
   refine w_return fn_87 rs_87 (.tmp (v := .string (strOf y24)) rfl .nil) <| ⟨⟨[_, _], rfl⟩, hle.trans e27, rfl⟩
theorem wide_Int_Text.b1_ok {k : Nat} {h : wide_Int_Text.Hs} (hh : wide_Int_Text.OK h) {H0 H : Hp} {L : Items} {r : ByteArray} {jk_ : Nat → Value} {a_0 : Bool} {a_1 : List Int} {t2 : ByteArray} {out : List Int} {w : List Int} {r_ : Int} {k_ : Int} {v_a_1 : Value} {v_out : Value} {v_w : Value} {i_out : Item'} {b_a : Nat} (hle : H0.le H) (he : wide_Int_Text.b1 k h a_0 a_1 t2 out w r_ k_ = some r) (h_a_1 : Ro (Kd.int .u32) H v_a_1 a_1) (h_out : Sl (Kd.int .u8) H 5 i_out v_out out) (h_w : Ro (Kd.int .u32) H v_w w) : Wp Tryz.prog 87 52 wide_Int_Text.Kl1 (upd (upd (upd (upd (upd (upd jk_ 1 (.pointer (some ⟨b_a, 0, none⟩))) 2 (.string t2)) 3 (v_out)) 4 (v_w)) 5 (.int .u32 r_)) 6 (.int .i64 k_)) H (i_out :: some (b_a, .cells ⟨[.bool a_0, v_a_1]⟩ 24 (0, 0)) :: L) (wide_Int_Text.R H0 L r) := by
 unfold wide_Int_Text.b1 at he
 unfold wide_Int_Text.Kl1
 refine w_seq <| w_seq <| w_region rfl <| w_d rfl (d_move (v := .int .i64 k_) rfl) <| w_d rfl (d_lss rfl rfl) <| w_d rfl (d_move (v := .bool (decide (k_ < 9))) rfl) <| w_g (g := decide (k_ < 9)) rfl rfl rfl wn_t (fun g30 => d_move (v := v_w) rfl) <| w_g (g := decide (k_ < 9)) rfl rfl rfl wn_t (fun g31 => d_len Tryz.underlying22 (cvt g31) h_w.src) <| w_g (g := decide (k_ < 9)) rfl rfl rfl wn_t (fun g32 => d_gtr (cvt g32) rfl) <| w_g (g := decide (k_ < 9)) rfl rfl rfl wn_t (fun g33 => d_move (v := .bool (decide (0 < (w.length : Int)))) (cvt g33)) <| w_g (g := (decide (k_ < 9)) && (!(decide (0 < (w.length : Int))))) rfl rfl rfl wn_gf (fun g34 => d_move (v := .int .u32 r_) rfl) <| w_g (g := (decide (k_ < 9)) && (!(decide (0 < (w.length : Int))))) rfl rfl rfl wn_gf (fun g35 => d_gtr (cvt g35) rfl) ?_
 refine w_g (g := decide (k_ < 9)) rfl rfl rfl wn_t (fun g36 => d_or' (b := (decide (0 < (w.length : Int)))) (p := (decide (0 < r_))) (cvt g36) rfl (cva g36)) <| w_d rfl (d_and' (b := (decide (k_ < 9))) (p := ((decide (0 < (w.length : Int))) || (decide (0 < r_)))) rfl rfl rfl) <| w_done ?_
 rcases its he with ⟨c37, he⟩ | ⟨c37, he⟩
 ·
  refine w_then rfl c37 <| w_skip <| w_seq <| w_block <| w_seq <| w_region rfl <| w_d rfl (d_move (v := v_out) rfl) <| w_d rfl (d_move (v := .int .u32 r_) rfl) <| w_d rfl (d_rem rfl rfl (by decide)) <| w_d rfl (d_conv (c := (Int.tmod r_ 10) % 256) Tryz.underlying167 Tryz.underlying5 rfl rfl) <| w_d rfl (d_add (c := (48 + ((Int.tmod r_ 10) % 256)) % 256) rfl rfl rfl) <| w_a rfl (o_buildSlice' (kd := (Kd.int .u8)) (css := [[.int .u8 ((48 + ((Int.tmod r_ 10) % 256)) % 256)]]) (xs := [(48 + ((Int.tmod r_ 10) % 256)) % 256]) (parts := [(0, .int .u8 ((48 + ((Int.tmod r_ 10) % 256)) % 256))]) Tryz.underlying52 ti5 rfl ⟨_, _, rfl, rfl, rfl⟩ ⟨rfl, trivial⟩ rfl (by decide)) ?_
  rintro v38 _ _ ⟨i39, rfl, rfl, h40⟩
  obtain ⟨c41, he⟩ := rq he
  refine w_a rfl (o_append' (kd := (Kd.int .u8)) (F := fun z_ => i39 :: z_ :: some (b_a, .cells ⟨[.bool a_0, v_a_1]⟩ 24 (0, 0)) :: L) Tryz.underlying52 Tryz.underlying52 ti5 rfl (by first | omega | (simp only [List.nil_append, List.length_cons, List.length_nil]; omega)) rfl rfl h_out (h40.src .here) (fun _ => (.there .here))) ?_
  rintro v42 _ _ ⟨i43, rfl, rfl, h44⟩
  refine w_d rfl (d_assign (v := v42) rfl) <| w_done <| w_region rfl <| w_d rfl (d_move (v := .int .u32 r_) rfl) <| w_d rfl (d_quo (c := (Int.tdiv r_ 10) % 4294967296) rfl rfl (by decide) rfl) <| w_d rfl (d_assign (v := .int .u32 ((Int.tdiv r_ 10) % 4294967296)) rfl) <| w_done <| w_inBlock <| w_region rfl <| w_d rfl (d_move (v := .int .i64 k_) rfl) <| w_d rfl (d_add (c := w64 (k_ + 1)) rfl rfl rfl) <| w_d rfl (d_assign (v := .int .i64 (w64 (k_ + 1))) rfl) ?_
  refine w_done <| w_inLoop <| w_del .here <| w_sl 1 (.pointer (some ⟨b_a, 0, none⟩)) rfl <| w_sl 2 (.string t2) rfl <| w_sl 3 (v42) rfl <| w_sl 4 (v_w) rfl <| w_sl 5 (.int .u32 ((Int.tdiv r_ 10) % 4294967296)) rfl <| w_sl 6 (.int .i64 (w64 (k_ + 1))) rfl <| hh.l1 hle he h_a_1 h44 h_w
 ·
  refine w_else rfl (Bool.eq_false_iff.2 c37) <| w_exit rfl <| w_inBlock <| w_inLoop <| w_sl 1 (.pointer (some ⟨b_a, 0, none⟩)) rfl <| w_sl 2 (.string t2) rfl <| w_sl 3 (v_out) rfl <| w_sl 4 (v_w) rfl <| hh.l0 hle he h_a_1 h_out h_w
theorem wide_Int_Text.ok : ∀ k, wide_Int_Text.OK (wide_Int_Text.hs k)
 | 0 => ⟨(by intros; exact nomatch (show none = some _ from by assumption)), (by intros; exact nomatch (show none = some _ from by assumption))⟩
 | k + 1 => ⟨wide_Int_Text.b0_ok (k := k) (wide_Int_Text.ok k), wide_Int_Text.b1_ok (k := k) (wide_Int_Text.ok k)⟩
theorem wide_Int_Text.calls (k : Nat) {H : Hp} {L : Items} {a : wide_Int} {v0_a : Value} {r : ByteArray} (he : wide_Int_Text.f k a = some r) (h0_a : Ro (Kd.int .u32) H v0_a a.f_w) : Ct Tryz.prog 87 ⟨[.agg ⟨[.bool a.f_neg, v0_a]⟩]⟩ H L (fun v H' L' => L = L' ∧ H = H' ∧ v = .string r) := by
 refine ct_outs (O := wide_Int_Text.out r) (fun _ _ h => h) ?_
 have hle : H.le H := .refl _
 have hh := wide_Int_Text.ok k
 unfold wide_Int_Text.f at he
 refine ct_enter (args := [.agg ⟨[.bool a.f_neg, v0_a]⟩]) fn_87 rfl nt_87 rfl <| w_seq <| w_region rfl <| w_a rfl (o_box (v := .agg ⟨[.bool a.f_neg, v0_a]⟩) rfl rfl) ?_
 rintro _ _ _ ⟨b1, rfl, rfl, rfl⟩
 refine w_d rfl (d_assign (v := .string str_1) rfl) <| w_done <| w_seq <| w_seq <| w_region rfl <| w_d rfl (d_fld (o' := 1) Tryz.underlying24 rfl sz22 rfl rfl rfl) <| w_d rfl (d_loado (v := v0_a) ty22 rfl .here rfl rfl rfl rfl) <| w_d rfl (d_len Tryz.underlying22 rfl h0_a.src) <| w_d rfl (d_eql rfl rfl) <| w_done ?_
 rcases its he with ⟨c2, he⟩ | ⟨c2, he⟩
 ·
  refine w_then rfl (decide_eq_true c2) <| w_seq <| w_region rfl <| w_d rfl (d_assign (v := .string str_2) rfl) <| w_done ?_
  obtain rfl := Option.some.inj he
  refine w_return fn_87 rs_87 (.tmp (v := .string str_2) rfl .nil) <| ⟨⟨[_], rfl⟩, hle, rfl⟩
 ·
  refine w_else rfl (decide_eq_false c2) <| w_skip <| w_seq <| w_region rfl <| w_d rfl (d_assign (v := .slice none 0 0) rfl) <| w_done <| w_seq <| w_seq <| w_region rfl <| w_d rfl (d_fld (o' := 1) Tryz.underlying24 rfl sz22 rfl rfl rfl) <| w_d rfl (d_loado (v := v0_a) ty22 rfl .here rfl rfl rfl rfl) <| w_d rfl (d_assign (v := v0_a) rfl) ?_
  refine w_done <| w_block <| w_loop <| w_none <| w_sl 1 (.pointer (some ⟨b1, 0, none⟩)) rfl <| w_sl 2 (.string str_1) rfl <| w_sl 3 (.slice none 0 0) rfl <| w_sl 4 (v0_a) rfl <| hh.l0 hle he h0_a (sl_nil _ _ _) h0_a
/-! ### (radome/ratio.Ratio).Text -/
noncomputable def ratio_Ratio_Text.C : Code := (Tryz.f33.body).getD .skip
def ratio_Ratio_Text.out (r : ByteArray) (H : Hp) (v : Value) : Prop := v = .string r
abbrev ratio_Ratio_Text.R (H0 : Hp) (L : Items) (r : ByteArray) : Value → Hp → Items → Prop := fun v H' L' => (∃ p, L' = p ++ L) ∧ H0.le H' ∧ ratio_Ratio_Text.out r H' v
noncomputable def ratio_Ratio_Text.f (k : Nat) (a : ratio_Ratio) : Option ByteArray := (wide_Int_Text.f k a.f_n).bind fun y2 => if (y2.size + str_3.size : Int) ≤ 9223372036854775807 then ((ratio_Ratio_under.f k a).bind fun y7 => (wide_Int_Text.f k y7).bind fun y13 => if ((y2 ++ str_3).size + y13.size : Int) ≤ 9223372036854775807 then (some ((y2 ++ str_3) ++ y13)) else none) else none
theorem ratio_Ratio_Text.mono : ∀ k y0, LeO (ratio_Ratio_Text.f k y0) (ratio_Ratio_Text.f (k + 1) y0) := fun k _ => by unfold ratio_Ratio_Text.f; exact (LeO.bind (wide_Int_Text.mono k _) fun _ => LeO.ite (LeO.bind (ratio_Ratio_under.mono k _) fun _ => LeO.bind (wide_Int_Text.mono k _) fun _ => LeO.ite (LeO.refl _) (LeO.refl _)) (LeO.refl _))
theorem ratio_Ratio_Text.calls (k : Nat) {H : Hp} {L : Items} {a : ratio_Ratio} {v0_a : Value} {v1_a : Value} {r : ByteArray} (he : ratio_Ratio_Text.f k a = some r) (h0_a : Ro (Kd.int .u32) H v0_a a.f_n.f_w) (h1_a : Ro (Kd.int .u32) H v1_a a.f_d.f_w) : Ct Tryz.prog 33 ⟨[.agg ⟨[.bool a.f_n.f_neg, v0_a, .bool a.f_d.f_neg, v1_a]⟩]⟩ H L (fun v H' L' => L = L' ∧ H = H' ∧ v = .string r) := by
 refine ct_outs (O := ratio_Ratio_Text.out r) (fun _ _ h => h) ?_
 have hle : H.le H := .refl _
 unfold ratio_Ratio_Text.f at he
 refine ct_enter (args := [.agg ⟨[.bool a.f_n.f_neg, v0_a, .bool a.f_d.f_neg, v1_a]⟩]) fn_33 rfl nt_33 rfl <| w_seq <| w_region rfl <| w_a rfl (o_box (v := .agg ⟨[.bool a.f_n.f_neg, v0_a, .bool a.f_d.f_neg, v1_a]⟩) rfl rfl) ?_
 rintro _ _ _ ⟨b1, rfl, rfl, rfl⟩
 refine w_d rfl (d_assign (v := .string str_1) rfl) <| w_done <| w_seq ?_
 obtain ⟨y2, hy3, he⟩ := Option.bind_eq_some_iff.1 he
 obtain ⟨c6, he⟩ := rq he
 obtain ⟨y7, hy8, he⟩ := Option.bind_eq_some_iff.1 he
 obtain ⟨y13, hy14, he⟩ := Option.bind_eq_some_iff.1 he
 refine w_drawn (p := 7) (tl := [7, 8]) [[], [(0, some 3)], [(1, some 4)], [(2, some 5)], [], [(4, some 7)], [(5, some 8)]] [some 3, some 4, some 5, some 6, some 7, some 8, some 9] (fctF (.is (.pointer (some ⟨b1, 0, none⟩)) :: .is (.agg ⟨[.bool a.f_n.f_neg, v0_a]⟩) :: .is (.string y2) :: .is (.string (y2 ++ str_3)) :: .is (.agg ⟨[.bool a.f_n.f_neg, v0_a, .bool a.f_d.f_neg, v1_a]⟩) :: .of (ratio_Ratio_under.out y7) (ratio_Ratio_under.out_mono _) :: .is (.string y13) :: [])) (fun m_ => some (b1, .cells ⟨[.bool a.f_n.f_neg, v0_a, .bool a.f_d.f_neg, v1_a]⟩ 26 (0, 0)) :: L) (fun _ => none) mixed (by kernel_rfl) (by kernel_rfl) rfl (fct_mono (by kernel_rfl)) ⟨(fun H' m_ hH hm_ hu_ => depK_nil <| s_d (m_ 0) rfl (d_fld (o' := 0) Tryz.underlying26 rfl sz24 rfl rfl rfl) (by exact rfl) rfl), (by rintro H' m_ hH hm_ hu_ _ rfl; exact depK_nil <| s_d (m_ 1) rfl (d_loado (v := .agg ⟨[.bool a.f_n.f_neg, v0_a]⟩) ty24 rfl .here rfl rfl rfl rfl) (by exact rfl) rfl), (by rintro H' m_ hH hm_ hu_ _ rfl; exact depK_nil <| s_d (m_ 2) rfl (call_d (o_call co87 (vs := [.agg ⟨[.bool a.f_n.f_neg, v0_a]⟩]) rfl (wide_Int_Text.calls k (a := a.f_n) hy3 (h0_a.mono hH)))) (by exact rfl) rfl), (by rintro H' m_ hH hm_ hu_ _ rfl; exact depK_nil <| s_d (m_ 3) rfl (d_cat rfl rfl c6) (by exact rfl) rfl), (fun H' m_ hH hm_ hu_ => depK_nil <| s_d (m_ 4) rfl (d_loado (v := .agg ⟨[.bool a.f_n.f_neg, v0_a, .bool a.f_d.f_neg, v1_a]⟩) ty26 rfl .here rfl rfl rfl rfl) (by exact rfl) rfl), (by rintro H' m_ hH hm_ hu_ _ rfl; exact depK_nil <| s_k (m_ 5) rfl (o_call co78 (vs := [.agg ⟨[.bool a.f_n.f_neg, v0_a, .bool a.f_d.f_neg, v1_a]⟩]) rfl (ratio_Ratio_under.calls k (a := a) hy8 (h0_a.mono hH) (h1_a.mono hH))) rfl (by rintro v_ H_ _ ⟨rfl, e_, h_⟩; exact ⟨rfl, e_, h_⟩)), (by rintro H' m_ hH hm_ hu_ _ ⟨v11, rfl, h12⟩; exact depK_nil <| s_d (m_ 6) rfl (call_d (o_call co87 (vs := [.agg ⟨[.bool y7.f_neg, v11]⟩]) rfl (wide_Int_Text.calls k (a := y7) hy14 h12))) (by exact rfl) rfl), trivial⟩ ?_
 intro H17 e18
 rintro _ _ rfl _ _ rfl _ _ rfl _ _ rfl _ _ rfl _ _ ⟨v11, rfl, h12⟩ _ _ rfl
 obtain ⟨c19, he⟩ := rq he
 refine w_d rfl (d_cat rfl rfl c19) <| w_d rfl (d_assign (v := .string ((y2 ++ str_3) ++ y13)) rfl) <| w_done ?_
 obtain rfl := Option.some.inj he
 refine w_return fn_33 rs_33 (.tmp (v := .string ((y2 ++ str_3) ++ y13)) rfl .nil) <| ⟨⟨[_], rfl⟩, hle.trans e18, rfl⟩
/-! ### radome/radomelaw34.sure -/
noncomputable def radomelaw34_sure.C : Code := (Tryz.f11.body).getD .skip
def radomelaw34_sure.out (r : Bool) (H : Hp) (v : Value) : Prop := v = .bool r
abbrev radomelaw34_sure.R (H0 : Hp) (L : Items) (r : Bool) : Value → Hp → Items → Prop := fun v H' L' => (∃ p, L' = p ++ L) ∧ H0.le H' ∧ radomelaw34_sure.out r H' v
noncomputable def radomelaw34_sure.f (k : Nat)  : Option Bool := (ratio_Bits.f k 1 0).bind fun y1 => (ratio_Bits.f k 2 0).bind fun y10 => (interval_Of.f k y1.1 y10.1).bind fun y19 => (interval_Last.f k 3 1).bind fun y32 => (interval_Add.f k y19.1 y19.1).bind fun y45 => (interval_Of.f k y10.1 y1.1).bind fun y58 => (gd (((((y1.2.isNone && y10.2.isNone) && y19.2.isNone) && y32.2.isNone) && y45.2.isNone) && (decide ((errN y58.2) = 1))) (ratio_Ratio_Text.f k y45.1.f_Low) (ByteArray.empty)).bind fun y85 => (gd ((((((y1.2.isNone && y10.2.isNone) && y19.2.isNone) && y32.2.isNone) && y45.2.isNone) && (decide ((errN y58.2) = 1))) && (decide (y85 = str_4))) (ratio_Ratio_Text.f k y45.1.f_High) (ByteArray.empty)).bind fun y93 => (gd (((((((y1.2.isNone && y10.2.isNone) && y19.2.isNone) && y32.2.isNone) && y45.2.isNone) && (decide ((errN y58.2) = 1))) && (decide (y85 = str_4))) && (decide (y93 = str_5))) (ratio_Ratio_Text.f k y32.1.f_Low) (ByteArray.empty)).bind fun y101 => (gd ((((((((y1.2.isNone && y10.2.isNone) && y19.2.isNone) && y32.2.isNone) && y45.2.isNone) && (decide ((errN y58.2) = 1))) && (decide (y85 = str_4))) && (decide (y93 = str_5))) && (decide (y101 = str_6))) (ratio_Ratio_Text.f k y32.1.f_High) (ByteArray.empty)).bind fun y109 => some (((((((((y1.2.isNone && y10.2.isNone) && y19.2.isNone) && y32.2.isNone) && y45.2.isNone) && (decide ((errN y58.2) = 1))) && (decide (y85 = str_4))) && (decide (y93 = str_5))) && (decide (y101 = str_6))) && (decide (y109 = str_7)))
theorem radomelaw34_sure.mono : ∀ k, LeO (radomelaw34_sure.f k) (radomelaw34_sure.f (k + 1)) := fun k => by unfold radomelaw34_sure.f; exact (LeO.bind (ratio_Bits.mono k _ _) fun _ => LeO.bind (ratio_Bits.mono k _ _) fun _ => LeO.bind (interval_Of.mono k _ _) fun _ => LeO.bind (interval_Last.mono k _ _) fun _ => LeO.bind (interval_Add.mono k _ _) fun _ => LeO.bind (interval_Of.mono k _ _) fun _ => LeO.bind (LeO.gd (ratio_Ratio_Text.mono k _)) fun _ => LeO.bind (LeO.gd (ratio_Ratio_Text.mono k _)) fun _ => LeO.bind (LeO.gd (ratio_Ratio_Text.mono k _)) fun _ => LeO.bind (LeO.gd (ratio_Ratio_Text.mono k _)) fun _ => LeO.refl _)
theorem radomelaw34_sure.calls (k : Nat) {H : Hp} {L : Items} {r : Bool} (hG : GH H) (he : radomelaw34_sure.f k  = some r) : Ct Tryz.prog 11 ⟨[]⟩ H L (fun v H' L' => L = L' ∧ H = H' ∧ v = .bool r) := by
 refine ct_outs (O := radomelaw34_sure.out r) (fun _ _ h => h) ?_
 have hle : H.le H := .refl _
 unfold radomelaw34_sure.f at he
 refine ct_enter (args := []) fn_11 rfl nt_11 rfl <| w_seq <| w_region rfl <| w_d rfl (d_assign (v := .bool false) rfl) <| w_done <| w_seq <| w_region rfl ?_
 obtain ⟨y1, hy2, he⟩ := Option.bind_eq_some_iff.1 he
 refine w_a rfl (o_call co18 (vs := [.int .i64 1, .int .i64 0]) rfl (ratio_Bits.calls k hy2)) ?_
 rintro _ H3 _ ⟨rfl, e4, ⟨v5, v7, rfl, h6, h8⟩⟩
 refine w_d rfl (d_move (v := .tuple ⟨[.agg ⟨[.bool y1.1.f_n.f_neg, v5, .bool y1.1.f_d.f_neg, v7]⟩, errV 104 y1.2]⟩) rfl) <| w_d rfl (d_ext (vs := [.agg ⟨[.bool y1.1.f_n.f_neg, v5, .bool y1.1.f_d.f_neg, v7]⟩, errV 104 y1.2]) rfl rfl) <| w_d rfl (d_ext (vs := [.agg ⟨[.bool y1.1.f_n.f_neg, v5, .bool y1.1.f_d.f_neg, v7]⟩, errV 104 y1.2]) rfl rfl) <| w_a rfl (o_alloc zr26 rfl) ?_
 rintro _ _ _ ⟨b9, rfl, rfl, rfl⟩
 refine w_a0 rfl (o_store (v := .agg ⟨[.bool y1.1.f_n.f_neg, v5, .bool y1.1.f_d.f_neg, v7]⟩) sz26 rfl rfl rfl rfl (one_cons rfl (one_cons (h6.one) (one_cons rfl (one_cons (h8.one) one_nil)))) .here (.here (.here (.here (.here .done))))) ?_
 rintro _ _ _ ⟨rfl, rfl, rfl⟩
 refine w_d rfl (d_assign (v := errV 104 y1.2) rfl) <| w_done <| w_seq <| w_region rfl ?_
 obtain ⟨y10, hy11, he⟩ := Option.bind_eq_some_iff.1 he
 refine w_a rfl (o_call co18 (vs := [.int .i64 2, .int .i64 0]) rfl (ratio_Bits.calls k hy11)) ?_
 rintro _ H12 _ ⟨rfl, e13, ⟨v14, v16, rfl, h15, h17⟩⟩
 refine w_d rfl (d_move (v := .tuple ⟨[.agg ⟨[.bool y10.1.f_n.f_neg, v14, .bool y10.1.f_d.f_neg, v16]⟩, errV 104 y10.2]⟩) rfl) <| w_d rfl (d_ext (vs := [.agg ⟨[.bool y10.1.f_n.f_neg, v14, .bool y10.1.f_d.f_neg, v16]⟩, errV 104 y10.2]) rfl rfl) <| w_d rfl (d_ext (vs := [.agg ⟨[.bool y10.1.f_n.f_neg, v14, .bool y10.1.f_d.f_neg, v16]⟩, errV 104 y10.2]) rfl rfl) <| w_a rfl (o_alloc zr26 rfl) ?_
 rintro _ _ _ ⟨b18, rfl, rfl, rfl⟩
 refine w_a0 rfl (o_store (v := .agg ⟨[.bool y10.1.f_n.f_neg, v14, .bool y10.1.f_d.f_neg, v16]⟩) sz26 rfl rfl rfl rfl (one_cons rfl (one_cons (h15.one) (one_cons rfl (one_cons (h17.one) one_nil)))) .here (.here (.here (.here (.here .done))))) ?_
 rintro _ _ _ ⟨rfl, rfl, rfl⟩
 refine w_d rfl (d_assign (v := errV 104 y10.2) rfl) <| w_done <| w_seq <| w_region rfl <| w_d rfl (d_loado (v := .agg ⟨[.bool y1.1.f_n.f_neg, v5, .bool y1.1.f_d.f_neg, v7]⟩) ty26 rfl (.there .here) rfl rfl rfl rfl) <| w_d rfl (d_loado (v := .agg ⟨[.bool y10.1.f_n.f_neg, v14, .bool y10.1.f_d.f_neg, v16]⟩) ty26 rfl .here rfl rfl rfl rfl) ?_
 obtain ⟨y19, hy20, he⟩ := Option.bind_eq_some_iff.1 he
 refine w_a rfl (o_call co31 (vs := [.agg ⟨[.bool y1.1.f_n.f_neg, v5, .bool y1.1.f_d.f_neg, v7]⟩, .agg ⟨[.bool y10.1.f_n.f_neg, v14, .bool y10.1.f_d.f_neg, v16]⟩]) rfl (interval_Of.calls k (low := y1.1) (high := y10.1) hy20 (h6.mono e13) (h8.mono e13) h15 h17)) ?_
 rintro _ H21 _ ⟨rfl, e22, ⟨v23, v25, v27, v29, rfl, h24, h26, h28, h30⟩⟩
 refine w_d rfl (d_move (v := .tuple ⟨[.agg ⟨[.bool y19.1.f_Low.f_n.f_neg, v23, .bool y19.1.f_Low.f_d.f_neg, v25, .bool y19.1.f_High.f_n.f_neg, v27, .bool y19.1.f_High.f_d.f_neg, v29]⟩, errV 104 y19.2]⟩) rfl) <| w_d rfl (d_ext (vs := [.agg ⟨[.bool y19.1.f_Low.f_n.f_neg, v23, .bool y19.1.f_Low.f_d.f_neg, v25, .bool y19.1.f_High.f_n.f_neg, v27, .bool y19.1.f_High.f_d.f_neg, v29]⟩, errV 104 y19.2]) rfl rfl) <| w_d rfl (d_ext (vs := [.agg ⟨[.bool y19.1.f_Low.f_n.f_neg, v23, .bool y19.1.f_Low.f_d.f_neg, v25, .bool y19.1.f_High.f_n.f_neg, v27, .bool y19.1.f_High.f_d.f_neg, v29]⟩, errV 104 y19.2]) rfl rfl) <| w_a rfl (o_alloc zr28 rfl) ?_
 rintro _ _ _ ⟨b31, rfl, rfl, rfl⟩
 refine w_a0 rfl (o_store (v := .agg ⟨[.bool y19.1.f_Low.f_n.f_neg, v23, .bool y19.1.f_Low.f_d.f_neg, v25, .bool y19.1.f_High.f_n.f_neg, v27, .bool y19.1.f_High.f_d.f_neg, v29]⟩) sz28 rfl rfl rfl rfl (one_cons rfl (one_cons (h24.one) (one_cons rfl (one_cons (h26.one) (one_cons rfl (one_cons (h28.one) (one_cons rfl (one_cons (h30.one) one_nil)))))))) .here (.here (.here (.here (.here (.here (.here (.here (.here .done))))))))) ?_
 rintro _ _ _ ⟨rfl, rfl, rfl⟩
 refine w_d rfl (d_assign (v := errV 104 y19.2) rfl) <| w_done <| w_seq <| w_region rfl ?_
 obtain ⟨y32, hy33, he⟩ := Option.bind_eq_some_iff.1 he
 refine w_a rfl (o_call co9 (vs := [.int .i64 3, .int .i64 1]) rfl (interval_Last.calls k hy33)) ?_
 rintro _ H34 _ ⟨rfl, e35, ⟨v36, v38, v40, v42, rfl, h37, h39, h41, h43⟩⟩
 refine w_d rfl (d_move (v := .tuple ⟨[.agg ⟨[.bool y32.1.f_Low.f_n.f_neg, v36, .bool y32.1.f_Low.f_d.f_neg, v38, .bool y32.1.f_High.f_n.f_neg, v40, .bool y32.1.f_High.f_d.f_neg, v42]⟩, errV 104 y32.2]⟩) rfl) <| w_d rfl (d_ext (vs := [.agg ⟨[.bool y32.1.f_Low.f_n.f_neg, v36, .bool y32.1.f_Low.f_d.f_neg, v38, .bool y32.1.f_High.f_n.f_neg, v40, .bool y32.1.f_High.f_d.f_neg, v42]⟩, errV 104 y32.2]) rfl rfl) <| w_d rfl (d_ext (vs := [.agg ⟨[.bool y32.1.f_Low.f_n.f_neg, v36, .bool y32.1.f_Low.f_d.f_neg, v38, .bool y32.1.f_High.f_n.f_neg, v40, .bool y32.1.f_High.f_d.f_neg, v42]⟩, errV 104 y32.2]) rfl rfl) <| w_a rfl (o_alloc zr28 rfl) ?_
 rintro _ _ _ ⟨b44, rfl, rfl, rfl⟩
 refine w_a0 rfl (o_store (v := .agg ⟨[.bool y32.1.f_Low.f_n.f_neg, v36, .bool y32.1.f_Low.f_d.f_neg, v38, .bool y32.1.f_High.f_n.f_neg, v40, .bool y32.1.f_High.f_d.f_neg, v42]⟩) sz28 rfl rfl rfl rfl (one_cons rfl (one_cons (h37.one) (one_cons rfl (one_cons (h39.one) (one_cons rfl (one_cons (h41.one) (one_cons rfl (one_cons (h43.one) one_nil)))))))) .here (.here (.here (.here (.here (.here (.here (.here (.here .done))))))))) ?_
 rintro _ _ _ ⟨rfl, rfl, rfl⟩
 refine w_d rfl (d_assign (v := errV 104 y32.2) rfl) <| w_done <| w_seq <| w_region rfl <| w_d rfl (d_loado (v := .agg ⟨[.bool y19.1.f_Low.f_n.f_neg, v23, .bool y19.1.f_Low.f_d.f_neg, v25, .bool y19.1.f_High.f_n.f_neg, v27, .bool y19.1.f_High.f_d.f_neg, v29]⟩) ty28 rfl (.there .here) rfl rfl rfl rfl) <| w_d rfl (d_loado (v := .agg ⟨[.bool y19.1.f_Low.f_n.f_neg, v23, .bool y19.1.f_Low.f_d.f_neg, v25, .bool y19.1.f_High.f_n.f_neg, v27, .bool y19.1.f_High.f_d.f_neg, v29]⟩) ty28 rfl (.there .here) rfl rfl rfl rfl) ?_
 obtain ⟨y45, hy46, he⟩ := Option.bind_eq_some_iff.1 he
 refine w_a rfl (o_call co25 (vs := [.agg ⟨[.bool y19.1.f_Low.f_n.f_neg, v23, .bool y19.1.f_Low.f_d.f_neg, v25, .bool y19.1.f_High.f_n.f_neg, v27, .bool y19.1.f_High.f_d.f_neg, v29]⟩, .agg ⟨[.bool y19.1.f_Low.f_n.f_neg, v23, .bool y19.1.f_Low.f_d.f_neg, v25, .bool y19.1.f_High.f_n.f_neg, v27, .bool y19.1.f_High.f_d.f_neg, v29]⟩]) rfl (interval_Add.calls k (a := y19.1) (b := y19.1) hy46 (h24.mono e35) (h26.mono e35) (h28.mono e35) (h30.mono e35) (h24.mono e35) (h26.mono e35) (h28.mono e35) (h30.mono e35))) ?_
 rintro _ H47 _ ⟨rfl, e48, ⟨v49, v51, v53, v55, rfl, h50, h52, h54, h56⟩⟩
 refine w_d rfl (d_move (v := .tuple ⟨[.agg ⟨[.bool y45.1.f_Low.f_n.f_neg, v49, .bool y45.1.f_Low.f_d.f_neg, v51, .bool y45.1.f_High.f_n.f_neg, v53, .bool y45.1.f_High.f_d.f_neg, v55]⟩, errV 104 y45.2]⟩) rfl) <| w_d rfl (d_ext (vs := [.agg ⟨[.bool y45.1.f_Low.f_n.f_neg, v49, .bool y45.1.f_Low.f_d.f_neg, v51, .bool y45.1.f_High.f_n.f_neg, v53, .bool y45.1.f_High.f_d.f_neg, v55]⟩, errV 104 y45.2]) rfl rfl) <| w_d rfl (d_ext (vs := [.agg ⟨[.bool y45.1.f_Low.f_n.f_neg, v49, .bool y45.1.f_Low.f_d.f_neg, v51, .bool y45.1.f_High.f_n.f_neg, v53, .bool y45.1.f_High.f_d.f_neg, v55]⟩, errV 104 y45.2]) rfl rfl) <| w_a rfl (o_alloc zr28 rfl) ?_
 rintro _ _ _ ⟨b57, rfl, rfl, rfl⟩
 refine w_a0 rfl (o_store (v := .agg ⟨[.bool y45.1.f_Low.f_n.f_neg, v49, .bool y45.1.f_Low.f_d.f_neg, v51, .bool y45.1.f_High.f_n.f_neg, v53, .bool y45.1.f_High.f_d.f_neg, v55]⟩) sz28 rfl rfl rfl rfl (one_cons rfl (one_cons (h50.one) (one_cons rfl (one_cons (h52.one) (one_cons rfl (one_cons (h54.one) (one_cons rfl (one_cons (h56.one) one_nil)))))))) .here (.here (.here (.here (.here (.here (.here (.here (.here .done))))))))) ?_
 rintro _ _ _ ⟨rfl, rfl, rfl⟩
 refine w_d rfl (d_assign (v := errV 104 y45.2) rfl) <| w_done <| w_seq <| w_region rfl <| w_d rfl (d_loado (v := .agg ⟨[.bool y10.1.f_n.f_neg, v14, .bool y10.1.f_d.f_neg, v16]⟩) ty26 rfl (.there (.there (.there .here))) rfl rfl rfl rfl) <| w_d rfl (d_loado (v := .agg ⟨[.bool y1.1.f_n.f_neg, v5, .bool y1.1.f_d.f_neg, v7]⟩) ty26 rfl (.there (.there (.there (.there .here)))) rfl rfl rfl rfl) ?_
 obtain ⟨y58, hy59, he⟩ := Option.bind_eq_some_iff.1 he
 refine w_a rfl (o_call co31 (vs := [.agg ⟨[.bool y10.1.f_n.f_neg, v14, .bool y10.1.f_d.f_neg, v16]⟩, .agg ⟨[.bool y1.1.f_n.f_neg, v5, .bool y1.1.f_d.f_neg, v7]⟩]) rfl (interval_Of.calls k (low := y10.1) (high := y1.1) hy59 (h15.mono ((e22.trans e35).trans e48)) (h17.mono ((e22.trans e35).trans e48)) (h6.mono (((e13.trans e22).trans e35).trans e48)) (h8.mono (((e13.trans e22).trans e35).trans e48)))) ?_
 rintro _ H60 _ ⟨rfl, e61, ⟨v62, v64, v66, v68, rfl, h63, h65, h67, h69⟩⟩
 refine w_d rfl (d_move (v := .tuple ⟨[.agg ⟨[.bool y58.1.f_Low.f_n.f_neg, v62, .bool y58.1.f_Low.f_d.f_neg, v64, .bool y58.1.f_High.f_n.f_neg, v66, .bool y58.1.f_High.f_d.f_neg, v68]⟩, errV 104 y58.2]⟩) rfl) <| w_d rfl (d_ext (vs := [.agg ⟨[.bool y58.1.f_Low.f_n.f_neg, v62, .bool y58.1.f_Low.f_d.f_neg, v64, .bool y58.1.f_High.f_n.f_neg, v66, .bool y58.1.f_High.f_d.f_neg, v68]⟩, errV 104 y58.2]) rfl rfl) <| w_d rfl (d_ext (vs := [.agg ⟨[.bool y58.1.f_Low.f_n.f_neg, v62, .bool y58.1.f_Low.f_d.f_neg, v64, .bool y58.1.f_High.f_n.f_neg, v66, .bool y58.1.f_High.f_d.f_neg, v68]⟩, errV 104 y58.2]) rfl rfl) <| w_a rfl (o_alloc zr28 rfl) ?_
 rintro _ _ _ ⟨b70, rfl, rfl, rfl⟩
 refine w_a0 rfl (o_store (v := .agg ⟨[.bool y58.1.f_Low.f_n.f_neg, v62, .bool y58.1.f_Low.f_d.f_neg, v64, .bool y58.1.f_High.f_n.f_neg, v66, .bool y58.1.f_High.f_d.f_neg, v68]⟩) sz28 rfl rfl rfl rfl (one_cons rfl (one_cons (h63.one) (one_cons rfl (one_cons (h65.one) (one_cons rfl (one_cons (h67.one) (one_cons rfl (one_cons (h69.one) one_nil)))))))) .here (.here (.here (.here (.here (.here (.here (.here (.here .done))))))))) ?_
 rintro _ _ _ ⟨rfl, rfl, rfl⟩
 refine w_d rfl (d_assign (v := errV 104 y58.2) rfl) <| w_done <| w_seq <| w_region rfl <| w_d rfl (d_move (v := errV 104 y1.2) rfl) <| w_d rfl (d_eqnil (e := y1.2) Tryz.underlying30 rfl) <| w_d rfl (d_move (v := .bool y1.2.isNone) rfl) <| w_g (g := y1.2.isNone) rfl rfl rfl wn_t (fun g71 => d_move (v := errV 104 y10.2) rfl) <| w_g (g := y1.2.isNone) rfl rfl rfl wn_t (fun g72 => d_eqnil (e := y10.2) Tryz.underlying30 (cvt g72)) <| w_d rfl (d_and' (b := y1.2.isNone) (p := y10.2.isNone) rfl rfl rfl) <| w_d rfl (d_move (v := .bool (y1.2.isNone && y10.2.isNone)) rfl) <| w_g (g := y1.2.isNone && y10.2.isNone) rfl rfl rfl wn_t (fun g73 => d_move (v := errV 104 y19.2) rfl) ?_
 refine w_g (g := y1.2.isNone && y10.2.isNone) rfl rfl rfl wn_t (fun g74 => d_eqnil (e := y19.2) Tryz.underlying30 (cvt g74)) <| w_d rfl (d_and' (b := (y1.2.isNone && y10.2.isNone)) (p := y19.2.isNone) rfl rfl rfl) <| w_d rfl (d_move (v := .bool ((y1.2.isNone && y10.2.isNone) && y19.2.isNone)) rfl) <| w_g (g := (y1.2.isNone && y10.2.isNone) && y19.2.isNone) rfl rfl rfl wn_t (fun g75 => d_move (v := errV 104 y32.2) rfl) <| w_g (g := (y1.2.isNone && y10.2.isNone) && y19.2.isNone) rfl rfl rfl wn_t (fun g76 => d_eqnil (e := y32.2) Tryz.underlying30 (cvt g76)) <| w_d rfl (d_and' (b := ((y1.2.isNone && y10.2.isNone) && y19.2.isNone)) (p := y32.2.isNone) rfl rfl rfl) <| w_d rfl (d_move (v := .bool (((y1.2.isNone && y10.2.isNone) && y19.2.isNone) && y32.2.isNone)) rfl) <| w_g (g := ((y1.2.isNone && y10.2.isNone) && y19.2.isNone) && y32.2.isNone) rfl rfl rfl wn_t (fun g77 => d_move (v := errV 104 y45.2) rfl) <| w_g (g := ((y1.2.isNone && y10.2.isNone) && y19.2.isNone) && y32.2.isNone) rfl rfl rfl wn_t (fun g78 => d_eqnil (e := y45.2) Tryz.underlying30 (cvt g78)) <| w_d rfl (d_and' (b := (((y1.2.isNone && y10.2.isNone) && y19.2.isNone) && y32.2.isNone)) (p := y45.2.isNone) rfl rfl rfl) <| w_d rfl (d_move (v := .bool ((((y1.2.isNone && y10.2.isNone) && y19.2.isNone) && y32.2.isNone) && y45.2.isNone)) rfl) <| w_g (g := (((y1.2.isNone && y10.2.isNone) && y19.2.isNone) && y32.2.isNone) && y45.2.isNone) rfl rfl rfl wn_t (fun g79 => d_move (v := errV 104 y58.2) rfl) ?_
 refine w_g (g := (((y1.2.isNone && y10.2.isNone) && y19.2.isNone) && y32.2.isNone) && y45.2.isNone) rfl rfl rfl wn_t (fun g80 => call_d (o_call co10 (vs := [errV 104 y58.2]) (acons (cvt g80) (anil)) (num10.calls (hG.mono (((((e4.trans e13).trans e22).trans e35).trans e48).trans e61)) rfl))) <| w_g (g := (((y1.2.isNone && y10.2.isNone) && y19.2.isNone) && y32.2.isNone) && y45.2.isNone) rfl rfl rfl wn_t (fun g81 => d_eql (cvt g81) rfl) <| w_d rfl (d_and' (b := ((((y1.2.isNone && y10.2.isNone) && y19.2.isNone) && y32.2.isNone) && y45.2.isNone)) (p := (decide ((errN y58.2) = 1))) rfl rfl rfl) <| w_d rfl (d_move (v := .bool (((((y1.2.isNone && y10.2.isNone) && y19.2.isNone) && y32.2.isNone) && y45.2.isNone) && (decide ((errN y58.2) = 1)))) rfl) <| w_g (g := ((((y1.2.isNone && y10.2.isNone) && y19.2.isNone) && y32.2.isNone) && y45.2.isNone) && (decide ((errN y58.2) = 1))) rfl rfl rfl wn_t (fun g82 => d_fld (o' := 0) Tryz.underlying28 rfl sz26 rfl rfl rfl) <| w_g (g := ((((y1.2.isNone && y10.2.isNone) && y19.2.isNone) && y32.2.isNone) && y45.2.isNone) && (decide ((errN y58.2) = 1))) rfl rfl rfl wn_t (fun g83 => d_loado (v := .agg ⟨[.bool y45.1.f_Low.f_n.f_neg, v49, .bool y45.1.f_Low.f_d.f_neg, v51]⟩) ty26 (cvt g83) (.there .here) rfl rfl rfl rfl) ?_
 obtain ⟨y85, hy86, he⟩ := Option.bind_eq_some_iff.1 he
 refine w_g (g := ((((y1.2.isNone && y10.2.isNone) && y19.2.isNone) && y32.2.isNone) && y45.2.isNone) && (decide ((errN y58.2) = 1))) rfl rfl rfl wn_t (fun g84 => call_d (o_call co33 (vs := [.agg ⟨[.bool y45.1.f_Low.f_n.f_neg, v49, .bool y45.1.f_Low.f_d.f_neg, v51]⟩]) (acons (cvt g84) (anil)) (ratio_Ratio_Text.calls k (a := y45.1.f_Low) (gd_t g84 hy86) (h50.mono e61) (h52.mono e61)))) <| w_g (g := ((((y1.2.isNone && y10.2.isNone) && y19.2.isNone) && y32.2.isNone) && y45.2.isNone) && (decide ((errN y58.2) = 1))) rfl rfl rfl wn_t (fun g89 => d_eqs (cvt g89) rfl) <| w_d rfl (d_and' (b := (((((y1.2.isNone && y10.2.isNone) && y19.2.isNone) && y32.2.isNone) && y45.2.isNone) && (decide ((errN y58.2) = 1)))) (p := (decide (y85 = str_4))) rfl rfl rfl) <| w_d rfl (d_move (v := .bool ((((((y1.2.isNone && y10.2.isNone) && y19.2.isNone) && y32.2.isNone) && y45.2.isNone) && (decide ((errN y58.2) = 1))) && (decide (y85 = str_4)))) rfl) <| w_g (g := (((((y1.2.isNone && y10.2.isNone) && y19.2.isNone) && y32.2.isNone) && y45.2.isNone) && (decide ((errN y58.2) = 1))) && (decide (y85 = str_4))) rfl rfl rfl wn_t (fun g90 => d_fld (o' := 4) Tryz.underlying28 rfl sz26 rfl rfl rfl) <| w_g (g := (((((y1.2.isNone && y10.2.isNone) && y19.2.isNone) && y32.2.isNone) && y45.2.isNone) && (decide ((errN y58.2) = 1))) && (decide (y85 = str_4))) rfl rfl rfl wn_t (fun g91 => d_loado (v := .agg ⟨[.bool y45.1.f_High.f_n.f_neg, v53, .bool y45.1.f_High.f_d.f_neg, v55]⟩) ty26 (cvt g91) (.there .here) rfl rfl rfl rfl) ?_
 obtain ⟨y93, hy94, he⟩ := Option.bind_eq_some_iff.1 he
 refine w_g (g := (((((y1.2.isNone && y10.2.isNone) && y19.2.isNone) && y32.2.isNone) && y45.2.isNone) && (decide ((errN y58.2) = 1))) && (decide (y85 = str_4))) rfl rfl rfl wn_t (fun g92 => call_d (o_call co33 (vs := [.agg ⟨[.bool y45.1.f_High.f_n.f_neg, v53, .bool y45.1.f_High.f_d.f_neg, v55]⟩]) (acons (cvt g92) (anil)) (ratio_Ratio_Text.calls k (a := y45.1.f_High) (gd_t g92 hy94) (h54.mono e61) (h56.mono e61)))) <| w_g (g := (((((y1.2.isNone && y10.2.isNone) && y19.2.isNone) && y32.2.isNone) && y45.2.isNone) && (decide ((errN y58.2) = 1))) && (decide (y85 = str_4))) rfl rfl rfl wn_t (fun g97 => d_eqs (cvt g97) rfl) <| w_d rfl (d_and' (b := ((((((y1.2.isNone && y10.2.isNone) && y19.2.isNone) && y32.2.isNone) && y45.2.isNone) && (decide ((errN y58.2) = 1))) && (decide (y85 = str_4)))) (p := (decide (y93 = str_5))) rfl rfl rfl) <| w_d rfl (d_move (v := .bool (((((((y1.2.isNone && y10.2.isNone) && y19.2.isNone) && y32.2.isNone) && y45.2.isNone) && (decide ((errN y58.2) = 1))) && (decide (y85 = str_4))) && (decide (y93 = str_5)))) rfl) <| w_g (g := ((((((y1.2.isNone && y10.2.isNone) && y19.2.isNone) && y32.2.isNone) && y45.2.isNone) && (decide ((errN y58.2) = 1))) && (decide (y85 = str_4))) && (decide (y93 = str_5))) rfl rfl rfl wn_t (fun g98 => d_fld (o' := 0) Tryz.underlying28 rfl sz26 rfl rfl rfl) <| w_g (g := ((((((y1.2.isNone && y10.2.isNone) && y19.2.isNone) && y32.2.isNone) && y45.2.isNone) && (decide ((errN y58.2) = 1))) && (decide (y85 = str_4))) && (decide (y93 = str_5))) rfl rfl rfl wn_t (fun g99 => d_loado (v := .agg ⟨[.bool y32.1.f_Low.f_n.f_neg, v36, .bool y32.1.f_Low.f_d.f_neg, v38]⟩) ty26 (cvt g99) (.there (.there .here)) rfl rfl rfl rfl) ?_
 obtain ⟨y101, hy102, he⟩ := Option.bind_eq_some_iff.1 he
 refine w_g (g := ((((((y1.2.isNone && y10.2.isNone) && y19.2.isNone) && y32.2.isNone) && y45.2.isNone) && (decide ((errN y58.2) = 1))) && (decide (y85 = str_4))) && (decide (y93 = str_5))) rfl rfl rfl wn_t (fun g100 => call_d (o_call co33 (vs := [.agg ⟨[.bool y32.1.f_Low.f_n.f_neg, v36, .bool y32.1.f_Low.f_d.f_neg, v38]⟩]) (acons (cvt g100) (anil)) (ratio_Ratio_Text.calls k (a := y32.1.f_Low) (gd_t g100 hy102) (h37.mono (e48.trans e61)) (h39.mono (e48.trans e61))))) <| w_g (g := ((((((y1.2.isNone && y10.2.isNone) && y19.2.isNone) && y32.2.isNone) && y45.2.isNone) && (decide ((errN y58.2) = 1))) && (decide (y85 = str_4))) && (decide (y93 = str_5))) rfl rfl rfl wn_t (fun g105 => d_eqs (cvt g105) rfl) <| w_d rfl (d_and' (b := (((((((y1.2.isNone && y10.2.isNone) && y19.2.isNone) && y32.2.isNone) && y45.2.isNone) && (decide ((errN y58.2) = 1))) && (decide (y85 = str_4))) && (decide (y93 = str_5)))) (p := (decide (y101 = str_6))) rfl rfl rfl) <| w_d rfl (d_move (v := .bool ((((((((y1.2.isNone && y10.2.isNone) && y19.2.isNone) && y32.2.isNone) && y45.2.isNone) && (decide ((errN y58.2) = 1))) && (decide (y85 = str_4))) && (decide (y93 = str_5))) && (decide (y101 = str_6)))) rfl) <| w_g (g := (((((((y1.2.isNone && y10.2.isNone) && y19.2.isNone) && y32.2.isNone) && y45.2.isNone) && (decide ((errN y58.2) = 1))) && (decide (y85 = str_4))) && (decide (y93 = str_5))) && (decide (y101 = str_6))) rfl rfl rfl wn_t (fun g106 => d_fld (o' := 4) Tryz.underlying28 rfl sz26 rfl rfl rfl) <| w_g (g := (((((((y1.2.isNone && y10.2.isNone) && y19.2.isNone) && y32.2.isNone) && y45.2.isNone) && (decide ((errN y58.2) = 1))) && (decide (y85 = str_4))) && (decide (y93 = str_5))) && (decide (y101 = str_6))) rfl rfl rfl wn_t (fun g107 => d_loado (v := .agg ⟨[.bool y32.1.f_High.f_n.f_neg, v40, .bool y32.1.f_High.f_d.f_neg, v42]⟩) ty26 (cvt g107) (.there (.there .here)) rfl rfl rfl rfl) ?_
 obtain ⟨y109, hy110, he⟩ := Option.bind_eq_some_iff.1 he
 refine w_g (g := (((((((y1.2.isNone && y10.2.isNone) && y19.2.isNone) && y32.2.isNone) && y45.2.isNone) && (decide ((errN y58.2) = 1))) && (decide (y85 = str_4))) && (decide (y93 = str_5))) && (decide (y101 = str_6))) rfl rfl rfl wn_t (fun g108 => call_d (o_call co33 (vs := [.agg ⟨[.bool y32.1.f_High.f_n.f_neg, v40, .bool y32.1.f_High.f_d.f_neg, v42]⟩]) (acons (cvt g108) (anil)) (ratio_Ratio_Text.calls k (a := y32.1.f_High) (gd_t g108 hy110) (h41.mono (e48.trans e61)) (h43.mono (e48.trans e61))))) <| w_g (g := (((((((y1.2.isNone && y10.2.isNone) && y19.2.isNone) && y32.2.isNone) && y45.2.isNone) && (decide ((errN y58.2) = 1))) && (decide (y85 = str_4))) && (decide (y93 = str_5))) && (decide (y101 = str_6))) rfl rfl rfl wn_t (fun g113 => d_eqs (cvt g113) rfl) <| w_d rfl (d_and' (b := ((((((((y1.2.isNone && y10.2.isNone) && y19.2.isNone) && y32.2.isNone) && y45.2.isNone) && (decide ((errN y58.2) = 1))) && (decide (y85 = str_4))) && (decide (y93 = str_5))) && (decide (y101 = str_6)))) (p := (decide (y109 = str_7))) rfl rfl rfl) <| w_d rfl (d_assign (v := .bool (((((((((y1.2.isNone && y10.2.isNone) && y19.2.isNone) && y32.2.isNone) && y45.2.isNone) && (decide ((errN y58.2) = 1))) && (decide (y85 = str_4))) && (decide (y93 = str_5))) && (decide (y101 = str_6))) && (decide (y109 = str_7)))) rfl) <| w_done ?_
 obtain rfl := Option.some.inj he
 refine w_return fn_11 rs_11 (.tmp (v := .bool (((((((((y1.2.isNone && y10.2.isNone) && y19.2.isNone) && y32.2.isNone) && y45.2.isNone) && (decide ((errN y58.2) = 1))) && (decide (y85 = str_4))) && (decide (y93 = str_5))) && (decide (y101 = str_6))) && (decide (y109 = str_7)))) rfl .nil) <| ⟨⟨[_, _, _, _, _, _], rfl⟩, hle.trans (((((e4.trans e13).trans e22).trans e35).trans e48).trans e61), rfl⟩
end Go.Proofs.YtkccpkccdbfomaaGreatDoor.GSL

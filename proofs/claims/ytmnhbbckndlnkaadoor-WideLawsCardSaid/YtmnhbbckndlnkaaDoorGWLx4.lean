/- A text of this session, written by a program (wip/k/gen.py): Go functions as Lean functions, and proofs that the code comes to them. -/
import Derived.Test.YtmnhbbckndlnkaaDoorGWLx3
namespace Go.Proofs.YtmnhbbckndlnkaaDoor.GWL
open Go Go.RowKit Go.Proofs.YtmnhbbckndlnkaaDoorK Go.Proofs.YtmnhbbckndlnkaaDoor
set_option linter.unusedVariables false
set_option linter.unusedSimpArgs false
/-! ### radome/radomelaw01.WideLaws -/
noncomputable def radomelaw01_WideLaws.C : Code := (Tryd.f5.body).getD .skip
def radomelaw01_WideLaws.out (r : Bool) (H : Hp) (v : Value) : Prop := v = .bool r
abbrev radomelaw01_WideLaws.R (H0 : Hp) (L : Items) (r : Bool) : Value → Hp → Items → Prop := fun v H' L' => (∃ p, L' = p ++ L) ∧ H0.le H' ∧ radomelaw01_WideLaws.out r H' v
structure radomelaw01_WideLaws.Hs where
noncomputable def radomelaw01_WideLaws.j2 (k : Nat) (h : radomelaw01_WideLaws.Hs)  (t4 : Bool) (a_0 : Bool) (a_1 : List Int) (b_0 : Bool) (b_1 : List Int) : Option Bool := (wide_Int_Sign.f k (⟨b_0, b_1⟩ : wide_Int)).bind fun y237 => if y237 = 0 then ((radomelaw01_sure.f k).bind fun y242 => some (y242)) else ((wide_Int_Div.f k (⟨a_0, a_1⟩ : wide_Int) (⟨b_0, b_1⟩ : wide_Int)).bind fun y246 => (wide_Int_Mul.f k (⟨y246.1.f_neg, y246.1.f_w⟩ : wide_Int) (⟨b_0, b_1⟩ : wide_Int)).bind fun y256 => (gd ((!y246.2.2.isSome) && y256.2.isNone) (wide_Int_Sign.f k (⟨y246.2.1.f_neg, y246.2.1.f_w⟩ : wide_Int)) (0)).bind fun y268 => if (y246.2.2.isSome || (y256.2.isNone && (decide (y268 < 0)))) = true then (some (false)) else (if y256.2.isNone = true then ((wide_Int_Add.f k (⟨y256.1.f_neg, y256.1.f_w⟩ : wide_Int) (⟨y246.2.1.f_neg, y246.2.1.f_w⟩ : wide_Int)).bind fun y276 => (gd (!y276.2.isSome) (wide_Int_Cmp.f k (⟨y276.1.f_neg, y276.1.f_w⟩ : wide_Int) (⟨a_0, a_1⟩ : wide_Int)) (0)).bind fun y286 => if (y276.2.isSome || (!decide (y286 = 0))) = true then (some (false)) else ((radomelaw01_sure.f k).bind fun y292 => some (y292))) else ((radomelaw01_sure.f k).bind fun y296 => some (y296))))
noncomputable def radomelaw01_WideLaws.j1 (k : Nat) (h : radomelaw01_WideLaws.Hs)  (t4 : Bool) (a_0 : Bool) (a_1 : List Int) (b_0 : Bool) (b_1 : List Int) (c_0 : Bool) (c_1 : List Int) (s_0 : Bool) (s_1 : List Int) (e_ : Option Int) : Option Bool := (wide_Int_Mul.f k (⟨s_0, s_1⟩ : wide_Int) (⟨c_0, c_1⟩ : wide_Int)).bind fun y193 => (wide_Int_Mul.f k (⟨a_0, a_1⟩ : wide_Int) (⟨c_0, c_1⟩ : wide_Int)).bind fun y200 => (wide_Int_Mul.f k (⟨b_0, b_1⟩ : wide_Int) (⟨c_0, c_1⟩ : wide_Int)).bind fun y207 => if (((e_.isNone && y193.2.isNone) && y200.2.isNone) && y207.2.isNone) = true then ((wide_Int_Add.f k (⟨y200.1.f_neg, y200.1.f_w⟩ : wide_Int) (⟨y207.1.f_neg, y207.1.f_w⟩ : wide_Int)).bind fun y221 => (gd (!y221.2.isSome) (wide_Int_Cmp.f k (⟨y221.1.f_neg, y221.1.f_w⟩ : wide_Int) (⟨y193.1.f_neg, y193.1.f_w⟩ : wide_Int)) (0)).bind fun y231 => if (y221.2.isSome || (!decide (y231 = 0))) = true then (some (false)) else (radomelaw01_WideLaws.j2 k h t4 a_0 a_1 b_0 b_1)) else (radomelaw01_WideLaws.j2 k h t4 a_0 a_1 b_0 b_1)
noncomputable def radomelaw01_WideLaws.hs : Nat → radomelaw01_WideLaws.Hs
 | 0 => ⟨⟩
 | k + 1 => ⟨⟩
noncomputable def radomelaw01_WideLaws.f (k : Nat) (l : T56) (of_ : T57) : Option Bool := (fun h : radomelaw01_WideLaws.Hs => (radomelaw01_whole.f k l.e0 (!decide ((Int.tmod of_.e0 2) = 0)) 150).bind fun y4 => (radomelaw01_giveInt.f k (⟨y4.f_Neg, y4.f_D⟩ : radomeref01_Num)).bind fun y10 => (wide_Int_Move.f k (⟨y10.f_neg, y10.f_w⟩ : wide_Int) (w64 (Int.tmod ((of_.e0) % 18446744073709551616) 3400))).bind fun y19 => if y19.2.isSome = true then (some (false)) else ((radomelaw01_whole.f k l.e1 (!decide ((Int.tmod of_.e1 2) = 0)) 150).bind fun y37 => (radomelaw01_giveInt.f k (⟨y37.f_Neg, y37.f_D⟩ : radomeref01_Num)).bind fun y43 => (wide_Int_Move.f k (⟨y43.f_neg, y43.f_w⟩ : wide_Int) (w64 (Int.tmod ((of_.e1) % 18446744073709551616) 3400))).bind fun y52 => if y52.2.isSome = true then (some (false)) else ((radomelaw01_whole.f k l.e2 (!decide ((Int.tmod of_.e2 2) = 0)) 150).bind fun y70 => (radomelaw01_giveInt.f k (⟨y70.f_Neg, y70.f_D⟩ : radomeref01_Num)).bind fun y76 => (wide_Int_Move.f k (⟨y76.f_neg, y76.f_w⟩ : wide_Int) (w64 (Int.tmod ((of_.e2) % 18446744073709551616) 3400))).bind fun y85 => if y85.2.isSome = true then (some (false)) else ((wide_Int_Add.f k (⟨y19.1.f_neg, y19.1.f_w⟩ : wide_Int) (⟨y52.1.f_neg, y52.1.f_w⟩ : wide_Int)).bind fun y112 => (wide_Int_Add.f k (⟨y52.1.f_neg, y52.1.f_w⟩ : wide_Int) (⟨y19.1.f_neg, y19.1.f_w⟩ : wide_Int)).bind fun y119 => (wide_Int_Mul.f k (⟨y19.1.f_neg, y19.1.f_w⟩ : wide_Int) (⟨y52.1.f_neg, y52.1.f_w⟩ : wide_Int)).bind fun y126 => (wide_Int_Mul.f k (⟨y52.1.f_neg, y52.1.f_w⟩ : wide_Int) (⟨y19.1.f_neg, y19.1.f_w⟩ : wide_Int)).bind fun y133 => (gd (!((((!decide ((errN y112.2) = (errN y119.2))) || (!decide ((errN y126.2) = (errN y133.2)))) || (y112.2.isSome && (!decide ((errN y112.2) = 12)))) || (y126.2.isSome && (!decide ((errN y126.2) = 12))))) (wide_Int_Cmp.f k (⟨y112.1.f_neg, y112.1.f_w⟩ : wide_Int) (⟨y119.1.f_neg, y119.1.f_w⟩ : wide_Int)) (0)).bind fun y162 => (gd (!(((((!decide ((errN y112.2) = (errN y119.2))) || (!decide ((errN y126.2) = (errN y133.2)))) || (y112.2.isSome && (!decide ((errN y112.2) = 12)))) || (y126.2.isSome && (!decide ((errN y126.2) = 12)))) || (!decide (y162 = 0)))) (wide_Int_Cmp.f k (⟨y126.1.f_neg, y126.1.f_w⟩ : wide_Int) (⟨y133.1.f_neg, y133.1.f_w⟩ : wide_Int)) (0)).bind fun y170 => if ((((((!decide ((errN y112.2) = (errN y119.2))) || (!decide ((errN y126.2) = (errN y133.2)))) || (y112.2.isSome && (!decide ((errN y112.2) = 12)))) || (y126.2.isSome && (!decide ((errN y126.2) = 12)))) || (!decide (y162 = 0))) || (!decide (y170 = 0))) = true then (some (false)) else (if y112.2.isNone = true then ((wide_Int_Sub.f k (⟨y112.1.f_neg, y112.1.f_w⟩ : wide_Int) (⟨y52.1.f_neg, y52.1.f_w⟩ : wide_Int)).bind fun y177 => (gd (!y177.2.isSome) (wide_Int_Cmp.f k (⟨y177.1.f_neg, y177.1.f_w⟩ : wide_Int) (⟨y19.1.f_neg, y19.1.f_w⟩ : wide_Int)) (0)).bind fun y187 => if (y177.2.isSome || (!decide (y187 = 0))) = true then (some (false)) else (radomelaw01_WideLaws.j1 k h false y19.1.f_neg y19.1.f_w y52.1.f_neg y52.1.f_w y85.1.f_neg y85.1.f_w y112.1.f_neg y112.1.f_w y112.2)) else (radomelaw01_WideLaws.j1 k h false y19.1.f_neg y19.1.f_w y52.1.f_neg y52.1.f_w y85.1.f_neg y85.1.f_w y112.1.f_neg y112.1.f_w y112.2)))))) (radomelaw01_WideLaws.hs k)
structure radomelaw01_WideLaws.LE (h h' : radomelaw01_WideLaws.Hs) : Prop where
theorem radomelaw01_WideLaws.j2_mono {k : Nat} {h h' : radomelaw01_WideLaws.Hs} (hl : radomelaw01_WideLaws.LE h h') : ∀ y0 y1 y2 y3 y4, LeO (radomelaw01_WideLaws.j2 k h y0 y1 y2 y3 y4) (radomelaw01_WideLaws.j2 (k + 1) h' y0 y1 y2 y3 y4) := fun _ _ _ _ _ => (LeO.bind (wide_Int_Sign.mono k _) fun _ => LeO.ite (LeO.bind (radomelaw01_sure.mono k) fun _ => LeO.refl _) (LeO.bind (wide_Int_Div.mono k _ _) fun _ => LeO.bind (wide_Int_Mul.mono k _ _) fun _ => LeO.bind (LeO.gd (wide_Int_Sign.mono k _)) fun _ => LeO.ite (LeO.refl _) (LeO.ite (LeO.bind (wide_Int_Add.mono k _ _) fun _ => LeO.bind (LeO.gd (wide_Int_Cmp.mono k _ _)) fun _ => LeO.ite (LeO.refl _) (LeO.bind (radomelaw01_sure.mono k) fun _ => LeO.refl _)) (LeO.bind (radomelaw01_sure.mono k) fun _ => LeO.refl _))))
theorem radomelaw01_WideLaws.j1_mono {k : Nat} {h h' : radomelaw01_WideLaws.Hs} (hl : radomelaw01_WideLaws.LE h h') : ∀ y0 y1 y2 y3 y4 y5 y6 y7 y8 y9, LeO (radomelaw01_WideLaws.j1 k h y0 y1 y2 y3 y4 y5 y6 y7 y8 y9) (radomelaw01_WideLaws.j1 (k + 1) h' y0 y1 y2 y3 y4 y5 y6 y7 y8 y9) := fun _ _ _ _ _ _ _ _ _ _ => (LeO.bind (wide_Int_Mul.mono k _ _) fun _ => LeO.bind (wide_Int_Mul.mono k _ _) fun _ => LeO.bind (wide_Int_Mul.mono k _ _) fun _ => LeO.ite (LeO.bind (wide_Int_Add.mono k _ _) fun _ => LeO.bind (LeO.gd (wide_Int_Cmp.mono k _ _)) fun _ => LeO.ite (LeO.refl _) (radomelaw01_WideLaws.j2_mono (k := k) hl _ _ _ _ _)) (radomelaw01_WideLaws.j2_mono (k := k) hl _ _ _ _ _))
theorem radomelaw01_WideLaws.hs_mono : ∀ k, radomelaw01_WideLaws.LE (radomelaw01_WideLaws.hs k) (radomelaw01_WideLaws.hs (k + 1))
 | 0 => ⟨⟩
 | k + 1 => ⟨⟩
theorem radomelaw01_WideLaws.mono : ∀ k y0 y1, LeO (radomelaw01_WideLaws.f k y0 y1) (radomelaw01_WideLaws.f (k + 1) y0 y1) := fun k _ _ => have hl := radomelaw01_WideLaws.hs_mono k; by unfold radomelaw01_WideLaws.f; exact (LeO.bind (radomelaw01_whole.mono k _ _ _) fun _ => LeO.bind (radomelaw01_giveInt.mono k _) fun _ => LeO.bind (wide_Int_Move.mono k _ _) fun _ => LeO.ite (LeO.refl _) (LeO.bind (radomelaw01_whole.mono k _ _ _) fun _ => LeO.bind (radomelaw01_giveInt.mono k _) fun _ => LeO.bind (wide_Int_Move.mono k _ _) fun _ => LeO.ite (LeO.refl _) (LeO.bind (radomelaw01_whole.mono k _ _ _) fun _ => LeO.bind (radomelaw01_giveInt.mono k _) fun _ => LeO.bind (wide_Int_Move.mono k _ _) fun _ => LeO.ite (LeO.refl _) (LeO.bind (wide_Int_Add.mono k _ _) fun _ => LeO.bind (wide_Int_Add.mono k _ _) fun _ => LeO.bind (wide_Int_Mul.mono k _ _) fun _ => LeO.bind (wide_Int_Mul.mono k _ _) fun _ => LeO.bind (LeO.gd (wide_Int_Cmp.mono k _ _)) fun _ => LeO.bind (LeO.gd (wide_Int_Cmp.mono k _ _)) fun _ => LeO.ite (LeO.refl _) (LeO.ite (LeO.bind (wide_Int_Sub.mono k _ _) fun _ => LeO.bind (LeO.gd (wide_Int_Cmp.mono k _ _)) fun _ => LeO.ite (LeO.refl _) (radomelaw01_WideLaws.j1_mono (k := k) hl _ _ _ _ _ _ _ _ _ _)) (radomelaw01_WideLaws.j1_mono (k := k) hl _ _ _ _ _ _ _ _ _ _))))))
noncomputable def radomelaw01_WideLaws.Kj1 : List Item := .code (seqR (seqR (seqR (seqR (seqR (seqR (seqR (seqR (seqR (seqR radomelaw01_WideLaws.C)))))))))) :: []
noncomputable def radomelaw01_WideLaws.Kj2 : List Item := .code (seqR (seqR (seqR (seqR (seqR (seqR (seqR (seqR (seqR (seqR (seqR (seqR (seqR (seqR radomelaw01_WideLaws.C)))))))))))))) :: []
structure radomelaw01_WideLaws.OK (h : radomelaw01_WideLaws.Hs) : Prop where
set_option maxRecDepth 100000 in
set_option maxHeartbeats 2000000 in
theorem radomelaw01_WideLaws.j2_ok {k : Nat} {h : radomelaw01_WideLaws.Hs} (hh : radomelaw01_WideLaws.OK h) {H0 H : Hp} {L : Items} {r : Bool} {jk_ : Nat → Value} {t4 : Bool} {a_0 : Bool} {a_1 : List Int} {b_0 : Bool} {b_1 : List Int} {v_a_1 : Value} {v_b_1 : Value} {b_a : Nat} {b_b : Nat} (hle : H0.le H) (hG : GH H) (he : radomelaw01_WideLaws.j2 k h t4 a_0 a_1 b_0 b_1 = some r) (h_a_1 : Ro (Kd.int .u32) H v_a_1 a_1) (h_b_1 : Ro (Kd.int .u32) H v_b_1 b_1) : Wp Tryd.prog 5 246 radomelaw01_WideLaws.Kj2 (upd (upd (upd jk_ 4 (.bool t4)) 10 (.pointer (some ⟨b_a, 0, none⟩))) 11 (.pointer (some ⟨b_b, 0, none⟩))) H (some (b_a, .cells ⟨[.bool a_0, v_a_1]⟩ 30 (0, 0)) :: some (b_b, .cells ⟨[.bool b_0, v_b_1]⟩ 30 (0, 0)) :: L) (radomelaw01_WideLaws.R H0 L r) := by
 unfold radomelaw01_WideLaws.j2 at he
 unfold radomelaw01_WideLaws.Kj2
 refine w_seq ?_
 refine w_seq ?_
 refine w_region rfl ?_
 refine w_d rfl (d_loado (v := .agg ⟨[.bool b_0, v_b_1]⟩) ty30 rfl (.there .here) rfl rfl rfl rfl) ?_
 obtain ⟨y237, hy238, he⟩ := Option.bind_eq_some_iff.1 he
 refine w_d rfl (call_d (o_call co18 (vs := [.agg ⟨[.bool b_0, v_b_1]⟩]) rfl (wide_Int_Sign.calls k (a := (⟨b_0, b_1⟩ : wide_Int)) hy238 h_b_1))) ?_
 refine w_d rfl (d_neq rfl rfl) ?_
 refine w_done ?_
 rcases its he with ⟨c241, he⟩ | ⟨c241, he⟩
 ·
  refine w_else rfl (nd_t c241) ?_
  refine w_skip ?_
  refine w_seq ?_
  refine w_region rfl ?_
  obtain ⟨y242, hy243, he⟩ := Option.bind_eq_some_iff.1 he
  refine w_d rfl (call_d (o_call co24 (vs := []) rfl (radomelaw01_sure.calls k hy243))) ?_
  refine w_d rfl (d_assign (v := .bool y242) rfl) ?_
  refine w_done ?_
  obtain rfl := Option.some.inj he
  refine w_return fn_5 rs_5 (.tmp (v := .bool y242) rfl .nil) ?_
  exact ⟨⟨[_, _], rfl⟩, hle, rfl⟩
 ·
  refine w_then rfl (nd_f c241) ?_
  refine w_seq ?_
  refine w_region rfl ?_
  refine w_d rfl (d_loado (v := .agg ⟨[.bool a_0, v_a_1]⟩) ty30 rfl .here rfl rfl rfl rfl) ?_
  refine w_d rfl (d_loado (v := .agg ⟨[.bool b_0, v_b_1]⟩) ty30 rfl (.there .here) rfl rfl rfl rfl) ?_
  obtain ⟨y246, hy247, he⟩ := Option.bind_eq_some_iff.1 he
  refine w_a rfl (o_call co22 (vs := [.agg ⟨[.bool a_0, v_a_1]⟩, .agg ⟨[.bool b_0, v_b_1]⟩]) rfl (wide_Int_Div.calls k (a := (⟨a_0, a_1⟩ : wide_Int)) (b := (⟨b_0, b_1⟩ : wide_Int)) hy247 h_a_1 h_b_1)) ?_
  rintro _ H248 _ ⟨rfl, e249, ⟨v250, v252, rfl, h251, h253⟩⟩
  refine w_d rfl (d_move (v := .tuple ⟨[.agg ⟨[.bool y246.1.f_neg, v250]⟩, .agg ⟨[.bool y246.2.1.f_neg, v252]⟩, errV 89 y246.2.2]⟩) rfl) ?_
  refine w_d rfl (d_ext (vs := [.agg ⟨[.bool y246.1.f_neg, v250]⟩, .agg ⟨[.bool y246.2.1.f_neg, v252]⟩, errV 89 y246.2.2]) rfl rfl) ?_
  refine w_d rfl (d_ext (vs := [.agg ⟨[.bool y246.1.f_neg, v250]⟩, .agg ⟨[.bool y246.2.1.f_neg, v252]⟩, errV 89 y246.2.2]) rfl rfl) ?_
  refine w_d rfl (d_ext (vs := [.agg ⟨[.bool y246.1.f_neg, v250]⟩, .agg ⟨[.bool y246.2.1.f_neg, v252]⟩, errV 89 y246.2.2]) rfl rfl) ?_
  refine w_a rfl (o_alloc zr30 rfl) ?_
  rintro _ _ _ ⟨b254, rfl, rfl, rfl⟩
  refine w_a rfl (o_alloc zr30 rfl) ?_
  rintro _ _ _ ⟨b255, rfl, rfl, rfl⟩
  refine w_a0 rfl (o_store (v := .agg ⟨[.bool y246.1.f_neg, v250]⟩) sz30 rfl rfl rfl rfl (one_cons rfl (one_cons (h251.one) one_nil)) (.there .here) (.here (.here .done))) ?_
  rintro _ _ _ ⟨rfl, rfl, rfl⟩
  refine w_a0 rfl (o_store (v := .agg ⟨[.bool y246.2.1.f_neg, v252]⟩) sz30 rfl rfl rfl rfl (one_cons rfl (one_cons (h253.one) one_nil)) .here (.here (.here .done))) ?_
  rintro _ _ _ ⟨rfl, rfl, rfl⟩
  refine w_d rfl (d_assign (v := errV 89 y246.2.2) rfl) ?_
  refine w_done ?_
  refine w_seq ?_
  refine w_region rfl ?_
  refine w_d rfl (d_loado (v := .agg ⟨[.bool y246.1.f_neg, v250]⟩) ty30 rfl (.there .here) rfl rfl rfl rfl) ?_
  refine w_d rfl (d_loado (v := .agg ⟨[.bool b_0, v_b_1]⟩) ty30 rfl (.there (.there (.there .here))) rfl rfl rfl rfl) ?_
  obtain ⟨y256, hy257, he⟩ := Option.bind_eq_some_iff.1 he
  refine w_a rfl (o_call co11 (vs := [.agg ⟨[.bool y246.1.f_neg, v250]⟩, .agg ⟨[.bool b_0, v_b_1]⟩]) rfl (wide_Int_Mul.calls k (a := (⟨y246.1.f_neg, y246.1.f_w⟩ : wide_Int)) (b := (⟨b_0, b_1⟩ : wide_Int)) hy257 h251 (h_b_1.mono e249))) ?_
  rintro _ H258 _ ⟨rfl, e259, ⟨v260, rfl, h261⟩⟩
  refine w_d rfl (d_move (v := .tuple ⟨[.agg ⟨[.bool y256.1.f_neg, v260]⟩, errV 89 y256.2]⟩) rfl) ?_
  refine w_d rfl (d_ext (vs := [.agg ⟨[.bool y256.1.f_neg, v260]⟩, errV 89 y256.2]) rfl rfl) ?_
  refine w_d rfl (d_ext (vs := [.agg ⟨[.bool y256.1.f_neg, v260]⟩, errV 89 y256.2]) rfl rfl) ?_
  refine w_a rfl (o_alloc zr30 rfl) ?_
  rintro _ _ _ ⟨b262, rfl, rfl, rfl⟩
  refine w_a0 rfl (o_store (v := .agg ⟨[.bool y256.1.f_neg, v260]⟩) sz30 rfl rfl rfl rfl (one_cons rfl (one_cons (h261.one) one_nil)) .here (.here (.here .done))) ?_
  rintro _ _ _ ⟨rfl, rfl, rfl⟩
  refine w_d rfl (d_assign (v := errV 89 y256.2) rfl) ?_
  refine w_done ?_
  refine w_seq ?_
  refine w_seq ?_
  refine w_region rfl ?_
  refine w_d rfl (d_move (v := errV 89 y246.2.2) rfl) ?_
  refine w_d rfl (d_nenil (e := y246.2.2) Tryd.underlying33 rfl) ?_
  refine w_d rfl (d_move (v := .bool y246.2.2.isSome) rfl) ?_
  refine w_g (g := !y246.2.2.isSome) rfl rfl rfl wn_f (fun g263 => d_move (v := errV 89 y256.2) rfl) ?_
  refine w_g (g := !y246.2.2.isSome) rfl rfl rfl wn_f (fun g264 => d_eqnil (e := y256.2) Tryd.underlying33 (cvt g264)) ?_
  refine w_g (g := !y246.2.2.isSome) rfl rfl rfl wn_f (fun g265 => d_move (v := .bool y256.2.isNone) (cvt g265)) ?_
  refine w_g (g := (!y246.2.2.isSome) && y256.2.isNone) rfl rfl rfl wn_gt (fun g266 => d_loado (v := .agg ⟨[.bool y246.2.1.f_neg, v252]⟩) ty30 rfl (.there .here) rfl rfl rfl rfl) ?_
  obtain ⟨y268, hy269, he⟩ := Option.bind_eq_some_iff.1 he
  refine w_g (g := (!y246.2.2.isSome) && y256.2.isNone) rfl rfl rfl wn_gt (fun g267 => call_d (o_call co18 (vs := [.agg ⟨[.bool y246.2.1.f_neg, v252]⟩]) (acons (cvt g267) (anil)) (wide_Int_Sign.calls k (a := (⟨y246.2.1.f_neg, y246.2.1.f_w⟩ : wide_Int)) (gd_t g267 hy269) (h253.mono e259)))) ?_
  refine w_g (g := (!y246.2.2.isSome) && y256.2.isNone) rfl rfl rfl wn_gt (fun g272 => d_lss (cvt g272) rfl) ?_
  refine w_g (g := !y246.2.2.isSome) rfl rfl rfl wn_f (fun g273 => d_and' (b := y256.2.isNone) (p := (decide (y268 < 0))) (cvt g273) (cva g273) rfl) ?_
  refine w_d rfl (d_or' (b := y246.2.2.isSome) (p := (y256.2.isNone && (decide (y268 < 0)))) rfl rfl rfl) ?_
  refine w_done ?_
  rcases its he with ⟨c274, he⟩ | ⟨c274, he⟩
  ·
   refine w_then rfl c274 ?_
   refine w_seq ?_
   refine w_region rfl ?_
   refine w_d rfl (d_assign (v := .bool false) rfl) ?_
   refine w_done ?_
   obtain rfl := Option.some.inj he
   refine w_return fn_5 rs_5 (.tmp (v := .bool false) rfl .nil) ?_
   exact ⟨⟨[_, _, _, _, _], rfl⟩, hle.trans (e249.trans e259), rfl⟩
  ·
   refine w_else rfl (Bool.eq_false_iff.2 c274) ?_
   refine w_skip ?_
   refine w_seq ?_
   refine w_region rfl ?_
   refine w_d rfl (d_move (v := errV 89 y256.2) rfl) ?_
   refine w_d rfl (d_eqnil (e := y256.2) Tryd.underlying33 rfl) ?_
   refine w_done ?_
   rcases its he with ⟨c275, he⟩ | ⟨c275, he⟩
   ·
    refine w_then rfl c275 ?_
    refine w_seq ?_
    refine w_region rfl ?_
    refine w_d rfl (d_loado (v := .agg ⟨[.bool y256.1.f_neg, v260]⟩) ty30 rfl .here rfl rfl rfl rfl) ?_
    refine w_d rfl (d_loado (v := .agg ⟨[.bool y246.2.1.f_neg, v252]⟩) ty30 rfl (.there .here) rfl rfl rfl rfl) ?_
    obtain ⟨y276, hy277, he⟩ := Option.bind_eq_some_iff.1 he
    refine w_a rfl (o_call co9 (vs := [.agg ⟨[.bool y256.1.f_neg, v260]⟩, .agg ⟨[.bool y246.2.1.f_neg, v252]⟩]) rfl (wide_Int_Add.calls k (a := (⟨y256.1.f_neg, y256.1.f_w⟩ : wide_Int)) (b := (⟨y246.2.1.f_neg, y246.2.1.f_w⟩ : wide_Int)) hy277 h261 (h253.mono e259))) ?_
    rintro _ H278 _ ⟨rfl, e279, ⟨v280, rfl, h281⟩⟩
    refine w_d rfl (d_move (v := .tuple ⟨[.agg ⟨[.bool y276.1.f_neg, v280]⟩, errV 89 y276.2]⟩) rfl) ?_
    refine w_d rfl (d_ext (vs := [.agg ⟨[.bool y276.1.f_neg, v280]⟩, errV 89 y276.2]) rfl rfl) ?_
    refine w_d rfl (d_ext (vs := [.agg ⟨[.bool y276.1.f_neg, v280]⟩, errV 89 y276.2]) rfl rfl) ?_
    refine w_a rfl (o_alloc zr30 rfl) ?_
    rintro _ _ _ ⟨b282, rfl, rfl, rfl⟩
    refine w_a0 rfl (o_store (v := .agg ⟨[.bool y276.1.f_neg, v280]⟩) sz30 rfl rfl rfl rfl (one_cons rfl (one_cons (h281.one) one_nil)) .here (.here (.here .done))) ?_
    rintro _ _ _ ⟨rfl, rfl, rfl⟩
    refine w_d rfl (d_assign (v := errV 89 y276.2) rfl) ?_
    refine w_done ?_
    refine w_seq ?_
    refine w_region rfl ?_
    refine w_d rfl (d_move (v := errV 89 y276.2) rfl) ?_
    refine w_d rfl (d_nenil (e := y276.2) Tryd.underlying33 rfl) ?_
    refine w_d rfl (d_move (v := .bool y276.2.isSome) rfl) ?_
    refine w_g (g := !y276.2.isSome) rfl rfl rfl wn_f (fun g283 => d_loado (v := .agg ⟨[.bool y276.1.f_neg, v280]⟩) ty30 rfl .here rfl rfl rfl rfl) ?_
    refine w_g (g := !y276.2.isSome) rfl rfl rfl wn_f (fun g284 => d_loado (v := .agg ⟨[.bool a_0, v_a_1]⟩) ty30 rfl (.there (.there (.there (.there .here)))) rfl rfl rfl rfl) ?_
    obtain ⟨y286, hy287, he⟩ := Option.bind_eq_some_iff.1 he
    refine w_g (g := !y276.2.isSome) rfl rfl rfl wn_f (fun g285 => call_d (o_call co16 (vs := [.agg ⟨[.bool y276.1.f_neg, v280]⟩, .agg ⟨[.bool a_0, v_a_1]⟩]) (acons (cvt g285) (acons (cvt g285) (anil))) (wide_Int_Cmp.calls k (a := (⟨y276.1.f_neg, y276.1.f_w⟩ : wide_Int)) (b := (⟨a_0, a_1⟩ : wide_Int)) (gd_t g285 hy287) h281 (h_a_1.mono ((e249.trans e259).trans e279))))) ?_
    refine w_g (g := !y276.2.isSome) rfl rfl rfl wn_f (fun g290 => d_neq (cvt g290) rfl) ?_
    refine w_d rfl (d_or' (b := y276.2.isSome) (p := (!decide (y286 = 0))) rfl rfl rfl) ?_
    refine w_done ?_
    rcases its he with ⟨c291, he⟩ | ⟨c291, he⟩
    ·
     refine w_then rfl c291 ?_
     refine w_seq ?_
     refine w_region rfl ?_
     refine w_d rfl (d_assign (v := .bool false) rfl) ?_
     refine w_done ?_
     obtain rfl := Option.some.inj he
     refine w_return fn_5 rs_5 (.tmp (v := .bool false) rfl .nil) ?_
     exact ⟨⟨[_, _, _, _, _, _], rfl⟩, hle.trans ((e249.trans e259).trans e279), rfl⟩
    ·
     refine w_else rfl (Bool.eq_false_iff.2 c291) ?_
     refine w_skip ?_
     refine w_seq ?_
     refine w_region rfl ?_
     obtain ⟨y292, hy293, he⟩ := Option.bind_eq_some_iff.1 he
     refine w_d rfl (call_d (o_call co24 (vs := []) rfl (radomelaw01_sure.calls k hy293))) ?_
     refine w_d rfl (d_assign (v := .bool y292) rfl) ?_
     refine w_done ?_
     obtain rfl := Option.some.inj he
     refine w_return fn_5 rs_5 (.tmp (v := .bool y292) rfl .nil) ?_
     exact ⟨⟨[_, _, _, _, _, _], rfl⟩, hle.trans ((e249.trans e259).trans e279), rfl⟩
   ·
    refine w_else rfl (Bool.eq_false_iff.2 c275) ?_
    refine w_skip ?_
    refine w_seq ?_
    refine w_region rfl ?_
    obtain ⟨y296, hy297, he⟩ := Option.bind_eq_some_iff.1 he
    refine w_d rfl (call_d (o_call co24 (vs := []) rfl (radomelaw01_sure.calls k hy297))) ?_
    refine w_d rfl (d_assign (v := .bool y296) rfl) ?_
    refine w_done ?_
    obtain rfl := Option.some.inj he
    refine w_return fn_5 rs_5 (.tmp (v := .bool y296) rfl .nil) ?_
    exact ⟨⟨[_, _, _, _, _], rfl⟩, hle.trans (e249.trans e259), rfl⟩
set_option maxRecDepth 100000 in
set_option maxHeartbeats 2000000 in
theorem radomelaw01_WideLaws.j1_ok {k : Nat} {h : radomelaw01_WideLaws.Hs} (hh : radomelaw01_WideLaws.OK h) {H0 H : Hp} {L : Items} {r : Bool} {jk_ : Nat → Value} {t4 : Bool} {a_0 : Bool} {a_1 : List Int} {b_0 : Bool} {b_1 : List Int} {c_0 : Bool} {c_1 : List Int} {s_0 : Bool} {s_1 : List Int} {e_ : Option Int} {v_a_1 : Value} {v_b_1 : Value} {v_c_1 : Value} {v_s_1 : Value} {b_a : Nat} {b_b : Nat} {b_c_ : Nat} {b_s : Nat} (hle : H0.le H) (hG : GH H) (he : radomelaw01_WideLaws.j1 k h t4 a_0 a_1 b_0 b_1 c_0 c_1 s_0 s_1 e_ = some r) (h_a_1 : Ro (Kd.int .u32) H v_a_1 a_1) (h_b_1 : Ro (Kd.int .u32) H v_b_1 b_1) (h_c_1 : Ro (Kd.int .u32) H v_c_1 c_1) (h_s_1 : Ro (Kd.int .u32) H v_s_1 s_1) : Wp Tryd.prog 5 246 radomelaw01_WideLaws.Kj1 (upd (upd (upd (upd (upd (upd jk_ 4 (.bool t4)) 10 (.pointer (some ⟨b_a, 0, none⟩))) 11 (.pointer (some ⟨b_b, 0, none⟩))) 12 (.pointer (some ⟨b_c_, 0, none⟩))) 13 (.pointer (some ⟨b_s, 0, none⟩))) 14 (errV 89 e_)) H (some (b_s, .cells ⟨[.bool s_0, v_s_1]⟩ 30 (0, 0)) :: some (b_a, .cells ⟨[.bool a_0, v_a_1]⟩ 30 (0, 0)) :: some (b_b, .cells ⟨[.bool b_0, v_b_1]⟩ 30 (0, 0)) :: some (b_c_, .cells ⟨[.bool c_0, v_c_1]⟩ 30 (0, 0)) :: L) (radomelaw01_WideLaws.R H0 L r) := by
 unfold radomelaw01_WideLaws.j1 at he
 unfold radomelaw01_WideLaws.Kj1
 refine w_seq ?_
 refine w_region rfl ?_
 refine w_d rfl (d_loado (v := .agg ⟨[.bool s_0, v_s_1]⟩) ty30 rfl .here rfl rfl rfl rfl) ?_
 refine w_d rfl (d_loado (v := .agg ⟨[.bool c_0, v_c_1]⟩) ty30 rfl (.there (.there (.there .here))) rfl rfl rfl rfl) ?_
 obtain ⟨y193, hy194, he⟩ := Option.bind_eq_some_iff.1 he
 refine w_a rfl (o_call co11 (vs := [.agg ⟨[.bool s_0, v_s_1]⟩, .agg ⟨[.bool c_0, v_c_1]⟩]) rfl (wide_Int_Mul.calls k (a := (⟨s_0, s_1⟩ : wide_Int)) (b := (⟨c_0, c_1⟩ : wide_Int)) hy194 h_s_1 h_c_1)) ?_
 rintro _ H195 _ ⟨rfl, e196, ⟨v197, rfl, h198⟩⟩
 refine w_d rfl (d_move (v := .tuple ⟨[.agg ⟨[.bool y193.1.f_neg, v197]⟩, errV 89 y193.2]⟩) rfl) ?_
 refine w_d rfl (d_ext (vs := [.agg ⟨[.bool y193.1.f_neg, v197]⟩, errV 89 y193.2]) rfl rfl) ?_
 refine w_d rfl (d_ext (vs := [.agg ⟨[.bool y193.1.f_neg, v197]⟩, errV 89 y193.2]) rfl rfl) ?_
 refine w_a rfl (o_alloc zr30 rfl) ?_
 rintro _ _ _ ⟨b199, rfl, rfl, rfl⟩
 refine w_a0 rfl (o_store (v := .agg ⟨[.bool y193.1.f_neg, v197]⟩) sz30 rfl rfl rfl rfl (one_cons rfl (one_cons (h198.one) one_nil)) .here (.here (.here .done))) ?_
 rintro _ _ _ ⟨rfl, rfl, rfl⟩
 refine w_d rfl (d_assign (v := errV 89 y193.2) rfl) ?_
 refine w_done ?_
 refine w_seq ?_
 refine w_region rfl ?_
 refine w_d rfl (d_loado (v := .agg ⟨[.bool a_0, v_a_1]⟩) ty30 rfl (.there (.there .here)) rfl rfl rfl rfl) ?_
 refine w_d rfl (d_loado (v := .agg ⟨[.bool c_0, v_c_1]⟩) ty30 rfl (.there (.there (.there (.there .here)))) rfl rfl rfl rfl) ?_
 obtain ⟨y200, hy201, he⟩ := Option.bind_eq_some_iff.1 he
 refine w_a rfl (o_call co11 (vs := [.agg ⟨[.bool a_0, v_a_1]⟩, .agg ⟨[.bool c_0, v_c_1]⟩]) rfl (wide_Int_Mul.calls k (a := (⟨a_0, a_1⟩ : wide_Int)) (b := (⟨c_0, c_1⟩ : wide_Int)) hy201 (h_a_1.mono e196) (h_c_1.mono e196))) ?_
 rintro _ H202 _ ⟨rfl, e203, ⟨v204, rfl, h205⟩⟩
 refine w_d rfl (d_move (v := .tuple ⟨[.agg ⟨[.bool y200.1.f_neg, v204]⟩, errV 89 y200.2]⟩) rfl) ?_
 refine w_d rfl (d_ext (vs := [.agg ⟨[.bool y200.1.f_neg, v204]⟩, errV 89 y200.2]) rfl rfl) ?_
 refine w_d rfl (d_ext (vs := [.agg ⟨[.bool y200.1.f_neg, v204]⟩, errV 89 y200.2]) rfl rfl) ?_
 refine w_a rfl (o_alloc zr30 rfl) ?_
 rintro _ _ _ ⟨b206, rfl, rfl, rfl⟩
 refine w_a0 rfl (o_store (v := .agg ⟨[.bool y200.1.f_neg, v204]⟩) sz30 rfl rfl rfl rfl (one_cons rfl (one_cons (h205.one) one_nil)) .here (.here (.here .done))) ?_
 rintro _ _ _ ⟨rfl, rfl, rfl⟩
 refine w_d rfl (d_assign (v := errV 89 y200.2) rfl) ?_
 refine w_done ?_
 refine w_seq ?_
 refine w_region rfl ?_
 refine w_d rfl (d_loado (v := .agg ⟨[.bool b_0, v_b_1]⟩) ty30 rfl (.there (.there (.there (.there .here)))) rfl rfl rfl rfl) ?_
 refine w_d rfl (d_loado (v := .agg ⟨[.bool c_0, v_c_1]⟩) ty30 rfl (.there (.there (.there (.there (.there .here))))) rfl rfl rfl rfl) ?_
 obtain ⟨y207, hy208, he⟩ := Option.bind_eq_some_iff.1 he
 refine w_a rfl (o_call co11 (vs := [.agg ⟨[.bool b_0, v_b_1]⟩, .agg ⟨[.bool c_0, v_c_1]⟩]) rfl (wide_Int_Mul.calls k (a := (⟨b_0, b_1⟩ : wide_Int)) (b := (⟨c_0, c_1⟩ : wide_Int)) hy208 (h_b_1.mono (e196.trans e203)) (h_c_1.mono (e196.trans e203)))) ?_
 rintro _ H209 _ ⟨rfl, e210, ⟨v211, rfl, h212⟩⟩
 refine w_d rfl (d_move (v := .tuple ⟨[.agg ⟨[.bool y207.1.f_neg, v211]⟩, errV 89 y207.2]⟩) rfl) ?_
 refine w_d rfl (d_ext (vs := [.agg ⟨[.bool y207.1.f_neg, v211]⟩, errV 89 y207.2]) rfl rfl) ?_
 refine w_d rfl (d_ext (vs := [.agg ⟨[.bool y207.1.f_neg, v211]⟩, errV 89 y207.2]) rfl rfl) ?_
 refine w_a rfl (o_alloc zr30 rfl) ?_
 rintro _ _ _ ⟨b213, rfl, rfl, rfl⟩
 refine w_a0 rfl (o_store (v := .agg ⟨[.bool y207.1.f_neg, v211]⟩) sz30 rfl rfl rfl rfl (one_cons rfl (one_cons (h212.one) one_nil)) .here (.here (.here .done))) ?_
 rintro _ _ _ ⟨rfl, rfl, rfl⟩
 refine w_d rfl (d_assign (v := errV 89 y207.2) rfl) ?_
 refine w_done ?_
 refine w_seq ?_
 refine w_seq ?_
 refine w_region rfl ?_
 refine w_d rfl (d_move (v := errV 89 e_) rfl) ?_
 refine w_d rfl (d_eqnil (e := e_) Tryd.underlying33 rfl) ?_
 refine w_d rfl (d_move (v := .bool e_.isNone) rfl) ?_
 refine w_g (g := e_.isNone) rfl rfl rfl wn_t (fun g214 => d_move (v := errV 89 y193.2) rfl) ?_
 refine w_g (g := e_.isNone) rfl rfl rfl wn_t (fun g215 => d_eqnil (e := y193.2) Tryd.underlying33 (cvt g215)) ?_
 refine w_d rfl (d_and' (b := e_.isNone) (p := y193.2.isNone) rfl rfl rfl) ?_
 refine w_d rfl (d_move (v := .bool (e_.isNone && y193.2.isNone)) rfl) ?_
 refine w_g (g := e_.isNone && y193.2.isNone) rfl rfl rfl wn_t (fun g216 => d_move (v := errV 89 y200.2) rfl) ?_
 refine w_g (g := e_.isNone && y193.2.isNone) rfl rfl rfl wn_t (fun g217 => d_eqnil (e := y200.2) Tryd.underlying33 (cvt g217)) ?_
 refine w_d rfl (d_and' (b := (e_.isNone && y193.2.isNone)) (p := y200.2.isNone) rfl rfl rfl) ?_
 refine w_d rfl (d_move (v := .bool ((e_.isNone && y193.2.isNone) && y200.2.isNone)) rfl) ?_
 refine w_g (g := (e_.isNone && y193.2.isNone) && y200.2.isNone) rfl rfl rfl wn_t (fun g218 => d_move (v := errV 89 y207.2) rfl) ?_
 refine w_g (g := (e_.isNone && y193.2.isNone) && y200.2.isNone) rfl rfl rfl wn_t (fun g219 => d_eqnil (e := y207.2) Tryd.underlying33 (cvt g219)) ?_
 refine w_d rfl (d_and' (b := ((e_.isNone && y193.2.isNone) && y200.2.isNone)) (p := y207.2.isNone) rfl rfl rfl) ?_
 refine w_done ?_
 rcases its he with ⟨c220, he⟩ | ⟨c220, he⟩
 ·
  refine w_then rfl c220 ?_
  refine w_seq ?_
  refine w_region rfl ?_
  refine w_d rfl (d_loado (v := .agg ⟨[.bool y200.1.f_neg, v204]⟩) ty30 rfl (.there .here) rfl rfl rfl rfl) ?_
  refine w_d rfl (d_loado (v := .agg ⟨[.bool y207.1.f_neg, v211]⟩) ty30 rfl .here rfl rfl rfl rfl) ?_
  obtain ⟨y221, hy222, he⟩ := Option.bind_eq_some_iff.1 he
  refine w_a rfl (o_call co9 (vs := [.agg ⟨[.bool y200.1.f_neg, v204]⟩, .agg ⟨[.bool y207.1.f_neg, v211]⟩]) rfl (wide_Int_Add.calls k (a := (⟨y200.1.f_neg, y200.1.f_w⟩ : wide_Int)) (b := (⟨y207.1.f_neg, y207.1.f_w⟩ : wide_Int)) hy222 (h205.mono e210) h212)) ?_
  rintro _ H223 _ ⟨rfl, e224, ⟨v225, rfl, h226⟩⟩
  refine w_d rfl (d_move (v := .tuple ⟨[.agg ⟨[.bool y221.1.f_neg, v225]⟩, errV 89 y221.2]⟩) rfl) ?_
  refine w_d rfl (d_ext (vs := [.agg ⟨[.bool y221.1.f_neg, v225]⟩, errV 89 y221.2]) rfl rfl) ?_
  refine w_d rfl (d_ext (vs := [.agg ⟨[.bool y221.1.f_neg, v225]⟩, errV 89 y221.2]) rfl rfl) ?_
  refine w_a rfl (o_alloc zr30 rfl) ?_
  rintro _ _ _ ⟨b227, rfl, rfl, rfl⟩
  refine w_a0 rfl (o_store (v := .agg ⟨[.bool y221.1.f_neg, v225]⟩) sz30 rfl rfl rfl rfl (one_cons rfl (one_cons (h226.one) one_nil)) .here (.here (.here .done))) ?_
  rintro _ _ _ ⟨rfl, rfl, rfl⟩
  refine w_d rfl (d_assign (v := errV 89 y221.2) rfl) ?_
  refine w_done ?_
  refine w_seq ?_
  refine w_region rfl ?_
  refine w_d rfl (d_move (v := errV 89 y221.2) rfl) ?_
  refine w_d rfl (d_nenil (e := y221.2) Tryd.underlying33 rfl) ?_
  refine w_d rfl (d_move (v := .bool y221.2.isSome) rfl) ?_
  refine w_g (g := !y221.2.isSome) rfl rfl rfl wn_f (fun g228 => d_loado (v := .agg ⟨[.bool y221.1.f_neg, v225]⟩) ty30 rfl .here rfl rfl rfl rfl) ?_
  refine w_g (g := !y221.2.isSome) rfl rfl rfl wn_f (fun g229 => d_loado (v := .agg ⟨[.bool y193.1.f_neg, v197]⟩) ty30 rfl (.there (.there (.there .here))) rfl rfl rfl rfl) ?_
  obtain ⟨y231, hy232, he⟩ := Option.bind_eq_some_iff.1 he
  refine w_g (g := !y221.2.isSome) rfl rfl rfl wn_f (fun g230 => call_d (o_call co16 (vs := [.agg ⟨[.bool y221.1.f_neg, v225]⟩, .agg ⟨[.bool y193.1.f_neg, v197]⟩]) (acons (cvt g230) (acons (cvt g230) (anil))) (wide_Int_Cmp.calls k (a := (⟨y221.1.f_neg, y221.1.f_w⟩ : wide_Int)) (b := (⟨y193.1.f_neg, y193.1.f_w⟩ : wide_Int)) (gd_t g230 hy232) h226 (h198.mono ((e203.trans e210).trans e224))))) ?_
  refine w_g (g := !y221.2.isSome) rfl rfl rfl wn_f (fun g235 => d_neq (cvt g235) rfl) ?_
  refine w_d rfl (d_or' (b := y221.2.isSome) (p := (!decide (y231 = 0))) rfl rfl rfl) ?_
  refine w_done ?_
  rcases its he with ⟨c236, he⟩ | ⟨c236, he⟩
  ·
   refine w_then rfl c236 ?_
   refine w_seq ?_
   refine w_region rfl ?_
   refine w_d rfl (d_assign (v := .bool false) rfl) ?_
   refine w_done ?_
   obtain rfl := Option.some.inj he
   refine w_return fn_5 rs_5 (.tmp (v := .bool false) rfl .nil) ?_
   exact ⟨⟨[_, _, _, _, _, _, _, _], rfl⟩, hle.trans (((e196.trans e203).trans e210).trans e224), rfl⟩
  ·
   refine w_else rfl (Bool.eq_false_iff.2 c236) ?_
   refine w_skip ?_
   refine w_del (.there (.there (.there (.there (.there (.there (.there .here))))))) ?_
   refine w_del (.there (.there (.there (.there .here)))) ?_
   refine w_del (.there (.there (.there .here))) ?_
   refine w_del (.there (.there .here)) ?_
   refine w_del (.there .here) ?_
   refine w_del .here ?_
   refine w_sl 4 (.bool t4) rfl ?_
   refine w_sl 10 (.pointer (some ⟨b_a, 0, none⟩)) rfl ?_
   refine w_sl 11 (.pointer (some ⟨b_b, 0, none⟩)) rfl ?_
   exact radomelaw01_WideLaws.j2_ok (k := k) hh (hle.trans (((e196.trans e203).trans e210).trans e224)) (hG.mono (((e196.trans e203).trans e210).trans e224)) he (h_a_1.mono (((e196.trans e203).trans e210).trans e224)) (h_b_1.mono (((e196.trans e203).trans e210).trans e224))
 ·
  refine w_else rfl (Bool.eq_false_iff.2 c220) ?_
  refine w_skip ?_
  refine w_del (.there (.there (.there (.there (.there (.there .here)))))) ?_
  refine w_del (.there (.there (.there .here))) ?_
  refine w_del (.there (.there .here)) ?_
  refine w_del (.there .here) ?_
  refine w_del .here ?_
  refine w_sl 4 (.bool t4) rfl ?_
  refine w_sl 10 (.pointer (some ⟨b_a, 0, none⟩)) rfl ?_
  refine w_sl 11 (.pointer (some ⟨b_b, 0, none⟩)) rfl ?_
  exact radomelaw01_WideLaws.j2_ok (k := k) hh (hle.trans ((e196.trans e203).trans e210)) (hG.mono ((e196.trans e203).trans e210)) he (h_a_1.mono ((e196.trans e203).trans e210)) (h_b_1.mono ((e196.trans e203).trans e210))
theorem radomelaw01_WideLaws.ok : ∀ k, radomelaw01_WideLaws.OK (radomelaw01_WideLaws.hs k)
 | 0 => ⟨⟩
 | k + 1 => ⟨⟩
set_option maxRecDepth 100000 in
set_option maxHeartbeats 2000000 in
theorem radomelaw01_WideLaws.calls (k : Nat) {H : Hp} {L : Items} {l : T56} {of_ : T57} {v0_l : Value} {v1_l : Value} {v2_l : Value} {r : Bool} (hG : GH H) (he : radomelaw01_WideLaws.f k l of_ = some r) (h0_l : Ro (Kd.int .u8) H v0_l l.e0) (h1_l : Ro (Kd.int .u8) H v1_l l.e1) (h2_l : Ro (Kd.int .u8) H v2_l l.e2) : Ct Tryd.prog 5 ⟨[.agg ⟨[v0_l, v1_l, v2_l]⟩, .agg ⟨[.int .i64 of_.e0, .int .i64 of_.e1, .int .i64 of_.e2]⟩]⟩ H L (fun v H' L' => L = L' ∧ H = H' ∧ v = .bool r) := by
 refine ct_outs (O := radomelaw01_WideLaws.out r) (fun _ _ h => h) ?_
 have hle : H.le H := .refl _
 have hh := radomelaw01_WideLaws.ok k
 unfold radomelaw01_WideLaws.f at he
 refine ct_enter (args := [.agg ⟨[v0_l, v1_l, v2_l]⟩, .agg ⟨[.int .i64 of_.e0, .int .i64 of_.e1, .int .i64 of_.e2]⟩]) fn_5 rfl nt_5 rfl ?_
 refine w_seq ?_
 refine w_region rfl ?_
 refine w_a rfl (o_box (v := .agg ⟨[v0_l, v1_l, v2_l]⟩) rfl rfl) ?_
 rintro _ _ _ ⟨b1, rfl, rfl, rfl⟩
 refine w_a rfl (o_box (v := .agg ⟨[.int .i64 of_.e0, .int .i64 of_.e1, .int .i64 of_.e2]⟩) rfl rfl) ?_
 rintro _ _ _ ⟨b2, rfl, rfl, rfl⟩
 refine w_d rfl (d_assign (v := .bool false) rfl) ?_
 refine w_done ?_
 refine w_seq ?_
 refine w_region rfl ?_
 refine w_a rfl (o_alloc zr58 rfl) ?_
 rintro _ _ _ ⟨b3, rfl, rfl, rfl⟩
 refine w_done ?_
 refine w_seq ?_
 refine w_seq ?_
 refine w_region rfl ?_
 refine w_d rfl (d_assign (v := .int .i64 0) rfl) ?_
 refine w_done ?_
 refine w_block ?_
 refine w_loop ?_
 refine w_seq ?_
 refine w_seq ?_
 refine w_region rfl ?_
 refine w_d rfl (d_move (v := .int .i64 0) rfl) ?_
 refine w_d rfl (d_lss rfl rfl) ?_
 refine w_done ?_
 refine w_then rfl rfl ?_
 refine w_skip ?_
 refine w_seq ?_
 refine w_block ?_
 refine w_seq ?_
 obtain ⟨y4, hy5, he⟩ := Option.bind_eq_some_iff.1 he
 obtain ⟨y10, hy11, he⟩ := Option.bind_eq_some_iff.1 he
 refine w_none (?_)
 refine w_drawn (p := 11) (tl := [11]) [[], [(0, some 42)], [(1, some 43)], [], [(3, some 45)], [(4, some 46)], [(5, some 47)], [(6, some 48)], [(2, some 44), (7, some 49)], [(8, some 50)], []] [some 42, some 43, some 44, some 45, some 46, some 47, some 48, some 49, some 50, some 51, some 7] (fctF (.is (.int .i64 0) :: .is (.pointer (some ⟨b1, 0, none⟩)) :: .is (v0_l) :: .is (.int .i64 0) :: .is (.pointer (some ⟨b2, 0, none⟩)) :: .is (.int .i64 of_.e0) :: .is (.int .i64 (Int.tmod of_.e0 2)) :: .is (.bool (!decide ((Int.tmod of_.e0 2) = 0))) :: .of (radomelaw01_whole.out y4) (radomelaw01_whole.out_mono _) :: .of (radomelaw01_giveInt.out y10) (radomelaw01_giveInt.out_mono _) :: .box 30 [.bool false, .slice none 0 0] :: [])) (fun m_ => m_ 10 :: some (b3, .cells ⟨[.bool false, .slice none 0 0, .bool false, .slice none 0 0, .bool false, .slice none 0 0]⟩ 58 (0, 0)) :: some (b2, .cells ⟨[.int .i64 of_.e0, .int .i64 of_.e1, .int .i64 of_.e2]⟩ 57 (0, 0)) :: some (b1, .cells ⟨[v0_l, v1_l, v2_l]⟩ 56 (0, 0)) :: L) (fun _ => none) mixed (by kernel_rfl) (by kernel_rfl) rfl (fct_mono (by kernel_rfl)) ⟨(by intro H' m_ hH hm_ hu_; refine depK_nil ?_; exact s_d (m_ 0) rfl (d_move (v := .int .i64 0) rfl) (by exact rfl) rfl), (by intro H' m_ hH hm_ hu_; rintro _ rfl; refine depK_nil ?_; exact s_d (m_ 1) rfl (d_idxArr (o' := 0) Tryd.underlying56 sz22 rfl rfl (by decide) rfl) (by exact rfl) rfl), (by intro H' m_ hH hm_ hu_; rintro _ rfl; refine depK_nil ?_; exact s_d (m_ 2) rfl (d_loado (v := v0_l) ty22 rfl (.there (.there (.there .here))) rfl rfl rfl rfl) (by exact rfl) rfl), (by intro H' m_ hH hm_ hu_; refine depK_nil ?_; exact s_d (m_ 3) rfl (d_move (v := .int .i64 0) rfl) (by exact rfl) rfl), (by intro H' m_ hH hm_ hu_; rintro _ rfl; refine depK_nil ?_; exact s_d (m_ 4) rfl (d_idxArr (o' := 0) Tryd.underlying57 sz3 rfl rfl (by decide) rfl) (by exact rfl) rfl), (by intro H' m_ hH hm_ hu_; rintro _ rfl; refine depK_nil ?_; exact s_d (m_ 5) rfl (d_loado (v := .int .i64 of_.e0) ty3 rfl (.there (.there .here)) rfl rfl rfl rfl) (by exact rfl) rfl), (by intro H' m_ hH hm_ hu_; rintro _ rfl; refine depK_nil ?_; exact s_d (m_ 6) rfl (d_rem rfl rfl (by decide)) (by exact rfl) rfl), (by intro H' m_ hH hm_ hu_; rintro _ rfl; refine depK_nil ?_; exact s_d (m_ 7) rfl (d_neq rfl rfl) (by exact rfl) rfl), (by intro H' m_ hH hm_ hu_; rintro _ rfl _ rfl; refine depK_nil ?_; exact s_k (m_ 8) rfl (o_call co7 (vs := [v0_l, .bool (!decide ((Int.tmod of_.e0 2) = 0)), .int .i64 150]) rfl (radomelaw01_whole.calls k hy5 ((h0_l.mono hH).src))) rfl (by rintro v_ H_ _ ⟨rfl, e_, h_⟩; exact ⟨rfl, e_, h_⟩)), (by intro H' m_ hH hm_ hu_; rintro _ ⟨v8, rfl, h9⟩; refine depK_nil ?_; exact s_k (m_ 9) rfl (o_call co8 (vs := [.agg ⟨[.bool y4.f_Neg, v8]⟩]) rfl (radomelaw01_giveInt.calls k (a := (⟨y4.f_Neg, y4.f_D⟩ : radomeref01_Num)) hy11 h9)) rfl (by rintro v_ H_ _ ⟨rfl, e_, h_⟩; exact ⟨rfl, e_, h_⟩)), (by intro H' m_ hH hm_ hu_; refine depK_nil ?_; exact s_box hm_ rfl rfl (o_alloc zr30 rfl) rfl (fun _ => .here) (by exact fun b_ => ⟨b_, rfl, rfl⟩)), trivial⟩ ?_
 intro H17 e18
 rintro _ _ rfl _ _ rfl _ _ rfl _ _ rfl _ _ rfl _ _ rfl _ _ rfl _ _ rfl _ _ ⟨v8, rfl, h9⟩ _ _ ⟨v14, rfl, h15⟩ _ _ ⟨b16, rfl, rfl⟩
 refine w_a0 rfl (o_store (v := .agg ⟨[.bool y10.f_neg, v14]⟩) sz30 rfl rfl rfl rfl (one_cons rfl (one_cons (h15.one) one_nil)) .here (.here (.here .done))) ?_
 rintro _ _ _ ⟨rfl, rfl, rfl⟩
 refine w_done ?_
 refine w_seq ?_
 obtain ⟨y19, hy20, he⟩ := Option.bind_eq_some_iff.1 he
 refine w_none (?_)
 refine w_drawn (p := 13) (tl := [13]) [[], [], [(1, some 54)], [(2, some 55)], [(3, some 56)], [(4, some 57)], [(5, some 58)], [(0, some 53), (6, some 59)], [(7, some 60)], [(8, some 52)], [(8, some 52)], [], [(9, some 61), (11, some 8)]] [some 53, some 54, some 55, some 56, some 57, some 58, some 59, some 60, some 52, some 61, some 62, some 8, none] (fctF (.is (.agg ⟨[.bool y10.f_neg, v14]⟩) :: .is (.int .i64 0) :: .is (.pointer (some ⟨b2, 0, none⟩)) :: .is (.int .i64 of_.e0) :: .is (.int .u64 ((of_.e0) % 18446744073709551616)) :: .is (.int .u64 (Int.tmod ((of_.e0) % 18446744073709551616) 3400)) :: .is (.int .i64 (w64 (Int.tmod ((of_.e0) % 18446744073709551616) 3400))) :: .of (wide_Int_Move.out y19) (wide_Int_Move.out_mono _) :: .of (fun H v => ∃ v25, v = .tuple ⟨[.agg ⟨[.bool y19.1.f_neg, v25]⟩, errV 89 y19.2]⟩ ∧ Ro (Kd.int .u32) H v25 y19.1.f_w) (by rintro _ _ _ hle ⟨v25, rfl, h26⟩; exact ⟨v25, rfl, h26.mono hle⟩) :: .of (fun H v => ∃ v27, v = .agg ⟨[.bool y19.1.f_neg, v27]⟩ ∧ Ro (Kd.int .u32) H v27 y19.1.f_w) (by rintro _ _ _ hle ⟨v27, rfl, h28⟩; exact ⟨v27, rfl, h28.mono hle⟩) :: .is (errV 89 y19.2) :: .box 30 [.bool false, .slice none 0 0] :: .st 11 (fun H b it => ∃ v30, it = some (b, .cells ⟨[.bool y19.1.f_neg, v30]⟩ 30 (0, 0)) ∧ Ro (Kd.int .u32) H v30 y19.1.f_w) (by rintro _ _ _ _ hle ⟨v30, rfl, h31⟩; exact ⟨v30, rfl, h31.mono hle⟩) :: [])) (fun m_ => pk (m_ 12) (m_ 11) :: some (b16, .cells ⟨[.bool y10.f_neg, v14]⟩ 30 (0, 0)) :: some (b3, .cells ⟨[.bool false, .slice none 0 0, .bool false, .slice none 0 0, .bool false, .slice none 0 0]⟩ 58 (0, 0)) :: some (b2, .cells ⟨[.int .i64 of_.e0, .int .i64 of_.e1, .int .i64 of_.e2]⟩ 57 (0, 0)) :: some (b1, .cells ⟨[v0_l, v1_l, v2_l]⟩ 56 (0, 0)) :: L) (fun _ => none) mixed (by kernel_rfl) (by kernel_rfl) rfl (fct_mono (by kernel_rfl)) ⟨(by intro H' m_ hH hm_ hu_; refine depK_nil ?_; exact s_d (m_ 0) rfl (d_loado (v := .agg ⟨[.bool y10.f_neg, v14]⟩) ty30 rfl (.there .here) rfl rfl rfl rfl) (by exact rfl) rfl), (by intro H' m_ hH hm_ hu_; refine depK_nil ?_; exact s_d (m_ 1) rfl (d_move (v := .int .i64 0) rfl) (by exact rfl) rfl), (by intro H' m_ hH hm_ hu_; rintro _ rfl; refine depK_nil ?_; exact s_d (m_ 2) rfl (d_idxArr (o' := 0) Tryd.underlying57 sz3 rfl rfl (by decide) rfl) (by exact rfl) rfl), (by intro H' m_ hH hm_ hu_; rintro _ rfl; refine depK_nil ?_; exact s_d (m_ 3) rfl (d_loado (v := .int .i64 of_.e0) ty3 rfl (.there (.there (.there .here))) rfl rfl rfl rfl) (by exact rfl) rfl), (by intro H' m_ hH hm_ hu_; rintro _ rfl; refine depK_nil ?_; exact s_d (m_ 4) rfl (d_conv (c := (of_.e0) % 18446744073709551616) Tryd.underlying3 Tryd.underlying59 rfl rfl) (by exact rfl) rfl), (by intro H' m_ hH hm_ hu_; rintro _ rfl; refine depK_nil ?_; exact s_d (m_ 5) rfl (d_rem rfl rfl (by decide)) (by exact rfl) rfl), (by intro H' m_ hH hm_ hu_; rintro _ rfl; refine depK_nil ?_; exact s_d (m_ 6) rfl (d_conv (c := w64 (Int.tmod ((of_.e0) % 18446744073709551616) 3400)) Tryd.underlying59 Tryd.underlying3 rfl rfl) (by exact rfl) rfl), (by intro H' m_ hH hm_ hu_; rintro _ rfl _ rfl; refine depK_nil ?_; exact s_k (m_ 7) rfl (o_call co27 (vs := [.agg ⟨[.bool y10.f_neg, v14]⟩, .int .i64 (w64 (Int.tmod ((of_.e0) % 18446744073709551616) 3400))]) rfl (wide_Int_Move.calls k (a := (⟨y10.f_neg, y10.f_w⟩ : wide_Int)) hy20 (h15.mono hH))) rfl (by rintro v_ H_ _ ⟨rfl, e_, h_⟩; exact ⟨rfl, e_, h_⟩)), (by intro H' m_ hH hm_ hu_; rintro _ ⟨v23, rfl, h24⟩; refine depK_nil ?_; exact s_d (m_ 8) rfl (d_move (v := .tuple ⟨[.agg ⟨[.bool y19.1.f_neg, v23]⟩, errV 89 y19.2]⟩) rfl) (by exact ⟨v23, rfl, h24⟩) rfl), (by intro H' m_ hH hm_ hu_; rintro _ ⟨v25, rfl, h26⟩; refine depK_nil ?_; exact s_d (m_ 9) rfl (d_ext (vs := [.agg ⟨[.bool y19.1.f_neg, v25]⟩, errV 89 y19.2]) rfl rfl) (by exact ⟨v25, rfl, h26⟩) rfl), (by intro H' m_ hH hm_ hu_; rintro _ ⟨v25, rfl, h26⟩; refine depK_nil ?_; exact s_d (m_ 10) rfl (d_ext (vs := [.agg ⟨[.bool y19.1.f_neg, v25]⟩, errV 89 y19.2]) rfl rfl) (by exact rfl) rfl), (by intro H' m_ hH hm_ hu_; refine depK_nil ?_; exact s_box hm_ rfl rfl (o_alloc zr30 rfl) rfl (fun _ => (pk_upd (hu_ 12 (by kernel_rfl)))) (by exact fun b_ => ⟨b_, rfl, rfl⟩)), (by intro H' m_ hH hm_ hu_; rintro _ ⟨v27, rfl, h28⟩ _ ⟨b29, rfl, hb29_⟩; refine depK_nil ?_; exact s_store2 (Λ' := fun z_ => z_ :: some (b16, .cells ⟨[.bool y10.f_neg, v14]⟩ 30 (0, 0)) :: some (b3, .cells ⟨[.bool false, .slice none 0 0, .bool false, .slice none 0 0, .bool false, .slice none 0 0]⟩ 58 (0, 0)) :: some (b2, .cells ⟨[.int .i64 of_.e0, .int .i64 of_.e1, .int .i64 of_.e2]⟩ 57 (0, 0)) :: some (b1, .cells ⟨[v0_l, v1_l, v2_l]⟩ 56 (0, 0)) :: L) (some (b29, .cells ⟨[.bool y19.1.f_neg, v27]⟩ 30 (0, 0))) hm_ rfl hb29_ rfl (o_store (v := .agg ⟨[.bool y19.1.f_neg, v27]⟩) sz30 rfl rfl rfl rfl (one_cons rfl (one_cons (h28.one) one_nil)) .here (.here (.here .done))) rfl rfl (by exact ⟨rfl, v27, congrArg (fun b_ => (some (b_, Obj.cells ⟨[.bool y19.1.f_neg, v27]⟩ 30 (0, 0)) : Item')) (bof_eq hb29_).symm, h28⟩)), trivial⟩ ?_
 intro H34 e35
 rintro _ _ rfl _ _ rfl _ _ rfl _ _ rfl _ _ rfl _ _ rfl _ _ rfl _ _ ⟨v23, rfl, h24⟩ _ _ ⟨v25, rfl, h26⟩ _ _ ⟨v27, rfl, h28⟩ _ _ rfl _ _ ⟨b29, rfl, rfl⟩ _ i32 ⟨rfl, v30, h33, h31⟩
 replace h33 : i32 = some (b29, .cells ⟨[.bool y19.1.f_neg, v30]⟩ 30 (0, 0)) := h33
 subst h33
 refine w_it (L' := some (b29, .cells ⟨[.bool y19.1.f_neg, v30]⟩ 30 (0, 0)) :: some (b16, .cells ⟨[.bool y10.f_neg, v14]⟩ 30 (0, 0)) :: some (b3, .cells ⟨[.bool false, .slice none 0 0, .bool false, .slice none 0 0, .bool false, .slice none 0 0]⟩ 58 (0, 0)) :: some (b2, .cells ⟨[.int .i64 of_.e0, .int .i64 of_.e1, .int .i64 of_.e2]⟩ 57 (0, 0)) :: some (b1, .cells ⟨[v0_l, v1_l, v2_l]⟩ 56 (0, 0)) :: L) rfl ?_
 refine w_d rfl (d_assign (v := errV 89 y19.2) rfl) ?_
 refine w_done ?_
 refine w_seq ?_
 refine w_seq ?_
 refine w_region rfl ?_
 refine w_d rfl (d_move (v := errV 89 y19.2) rfl) ?_
 refine w_d rfl (d_nenil (e := y19.2) Tryd.underlying33 rfl) ?_
 refine w_done ?_
 rcases its he with ⟨c36, he⟩ | ⟨c36, he⟩
 ·
  refine w_then rfl c36 ?_
  refine w_seq ?_
  refine w_region rfl ?_
  refine w_d rfl (d_assign (v := .bool false) rfl) ?_
  refine w_done ?_
  obtain rfl := Option.some.inj he
  refine w_return fn_5 rs_5 (.tmp (v := .bool false) rfl .nil) ?_
  exact ⟨⟨[_, _, _, _, _], rfl⟩, hle.trans (e18.trans e35), rfl⟩
 ·
  refine w_else rfl (Bool.eq_false_iff.2 c36) ?_
  refine w_skip ?_
  refine w_region rfl ?_
  refine w_d rfl (d_move (v := .int .i64 0) rfl) ?_
  refine w_d rfl (d_loado (v := .agg ⟨[.bool y19.1.f_neg, v30]⟩) ty30 rfl .here rfl rfl rfl rfl) ?_
  refine w_d rfl (d_idxArr (o' := 0) Tryd.underlying58 sz30 rfl rfl (by decide) rfl) ?_
  refine w_a0 rfl (o_store (v := .agg ⟨[.bool y19.1.f_neg, v30]⟩) sz30 rfl rfl rfl rfl (one_cons rfl (one_cons (h31.one) one_nil)) (.there (.there .here)) (.here (.here .done))) ?_
  rintro _ _ _ ⟨rfl, rfl, rfl⟩
  refine w_done ?_
  refine w_inBlock ?_
  refine w_region rfl ?_
  refine w_d rfl (d_move (v := .int .i64 0) rfl) ?_
  refine w_d rfl (d_add (c := 1) rfl rfl (by decide)) ?_
  refine w_d rfl (d_assign (v := .int .i64 1) rfl) ?_
  refine w_done ?_
  refine w_inLoop ?_
  refine w_seq ?_
  refine w_seq ?_
  refine w_region rfl ?_
  refine w_d rfl (d_move (v := .int .i64 1) rfl) ?_
  refine w_d rfl (d_lss rfl rfl) ?_
  refine w_done ?_
  refine w_then rfl rfl ?_
  refine w_skip ?_
  refine w_seq ?_
  refine w_block ?_
  refine w_seq ?_
  obtain ⟨y37, hy38, he⟩ := Option.bind_eq_some_iff.1 he
  obtain ⟨y43, hy44, he⟩ := Option.bind_eq_some_iff.1 he
  refine w_none (?_)
  refine w_drawn (p := 11) (tl := [11]) [[], [(0, some 42)], [(1, some 43)], [], [(3, some 45)], [(4, some 46)], [(5, some 47)], [(6, some 48)], [(2, some 44), (7, some 49)], [(8, some 50)], []] [some 42, some 43, some 44, some 45, some 46, some 47, some 48, some 49, some 50, some 51, some 7] (fctF (.is (.int .i64 1) :: .is (.pointer (some ⟨b1, 1, none⟩)) :: .is (v1_l) :: .is (.int .i64 1) :: .is (.pointer (some ⟨b2, 1, none⟩)) :: .is (.int .i64 of_.e1) :: .is (.int .i64 (Int.tmod of_.e1 2)) :: .is (.bool (!decide ((Int.tmod of_.e1 2) = 0))) :: .of (radomelaw01_whole.out y37) (radomelaw01_whole.out_mono _) :: .of (radomelaw01_giveInt.out y43) (radomelaw01_giveInt.out_mono _) :: .box 30 [.bool false, .slice none 0 0] :: [])) (fun m_ => m_ 10 :: some (b29, .cells ⟨[.bool y19.1.f_neg, v30]⟩ 30 (0, 0)) :: some (b16, .cells ⟨[.bool y10.f_neg, v14]⟩ 30 (0, 0)) :: some (b3, .cells ⟨[.bool y19.1.f_neg, v30, .bool false, .slice none 0 0, .bool false, .slice none 0 0]⟩ 58 (0, 0)) :: some (b2, .cells ⟨[.int .i64 of_.e0, .int .i64 of_.e1, .int .i64 of_.e2]⟩ 57 (0, 0)) :: some (b1, .cells ⟨[v0_l, v1_l, v2_l]⟩ 56 (0, 0)) :: L) (fun _ => none) mixed (by kernel_rfl) (by kernel_rfl) rfl (fct_mono (by kernel_rfl)) ⟨(by intro H' m_ hH hm_ hu_; refine depK_nil ?_; exact s_d (m_ 0) rfl (d_move (v := .int .i64 1) rfl) (by exact rfl) rfl), (by intro H' m_ hH hm_ hu_; rintro _ rfl; refine depK_nil ?_; exact s_d (m_ 1) rfl (d_idxArr (o' := 1) Tryd.underlying56 sz22 rfl rfl (by decide) rfl) (by exact rfl) rfl), (by intro H' m_ hH hm_ hu_; rintro _ rfl; refine depK_nil ?_; exact s_d (m_ 2) rfl (d_loado (v := v1_l) ty22 rfl (.there (.there (.there (.there (.there .here))))) rfl rfl rfl rfl) (by exact rfl) rfl), (by intro H' m_ hH hm_ hu_; refine depK_nil ?_; exact s_d (m_ 3) rfl (d_move (v := .int .i64 1) rfl) (by exact rfl) rfl), (by intro H' m_ hH hm_ hu_; rintro _ rfl; refine depK_nil ?_; exact s_d (m_ 4) rfl (d_idxArr (o' := 1) Tryd.underlying57 sz3 rfl rfl (by decide) rfl) (by exact rfl) rfl), (by intro H' m_ hH hm_ hu_; rintro _ rfl; refine depK_nil ?_; exact s_d (m_ 5) rfl (d_loado (v := .int .i64 of_.e1) ty3 rfl (.there (.there (.there (.there .here)))) rfl rfl rfl rfl) (by exact rfl) rfl), (by intro H' m_ hH hm_ hu_; rintro _ rfl; refine depK_nil ?_; exact s_d (m_ 6) rfl (d_rem rfl rfl (by decide)) (by exact rfl) rfl), (by intro H' m_ hH hm_ hu_; rintro _ rfl; refine depK_nil ?_; exact s_d (m_ 7) rfl (d_neq rfl rfl) (by exact rfl) rfl), (by intro H' m_ hH hm_ hu_; rintro _ rfl _ rfl; refine depK_nil ?_; exact s_k (m_ 8) rfl (o_call co7 (vs := [v1_l, .bool (!decide ((Int.tmod of_.e1 2) = 0)), .int .i64 150]) rfl (radomelaw01_whole.calls k hy38 ((h1_l.mono ((e18.trans e35).trans hH)).src))) rfl (by rintro v_ H_ _ ⟨rfl, e_, h_⟩; exact ⟨rfl, e_, h_⟩)), (by intro H' m_ hH hm_ hu_; rintro _ ⟨v41, rfl, h42⟩; refine depK_nil ?_; exact s_k (m_ 9) rfl (o_call co8 (vs := [.agg ⟨[.bool y37.f_Neg, v41]⟩]) rfl (radomelaw01_giveInt.calls k (a := (⟨y37.f_Neg, y37.f_D⟩ : radomeref01_Num)) hy44 h42)) rfl (by rintro v_ H_ _ ⟨rfl, e_, h_⟩; exact ⟨rfl, e_, h_⟩)), (by intro H' m_ hH hm_ hu_; refine depK_nil ?_; exact s_box hm_ rfl rfl (o_alloc zr30 rfl) rfl (fun _ => .here) (by exact fun b_ => ⟨b_, rfl, rfl⟩)), trivial⟩ ?_
  intro H50 e51
  rintro _ _ rfl _ _ rfl _ _ rfl _ _ rfl _ _ rfl _ _ rfl _ _ rfl _ _ rfl _ _ ⟨v41, rfl, h42⟩ _ _ ⟨v47, rfl, h48⟩ _ _ ⟨b49, rfl, rfl⟩
  refine w_a0 rfl (o_store (v := .agg ⟨[.bool y43.f_neg, v47]⟩) sz30 rfl rfl rfl rfl (one_cons rfl (one_cons (h48.one) one_nil)) .here (.here (.here .done))) ?_
  rintro _ _ _ ⟨rfl, rfl, rfl⟩
  refine w_done ?_
  refine w_seq ?_
  obtain ⟨y52, hy53, he⟩ := Option.bind_eq_some_iff.1 he
  refine w_none (?_)
  refine w_drawn (p := 13) (tl := [13]) [[], [], [(1, some 54)], [(2, some 55)], [(3, some 56)], [(4, some 57)], [(5, some 58)], [(0, some 53), (6, some 59)], [(7, some 60)], [(8, some 52)], [(8, some 52)], [], [(9, some 61), (11, some 8)]] [some 53, some 54, some 55, some 56, some 57, some 58, some 59, some 60, some 52, some 61, some 62, some 8, none] (fctF (.is (.agg ⟨[.bool y43.f_neg, v47]⟩) :: .is (.int .i64 1) :: .is (.pointer (some ⟨b2, 1, none⟩)) :: .is (.int .i64 of_.e1) :: .is (.int .u64 ((of_.e1) % 18446744073709551616)) :: .is (.int .u64 (Int.tmod ((of_.e1) % 18446744073709551616) 3400)) :: .is (.int .i64 (w64 (Int.tmod ((of_.e1) % 18446744073709551616) 3400))) :: .of (wide_Int_Move.out y52) (wide_Int_Move.out_mono _) :: .of (fun H v => ∃ v58, v = .tuple ⟨[.agg ⟨[.bool y52.1.f_neg, v58]⟩, errV 89 y52.2]⟩ ∧ Ro (Kd.int .u32) H v58 y52.1.f_w) (by rintro _ _ _ hle ⟨v58, rfl, h59⟩; exact ⟨v58, rfl, h59.mono hle⟩) :: .of (fun H v => ∃ v60, v = .agg ⟨[.bool y52.1.f_neg, v60]⟩ ∧ Ro (Kd.int .u32) H v60 y52.1.f_w) (by rintro _ _ _ hle ⟨v60, rfl, h61⟩; exact ⟨v60, rfl, h61.mono hle⟩) :: .is (errV 89 y52.2) :: .box 30 [.bool false, .slice none 0 0] :: .st 11 (fun H b it => ∃ v63, it = some (b, .cells ⟨[.bool y52.1.f_neg, v63]⟩ 30 (0, 0)) ∧ Ro (Kd.int .u32) H v63 y52.1.f_w) (by rintro _ _ _ _ hle ⟨v63, rfl, h64⟩; exact ⟨v63, rfl, h64.mono hle⟩) :: [])) (fun m_ => pk (m_ 12) (m_ 11) :: some (b49, .cells ⟨[.bool y43.f_neg, v47]⟩ 30 (0, 0)) :: some (b29, .cells ⟨[.bool y19.1.f_neg, v30]⟩ 30 (0, 0)) :: some (b16, .cells ⟨[.bool y10.f_neg, v14]⟩ 30 (0, 0)) :: some (b3, .cells ⟨[.bool y19.1.f_neg, v30, .bool false, .slice none 0 0, .bool false, .slice none 0 0]⟩ 58 (0, 0)) :: some (b2, .cells ⟨[.int .i64 of_.e0, .int .i64 of_.e1, .int .i64 of_.e2]⟩ 57 (0, 0)) :: some (b1, .cells ⟨[v0_l, v1_l, v2_l]⟩ 56 (0, 0)) :: L) (fun _ => none) mixed (by kernel_rfl) (by kernel_rfl) rfl (fct_mono (by kernel_rfl)) ⟨(by intro H' m_ hH hm_ hu_; refine depK_nil ?_; exact s_d (m_ 0) rfl (d_loado (v := .agg ⟨[.bool y43.f_neg, v47]⟩) ty30 rfl (.there .here) rfl rfl rfl rfl) (by exact rfl) rfl), (by intro H' m_ hH hm_ hu_; refine depK_nil ?_; exact s_d (m_ 1) rfl (d_move (v := .int .i64 1) rfl) (by exact rfl) rfl), (by intro H' m_ hH hm_ hu_; rintro _ rfl; refine depK_nil ?_; exact s_d (m_ 2) rfl (d_idxArr (o' := 1) Tryd.underlying57 sz3 rfl rfl (by decide) rfl) (by exact rfl) rfl), (by intro H' m_ hH hm_ hu_; rintro _ rfl; refine depK_nil ?_; exact s_d (m_ 3) rfl (d_loado (v := .int .i64 of_.e1) ty3 rfl (.there (.there (.there (.there (.there .here))))) rfl rfl rfl rfl) (by exact rfl) rfl), (by intro H' m_ hH hm_ hu_; rintro _ rfl; refine depK_nil ?_; exact s_d (m_ 4) rfl (d_conv (c := (of_.e1) % 18446744073709551616) Tryd.underlying3 Tryd.underlying59 rfl rfl) (by exact rfl) rfl), (by intro H' m_ hH hm_ hu_; rintro _ rfl; refine depK_nil ?_; exact s_d (m_ 5) rfl (d_rem rfl rfl (by decide)) (by exact rfl) rfl), (by intro H' m_ hH hm_ hu_; rintro _ rfl; refine depK_nil ?_; exact s_d (m_ 6) rfl (d_conv (c := w64 (Int.tmod ((of_.e1) % 18446744073709551616) 3400)) Tryd.underlying59 Tryd.underlying3 rfl rfl) (by exact rfl) rfl), (by intro H' m_ hH hm_ hu_; rintro _ rfl _ rfl; refine depK_nil ?_; exact s_k (m_ 7) rfl (o_call co27 (vs := [.agg ⟨[.bool y43.f_neg, v47]⟩, .int .i64 (w64 (Int.tmod ((of_.e1) % 18446744073709551616) 3400))]) rfl (wide_Int_Move.calls k (a := (⟨y43.f_neg, y43.f_w⟩ : wide_Int)) hy53 (h48.mono hH))) rfl (by rintro v_ H_ _ ⟨rfl, e_, h_⟩; exact ⟨rfl, e_, h_⟩)), (by intro H' m_ hH hm_ hu_; rintro _ ⟨v56, rfl, h57⟩; refine depK_nil ?_; exact s_d (m_ 8) rfl (d_move (v := .tuple ⟨[.agg ⟨[.bool y52.1.f_neg, v56]⟩, errV 89 y52.2]⟩) rfl) (by exact ⟨v56, rfl, h57⟩) rfl), (by intro H' m_ hH hm_ hu_; rintro _ ⟨v58, rfl, h59⟩; refine depK_nil ?_; exact s_d (m_ 9) rfl (d_ext (vs := [.agg ⟨[.bool y52.1.f_neg, v58]⟩, errV 89 y52.2]) rfl rfl) (by exact ⟨v58, rfl, h59⟩) rfl), (by intro H' m_ hH hm_ hu_; rintro _ ⟨v58, rfl, h59⟩; refine depK_nil ?_; exact s_d (m_ 10) rfl (d_ext (vs := [.agg ⟨[.bool y52.1.f_neg, v58]⟩, errV 89 y52.2]) rfl rfl) (by exact rfl) rfl), (by intro H' m_ hH hm_ hu_; refine depK_nil ?_; exact s_box hm_ rfl rfl (o_alloc zr30 rfl) rfl (fun _ => (pk_upd (hu_ 12 (by kernel_rfl)))) (by exact fun b_ => ⟨b_, rfl, rfl⟩)), (by intro H' m_ hH hm_ hu_; rintro _ ⟨v60, rfl, h61⟩ _ ⟨b62, rfl, hb62_⟩; refine depK_nil ?_; exact s_store2 (Λ' := fun z_ => z_ :: some (b49, .cells ⟨[.bool y43.f_neg, v47]⟩ 30 (0, 0)) :: some (b29, .cells ⟨[.bool y19.1.f_neg, v30]⟩ 30 (0, 0)) :: some (b16, .cells ⟨[.bool y10.f_neg, v14]⟩ 30 (0, 0)) :: some (b3, .cells ⟨[.bool y19.1.f_neg, v30, .bool false, .slice none 0 0, .bool false, .slice none 0 0]⟩ 58 (0, 0)) :: some (b2, .cells ⟨[.int .i64 of_.e0, .int .i64 of_.e1, .int .i64 of_.e2]⟩ 57 (0, 0)) :: some (b1, .cells ⟨[v0_l, v1_l, v2_l]⟩ 56 (0, 0)) :: L) (some (b62, .cells ⟨[.bool y52.1.f_neg, v60]⟩ 30 (0, 0))) hm_ rfl hb62_ rfl (o_store (v := .agg ⟨[.bool y52.1.f_neg, v60]⟩) sz30 rfl rfl rfl rfl (one_cons rfl (one_cons (h61.one) one_nil)) .here (.here (.here .done))) rfl rfl (by exact ⟨rfl, v60, congrArg (fun b_ => (some (b_, Obj.cells ⟨[.bool y52.1.f_neg, v60]⟩ 30 (0, 0)) : Item')) (bof_eq hb62_).symm, h61⟩)), trivial⟩ ?_
  intro H67 e68
  rintro _ _ rfl _ _ rfl _ _ rfl _ _ rfl _ _ rfl _ _ rfl _ _ rfl _ _ ⟨v56, rfl, h57⟩ _ _ ⟨v58, rfl, h59⟩ _ _ ⟨v60, rfl, h61⟩ _ _ rfl _ _ ⟨b62, rfl, rfl⟩ _ i65 ⟨rfl, v63, h66, h64⟩
  replace h66 : i65 = some (b62, .cells ⟨[.bool y52.1.f_neg, v63]⟩ 30 (0, 0)) := h66
  subst h66
  refine w_it (L' := some (b62, .cells ⟨[.bool y52.1.f_neg, v63]⟩ 30 (0, 0)) :: some (b49, .cells ⟨[.bool y43.f_neg, v47]⟩ 30 (0, 0)) :: some (b29, .cells ⟨[.bool y19.1.f_neg, v30]⟩ 30 (0, 0)) :: some (b16, .cells ⟨[.bool y10.f_neg, v14]⟩ 30 (0, 0)) :: some (b3, .cells ⟨[.bool y19.1.f_neg, v30, .bool false, .slice none 0 0, .bool false, .slice none 0 0]⟩ 58 (0, 0)) :: some (b2, .cells ⟨[.int .i64 of_.e0, .int .i64 of_.e1, .int .i64 of_.e2]⟩ 57 (0, 0)) :: some (b1, .cells ⟨[v0_l, v1_l, v2_l]⟩ 56 (0, 0)) :: L) rfl ?_
  refine w_d rfl (d_assign (v := errV 89 y52.2) rfl) ?_
  refine w_done ?_
  refine w_seq ?_
  refine w_seq ?_
  refine w_region rfl ?_
  refine w_d rfl (d_move (v := errV 89 y52.2) rfl) ?_
  refine w_d rfl (d_nenil (e := y52.2) Tryd.underlying33 rfl) ?_
  refine w_done ?_
  rcases its he with ⟨c69, he⟩ | ⟨c69, he⟩
  ·
   refine w_then rfl c69 ?_
   refine w_seq ?_
   refine w_region rfl ?_
   refine w_d rfl (d_assign (v := .bool false) rfl) ?_
   refine w_done ?_
   obtain rfl := Option.some.inj he
   refine w_return fn_5 rs_5 (.tmp (v := .bool false) rfl .nil) ?_
   exact ⟨⟨[_, _, _, _, _, _, _], rfl⟩, hle.trans (((e18.trans e35).trans e51).trans e68), rfl⟩
  ·
   refine w_else rfl (Bool.eq_false_iff.2 c69) ?_
   refine w_skip ?_
   refine w_region rfl ?_
   refine w_d rfl (d_move (v := .int .i64 1) rfl) ?_
   refine w_d rfl (d_loado (v := .agg ⟨[.bool y52.1.f_neg, v63]⟩) ty30 rfl .here rfl rfl rfl rfl) ?_
   refine w_d rfl (d_idxArr (o' := 2) Tryd.underlying58 sz30 rfl rfl (by decide) rfl) ?_
   refine w_a0 rfl (o_store (v := .agg ⟨[.bool y52.1.f_neg, v63]⟩) sz30 rfl rfl rfl rfl (one_cons rfl (one_cons (h64.one) one_nil)) (.there (.there (.there (.there .here)))) (.there (.there (.here (.here .done))))) ?_
   rintro _ _ _ ⟨rfl, rfl, rfl⟩
   refine w_done ?_
   refine w_inBlock ?_
   refine w_region rfl ?_
   refine w_d rfl (d_move (v := .int .i64 1) rfl) ?_
   refine w_d rfl (d_add (c := 2) rfl rfl (by decide)) ?_
   refine w_d rfl (d_assign (v := .int .i64 2) rfl) ?_
   refine w_done ?_
   refine w_inLoop ?_
   refine w_seq ?_
   refine w_seq ?_
   refine w_region rfl ?_
   refine w_d rfl (d_move (v := .int .i64 2) rfl) ?_
   refine w_d rfl (d_lss rfl rfl) ?_
   refine w_done ?_
   refine w_then rfl rfl ?_
   refine w_skip ?_
   refine w_seq ?_
   refine w_block ?_
   refine w_seq ?_
   obtain ⟨y70, hy71, he⟩ := Option.bind_eq_some_iff.1 he
   obtain ⟨y76, hy77, he⟩ := Option.bind_eq_some_iff.1 he
   refine w_none (?_)
   refine w_drawn (p := 11) (tl := [11]) [[], [(0, some 42)], [(1, some 43)], [], [(3, some 45)], [(4, some 46)], [(5, some 47)], [(6, some 48)], [(2, some 44), (7, some 49)], [(8, some 50)], []] [some 42, some 43, some 44, some 45, some 46, some 47, some 48, some 49, some 50, some 51, some 7] (fctF (.is (.int .i64 2) :: .is (.pointer (some ⟨b1, 2, none⟩)) :: .is (v2_l) :: .is (.int .i64 2) :: .is (.pointer (some ⟨b2, 2, none⟩)) :: .is (.int .i64 of_.e2) :: .is (.int .i64 (Int.tmod of_.e2 2)) :: .is (.bool (!decide ((Int.tmod of_.e2 2) = 0))) :: .of (radomelaw01_whole.out y70) (radomelaw01_whole.out_mono _) :: .of (radomelaw01_giveInt.out y76) (radomelaw01_giveInt.out_mono _) :: .box 30 [.bool false, .slice none 0 0] :: [])) (fun m_ => m_ 10 :: some (b62, .cells ⟨[.bool y52.1.f_neg, v63]⟩ 30 (0, 0)) :: some (b49, .cells ⟨[.bool y43.f_neg, v47]⟩ 30 (0, 0)) :: some (b29, .cells ⟨[.bool y19.1.f_neg, v30]⟩ 30 (0, 0)) :: some (b16, .cells ⟨[.bool y10.f_neg, v14]⟩ 30 (0, 0)) :: some (b3, .cells ⟨[.bool y19.1.f_neg, v30, .bool y52.1.f_neg, v63, .bool false, .slice none 0 0]⟩ 58 (0, 0)) :: some (b2, .cells ⟨[.int .i64 of_.e0, .int .i64 of_.e1, .int .i64 of_.e2]⟩ 57 (0, 0)) :: some (b1, .cells ⟨[v0_l, v1_l, v2_l]⟩ 56 (0, 0)) :: L) (fun _ => none) mixed (by kernel_rfl) (by kernel_rfl) rfl (fct_mono (by kernel_rfl)) ⟨(by intro H' m_ hH hm_ hu_; refine depK_nil ?_; exact s_d (m_ 0) rfl (d_move (v := .int .i64 2) rfl) (by exact rfl) rfl), (by intro H' m_ hH hm_ hu_; rintro _ rfl; refine depK_nil ?_; exact s_d (m_ 1) rfl (d_idxArr (o' := 2) Tryd.underlying56 sz22 rfl rfl (by decide) rfl) (by exact rfl) rfl), (by intro H' m_ hH hm_ hu_; rintro _ rfl; refine depK_nil ?_; exact s_d (m_ 2) rfl (d_loado (v := v2_l) ty22 rfl (.there (.there (.there (.there (.there (.there (.there .here))))))) rfl rfl rfl rfl) (by exact rfl) rfl), (by intro H' m_ hH hm_ hu_; refine depK_nil ?_; exact s_d (m_ 3) rfl (d_move (v := .int .i64 2) rfl) (by exact rfl) rfl), (by intro H' m_ hH hm_ hu_; rintro _ rfl; refine depK_nil ?_; exact s_d (m_ 4) rfl (d_idxArr (o' := 2) Tryd.underlying57 sz3 rfl rfl (by decide) rfl) (by exact rfl) rfl), (by intro H' m_ hH hm_ hu_; rintro _ rfl; refine depK_nil ?_; exact s_d (m_ 5) rfl (d_loado (v := .int .i64 of_.e2) ty3 rfl (.there (.there (.there (.there (.there (.there .here)))))) rfl rfl rfl rfl) (by exact rfl) rfl), (by intro H' m_ hH hm_ hu_; rintro _ rfl; refine depK_nil ?_; exact s_d (m_ 6) rfl (d_rem rfl rfl (by decide)) (by exact rfl) rfl), (by intro H' m_ hH hm_ hu_; rintro _ rfl; refine depK_nil ?_; exact s_d (m_ 7) rfl (d_neq rfl rfl) (by exact rfl) rfl), (by intro H' m_ hH hm_ hu_; rintro _ rfl _ rfl; refine depK_nil ?_; exact s_k (m_ 8) rfl (o_call co7 (vs := [v2_l, .bool (!decide ((Int.tmod of_.e2 2) = 0)), .int .i64 150]) rfl (radomelaw01_whole.calls k hy71 ((h2_l.mono ((((e18.trans e35).trans e51).trans e68).trans hH)).src))) rfl (by rintro v_ H_ _ ⟨rfl, e_, h_⟩; exact ⟨rfl, e_, h_⟩)), (by intro H' m_ hH hm_ hu_; rintro _ ⟨v74, rfl, h75⟩; refine depK_nil ?_; exact s_k (m_ 9) rfl (o_call co8 (vs := [.agg ⟨[.bool y70.f_Neg, v74]⟩]) rfl (radomelaw01_giveInt.calls k (a := (⟨y70.f_Neg, y70.f_D⟩ : radomeref01_Num)) hy77 h75)) rfl (by rintro v_ H_ _ ⟨rfl, e_, h_⟩; exact ⟨rfl, e_, h_⟩)), (by intro H' m_ hH hm_ hu_; refine depK_nil ?_; exact s_box hm_ rfl rfl (o_alloc zr30 rfl) rfl (fun _ => .here) (by exact fun b_ => ⟨b_, rfl, rfl⟩)), trivial⟩ ?_
   intro H83 e84
   rintro _ _ rfl _ _ rfl _ _ rfl _ _ rfl _ _ rfl _ _ rfl _ _ rfl _ _ rfl _ _ ⟨v74, rfl, h75⟩ _ _ ⟨v80, rfl, h81⟩ _ _ ⟨b82, rfl, rfl⟩
   refine w_a0 rfl (o_store (v := .agg ⟨[.bool y76.f_neg, v80]⟩) sz30 rfl rfl rfl rfl (one_cons rfl (one_cons (h81.one) one_nil)) .here (.here (.here .done))) ?_
   rintro _ _ _ ⟨rfl, rfl, rfl⟩
   refine w_done ?_
   refine w_seq ?_
   obtain ⟨y85, hy86, he⟩ := Option.bind_eq_some_iff.1 he
   refine w_none (?_)
   refine w_drawn (p := 13) (tl := [13]) [[], [], [(1, some 54)], [(2, some 55)], [(3, some 56)], [(4, some 57)], [(5, some 58)], [(0, some 53), (6, some 59)], [(7, some 60)], [(8, some 52)], [(8, some 52)], [], [(9, some 61), (11, some 8)]] [some 53, some 54, some 55, some 56, some 57, some 58, some 59, some 60, some 52, some 61, some 62, some 8, none] (fctF (.is (.agg ⟨[.bool y76.f_neg, v80]⟩) :: .is (.int .i64 2) :: .is (.pointer (some ⟨b2, 2, none⟩)) :: .is (.int .i64 of_.e2) :: .is (.int .u64 ((of_.e2) % 18446744073709551616)) :: .is (.int .u64 (Int.tmod ((of_.e2) % 18446744073709551616) 3400)) :: .is (.int .i64 (w64 (Int.tmod ((of_.e2) % 18446744073709551616) 3400))) :: .of (wide_Int_Move.out y85) (wide_Int_Move.out_mono _) :: .of (fun H v => ∃ v91, v = .tuple ⟨[.agg ⟨[.bool y85.1.f_neg, v91]⟩, errV 89 y85.2]⟩ ∧ Ro (Kd.int .u32) H v91 y85.1.f_w) (by rintro _ _ _ hle ⟨v91, rfl, h92⟩; exact ⟨v91, rfl, h92.mono hle⟩) :: .of (fun H v => ∃ v93, v = .agg ⟨[.bool y85.1.f_neg, v93]⟩ ∧ Ro (Kd.int .u32) H v93 y85.1.f_w) (by rintro _ _ _ hle ⟨v93, rfl, h94⟩; exact ⟨v93, rfl, h94.mono hle⟩) :: .is (errV 89 y85.2) :: .box 30 [.bool false, .slice none 0 0] :: .st 11 (fun H b it => ∃ v96, it = some (b, .cells ⟨[.bool y85.1.f_neg, v96]⟩ 30 (0, 0)) ∧ Ro (Kd.int .u32) H v96 y85.1.f_w) (by rintro _ _ _ _ hle ⟨v96, rfl, h97⟩; exact ⟨v96, rfl, h97.mono hle⟩) :: [])) (fun m_ => pk (m_ 12) (m_ 11) :: some (b82, .cells ⟨[.bool y76.f_neg, v80]⟩ 30 (0, 0)) :: some (b62, .cells ⟨[.bool y52.1.f_neg, v63]⟩ 30 (0, 0)) :: some (b49, .cells ⟨[.bool y43.f_neg, v47]⟩ 30 (0, 0)) :: some (b29, .cells ⟨[.bool y19.1.f_neg, v30]⟩ 30 (0, 0)) :: some (b16, .cells ⟨[.bool y10.f_neg, v14]⟩ 30 (0, 0)) :: some (b3, .cells ⟨[.bool y19.1.f_neg, v30, .bool y52.1.f_neg, v63, .bool false, .slice none 0 0]⟩ 58 (0, 0)) :: some (b2, .cells ⟨[.int .i64 of_.e0, .int .i64 of_.e1, .int .i64 of_.e2]⟩ 57 (0, 0)) :: some (b1, .cells ⟨[v0_l, v1_l, v2_l]⟩ 56 (0, 0)) :: L) (fun _ => none) mixed (by kernel_rfl) (by kernel_rfl) rfl (fct_mono (by kernel_rfl)) ⟨(by intro H' m_ hH hm_ hu_; refine depK_nil ?_; exact s_d (m_ 0) rfl (d_loado (v := .agg ⟨[.bool y76.f_neg, v80]⟩) ty30 rfl (.there .here) rfl rfl rfl rfl) (by exact rfl) rfl), (by intro H' m_ hH hm_ hu_; refine depK_nil ?_; exact s_d (m_ 1) rfl (d_move (v := .int .i64 2) rfl) (by exact rfl) rfl), (by intro H' m_ hH hm_ hu_; rintro _ rfl; refine depK_nil ?_; exact s_d (m_ 2) rfl (d_idxArr (o' := 2) Tryd.underlying57 sz3 rfl rfl (by decide) rfl) (by exact rfl) rfl), (by intro H' m_ hH hm_ hu_; rintro _ rfl; refine depK_nil ?_; exact s_d (m_ 3) rfl (d_loado (v := .int .i64 of_.e2) ty3 rfl (.there (.there (.there (.there (.there (.there (.there .here))))))) rfl rfl rfl rfl) (by exact rfl) rfl), (by intro H' m_ hH hm_ hu_; rintro _ rfl; refine depK_nil ?_; exact s_d (m_ 4) rfl (d_conv (c := (of_.e2) % 18446744073709551616) Tryd.underlying3 Tryd.underlying59 rfl rfl) (by exact rfl) rfl), (by intro H' m_ hH hm_ hu_; rintro _ rfl; refine depK_nil ?_; exact s_d (m_ 5) rfl (d_rem rfl rfl (by decide)) (by exact rfl) rfl), (by intro H' m_ hH hm_ hu_; rintro _ rfl; refine depK_nil ?_; exact s_d (m_ 6) rfl (d_conv (c := w64 (Int.tmod ((of_.e2) % 18446744073709551616) 3400)) Tryd.underlying59 Tryd.underlying3 rfl rfl) (by exact rfl) rfl), (by intro H' m_ hH hm_ hu_; rintro _ rfl _ rfl; refine depK_nil ?_; exact s_k (m_ 7) rfl (o_call co27 (vs := [.agg ⟨[.bool y76.f_neg, v80]⟩, .int .i64 (w64 (Int.tmod ((of_.e2) % 18446744073709551616) 3400))]) rfl (wide_Int_Move.calls k (a := (⟨y76.f_neg, y76.f_w⟩ : wide_Int)) hy86 (h81.mono hH))) rfl (by rintro v_ H_ _ ⟨rfl, e_, h_⟩; exact ⟨rfl, e_, h_⟩)), (by intro H' m_ hH hm_ hu_; rintro _ ⟨v89, rfl, h90⟩; refine depK_nil ?_; exact s_d (m_ 8) rfl (d_move (v := .tuple ⟨[.agg ⟨[.bool y85.1.f_neg, v89]⟩, errV 89 y85.2]⟩) rfl) (by exact ⟨v89, rfl, h90⟩) rfl), (by intro H' m_ hH hm_ hu_; rintro _ ⟨v91, rfl, h92⟩; refine depK_nil ?_; exact s_d (m_ 9) rfl (d_ext (vs := [.agg ⟨[.bool y85.1.f_neg, v91]⟩, errV 89 y85.2]) rfl rfl) (by exact ⟨v91, rfl, h92⟩) rfl), (by intro H' m_ hH hm_ hu_; rintro _ ⟨v91, rfl, h92⟩; refine depK_nil ?_; exact s_d (m_ 10) rfl (d_ext (vs := [.agg ⟨[.bool y85.1.f_neg, v91]⟩, errV 89 y85.2]) rfl rfl) (by exact rfl) rfl), (by intro H' m_ hH hm_ hu_; refine depK_nil ?_; exact s_box hm_ rfl rfl (o_alloc zr30 rfl) rfl (fun _ => (pk_upd (hu_ 12 (by kernel_rfl)))) (by exact fun b_ => ⟨b_, rfl, rfl⟩)), (by intro H' m_ hH hm_ hu_; rintro _ ⟨v93, rfl, h94⟩ _ ⟨b95, rfl, hb95_⟩; refine depK_nil ?_; exact s_store2 (Λ' := fun z_ => z_ :: some (b82, .cells ⟨[.bool y76.f_neg, v80]⟩ 30 (0, 0)) :: some (b62, .cells ⟨[.bool y52.1.f_neg, v63]⟩ 30 (0, 0)) :: some (b49, .cells ⟨[.bool y43.f_neg, v47]⟩ 30 (0, 0)) :: some (b29, .cells ⟨[.bool y19.1.f_neg, v30]⟩ 30 (0, 0)) :: some (b16, .cells ⟨[.bool y10.f_neg, v14]⟩ 30 (0, 0)) :: some (b3, .cells ⟨[.bool y19.1.f_neg, v30, .bool y52.1.f_neg, v63, .bool false, .slice none 0 0]⟩ 58 (0, 0)) :: some (b2, .cells ⟨[.int .i64 of_.e0, .int .i64 of_.e1, .int .i64 of_.e2]⟩ 57 (0, 0)) :: some (b1, .cells ⟨[v0_l, v1_l, v2_l]⟩ 56 (0, 0)) :: L) (some (b95, .cells ⟨[.bool y85.1.f_neg, v93]⟩ 30 (0, 0))) hm_ rfl hb95_ rfl (o_store (v := .agg ⟨[.bool y85.1.f_neg, v93]⟩) sz30 rfl rfl rfl rfl (one_cons rfl (one_cons (h94.one) one_nil)) .here (.here (.here .done))) rfl rfl (by exact ⟨rfl, v93, congrArg (fun b_ => (some (b_, Obj.cells ⟨[.bool y85.1.f_neg, v93]⟩ 30 (0, 0)) : Item')) (bof_eq hb95_).symm, h94⟩)), trivial⟩ ?_
   intro H100 e101
   rintro _ _ rfl _ _ rfl _ _ rfl _ _ rfl _ _ rfl _ _ rfl _ _ rfl _ _ ⟨v89, rfl, h90⟩ _ _ ⟨v91, rfl, h92⟩ _ _ ⟨v93, rfl, h94⟩ _ _ rfl _ _ ⟨b95, rfl, rfl⟩ _ i98 ⟨rfl, v96, h99, h97⟩
   replace h99 : i98 = some (b95, .cells ⟨[.bool y85.1.f_neg, v96]⟩ 30 (0, 0)) := h99
   subst h99
   refine w_it (L' := some (b95, .cells ⟨[.bool y85.1.f_neg, v96]⟩ 30 (0, 0)) :: some (b82, .cells ⟨[.bool y76.f_neg, v80]⟩ 30 (0, 0)) :: some (b62, .cells ⟨[.bool y52.1.f_neg, v63]⟩ 30 (0, 0)) :: some (b49, .cells ⟨[.bool y43.f_neg, v47]⟩ 30 (0, 0)) :: some (b29, .cells ⟨[.bool y19.1.f_neg, v30]⟩ 30 (0, 0)) :: some (b16, .cells ⟨[.bool y10.f_neg, v14]⟩ 30 (0, 0)) :: some (b3, .cells ⟨[.bool y19.1.f_neg, v30, .bool y52.1.f_neg, v63, .bool false, .slice none 0 0]⟩ 58 (0, 0)) :: some (b2, .cells ⟨[.int .i64 of_.e0, .int .i64 of_.e1, .int .i64 of_.e2]⟩ 57 (0, 0)) :: some (b1, .cells ⟨[v0_l, v1_l, v2_l]⟩ 56 (0, 0)) :: L) rfl ?_
   refine w_d rfl (d_assign (v := errV 89 y85.2) rfl) ?_
   refine w_done ?_
   refine w_seq ?_
   refine w_seq ?_
   refine w_region rfl ?_
   refine w_d rfl (d_move (v := errV 89 y85.2) rfl) ?_
   refine w_d rfl (d_nenil (e := y85.2) Tryd.underlying33 rfl) ?_
   refine w_done ?_
   rcases its he with ⟨c102, he⟩ | ⟨c102, he⟩
   ·
    refine w_then rfl c102 ?_
    refine w_seq ?_
    refine w_region rfl ?_
    refine w_d rfl (d_assign (v := .bool false) rfl) ?_
    refine w_done ?_
    obtain rfl := Option.some.inj he
    refine w_return fn_5 rs_5 (.tmp (v := .bool false) rfl .nil) ?_
    exact ⟨⟨[_, _, _, _, _, _, _, _, _], rfl⟩, hle.trans (((((e18.trans e35).trans e51).trans e68).trans e84).trans e101), rfl⟩
   ·
    refine w_else rfl (Bool.eq_false_iff.2 c102) ?_
    refine w_skip ?_
    refine w_region rfl ?_
    refine w_d rfl (d_move (v := .int .i64 2) rfl) ?_
    refine w_d rfl (d_loado (v := .agg ⟨[.bool y85.1.f_neg, v96]⟩) ty30 rfl .here rfl rfl rfl rfl) ?_
    refine w_d rfl (d_idxArr (o' := 4) Tryd.underlying58 sz30 rfl rfl (by decide) rfl) ?_
    refine w_a0 rfl (o_store (v := .agg ⟨[.bool y85.1.f_neg, v96]⟩) sz30 rfl rfl rfl rfl (one_cons rfl (one_cons (h97.one) one_nil)) (.there (.there (.there (.there (.there (.there .here)))))) (.there (.there (.there (.there (.here (.here .done))))))) ?_
    rintro _ _ _ ⟨rfl, rfl, rfl⟩
    refine w_done ?_
    refine w_inBlock ?_
    refine w_region rfl ?_
    refine w_d rfl (d_move (v := .int .i64 2) rfl) ?_
    refine w_d rfl (d_add (c := 3) rfl rfl (by decide)) ?_
    refine w_d rfl (d_assign (v := .int .i64 3) rfl) ?_
    refine w_done ?_
    refine w_inLoop ?_
    refine w_seq ?_
    refine w_seq ?_
    refine w_region rfl ?_
    refine w_d rfl (d_move (v := .int .i64 3) rfl) ?_
    refine w_d rfl (d_lss rfl rfl) ?_
    refine w_done ?_
    refine w_else rfl rfl ?_
    refine w_exit rfl ?_
    refine w_seq ?_
    refine w_none (w_none (w_none (?_)))
    refine w_drawn (p := 11) (tl := [11]) [[], [(0, some 68)], [], [(2, some 70)], [], [(4, some 72)], [], [], [], [(1, some 69), (6, some 10)], [(3, some 71), (7, some 11)]] [some 68, some 69, some 70, some 71, some 72, some 73, some 10, some 11, some 12, none, none] (fctF (.is (.pointer (some ⟨b3, 0, none⟩)) :: .is (.agg ⟨[.bool y19.1.f_neg, v30]⟩) :: .is (.pointer (some ⟨b3, 2, none⟩)) :: .is (.agg ⟨[.bool y52.1.f_neg, v63]⟩) :: .is (.pointer (some ⟨b3, 4, none⟩)) :: .is (.agg ⟨[.bool y85.1.f_neg, v96]⟩) :: .box 30 [.bool false, .slice none 0 0] :: .box 30 [.bool false, .slice none 0 0] :: .box 30 [.bool false, .slice none 0 0] :: .st 6 (fun H b it => it = some (b, .cells ⟨[.bool y19.1.f_neg, v30]⟩ 30 (0, 0))) (by rintro _ _ _ _ hle rfl; exact rfl) :: .st 7 (fun H b it => it = some (b, .cells ⟨[.bool y52.1.f_neg, v63]⟩ 30 (0, 0))) (by rintro _ _ _ _ hle rfl; exact rfl) :: [])) (fun m_ => pk (m_ 9) (m_ 6) :: pk (m_ 10) (m_ 7) :: m_ 8 :: some (b95, .cells ⟨[.bool y85.1.f_neg, v96]⟩ 30 (0, 0)) :: some (b82, .cells ⟨[.bool y76.f_neg, v80]⟩ 30 (0, 0)) :: some (b62, .cells ⟨[.bool y52.1.f_neg, v63]⟩ 30 (0, 0)) :: some (b49, .cells ⟨[.bool y43.f_neg, v47]⟩ 30 (0, 0)) :: some (b29, .cells ⟨[.bool y19.1.f_neg, v30]⟩ 30 (0, 0)) :: some (b16, .cells ⟨[.bool y10.f_neg, v14]⟩ 30 (0, 0)) :: some (b3, .cells ⟨[.bool y19.1.f_neg, v30, .bool y52.1.f_neg, v63, .bool y85.1.f_neg, v96]⟩ 58 (0, 0)) :: some (b2, .cells ⟨[.int .i64 of_.e0, .int .i64 of_.e1, .int .i64 of_.e2]⟩ 57 (0, 0)) :: some (b1, .cells ⟨[v0_l, v1_l, v2_l]⟩ 56 (0, 0)) :: L) (fun _ => none) mixed (by kernel_rfl) (by kernel_rfl) rfl (fct_mono (by kernel_rfl)) ⟨(by intro H' m_ hH hm_ hu_; refine depK_nil ?_; exact s_d (m_ 0) rfl (d_idxArr (o' := 0) Tryd.underlying58 sz30 rfl rfl (by decide) rfl) (by exact rfl) rfl), (by intro H' m_ hH hm_ hu_; rintro _ rfl; refine depK_nil ?_; exact s_d (m_ 1) rfl (d_loado (v := .agg ⟨[.bool y19.1.f_neg, v30]⟩) ty30 rfl (.there (.there (.there (.there (.there (.there (.there (.there (.there .here))))))))) rfl rfl rfl rfl) (by exact rfl) rfl), (by intro H' m_ hH hm_ hu_; refine depK_nil ?_; exact s_d (m_ 2) rfl (d_idxArr (o' := 2) Tryd.underlying58 sz30 rfl rfl (by decide) rfl) (by exact rfl) rfl), (by intro H' m_ hH hm_ hu_; rintro _ rfl; refine depK_nil ?_; exact s_d (m_ 3) rfl (d_loado (v := .agg ⟨[.bool y52.1.f_neg, v63]⟩) ty30 rfl (.there (.there (.there (.there (.there (.there (.there (.there (.there .here))))))))) rfl rfl rfl rfl) (by exact rfl) rfl), (by intro H' m_ hH hm_ hu_; refine depK_nil ?_; exact s_d (m_ 4) rfl (d_idxArr (o' := 4) Tryd.underlying58 sz30 rfl rfl (by decide) rfl) (by exact rfl) rfl), (by intro H' m_ hH hm_ hu_; rintro _ rfl; refine depK_nil ?_; exact s_d (m_ 5) rfl (d_loado (v := .agg ⟨[.bool y85.1.f_neg, v96]⟩) ty30 rfl (.there (.there (.there (.there (.there (.there (.there (.there (.there .here))))))))) rfl rfl rfl rfl) (by exact rfl) rfl), (by intro H' m_ hH hm_ hu_; refine depK_nil ?_; exact s_box hm_ rfl rfl (o_alloc zr30 rfl) rfl (fun _ => (pk_upd (hu_ 9 (by kernel_rfl)))) (by exact fun b_ => ⟨b_, rfl, rfl⟩)), (by intro H' m_ hH hm_ hu_; refine depK_nil ?_; exact s_box hm_ rfl rfl (o_alloc zr30 rfl) rfl (fun _ => (.there (pk_upd (hu_ 10 (by kernel_rfl))))) (by exact fun b_ => ⟨b_, rfl, rfl⟩)), (by intro H' m_ hH hm_ hu_; refine depK_nil ?_; exact s_box hm_ rfl rfl (o_alloc zr30 rfl) rfl (fun _ => (.there (.there .here))) (by exact fun b_ => ⟨b_, rfl, rfl⟩)), (by intro H' m_ hH hm_ hu_; rintro _ rfl _ ⟨b103, rfl, hb103_⟩; refine depK_nil ?_; exact s_store2 (Λ' := fun z_ => z_ :: pk (m_ 10) (m_ 7) :: m_ 8 :: some (b95, .cells ⟨[.bool y85.1.f_neg, v96]⟩ 30 (0, 0)) :: some (b82, .cells ⟨[.bool y76.f_neg, v80]⟩ 30 (0, 0)) :: some (b62, .cells ⟨[.bool y52.1.f_neg, v63]⟩ 30 (0, 0)) :: some (b49, .cells ⟨[.bool y43.f_neg, v47]⟩ 30 (0, 0)) :: some (b29, .cells ⟨[.bool y19.1.f_neg, v30]⟩ 30 (0, 0)) :: some (b16, .cells ⟨[.bool y10.f_neg, v14]⟩ 30 (0, 0)) :: some (b3, .cells ⟨[.bool y19.1.f_neg, v30, .bool y52.1.f_neg, v63, .bool y85.1.f_neg, v96]⟩ 58 (0, 0)) :: some (b2, .cells ⟨[.int .i64 of_.e0, .int .i64 of_.e1, .int .i64 of_.e2]⟩ 57 (0, 0)) :: some (b1, .cells ⟨[v0_l, v1_l, v2_l]⟩ 56 (0, 0)) :: L) (some (b103, .cells ⟨[.bool y19.1.f_neg, v30]⟩ 30 (0, 0))) hm_ rfl hb103_ rfl (o_store (v := .agg ⟨[.bool y19.1.f_neg, v30]⟩) sz30 rfl rfl rfl rfl (one_cons rfl (one_cons (h31.one) one_nil)) .here (.here (.here .done))) rfl rfl (by exact ⟨rfl, congrArg (fun b_ => (some (b_, Obj.cells ⟨[.bool y19.1.f_neg, v30]⟩ 30 (0, 0)) : Item')) (bof_eq hb103_).symm⟩)), (by intro H' m_ hH hm_ hu_; rintro _ rfl _ ⟨b104, rfl, hb104_⟩; refine depK_nil ?_; exact s_store2 (Λ' := fun z_ => pk (m_ 9) (m_ 6) :: z_ :: m_ 8 :: some (b95, .cells ⟨[.bool y85.1.f_neg, v96]⟩ 30 (0, 0)) :: some (b82, .cells ⟨[.bool y76.f_neg, v80]⟩ 30 (0, 0)) :: some (b62, .cells ⟨[.bool y52.1.f_neg, v63]⟩ 30 (0, 0)) :: some (b49, .cells ⟨[.bool y43.f_neg, v47]⟩ 30 (0, 0)) :: some (b29, .cells ⟨[.bool y19.1.f_neg, v30]⟩ 30 (0, 0)) :: some (b16, .cells ⟨[.bool y10.f_neg, v14]⟩ 30 (0, 0)) :: some (b3, .cells ⟨[.bool y19.1.f_neg, v30, .bool y52.1.f_neg, v63, .bool y85.1.f_neg, v96]⟩ 58 (0, 0)) :: some (b2, .cells ⟨[.int .i64 of_.e0, .int .i64 of_.e1, .int .i64 of_.e2]⟩ 57 (0, 0)) :: some (b1, .cells ⟨[v0_l, v1_l, v2_l]⟩ 56 (0, 0)) :: L) (some (b104, .cells ⟨[.bool y52.1.f_neg, v63]⟩ 30 (0, 0))) hm_ rfl hb104_ rfl (o_store (v := .agg ⟨[.bool y52.1.f_neg, v63]⟩) sz30 rfl rfl rfl rfl (one_cons rfl (one_cons (h64.one) one_nil)) (.there .here) (.here (.here .done))) rfl rfl (by exact ⟨rfl, congrArg (fun b_ => (some (b_, Obj.cells ⟨[.bool y52.1.f_neg, v63]⟩ 30 (0, 0)) : Item')) (bof_eq hb104_).symm⟩)), trivial⟩ ?_
    intro H110 e111
    rintro _ _ rfl _ _ rfl _ _ rfl _ _ rfl _ _ rfl _ _ rfl _ _ ⟨b103, rfl, rfl⟩ _ _ ⟨b104, rfl, rfl⟩ _ _ ⟨b105, rfl, rfl⟩ _ i106 ⟨rfl, h107⟩ _ i108 ⟨rfl, h109⟩
    replace h107 : i106 = some (b103, .cells ⟨[.bool y19.1.f_neg, v30]⟩ 30 (0, 0)) := h107
    subst h107
    replace h109 : i108 = some (b104, .cells ⟨[.bool y52.1.f_neg, v63]⟩ 30 (0, 0)) := h109
    subst h109
    refine w_it (L' := some (b103, .cells ⟨[.bool y19.1.f_neg, v30]⟩ 30 (0, 0)) :: some (b104, .cells ⟨[.bool y52.1.f_neg, v63]⟩ 30 (0, 0)) :: some (b105, .cells ⟨[.bool false, .slice none 0 0]⟩ 30 (0, 0)) :: some (b95, .cells ⟨[.bool y85.1.f_neg, v96]⟩ 30 (0, 0)) :: some (b82, .cells ⟨[.bool y76.f_neg, v80]⟩ 30 (0, 0)) :: some (b62, .cells ⟨[.bool y52.1.f_neg, v63]⟩ 30 (0, 0)) :: some (b49, .cells ⟨[.bool y43.f_neg, v47]⟩ 30 (0, 0)) :: some (b29, .cells ⟨[.bool y19.1.f_neg, v30]⟩ 30 (0, 0)) :: some (b16, .cells ⟨[.bool y10.f_neg, v14]⟩ 30 (0, 0)) :: some (b3, .cells ⟨[.bool y19.1.f_neg, v30, .bool y52.1.f_neg, v63, .bool y85.1.f_neg, v96]⟩ 58 (0, 0)) :: some (b2, .cells ⟨[.int .i64 of_.e0, .int .i64 of_.e1, .int .i64 of_.e2]⟩ 57 (0, 0)) :: some (b1, .cells ⟨[v0_l, v1_l, v2_l]⟩ 56 (0, 0)) :: L) rfl ?_
    refine w_a0 rfl (o_store (v := .agg ⟨[.bool y85.1.f_neg, v96]⟩) sz30 rfl rfl rfl rfl (one_cons rfl (one_cons (h97.one) one_nil)) (.there (.there .here)) (.here (.here .done))) ?_
    rintro _ _ _ ⟨rfl, rfl, rfl⟩
    refine w_done ?_
    refine w_seq ?_
    refine w_region rfl ?_
    refine w_d rfl (d_loado (v := .agg ⟨[.bool y19.1.f_neg, v30]⟩) ty30 rfl .here rfl rfl rfl rfl) ?_
    refine w_d rfl (d_loado (v := .agg ⟨[.bool y52.1.f_neg, v63]⟩) ty30 rfl (.there .here) rfl rfl rfl rfl) ?_
    obtain ⟨y112, hy113, he⟩ := Option.bind_eq_some_iff.1 he
    refine w_a rfl (o_call co9 (vs := [.agg ⟨[.bool y19.1.f_neg, v30]⟩, .agg ⟨[.bool y52.1.f_neg, v63]⟩]) rfl (wide_Int_Add.calls k (a := (⟨y19.1.f_neg, y19.1.f_w⟩ : wide_Int)) (b := (⟨y52.1.f_neg, y52.1.f_w⟩ : wide_Int)) hy113 (h31.mono ((((e51.trans e68).trans e84).trans e101).trans e111)) (h64.mono ((e84.trans e101).trans e111)))) ?_
    rintro _ H114 _ ⟨rfl, e115, ⟨v116, rfl, h117⟩⟩
    refine w_d rfl (d_move (v := .tuple ⟨[.agg ⟨[.bool y112.1.f_neg, v116]⟩, errV 89 y112.2]⟩) rfl) ?_
    refine w_d rfl (d_ext (vs := [.agg ⟨[.bool y112.1.f_neg, v116]⟩, errV 89 y112.2]) rfl rfl) ?_
    refine w_d rfl (d_ext (vs := [.agg ⟨[.bool y112.1.f_neg, v116]⟩, errV 89 y112.2]) rfl rfl) ?_
    refine w_a rfl (o_alloc zr30 rfl) ?_
    rintro _ _ _ ⟨b118, rfl, rfl, rfl⟩
    refine w_a0 rfl (o_store (v := .agg ⟨[.bool y112.1.f_neg, v116]⟩) sz30 rfl rfl rfl rfl (one_cons rfl (one_cons (h117.one) one_nil)) .here (.here (.here .done))) ?_
    rintro _ _ _ ⟨rfl, rfl, rfl⟩
    refine w_d rfl (d_assign (v := errV 89 y112.2) rfl) ?_
    refine w_done ?_
    refine w_seq ?_
    refine w_region rfl ?_
    refine w_d rfl (d_loado (v := .agg ⟨[.bool y52.1.f_neg, v63]⟩) ty30 rfl (.there (.there .here)) rfl rfl rfl rfl) ?_
    refine w_d rfl (d_loado (v := .agg ⟨[.bool y19.1.f_neg, v30]⟩) ty30 rfl (.there .here) rfl rfl rfl rfl) ?_
    obtain ⟨y119, hy120, he⟩ := Option.bind_eq_some_iff.1 he
    refine w_a rfl (o_call co9 (vs := [.agg ⟨[.bool y52.1.f_neg, v63]⟩, .agg ⟨[.bool y19.1.f_neg, v30]⟩]) rfl (wide_Int_Add.calls k (a := (⟨y52.1.f_neg, y52.1.f_w⟩ : wide_Int)) (b := (⟨y19.1.f_neg, y19.1.f_w⟩ : wide_Int)) hy120 (h64.mono (((e84.trans e101).trans e111).trans e115)) (h31.mono (((((e51.trans e68).trans e84).trans e101).trans e111).trans e115)))) ?_
    rintro _ H121 _ ⟨rfl, e122, ⟨v123, rfl, h124⟩⟩
    refine w_d rfl (d_move (v := .tuple ⟨[.agg ⟨[.bool y119.1.f_neg, v123]⟩, errV 89 y119.2]⟩) rfl) ?_
    refine w_d rfl (d_ext (vs := [.agg ⟨[.bool y119.1.f_neg, v123]⟩, errV 89 y119.2]) rfl rfl) ?_
    refine w_d rfl (d_ext (vs := [.agg ⟨[.bool y119.1.f_neg, v123]⟩, errV 89 y119.2]) rfl rfl) ?_
    refine w_a rfl (o_alloc zr30 rfl) ?_
    rintro _ _ _ ⟨b125, rfl, rfl, rfl⟩
    refine w_a0 rfl (o_store (v := .agg ⟨[.bool y119.1.f_neg, v123]⟩) sz30 rfl rfl rfl rfl (one_cons rfl (one_cons (h124.one) one_nil)) .here (.here (.here .done))) ?_
    rintro _ _ _ ⟨rfl, rfl, rfl⟩
    refine w_d rfl (d_assign (v := errV 89 y119.2) rfl) ?_
    refine w_done ?_
    refine w_seq ?_
    refine w_region rfl ?_
    refine w_d rfl (d_loado (v := .agg ⟨[.bool y19.1.f_neg, v30]⟩) ty30 rfl (.there (.there .here)) rfl rfl rfl rfl) ?_
    refine w_d rfl (d_loado (v := .agg ⟨[.bool y52.1.f_neg, v63]⟩) ty30 rfl (.there (.there (.there .here))) rfl rfl rfl rfl) ?_
    obtain ⟨y126, hy127, he⟩ := Option.bind_eq_some_iff.1 he
    refine w_a rfl (o_call co11 (vs := [.agg ⟨[.bool y19.1.f_neg, v30]⟩, .agg ⟨[.bool y52.1.f_neg, v63]⟩]) rfl (wide_Int_Mul.calls k (a := (⟨y19.1.f_neg, y19.1.f_w⟩ : wide_Int)) (b := (⟨y52.1.f_neg, y52.1.f_w⟩ : wide_Int)) hy127 (h31.mono ((((((e51.trans e68).trans e84).trans e101).trans e111).trans e115).trans e122)) (h64.mono ((((e84.trans e101).trans e111).trans e115).trans e122)))) ?_
    rintro _ H128 _ ⟨rfl, e129, ⟨v130, rfl, h131⟩⟩
    refine w_d rfl (d_move (v := .tuple ⟨[.agg ⟨[.bool y126.1.f_neg, v130]⟩, errV 89 y126.2]⟩) rfl) ?_
    refine w_d rfl (d_ext (vs := [.agg ⟨[.bool y126.1.f_neg, v130]⟩, errV 89 y126.2]) rfl rfl) ?_
    refine w_d rfl (d_ext (vs := [.agg ⟨[.bool y126.1.f_neg, v130]⟩, errV 89 y126.2]) rfl rfl) ?_
    refine w_a rfl (o_alloc zr30 rfl) ?_
    rintro _ _ _ ⟨b132, rfl, rfl, rfl⟩
    refine w_a0 rfl (o_store (v := .agg ⟨[.bool y126.1.f_neg, v130]⟩) sz30 rfl rfl rfl rfl (one_cons rfl (one_cons (h131.one) one_nil)) .here (.here (.here .done))) ?_
    rintro _ _ _ ⟨rfl, rfl, rfl⟩
    refine w_d rfl (d_assign (v := errV 89 y126.2) rfl) ?_
    refine w_done ?_
    refine w_seq ?_
    refine w_region rfl ?_
    refine w_d rfl (d_loado (v := .agg ⟨[.bool y52.1.f_neg, v63]⟩) ty30 rfl (.there (.there (.there (.there .here)))) rfl rfl rfl rfl) ?_
    refine w_d rfl (d_loado (v := .agg ⟨[.bool y19.1.f_neg, v30]⟩) ty30 rfl (.there (.there (.there .here))) rfl rfl rfl rfl) ?_
    obtain ⟨y133, hy134, he⟩ := Option.bind_eq_some_iff.1 he
    refine w_a rfl (o_call co11 (vs := [.agg ⟨[.bool y52.1.f_neg, v63]⟩, .agg ⟨[.bool y19.1.f_neg, v30]⟩]) rfl (wide_Int_Mul.calls k (a := (⟨y52.1.f_neg, y52.1.f_w⟩ : wide_Int)) (b := (⟨y19.1.f_neg, y19.1.f_w⟩ : wide_Int)) hy134 (h64.mono (((((e84.trans e101).trans e111).trans e115).trans e122).trans e129)) (h31.mono (((((((e51.trans e68).trans e84).trans e101).trans e111).trans e115).trans e122).trans e129)))) ?_
    rintro _ H135 _ ⟨rfl, e136, ⟨v137, rfl, h138⟩⟩
    refine w_d rfl (d_move (v := .tuple ⟨[.agg ⟨[.bool y133.1.f_neg, v137]⟩, errV 89 y133.2]⟩) rfl) ?_
    refine w_d rfl (d_ext (vs := [.agg ⟨[.bool y133.1.f_neg, v137]⟩, errV 89 y133.2]) rfl rfl) ?_
    refine w_d rfl (d_ext (vs := [.agg ⟨[.bool y133.1.f_neg, v137]⟩, errV 89 y133.2]) rfl rfl) ?_
    refine w_a rfl (o_alloc zr30 rfl) ?_
    rintro _ _ _ ⟨b139, rfl, rfl, rfl⟩
    refine w_a0 rfl (o_store (v := .agg ⟨[.bool y133.1.f_neg, v137]⟩) sz30 rfl rfl rfl rfl (one_cons rfl (one_cons (h138.one) one_nil)) .here (.here (.here .done))) ?_
    rintro _ _ _ ⟨rfl, rfl, rfl⟩
    refine w_d rfl (d_assign (v := errV 89 y133.2) rfl) ?_
    refine w_done ?_
    refine w_seq ?_
    refine w_seq ?_
    refine w_region rfl ?_
    refine w_d rfl (d_move (v := errV 89 y112.2) rfl) ?_
    refine w_d rfl (call_d (o_call co23 (vs := [errV 89 y112.2]) rfl (num23.calls (hG.mono ((((((((((e18.trans e35).trans e51).trans e68).trans e84).trans e101).trans e111).trans e115).trans e122).trans e129).trans e136)) rfl))) ?_
    refine w_d rfl (d_move (v := errV 89 y119.2) rfl) ?_
    refine w_d rfl (call_d (o_call co23 (vs := [errV 89 y119.2]) rfl (num23.calls (hG.mono ((((((((((e18.trans e35).trans e51).trans e68).trans e84).trans e101).trans e111).trans e115).trans e122).trans e129).trans e136)) rfl))) ?_
    refine w_d rfl (d_neq rfl rfl) ?_
    refine w_d rfl (d_move (v := .bool (!decide ((errN y112.2) = (errN y119.2)))) rfl) ?_
    refine w_g (g := !(!decide ((errN y112.2) = (errN y119.2)))) rfl rfl rfl wn_f (fun g140 => d_move (v := errV 89 y126.2) rfl) ?_
    refine w_g (g := !(!decide ((errN y112.2) = (errN y119.2)))) rfl rfl rfl wn_f (fun g141 => call_d (o_call co23 (vs := [errV 89 y126.2]) (acons (cvt g141) (anil)) (num23.calls (hG.mono ((((((((((e18.trans e35).trans e51).trans e68).trans e84).trans e101).trans e111).trans e115).trans e122).trans e129).trans e136)) rfl))) ?_
    refine w_g (g := !(!decide ((errN y112.2) = (errN y119.2)))) rfl rfl rfl wn_f (fun g142 => d_move (v := errV 89 y133.2) rfl) ?_
    refine w_g (g := !(!decide ((errN y112.2) = (errN y119.2)))) rfl rfl rfl wn_f (fun g143 => call_d (o_call co23 (vs := [errV 89 y133.2]) (acons (cvt g143) (anil)) (num23.calls (hG.mono ((((((((((e18.trans e35).trans e51).trans e68).trans e84).trans e101).trans e111).trans e115).trans e122).trans e129).trans e136)) rfl))) ?_
    refine w_g (g := !(!decide ((errN y112.2) = (errN y119.2)))) rfl rfl rfl wn_f (fun g144 => d_neq (cvt g144) (cvt g144)) ?_
    refine w_d rfl (d_or' (b := (!decide ((errN y112.2) = (errN y119.2)))) (p := (!decide ((errN y126.2) = (errN y133.2)))) rfl rfl rfl) ?_
    refine w_d rfl (d_move (v := .bool ((!decide ((errN y112.2) = (errN y119.2))) || (!decide ((errN y126.2) = (errN y133.2))))) rfl) ?_
    refine w_g (g := !((!decide ((errN y112.2) = (errN y119.2))) || (!decide ((errN y126.2) = (errN y133.2))))) rfl rfl rfl wn_f (fun g145 => d_move (v := errV 89 y112.2) rfl) ?_
    refine w_g (g := !((!decide ((errN y112.2) = (errN y119.2))) || (!decide ((errN y126.2) = (errN y133.2))))) rfl rfl rfl wn_f (fun g146 => d_nenil (e := y112.2) Tryd.underlying33 (cvt g146)) ?_
    refine w_g (g := !((!decide ((errN y112.2) = (errN y119.2))) || (!decide ((errN y126.2) = (errN y133.2))))) rfl rfl rfl wn_f (fun g147 => d_move (v := .bool y112.2.isSome) (cvt g147)) ?_
    refine w_g (g := (!((!decide ((errN y112.2) = (errN y119.2))) || (!decide ((errN y126.2) = (errN y133.2))))) && y112.2.isSome) rfl rfl rfl wn_gt (fun g148 => d_move (v := errV 89 y112.2) rfl) ?_
    refine w_g (g := (!((!decide ((errN y112.2) = (errN y119.2))) || (!decide ((errN y126.2) = (errN y133.2))))) && y112.2.isSome) rfl rfl rfl wn_gt (fun g149 => call_d (o_call co23 (vs := [errV 89 y112.2]) (acons (cvt g149) (anil)) (num23.calls (hG.mono ((((((((((e18.trans e35).trans e51).trans e68).trans e84).trans e101).trans e111).trans e115).trans e122).trans e129).trans e136)) rfl))) ?_
    refine w_g (g := (!((!decide ((errN y112.2) = (errN y119.2))) || (!decide ((errN y126.2) = (errN y133.2))))) && y112.2.isSome) rfl rfl rfl wn_gt (fun g150 => d_neq (cvt g150) rfl) ?_
    refine w_g (g := !((!decide ((errN y112.2) = (errN y119.2))) || (!decide ((errN y126.2) = (errN y133.2))))) rfl rfl rfl wn_f (fun g151 => d_and' (b := y112.2.isSome) (p := (!decide ((errN y112.2) = 12))) (cvt g151) (cva g151) rfl) ?_
    refine w_d rfl (d_or' (b := ((!decide ((errN y112.2) = (errN y119.2))) || (!decide ((errN y126.2) = (errN y133.2))))) (p := (y112.2.isSome && (!decide ((errN y112.2) = 12)))) rfl rfl rfl) ?_
    refine w_d rfl (d_move (v := .bool (((!decide ((errN y112.2) = (errN y119.2))) || (!decide ((errN y126.2) = (errN y133.2)))) || (y112.2.isSome && (!decide ((errN y112.2) = 12))))) rfl) ?_
    refine w_g (g := !(((!decide ((errN y112.2) = (errN y119.2))) || (!decide ((errN y126.2) = (errN y133.2)))) || (y112.2.isSome && (!decide ((errN y112.2) = 12))))) rfl rfl rfl wn_f (fun g152 => d_move (v := errV 89 y126.2) rfl) ?_
    refine w_g (g := !(((!decide ((errN y112.2) = (errN y119.2))) || (!decide ((errN y126.2) = (errN y133.2)))) || (y112.2.isSome && (!decide ((errN y112.2) = 12))))) rfl rfl rfl wn_f (fun g153 => d_nenil (e := y126.2) Tryd.underlying33 (cvt g153)) ?_
    refine w_g (g := !(((!decide ((errN y112.2) = (errN y119.2))) || (!decide ((errN y126.2) = (errN y133.2)))) || (y112.2.isSome && (!decide ((errN y112.2) = 12))))) rfl rfl rfl wn_f (fun g154 => d_move (v := .bool y126.2.isSome) (cvt g154)) ?_
    refine w_g (g := (!(((!decide ((errN y112.2) = (errN y119.2))) || (!decide ((errN y126.2) = (errN y133.2)))) || (y112.2.isSome && (!decide ((errN y112.2) = 12))))) && y126.2.isSome) rfl rfl rfl wn_gt (fun g155 => d_move (v := errV 89 y126.2) rfl) ?_
    refine w_g (g := (!(((!decide ((errN y112.2) = (errN y119.2))) || (!decide ((errN y126.2) = (errN y133.2)))) || (y112.2.isSome && (!decide ((errN y112.2) = 12))))) && y126.2.isSome) rfl rfl rfl wn_gt (fun g156 => call_d (o_call co23 (vs := [errV 89 y126.2]) (acons (cvt g156) (anil)) (num23.calls (hG.mono ((((((((((e18.trans e35).trans e51).trans e68).trans e84).trans e101).trans e111).trans e115).trans e122).trans e129).trans e136)) rfl))) ?_
    refine w_g (g := (!(((!decide ((errN y112.2) = (errN y119.2))) || (!decide ((errN y126.2) = (errN y133.2)))) || (y112.2.isSome && (!decide ((errN y112.2) = 12))))) && y126.2.isSome) rfl rfl rfl wn_gt (fun g157 => d_neq (cvt g157) rfl) ?_
    refine w_g (g := !(((!decide ((errN y112.2) = (errN y119.2))) || (!decide ((errN y126.2) = (errN y133.2)))) || (y112.2.isSome && (!decide ((errN y112.2) = 12))))) rfl rfl rfl wn_f (fun g158 => d_and' (b := y126.2.isSome) (p := (!decide ((errN y126.2) = 12))) (cvt g158) (cva g158) rfl) ?_
    refine w_d rfl (d_or' (b := (((!decide ((errN y112.2) = (errN y119.2))) || (!decide ((errN y126.2) = (errN y133.2)))) || (y112.2.isSome && (!decide ((errN y112.2) = 12))))) (p := (y126.2.isSome && (!decide ((errN y126.2) = 12)))) rfl rfl rfl) ?_
    refine w_d rfl (d_move (v := .bool ((((!decide ((errN y112.2) = (errN y119.2))) || (!decide ((errN y126.2) = (errN y133.2)))) || (y112.2.isSome && (!decide ((errN y112.2) = 12)))) || (y126.2.isSome && (!decide ((errN y126.2) = 12))))) rfl) ?_
    refine w_g (g := !((((!decide ((errN y112.2) = (errN y119.2))) || (!decide ((errN y126.2) = (errN y133.2)))) || (y112.2.isSome && (!decide ((errN y112.2) = 12)))) || (y126.2.isSome && (!decide ((errN y126.2) = 12))))) rfl rfl rfl wn_f (fun g159 => d_loado (v := .agg ⟨[.bool y112.1.f_neg, v116]⟩) ty30 rfl (.there (.there (.there .here))) rfl rfl rfl rfl) ?_
    refine w_g (g := !((((!decide ((errN y112.2) = (errN y119.2))) || (!decide ((errN y126.2) = (errN y133.2)))) || (y112.2.isSome && (!decide ((errN y112.2) = 12)))) || (y126.2.isSome && (!decide ((errN y126.2) = 12))))) rfl rfl rfl wn_f (fun g160 => d_loado (v := .agg ⟨[.bool y119.1.f_neg, v123]⟩) ty30 rfl (.there (.there .here)) rfl rfl rfl rfl) ?_
    obtain ⟨y162, hy163, he⟩ := Option.bind_eq_some_iff.1 he
    refine w_g (g := !((((!decide ((errN y112.2) = (errN y119.2))) || (!decide ((errN y126.2) = (errN y133.2)))) || (y112.2.isSome && (!decide ((errN y112.2) = 12)))) || (y126.2.isSome && (!decide ((errN y126.2) = 12))))) rfl rfl rfl wn_f (fun g161 => call_d (o_call co16 (vs := [.agg ⟨[.bool y112.1.f_neg, v116]⟩, .agg ⟨[.bool y119.1.f_neg, v123]⟩]) (acons (cvt g161) (acons (cvt g161) (anil))) (wide_Int_Cmp.calls k (a := (⟨y112.1.f_neg, y112.1.f_w⟩ : wide_Int)) (b := (⟨y119.1.f_neg, y119.1.f_w⟩ : wide_Int)) (gd_t g161 hy163) (h117.mono ((e122.trans e129).trans e136)) (h124.mono (e129.trans e136))))) ?_
    refine w_g (g := !((((!decide ((errN y112.2) = (errN y119.2))) || (!decide ((errN y126.2) = (errN y133.2)))) || (y112.2.isSome && (!decide ((errN y112.2) = 12)))) || (y126.2.isSome && (!decide ((errN y126.2) = 12))))) rfl rfl rfl wn_f (fun g166 => d_neq (cvt g166) rfl) ?_
    refine w_d rfl (d_or' (b := ((((!decide ((errN y112.2) = (errN y119.2))) || (!decide ((errN y126.2) = (errN y133.2)))) || (y112.2.isSome && (!decide ((errN y112.2) = 12)))) || (y126.2.isSome && (!decide ((errN y126.2) = 12))))) (p := (!decide (y162 = 0))) rfl rfl rfl) ?_
    refine w_d rfl (d_move (v := .bool (((((!decide ((errN y112.2) = (errN y119.2))) || (!decide ((errN y126.2) = (errN y133.2)))) || (y112.2.isSome && (!decide ((errN y112.2) = 12)))) || (y126.2.isSome && (!decide ((errN y126.2) = 12)))) || (!decide (y162 = 0)))) rfl) ?_
    refine w_g (g := !(((((!decide ((errN y112.2) = (errN y119.2))) || (!decide ((errN y126.2) = (errN y133.2)))) || (y112.2.isSome && (!decide ((errN y112.2) = 12)))) || (y126.2.isSome && (!decide ((errN y126.2) = 12)))) || (!decide (y162 = 0)))) rfl rfl rfl wn_f (fun g167 => d_loado (v := .agg ⟨[.bool y126.1.f_neg, v130]⟩) ty30 rfl (.there .here) rfl rfl rfl rfl) ?_
    refine w_g (g := !(((((!decide ((errN y112.2) = (errN y119.2))) || (!decide ((errN y126.2) = (errN y133.2)))) || (y112.2.isSome && (!decide ((errN y112.2) = 12)))) || (y126.2.isSome && (!decide ((errN y126.2) = 12)))) || (!decide (y162 = 0)))) rfl rfl rfl wn_f (fun g168 => d_loado (v := .agg ⟨[.bool y133.1.f_neg, v137]⟩) ty30 rfl .here rfl rfl rfl rfl) ?_
    obtain ⟨y170, hy171, he⟩ := Option.bind_eq_some_iff.1 he
    refine w_g (g := !(((((!decide ((errN y112.2) = (errN y119.2))) || (!decide ((errN y126.2) = (errN y133.2)))) || (y112.2.isSome && (!decide ((errN y112.2) = 12)))) || (y126.2.isSome && (!decide ((errN y126.2) = 12)))) || (!decide (y162 = 0)))) rfl rfl rfl wn_f (fun g169 => call_d (o_call co16 (vs := [.agg ⟨[.bool y126.1.f_neg, v130]⟩, .agg ⟨[.bool y133.1.f_neg, v137]⟩]) (acons (cvt g169) (acons (cvt g169) (anil))) (wide_Int_Cmp.calls k (a := (⟨y126.1.f_neg, y126.1.f_w⟩ : wide_Int)) (b := (⟨y133.1.f_neg, y133.1.f_w⟩ : wide_Int)) (gd_t g169 hy171) (h131.mono e136) h138))) ?_
    refine w_g (g := !(((((!decide ((errN y112.2) = (errN y119.2))) || (!decide ((errN y126.2) = (errN y133.2)))) || (y112.2.isSome && (!decide ((errN y112.2) = 12)))) || (y126.2.isSome && (!decide ((errN y126.2) = 12)))) || (!decide (y162 = 0)))) rfl rfl rfl wn_f (fun g174 => d_neq (cvt g174) rfl) ?_
    refine w_d rfl (d_or' (b := (((((!decide ((errN y112.2) = (errN y119.2))) || (!decide ((errN y126.2) = (errN y133.2)))) || (y112.2.isSome && (!decide ((errN y112.2) = 12)))) || (y126.2.isSome && (!decide ((errN y126.2) = 12)))) || (!decide (y162 = 0)))) (p := (!decide (y170 = 0))) rfl rfl rfl) ?_
    refine w_done ?_
    rcases its he with ⟨c175, he⟩ | ⟨c175, he⟩
    ·
     refine w_then rfl c175 ?_
     refine w_seq ?_
     refine w_region rfl ?_
     refine w_d rfl (d_assign (v := .bool false) rfl) ?_
     refine w_done ?_
     obtain rfl := Option.some.inj he
     refine w_return fn_5 rs_5 (.tmp (v := .bool false) rfl .nil) ?_
     exact ⟨⟨[_, _, _, _, _, _, _, _, _, _, _, _, _, _, _, _], rfl⟩, hle.trans ((((((((((e18.trans e35).trans e51).trans e68).trans e84).trans e101).trans e111).trans e115).trans e122).trans e129).trans e136), rfl⟩
    ·
     refine w_else rfl (Bool.eq_false_iff.2 c175) ?_
     refine w_skip ?_
     refine w_seq ?_
     refine w_seq ?_
     refine w_region rfl ?_
     refine w_d rfl (d_move (v := errV 89 y112.2) rfl) ?_
     refine w_d rfl (d_eqnil (e := y112.2) Tryd.underlying33 rfl) ?_
     refine w_done ?_
     rcases its he with ⟨c176, he⟩ | ⟨c176, he⟩
     ·
      refine w_then rfl c176 ?_
      refine w_seq ?_
      refine w_region rfl ?_
      refine w_d rfl (d_loado (v := .agg ⟨[.bool y112.1.f_neg, v116]⟩) ty30 rfl (.there (.there (.there .here))) rfl rfl rfl rfl) ?_
      refine w_d rfl (d_loado (v := .agg ⟨[.bool y52.1.f_neg, v63]⟩) ty30 rfl (.there (.there (.there (.there (.there .here))))) rfl rfl rfl rfl) ?_
      obtain ⟨y177, hy178, he⟩ := Option.bind_eq_some_iff.1 he
      refine w_a rfl (o_call co10 (vs := [.agg ⟨[.bool y112.1.f_neg, v116]⟩, .agg ⟨[.bool y52.1.f_neg, v63]⟩]) rfl (wide_Int_Sub.calls k (a := (⟨y112.1.f_neg, y112.1.f_w⟩ : wide_Int)) (b := (⟨y52.1.f_neg, y52.1.f_w⟩ : wide_Int)) hy178 (h117.mono ((e122.trans e129).trans e136)) (h64.mono ((((((e84.trans e101).trans e111).trans e115).trans e122).trans e129).trans e136)))) ?_
      rintro _ H179 _ ⟨rfl, e180, ⟨v181, rfl, h182⟩⟩
      refine w_d rfl (d_move (v := .tuple ⟨[.agg ⟨[.bool y177.1.f_neg, v181]⟩, errV 89 y177.2]⟩) rfl) ?_
      refine w_d rfl (d_ext (vs := [.agg ⟨[.bool y177.1.f_neg, v181]⟩, errV 89 y177.2]) rfl rfl) ?_
      refine w_d rfl (d_ext (vs := [.agg ⟨[.bool y177.1.f_neg, v181]⟩, errV 89 y177.2]) rfl rfl) ?_
      refine w_a rfl (o_alloc zr30 rfl) ?_
      rintro _ _ _ ⟨b183, rfl, rfl, rfl⟩
      refine w_a0 rfl (o_store (v := .agg ⟨[.bool y177.1.f_neg, v181]⟩) sz30 rfl rfl rfl rfl (one_cons rfl (one_cons (h182.one) one_nil)) .here (.here (.here .done))) ?_
      rintro _ _ _ ⟨rfl, rfl, rfl⟩
      refine w_d rfl (d_assign (v := errV 89 y177.2) rfl) ?_
      refine w_done ?_
      refine w_seq ?_
      refine w_region rfl ?_
      refine w_d rfl (d_move (v := errV 89 y177.2) rfl) ?_
      refine w_d rfl (d_nenil (e := y177.2) Tryd.underlying33 rfl) ?_
      refine w_d rfl (d_move (v := .bool y177.2.isSome) rfl) ?_
      refine w_g (g := !y177.2.isSome) rfl rfl rfl wn_f (fun g184 => d_loado (v := .agg ⟨[.bool y177.1.f_neg, v181]⟩) ty30 rfl .here rfl rfl rfl rfl) ?_
      refine w_g (g := !y177.2.isSome) rfl rfl rfl wn_f (fun g185 => d_loado (v := .agg ⟨[.bool y19.1.f_neg, v30]⟩) ty30 rfl (.there (.there (.there (.there (.there .here))))) rfl rfl rfl rfl) ?_
      obtain ⟨y187, hy188, he⟩ := Option.bind_eq_some_iff.1 he
      refine w_g (g := !y177.2.isSome) rfl rfl rfl wn_f (fun g186 => call_d (o_call co16 (vs := [.agg ⟨[.bool y177.1.f_neg, v181]⟩, .agg ⟨[.bool y19.1.f_neg, v30]⟩]) (acons (cvt g186) (acons (cvt g186) (anil))) (wide_Int_Cmp.calls k (a := (⟨y177.1.f_neg, y177.1.f_w⟩ : wide_Int)) (b := (⟨y19.1.f_neg, y19.1.f_w⟩ : wide_Int)) (gd_t g186 hy188) h182 (h31.mono (((((((((e51.trans e68).trans e84).trans e101).trans e111).trans e115).trans e122).trans e129).trans e136).trans e180))))) ?_
      refine w_g (g := !y177.2.isSome) rfl rfl rfl wn_f (fun g191 => d_neq (cvt g191) rfl) ?_
      refine w_d rfl (d_or' (b := y177.2.isSome) (p := (!decide (y187 = 0))) rfl rfl rfl) ?_
      refine w_done ?_
      rcases its he with ⟨c192, he⟩ | ⟨c192, he⟩
      ·
       refine w_then rfl c192 ?_
       refine w_seq ?_
       refine w_region rfl ?_
       refine w_d rfl (d_assign (v := .bool false) rfl) ?_
       refine w_done ?_
       obtain rfl := Option.some.inj he
       refine w_return fn_5 rs_5 (.tmp (v := .bool false) rfl .nil) ?_
       exact ⟨⟨[_, _, _, _, _, _, _, _, _, _, _, _, _, _, _, _, _], rfl⟩, hle.trans (((((((((((e18.trans e35).trans e51).trans e68).trans e84).trans e101).trans e111).trans e115).trans e122).trans e129).trans e136).trans e180), rfl⟩
      ·
       refine w_else rfl (Bool.eq_false_iff.2 c192) ?_
       refine w_skip ?_
       refine w_del (.there (.there (.there (.there (.there (.there (.there (.there (.there (.there (.there (.there (.there (.there (.there (.there .here)))))))))))))))) ?_
       refine w_del (.there (.there (.there (.there (.there (.there (.there (.there (.there (.there (.there (.there (.there (.there (.there .here))))))))))))))) ?_
       refine w_del (.there (.there (.there (.there (.there (.there (.there (.there (.there (.there (.there (.there (.there (.there .here)))))))))))))) ?_
       refine w_del (.there (.there (.there (.there (.there (.there (.there (.there (.there (.there (.there (.there (.there .here))))))))))))) ?_
       refine w_del (.there (.there (.there (.there (.there (.there (.there (.there (.there (.there (.there (.there .here)))))))))))) ?_
       refine w_del (.there (.there (.there (.there (.there (.there (.there (.there (.there (.there (.there .here))))))))))) ?_
       refine w_del (.there (.there (.there (.there (.there (.there (.there (.there (.there (.there .here)))))))))) ?_
       refine w_del (.there (.there (.there (.there (.there (.there (.there (.there (.there .here))))))))) ?_
       refine w_del (.there (.there (.there (.there (.there (.there (.there (.there .here)))))))) ?_
       refine w_del (.there (.there (.there .here))) ?_
       refine w_del (.there (.there .here)) ?_
       refine w_del (.there .here) ?_
       refine w_del .here ?_
       refine w_sl 4 (.bool false) rfl ?_
       refine w_sl 10 (.pointer (some ⟨b103, 0, none⟩)) rfl ?_
       refine w_sl 11 (.pointer (some ⟨b104, 0, none⟩)) rfl ?_
       refine w_sl 12 (.pointer (some ⟨b105, 0, none⟩)) rfl ?_
       refine w_sl 13 (.pointer (some ⟨b118, 0, none⟩)) rfl ?_
       refine w_sl 14 (errV 89 y112.2) rfl ?_
       exact radomelaw01_WideLaws.j1_ok (k := k) hh (hle.trans (((((((((((e18.trans e35).trans e51).trans e68).trans e84).trans e101).trans e111).trans e115).trans e122).trans e129).trans e136).trans e180)) (hG.mono (((((((((((e18.trans e35).trans e51).trans e68).trans e84).trans e101).trans e111).trans e115).trans e122).trans e129).trans e136).trans e180)) he (h31.mono (((((((((e51.trans e68).trans e84).trans e101).trans e111).trans e115).trans e122).trans e129).trans e136).trans e180)) (h64.mono (((((((e84.trans e101).trans e111).trans e115).trans e122).trans e129).trans e136).trans e180)) (h97.mono (((((e111.trans e115).trans e122).trans e129).trans e136).trans e180)) (h117.mono (((e122.trans e129).trans e136).trans e180))
     ·
      refine w_else rfl (Bool.eq_false_iff.2 c176) ?_
      refine w_skip ?_
      refine w_del (.there (.there (.there (.there (.there (.there (.there (.there (.there (.there (.there (.there (.there (.there (.there .here))))))))))))))) ?_
      refine w_del (.there (.there (.there (.there (.there (.there (.there (.there (.there (.there (.there (.there (.there (.there .here)))))))))))))) ?_
      refine w_del (.there (.there (.there (.there (.there (.there (.there (.there (.there (.there (.there (.there (.there .here))))))))))))) ?_
      refine w_del (.there (.there (.there (.there (.there (.there (.there (.there (.there (.there (.there (.there .here)))))))))))) ?_
      refine w_del (.there (.there (.there (.there (.there (.there (.there (.there (.there (.there (.there .here))))))))))) ?_
      refine w_del (.there (.there (.there (.there (.there (.there (.there (.there (.there (.there .here)))))))))) ?_
      refine w_del (.there (.there (.there (.there (.there (.there (.there (.there (.there .here))))))))) ?_
      refine w_del (.there (.there (.there (.there (.there (.there (.there (.there .here)))))))) ?_
      refine w_del (.there (.there (.there (.there (.there (.there (.there .here))))))) ?_
      refine w_del (.there (.there .here)) ?_
      refine w_del (.there .here) ?_
      refine w_del .here ?_
      refine w_sl 4 (.bool false) rfl ?_
      refine w_sl 10 (.pointer (some ⟨b103, 0, none⟩)) rfl ?_
      refine w_sl 11 (.pointer (some ⟨b104, 0, none⟩)) rfl ?_
      refine w_sl 12 (.pointer (some ⟨b105, 0, none⟩)) rfl ?_
      refine w_sl 13 (.pointer (some ⟨b118, 0, none⟩)) rfl ?_
      refine w_sl 14 (errV 89 y112.2) rfl ?_
      exact radomelaw01_WideLaws.j1_ok (k := k) hh (hle.trans ((((((((((e18.trans e35).trans e51).trans e68).trans e84).trans e101).trans e111).trans e115).trans e122).trans e129).trans e136)) (hG.mono ((((((((((e18.trans e35).trans e51).trans e68).trans e84).trans e101).trans e111).trans e115).trans e122).trans e129).trans e136)) he (h31.mono ((((((((e51.trans e68).trans e84).trans e101).trans e111).trans e115).trans e122).trans e129).trans e136)) (h64.mono ((((((e84.trans e101).trans e111).trans e115).trans e122).trans e129).trans e136)) (h97.mono ((((e111.trans e115).trans e122).trans e129).trans e136)) (h117.mono ((e122.trans e129).trans e136))
end Go.Proofs.YtmnhbbckndlnkaaDoor.GWL

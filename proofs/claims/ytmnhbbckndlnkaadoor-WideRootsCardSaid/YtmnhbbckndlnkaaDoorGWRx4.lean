/- A text of this session, written by a program (wip/k/gen.py): Go functions as Lean functions, and proofs that the code comes to them. -/
import Derived.Test.YtmnhbbckndlnkaaDoorGWRx3
namespace Go.Proofs.YtmnhbbckndlnkaaDoor.GWR
open Go Go.RowKit Go.Proofs.YtmnhbbckndlnkaaDoorK Go.Proofs.YtmnhbbckndlnkaaDoor
set_option linter.unusedVariables false
set_option linter.unusedSimpArgs false
/-! ### radome/radomelaw01.is -/
noncomputable def radomelaw01_is.C : Code := (Tryd.f12.body).getD .skip
def radomelaw01_is.out (r : Bool) (H : Hp) (v : Value) : Prop := v = .bool r
abbrev radomelaw01_is.R (H0 : Hp) (L : Items) (r : Bool) : Value → Hp → Items → Prop := fun v H' L' => (∃ p, L' = p ++ L) ∧ H0.le H' ∧ radomelaw01_is.out r H' v
noncomputable def radomelaw01_is.f (k : Nat) (a : wide_Int) (b : radomeref01_Num) : Option Bool := (wide_Int_Text.f k (⟨a.f_neg, a.f_w⟩ : wide_Int)).bind fun y3 => (radomeref01_Text.f k (⟨b.f_Neg, b.f_D⟩ : radomeref01_Num)).bind fun y9 => some (decide (y3 = y9))
theorem radomelaw01_is.mono : ∀ k y0 y1, LeO (radomelaw01_is.f k y0 y1) (radomelaw01_is.f (k + 1) y0 y1) := fun k _ _ => by unfold radomelaw01_is.f; exact (LeO.bind (wide_Int_Text.mono k _) fun _ => LeO.bind (radomeref01_Text.mono k _) fun _ => LeO.refl _)
set_option maxRecDepth 100000 in
set_option maxHeartbeats 2000000 in
theorem radomelaw01_is.calls (k : Nat) {H : Hp} {L : Items} {a : wide_Int} {b : radomeref01_Num} {v0_a : Value} {v1_b : Value} {r : Bool} (he : radomelaw01_is.f k a b = some r) (h0_a : Ro (Kd.int .u32) H v0_a a.f_w) (h1_b : Ro (Kd.int .i64) H v1_b b.f_D) : Ct Tryd.prog 12 ⟨[.agg ⟨[.bool a.f_neg, v0_a]⟩, .agg ⟨[.bool b.f_Neg, v1_b]⟩]⟩ H L (fun v H' L' => L = L' ∧ H = H' ∧ v = .bool r) := by
 refine ct_outs (O := radomelaw01_is.out r) (fun _ _ h => h) ?_
 have hle : H.le H := .refl _
 unfold radomelaw01_is.f at he
 refine ct_enter (args := [.agg ⟨[.bool a.f_neg, v0_a]⟩, .agg ⟨[.bool b.f_Neg, v1_b]⟩]) fn_12 rfl nt_12 rfl ?_
 refine w_seq ?_
 refine w_region rfl ?_
 refine w_a rfl (o_box (v := .agg ⟨[.bool a.f_neg, v0_a]⟩) rfl rfl) ?_
 rintro _ _ _ ⟨b1, rfl, rfl, rfl⟩
 refine w_a rfl (o_box (v := .agg ⟨[.bool b.f_Neg, v1_b]⟩) rfl rfl) ?_
 rintro _ _ _ ⟨b2, rfl, rfl, rfl⟩
 refine w_d rfl (d_assign (v := .bool false) rfl) ?_
 refine w_done ?_
 refine w_seq ?_
 obtain ⟨y3, hy4, he⟩ := Option.bind_eq_some_iff.1 he
 refine w_drawn (p := 3) (tl := [3, 4, 5]) [[], [(0, some 5)], []] [some 5, some 6, some 7] (fctF (.is (.agg ⟨[.bool a.f_neg, v0_a]⟩) :: .is (.string y3) :: .is (.agg ⟨[.bool b.f_Neg, v1_b]⟩) :: [])) (fun m_ => some (b2, .cells ⟨[.bool b.f_Neg, v1_b]⟩ 26 (0, 0)) :: some (b1, .cells ⟨[.bool a.f_neg, v0_a]⟩ 30 (0, 0)) :: L) (fun _ => none) mixed (by kernel_rfl) (by kernel_rfl) rfl (fct_mono (by kernel_rfl)) ⟨(by intro H' m_ hH hm_ hu_; refine depK_nil ?_; exact s_d (m_ 0) rfl (d_loado (v := .agg ⟨[.bool a.f_neg, v0_a]⟩) ty30 rfl (.there .here) rfl rfl rfl rfl) (by exact rfl) rfl), (by intro H' m_ hH hm_ hu_; rintro _ rfl; refine depK_nil ?_; exact s_d (m_ 1) rfl (call_d (o_call co50 (vs := [.agg ⟨[.bool a.f_neg, v0_a]⟩]) rfl (wide_Int_Text.calls k (a := (⟨a.f_neg, a.f_w⟩ : wide_Int)) hy4 (h0_a.mono hH)))) (by exact rfl) rfl), (by intro H' m_ hH hm_ hu_; refine depK_nil ?_; exact s_d (m_ 2) rfl (d_loado (v := .agg ⟨[.bool b.f_Neg, v1_b]⟩) ty26 rfl .here rfl rfl rfl rfl) (by exact rfl) rfl), trivial⟩ ?_
 intro H7 e8
 rintro _ _ rfl _ _ rfl _ _ rfl
 obtain ⟨y9, hy10, he⟩ := Option.bind_eq_some_iff.1 he
 refine w_d rfl (call_d (o_call co44 (vs := [.agg ⟨[.bool b.f_Neg, v1_b]⟩]) rfl (radomeref01_Text.calls k (a := (⟨b.f_Neg, b.f_D⟩ : radomeref01_Num)) hy10 (h1_b.mono e8)))) ?_
 refine w_d rfl (d_eqs rfl rfl) ?_
 refine w_d rfl (d_assign (v := .bool (decide (y3 = y9))) rfl) ?_
 refine w_done ?_
 obtain rfl := Option.some.inj he
 refine w_return fn_12 rs_12 (.tmp (v := .bool (decide (y3 = y9))) rfl .nil) ?_
 exact ⟨⟨[_, _], rfl⟩, hle.trans e8, rfl⟩
/-! ### radome/radomeref01.Sub -/
noncomputable def radomeref01_Sub.C : Code := (Tryd.f14.body).getD .skip
def radomeref01_Sub.out (r : radomeref01_Num) (H : Hp) (v : Value) : Prop := ∃ v0, v = .agg ⟨[.bool r.f_Neg, v0]⟩ ∧ Ro (Kd.int .i64) H v0 r.f_D
theorem radomeref01_Sub.out_mono (r : radomeref01_Num) {H H' : Hp} {v : Value} (hle : H.le H') (h : radomeref01_Sub.out r H v) : radomeref01_Sub.out r H' v := by
 obtain ⟨v0, rfl, h0⟩ := h; exact ⟨v0, rfl, h0.mono hle⟩
abbrev radomeref01_Sub.R (H0 : Hp) (L : Items) (r : radomeref01_Num) : Value → Hp → Items → Prop := fun v H' L' => (∃ p, L' = p ++ L) ∧ H0.le H' ∧ radomeref01_Sub.out r H' v
noncomputable def radomeref01_Sub.f (k : Nat) (a : radomeref01_Num) (b : radomeref01_Num) : Option radomeref01_Num := (radomeref01_Neg.f k (⟨b.f_Neg, b.f_D⟩ : radomeref01_Num)).bind fun y4 => (radomeref01_Add.f k (⟨a.f_Neg, a.f_D⟩ : radomeref01_Num) (⟨y4.f_Neg, y4.f_D⟩ : radomeref01_Num)).bind fun y12 => some ((⟨y12.f_Neg, y12.f_D⟩ : radomeref01_Num))
theorem radomeref01_Sub.mono : ∀ k y0 y1, LeO (radomeref01_Sub.f k y0 y1) (radomeref01_Sub.f (k + 1) y0 y1) := fun k _ _ => by unfold radomeref01_Sub.f; exact (LeO.bind (radomeref01_Neg.mono k _) fun _ => LeO.bind (radomeref01_Add.mono k _ _) fun _ => LeO.refl _)
set_option maxRecDepth 100000 in
set_option maxHeartbeats 2000000 in
theorem radomeref01_Sub.calls (k : Nat) {H : Hp} {L : Items} {a : radomeref01_Num} {b : radomeref01_Num} {v0_a : Value} {v1_b : Value} {r : radomeref01_Num} (he : radomeref01_Sub.f k a b = some r) (h0_a : Ro (Kd.int .i64) H v0_a a.f_D) (h1_b : Ro (Kd.int .i64) H v1_b b.f_D) : Ct Tryd.prog 14 ⟨[.agg ⟨[.bool a.f_Neg, v0_a]⟩, .agg ⟨[.bool b.f_Neg, v1_b]⟩]⟩ H L (fun v H' L' => L = L' ∧ H.le H' ∧ radomeref01_Sub.out r H' v) := by
 refine ct_out (O := radomeref01_Sub.out r) ?_
 have hle : H.le H := .refl _
 unfold radomeref01_Sub.f at he
 refine ct_enter (args := [.agg ⟨[.bool a.f_Neg, v0_a]⟩, .agg ⟨[.bool b.f_Neg, v1_b]⟩]) fn_14 rfl nt_14 rfl ?_
 refine w_seq ?_
 refine w_region rfl ?_
 refine w_a rfl (o_box (v := .agg ⟨[.bool a.f_Neg, v0_a]⟩) rfl rfl) ?_
 rintro _ _ _ ⟨b1, rfl, rfl, rfl⟩
 refine w_a rfl (o_box (v := .agg ⟨[.bool b.f_Neg, v1_b]⟩) rfl rfl) ?_
 rintro _ _ _ ⟨b2, rfl, rfl, rfl⟩
 refine w_a rfl (o_alloc zr26 rfl) ?_
 rintro _ _ _ ⟨b3, rfl, rfl, rfl⟩
 refine w_done ?_
 refine w_seq ?_
 obtain ⟨y4, hy5, he⟩ := Option.bind_eq_some_iff.1 he
 refine w_drawn (p := 3) (tl := [3, 4]) [[], [], [(1, some 6)]] [some 5, some 6, some 7] (fctF (.is (.agg ⟨[.bool a.f_Neg, v0_a]⟩) :: .is (.agg ⟨[.bool b.f_Neg, v1_b]⟩) :: .of (radomeref01_Neg.out y4) (radomeref01_Neg.out_mono _) :: [])) (fun m_ => some (b3, .cells ⟨[.bool false, .slice none 0 0]⟩ 26 (0, 0)) :: some (b2, .cells ⟨[.bool b.f_Neg, v1_b]⟩ 26 (0, 0)) :: some (b1, .cells ⟨[.bool a.f_Neg, v0_a]⟩ 26 (0, 0)) :: L) (fun _ => none) mixed (by kernel_rfl) (by kernel_rfl) rfl (fct_mono (by kernel_rfl)) ⟨(by intro H' m_ hH hm_ hu_; refine depK_nil ?_; exact s_d (m_ 0) rfl (d_loado (v := .agg ⟨[.bool a.f_Neg, v0_a]⟩) ty26 rfl (.there (.there .here)) rfl rfl rfl rfl) (by exact rfl) rfl), (by intro H' m_ hH hm_ hu_; refine depK_nil ?_; exact s_d (m_ 1) rfl (d_loado (v := .agg ⟨[.bool b.f_Neg, v1_b]⟩) ty26 rfl (.there .here) rfl rfl rfl rfl) (by exact rfl) rfl), (by intro H' m_ hH hm_ hu_; rintro _ rfl; refine depK_nil ?_; exact s_k (m_ 2) rfl (o_call co21 (vs := [.agg ⟨[.bool b.f_Neg, v1_b]⟩]) rfl (radomeref01_Neg.calls k (a := (⟨b.f_Neg, b.f_D⟩ : radomeref01_Num)) hy5 (h1_b.mono hH))) rfl (by rintro v_ H_ _ ⟨rfl, e_, h_⟩; exact ⟨rfl, e_, h_⟩)), trivial⟩ ?_
 intro H10 e11
 rintro _ _ rfl _ _ rfl _ _ ⟨v8, rfl, h9⟩
 obtain ⟨y12, hy13, he⟩ := Option.bind_eq_some_iff.1 he
 refine w_a rfl (o_call co13 (vs := [.agg ⟨[.bool a.f_Neg, v0_a]⟩, .agg ⟨[.bool y4.f_Neg, v8]⟩]) rfl (radomeref01_Add.calls k (a := (⟨a.f_Neg, a.f_D⟩ : radomeref01_Num)) (b := (⟨y4.f_Neg, y4.f_D⟩ : radomeref01_Num)) hy13 (h0_a.mono e11) h9)) ?_
 rintro _ H14 _ ⟨rfl, e15, ⟨v16, rfl, h17⟩⟩
 refine w_a0 rfl (o_store (v := .agg ⟨[.bool y12.f_Neg, v16]⟩) sz26 rfl rfl rfl rfl (one_cons rfl (one_cons (h17.one) one_nil)) .here (.here (.here .done))) ?_
 rintro _ _ _ ⟨rfl, rfl, rfl⟩
 refine w_done ?_
 obtain rfl := Option.some.inj he
 refine w_return fn_14 rs_14 (.box (v := .agg ⟨[.bool y12.f_Neg, v16]⟩) rfl ty26 rfl rfl .here rfl .nil) ?_
 exact ⟨⟨[_, _, _], rfl⟩, hle.trans (e11.trans e15), ⟨v16, rfl, h17⟩⟩
/-! ### radome/radomeref01.Div -/
noncomputable def radomeref01_Div.C : Code := (Tryd.f25.body).getD .skip
def radomeref01_Div.out (r : radomeref01_Num × radomeref01_Num) (H : Hp) (v : Value) : Prop := ∃ v0, ∃ v1, v = .tuple ⟨[.agg ⟨[.bool r.1.f_Neg, v0]⟩, .agg ⟨[.bool r.2.f_Neg, v1]⟩]⟩ ∧ Ro (Kd.int .i64) H v0 r.1.f_D ∧ Ro (Kd.int .i64) H v1 r.2.f_D
theorem radomeref01_Div.out_mono (r : radomeref01_Num × radomeref01_Num) {H H' : Hp} {v : Value} (hle : H.le H') (h : radomeref01_Div.out r H v) : radomeref01_Div.out r H' v := by
 obtain ⟨v0, v1, rfl, h0, h1⟩ := h; exact ⟨v0, v1, rfl, h0.mono hle, h1.mono hle⟩
abbrev radomeref01_Div.R (H0 : Hp) (L : Items) (r : radomeref01_Num × radomeref01_Num) : Value → Hp → Items → Prop := fun v H' L' => (∃ p, L' = p ++ L) ∧ H0.le H' ∧ radomeref01_Div.out r H' v
structure radomeref01_Div.Hs where
 l0 : Bool → (List Int) → Bool → (List Int) → (List Int) → (List Int) → Int → Option (radomeref01_Num × radomeref01_Num)
 l1 : Bool → (List Int) → Bool → (List Int) → (List Int) → (List Int) → Int → Option (radomeref01_Num × radomeref01_Num)
noncomputable def radomeref01_Div.b0 (k : Nat) (h : radomeref01_Div.Hs)  (a_0 : Bool) (a_1 : List Int) (b_0 : Bool) (b_1 : List Int) (rest : List Int) (q : List Int) (i : Int) : Option (radomeref01_Num × radomeref01_Num) := if 0 ≤ i then (if (0 : Int) ≤ i ∧ i < (a_1.length : Int) then (if [rd a_1 i].length + rest.length ≤ 17592186044288 then ((radomeref01_trim.f k ([rd a_1 i] ++ rest)).bind fun y21 => h.l1 a_0 a_1 b_0 b_1 y21 q i) else none) else none) else ((radomeref01_trim.f k q).bind fun y30 => (radomeref01_num.f k (!(a_0 == b_0)) y30).bind fun y36 => (radomeref01_num.f k false rest).bind fun y45 => if (a_0 && (decide (0 < (rest.length : Int)))) = true then ((radomeref01_minus.f k b_1 rest).bind fun y56 => (radomeref01_num.f k false y56).bind fun y62 => if b_0 = true then ((radomeref01_Of.f k 1).bind fun y69 => (radomeref01_Add.f k (⟨y36.f_Neg, y36.f_D⟩ : radomeref01_Num) (⟨y69.f_Neg, y69.f_D⟩ : radomeref01_Num)).bind fun y77 => some ((⟨y77.f_Neg, y77.f_D⟩ : radomeref01_Num), (⟨y62.f_Neg, y62.f_D⟩ : radomeref01_Num))) else ((radomeref01_Of.f k 1).bind fun y85 => (radomeref01_Sub.f k (⟨y36.f_Neg, y36.f_D⟩ : radomeref01_Num) (⟨y85.f_Neg, y85.f_D⟩ : radomeref01_Num)).bind fun y93 => some ((⟨y93.f_Neg, y93.f_D⟩ : radomeref01_Num), (⟨y62.f_Neg, y62.f_D⟩ : radomeref01_Num)))) else (some ((⟨y36.f_Neg, y36.f_D⟩ : radomeref01_Num), (⟨y45.f_Neg, y45.f_D⟩ : radomeref01_Num))))
noncomputable def radomeref01_Div.b1 (k : Nat) (h : radomeref01_Div.Hs)  (a_0 : Bool) (a_1 : List Int) (b_0 : Bool) (b_1 : List Int) (rest : List Int) (q : List Int) (i : Int) : Option (radomeref01_Num × radomeref01_Num) := (radomeref01_Less.f k rest b_1).bind fun y103 => if (!y103) = true then ((radomeref01_minus.f k rest b_1).bind fun y108 => if (0 : Int) ≤ i ∧ i < (q.length : Int) then (if (0 : Int) ≤ i ∧ i < (q.length : Int) then (h.l1 a_0 a_1 b_0 b_1 y108 (q.set (i : Int).toNat (w64 ((rd q i) + 1))) i) else none) else none) else (h.l0 a_0 a_1 b_0 b_1 rest q (w64 (i - 1)))
noncomputable def radomeref01_Div.hs : Nat → radomeref01_Div.Hs
 | 0 => ⟨fun _ _ _ _ _ _ _ => none, fun _ _ _ _ _ _ _ => none⟩
 | k + 1 => ⟨fun x0 x1 x2 x3 x4 x5 x6 => radomeref01_Div.b0 k (radomeref01_Div.hs k) x0 x1 x2 x3 x4 x5 x6, fun x0 x1 x2 x3 x4 x5 x6 => radomeref01_Div.b1 k (radomeref01_Div.hs k) x0 x1 x2 x3 x4 x5 x6⟩
noncomputable def radomeref01_Div.f (k : Nat) (a : radomeref01_Num) (b : radomeref01_Num) : Option (radomeref01_Num × radomeref01_Num) := (fun h : radomeref01_Div.Hs => if 0 ≤ (a.f_D.length : Int) ∧ (a.f_D.length : Int) ≤ 35184372088832 then (h.l0 a.f_Neg a.f_D b.f_Neg b.f_D [] (List.replicate ((a.f_D.length : Int) : Int).toNat (0 : Int)) (w64 ((a.f_D.length : Int) - 1))) else none) (radomeref01_Div.hs k)
structure radomeref01_Div.LE (h h' : radomeref01_Div.Hs) : Prop where
 l0 : ∀ y0 y1 y2 y3 y4 y5 y6, LeO (h.l0 y0 y1 y2 y3 y4 y5 y6) (h'.l0 y0 y1 y2 y3 y4 y5 y6)
 l1 : ∀ y0 y1 y2 y3 y4 y5 y6, LeO (h.l1 y0 y1 y2 y3 y4 y5 y6) (h'.l1 y0 y1 y2 y3 y4 y5 y6)
theorem radomeref01_Div.b0_mono {k : Nat} {h h' : radomeref01_Div.Hs} (hl : radomeref01_Div.LE h h') : ∀ y0 y1 y2 y3 y4 y5 y6, LeO (radomeref01_Div.b0 k h y0 y1 y2 y3 y4 y5 y6) (radomeref01_Div.b0 (k + 1) h' y0 y1 y2 y3 y4 y5 y6) := fun _ _ _ _ _ _ _ => (LeO.ite (LeO.ite (LeO.ite (LeO.bind (radomeref01_trim.mono k _) fun _ => hl.l1 _ _ _ _ _ _ _) (LeO.refl _)) (LeO.refl _)) (LeO.bind (radomeref01_trim.mono k _) fun _ => LeO.bind (radomeref01_num.mono k _ _) fun _ => LeO.bind (radomeref01_num.mono k _ _) fun _ => LeO.ite (LeO.bind (radomeref01_minus.mono k _ _) fun _ => LeO.bind (radomeref01_num.mono k _ _) fun _ => LeO.ite (LeO.bind (radomeref01_Of.mono k _) fun _ => LeO.bind (radomeref01_Add.mono k _ _) fun _ => LeO.refl _) (LeO.bind (radomeref01_Of.mono k _) fun _ => LeO.bind (radomeref01_Sub.mono k _ _) fun _ => LeO.refl _)) (LeO.refl _)))
theorem radomeref01_Div.b1_mono {k : Nat} {h h' : radomeref01_Div.Hs} (hl : radomeref01_Div.LE h h') : ∀ y0 y1 y2 y3 y4 y5 y6, LeO (radomeref01_Div.b1 k h y0 y1 y2 y3 y4 y5 y6) (radomeref01_Div.b1 (k + 1) h' y0 y1 y2 y3 y4 y5 y6) := fun _ _ _ _ _ _ _ => (LeO.bind (radomeref01_Less.mono k _ _) fun _ => LeO.ite (LeO.bind (radomeref01_minus.mono k _ _) fun _ => LeO.ite (LeO.ite (hl.l1 _ _ _ _ _ _ _) (LeO.refl _)) (LeO.refl _)) (hl.l0 _ _ _ _ _ _ _))
theorem radomeref01_Div.hs_mono : ∀ k, radomeref01_Div.LE (radomeref01_Div.hs k) (radomeref01_Div.hs (k + 1))
 | 0 => ⟨fun _ _ _ _ _ _ _ => LeO.none _, fun _ _ _ _ _ _ _ => LeO.none _⟩
 | k + 1 => ⟨radomeref01_Div.b0_mono (k := k) (radomeref01_Div.hs_mono k), radomeref01_Div.b1_mono (k := k) (radomeref01_Div.hs_mono k)⟩
theorem radomeref01_Div.mono : ∀ k y0 y1, LeO (radomeref01_Div.f k y0 y1) (radomeref01_Div.f (k + 1) y0 y1) := fun k _ _ => have hl := radomeref01_Div.hs_mono k; by unfold radomeref01_Div.f; exact (LeO.ite (hl.l0 _ _ _ _ _ _ _) (LeO.refl _))
noncomputable def radomeref01_Div.Kl0 : List Item := .code (lopB (blkB (seqR (seqL (seqR (seqR (seqR radomeref01_Div.C))))))) :: .inLoop (lopB (blkB (seqR (seqL (seqR (seqR (seqR radomeref01_Div.C))))))) :: .inBlock 0 :: .code (seqR (seqR (seqR (seqR radomeref01_Div.C)))) :: []
noncomputable def radomeref01_Div.Kl1 : List Item := .code (lopB (blkB (seqR (blkB (seqL (seqR (lopB (blkB (seqR (seqL (seqR (seqR (seqR radomeref01_Div.C))))))))))))) :: .inLoop (lopB (blkB (seqR (blkB (seqL (seqR (lopB (blkB (seqR (seqL (seqR (seqR (seqR radomeref01_Div.C))))))))))))) :: .inBlock 2 :: .inBlock 1 :: .code (seqR (seqR (lopB (blkB (seqR (seqL (seqR (seqR (seqR radomeref01_Div.C))))))))) :: .inLoop (lopB (blkB (seqR (seqL (seqR (seqR (seqR radomeref01_Div.C))))))) :: .inBlock 0 :: .code (seqR (seqR (seqR (seqR radomeref01_Div.C)))) :: []
structure radomeref01_Div.OK (h : radomeref01_Div.Hs) : Prop where
 l0 : ∀ {H0 H : Hp} {L : Items} {r : radomeref01_Num × radomeref01_Num} {jk_ : Nat → Value} {a_0 : Bool} {a_1 : List Int} {b_0 : Bool} {b_1 : List Int} {rest : List Int} {q : List Int} {i : Int} {v_a_1 : Value} {v_b_1 : Value} {v_rest : Value} {v_q : Value} {i_q : Item'} {b_a : Nat} {b_b : Nat} {b_t4 : Nat} {b_t5 : Nat} (_ : H0.le H) (_he : h.l0 a_0 a_1 b_0 b_1 rest q i = some r) (_h_a_1 : Ro (Kd.int .i64) H v_a_1 a_1) (_h_b_1 : Ro (Kd.int .i64) H v_b_1 b_1) (_h_rest : Ro (Kd.int .i64) H v_rest rest) (_h_q : Sl (Kd.int .i64) H 3 i_q v_q q), Wp Tryd.prog 25 79 radomeref01_Div.Kl0 (upd (upd (upd (upd (upd (upd (upd jk_ 2 (.pointer (some ⟨b_a, 0, none⟩))) 3 (.pointer (some ⟨b_b, 0, none⟩))) 4 (.pointer (some ⟨b_t4, 0, none⟩))) 5 (.pointer (some ⟨b_t5, 0, none⟩))) 6 (v_rest)) 7 (v_q)) 8 (.int .i64 i)) H (i_q :: some (b_t5, .cells ⟨[.bool false, .slice none 0 0]⟩ 26 (0, 0)) :: some (b_t4, .cells ⟨[.bool false, .slice none 0 0]⟩ 26 (0, 0)) :: some (b_b, .cells ⟨[.bool b_0, v_b_1]⟩ 26 (0, 0)) :: some (b_a, .cells ⟨[.bool a_0, v_a_1]⟩ 26 (0, 0)) :: L) (radomeref01_Div.R H0 L r)
 l1 : ∀ {H0 H : Hp} {L : Items} {r : radomeref01_Num × radomeref01_Num} {jk_ : Nat → Value} {a_0 : Bool} {a_1 : List Int} {b_0 : Bool} {b_1 : List Int} {rest : List Int} {q : List Int} {i : Int} {v_a_1 : Value} {v_b_1 : Value} {v_rest : Value} {v_q : Value} {i_q : Item'} {b_a : Nat} {b_b : Nat} {b_t4 : Nat} {b_t5 : Nat} (_ : H0.le H) (_he : h.l1 a_0 a_1 b_0 b_1 rest q i = some r) (_h_a_1 : Ro (Kd.int .i64) H v_a_1 a_1) (_h_b_1 : Ro (Kd.int .i64) H v_b_1 b_1) (_h_rest : Ro (Kd.int .i64) H v_rest rest) (_h_q : Sl (Kd.int .i64) H 3 i_q v_q q), Wp Tryd.prog 25 79 radomeref01_Div.Kl1 (upd (upd (upd (upd (upd (upd (upd jk_ 2 (.pointer (some ⟨b_a, 0, none⟩))) 3 (.pointer (some ⟨b_b, 0, none⟩))) 4 (.pointer (some ⟨b_t4, 0, none⟩))) 5 (.pointer (some ⟨b_t5, 0, none⟩))) 6 (v_rest)) 7 (v_q)) 8 (.int .i64 i)) H (i_q :: some (b_t5, .cells ⟨[.bool false, .slice none 0 0]⟩ 26 (0, 0)) :: some (b_t4, .cells ⟨[.bool false, .slice none 0 0]⟩ 26 (0, 0)) :: some (b_b, .cells ⟨[.bool b_0, v_b_1]⟩ 26 (0, 0)) :: some (b_a, .cells ⟨[.bool a_0, v_a_1]⟩ 26 (0, 0)) :: L) (radomeref01_Div.R H0 L r)
set_option maxRecDepth 100000 in
set_option maxHeartbeats 2000000 in
theorem radomeref01_Div.b0_ok {k : Nat} {h : radomeref01_Div.Hs} (hh : radomeref01_Div.OK h) {H0 H : Hp} {L : Items} {r : radomeref01_Num × radomeref01_Num} {jk_ : Nat → Value} {a_0 : Bool} {a_1 : List Int} {b_0 : Bool} {b_1 : List Int} {rest : List Int} {q : List Int} {i : Int} {v_a_1 : Value} {v_b_1 : Value} {v_rest : Value} {v_q : Value} {i_q : Item'} {b_a : Nat} {b_b : Nat} {b_t4 : Nat} {b_t5 : Nat} (hle : H0.le H) (he : radomeref01_Div.b0 k h a_0 a_1 b_0 b_1 rest q i = some r) (h_a_1 : Ro (Kd.int .i64) H v_a_1 a_1) (h_b_1 : Ro (Kd.int .i64) H v_b_1 b_1) (h_rest : Ro (Kd.int .i64) H v_rest rest) (h_q : Sl (Kd.int .i64) H 3 i_q v_q q) : Wp Tryd.prog 25 79 radomeref01_Div.Kl0 (upd (upd (upd (upd (upd (upd (upd jk_ 2 (.pointer (some ⟨b_a, 0, none⟩))) 3 (.pointer (some ⟨b_b, 0, none⟩))) 4 (.pointer (some ⟨b_t4, 0, none⟩))) 5 (.pointer (some ⟨b_t5, 0, none⟩))) 6 (v_rest)) 7 (v_q)) 8 (.int .i64 i)) H (i_q :: some (b_t5, .cells ⟨[.bool false, .slice none 0 0]⟩ 26 (0, 0)) :: some (b_t4, .cells ⟨[.bool false, .slice none 0 0]⟩ 26 (0, 0)) :: some (b_b, .cells ⟨[.bool b_0, v_b_1]⟩ 26 (0, 0)) :: some (b_a, .cells ⟨[.bool a_0, v_a_1]⟩ 26 (0, 0)) :: L) (radomeref01_Div.R H0 L r) := by
 unfold radomeref01_Div.b0 at he
 unfold radomeref01_Div.Kl0
 refine w_seq ?_
 refine w_seq ?_
 refine w_region rfl ?_
 refine w_d rfl (d_move (v := .int .i64 i) rfl) ?_
 refine w_d rfl (d_geq rfl rfl) ?_
 refine w_done ?_
 rcases its he with ⟨c9, he⟩ | ⟨c9, he⟩
 ·
  refine w_then rfl (decide_eq_true c9) ?_
  refine w_skip ?_
  refine w_seq ?_
  refine w_block ?_
  refine w_seq ?_
  refine w_region rfl ?_
  refine w_d rfl (d_fld (o' := 1) Tryd.underlying26 rfl sz24 rfl rfl rfl) ?_
  refine w_d rfl (d_loado (v := v_a_1) ty24 rfl (.there (.there (.there (.there .here)))) rfl rfl rfl rfl) ?_
  refine w_d rfl (d_move (v := .int .i64 i) rfl) ?_
  obtain ⟨c10, he⟩ := rq he
  refine w_d rfl (d_index (sz := 1) Tryd.underlying24 sz3 rfl h_a_1.src rfl c10) ?_
  refine w_d rfl (d_ldint ty3 rfl h_a_1.src c10) ?_
  refine w_a rfl (o_buildSlice' (kd := (Kd.int .i64)) (css := [[.int .i64 (rd a_1 i)]]) (xs := [rd a_1 i]) (parts := [(0, .int .i64 (rd a_1 i))]) Tryd.underlying24 ti3 rfl ⟨_, _, rfl, rfl, rfl⟩ ⟨rfl, trivial⟩ rfl (by decide)) ?_
  rintro v11 _ _ ⟨i12, rfl, rfl, h13⟩
  refine w_d rfl (d_move (v := v_rest) rfl) ?_
  obtain ⟨c14, he⟩ := rq he
  refine w_a rfl (o_append' (kd := (Kd.int .i64)) (F := fun z_ => z_ :: i_q :: some (b_t5, .cells ⟨[.bool false, .slice none 0 0]⟩ 26 (0, 0)) :: some (b_t4, .cells ⟨[.bool false, .slice none 0 0]⟩ 26 (0, 0)) :: some (b_b, .cells ⟨[.bool b_0, v_b_1]⟩ 26 (0, 0)) :: some (b_a, .cells ⟨[.bool a_0, v_a_1]⟩ 26 (0, 0)) :: L) Tryd.underlying24 Tryd.underlying24 ti3 rfl (by first | omega | (simp only [List.nil_append, List.length_cons, List.length_nil]; omega)) rfl rfl h13 h_rest.src (fun _ => .here)) ?_
  rintro v15 _ _ ⟨i16, rfl, rfl, h17⟩
  refine w_freeze h17 .here ?_
  intro H18 e19 h20
  obtain ⟨y21, hy22, he⟩ := Option.bind_eq_some_iff.1 he
  refine w_a rfl (o_call co55 (vs := [v15]) rfl (radomeref01_trim.calls k hy22 h20)) ?_
  rintro v25 H23 _ ⟨rfl, e24, h26⟩
  refine w_d rfl (d_assign (v := v25) rfl) ?_
  refine w_done ?_
  refine w_block ?_
  refine w_loop ?_
  refine w_del .here ?_
  refine w_sl 2 (.pointer (some ⟨b_a, 0, none⟩)) rfl ?_
  refine w_sl 3 (.pointer (some ⟨b_b, 0, none⟩)) rfl ?_
  refine w_sl 4 (.pointer (some ⟨b_t4, 0, none⟩)) rfl ?_
  refine w_sl 5 (.pointer (some ⟨b_t5, 0, none⟩)) rfl ?_
  refine w_sl 6 (v25) rfl ?_
  refine w_sl 7 (v_q) rfl ?_
  refine w_sl 8 (.int .i64 i) rfl ?_
  exact hh.l1 (hle.trans (e19.trans e24)) he (h_a_1.mono (e19.trans e24)) (h_b_1.mono (e19.trans e24)) h26 (h_q.mono (e19.trans e24))
 ·
  refine w_else rfl (decide_eq_false c9) ?_
  refine w_exit rfl ?_
  refine w_seq ?_
  refine w_freeze h_q .here ?_
  intro H27 e28 h29
  obtain ⟨y30, hy31, he⟩ := Option.bind_eq_some_iff.1 he
  obtain ⟨y36, hy37, he⟩ := Option.bind_eq_some_iff.1 he
  refine w_none (?_)
  refine w_drawn (p := 9) (tl := [9]) [[], [(0, some 47)], [], [(2, some 49)], [(1, some 48), (3, some 50)], [], [(5, some 52)], [(4, some 51), (6, some 53)], []] [some 47, some 48, some 49, some 50, some 51, some 52, some 53, some 54, some 9] (fctF (.is (.pointer (some ⟨b_a, 0, none⟩)) :: .is (.bool a_0) :: .is (.pointer (some ⟨b_b, 0, none⟩)) :: .is (.bool b_0) :: .is (.bool (!(a_0 == b_0))) :: .is (v_q) :: .ro (Kd.int .i64) (y30) :: .of (radomeref01_num.out y36) (radomeref01_num.out_mono _) :: .box 26 [.bool false, .slice none 0 0] :: [])) (fun m_ => m_ 8 :: none :: some (b_t5, .cells ⟨[.bool false, .slice none 0 0]⟩ 26 (0, 0)) :: some (b_t4, .cells ⟨[.bool false, .slice none 0 0]⟩ 26 (0, 0)) :: some (b_b, .cells ⟨[.bool b_0, v_b_1]⟩ 26 (0, 0)) :: some (b_a, .cells ⟨[.bool a_0, v_a_1]⟩ 26 (0, 0)) :: L) (fun _ => none) mixed (by kernel_rfl) (by kernel_rfl) rfl (fct_mono (by kernel_rfl)) ⟨(by intro H' m_ hH hm_ hu_; refine depK_nil ?_; exact s_d (m_ 0) rfl (d_fld (o' := 0) Tryd.underlying26 rfl sz4 rfl rfl rfl) (by exact rfl) rfl), (by intro H' m_ hH hm_ hu_; rintro _ rfl; refine depK_nil ?_; exact s_d (m_ 1) rfl (d_loado (v := .bool a_0) ty4 rfl (.there (.there (.there (.there (.there .here))))) rfl rfl rfl rfl) (by exact rfl) rfl), (by intro H' m_ hH hm_ hu_; refine depK_nil ?_; exact s_d (m_ 2) rfl (d_fld (o' := 0) Tryd.underlying26 rfl sz4 rfl rfl rfl) (by exact rfl) rfl), (by intro H' m_ hH hm_ hu_; rintro _ rfl; refine depK_nil ?_; exact s_d (m_ 3) rfl (d_loado (v := .bool b_0) ty4 rfl (.there (.there (.there (.there .here)))) rfl rfl rfl rfl) (by exact rfl) rfl), (by intro H' m_ hH hm_ hu_; rintro _ rfl _ rfl; refine depK_nil ?_; exact s_d (m_ 4) rfl (d_neb (a := a_0) (b := b_0) Tryd.underlying4 rfl rfl) (by exact rfl) rfl), (by intro H' m_ hH hm_ hu_; refine depK_nil ?_; exact s_d (m_ 5) rfl (d_move (v := v_q) rfl) (by exact rfl) rfl), (by intro H' m_ hH hm_ hu_; rintro _ rfl; refine depK_nil ?_; exact s_k (m_ 6) rfl (o_call co55 (vs := [v_q]) rfl (radomeref01_trim.calls k hy31 (h29.mono hH))) rfl (by rintro v_ H_ _ ⟨rfl, e_, h_⟩; exact ⟨rfl, e_, h_⟩)), (by intro H' m_ hH hm_ hu_; rintro _ rfl v34 (h35 : Ro (Kd.int .i64) H' v34 y30); refine depK_nil ?_; exact s_k (m_ 7) rfl (o_call co51 (vs := [.bool (!(a_0 == b_0)), v34]) rfl (radomeref01_num.calls k hy37 h35)) rfl (by rintro v_ H_ _ ⟨rfl, e_, h_⟩; exact ⟨rfl, e_, h_⟩)), (by intro H' m_ hH hm_ hu_; refine depK_nil ?_; exact s_box hm_ rfl rfl (o_alloc zr26 rfl) rfl (fun _ => .here) (by exact fun b_ => ⟨b_, rfl, rfl⟩)), trivial⟩ ?_
  intro H43 e44
  rintro _ _ rfl _ _ rfl _ _ rfl _ _ rfl _ _ rfl _ _ rfl v34 _ (h35 : Ro (Kd.int .i64) H43 v34 y30) _ _ ⟨v40, rfl, h41⟩ _ _ ⟨b42, rfl, rfl⟩
  refine w_a0 rfl (o_store (v := .agg ⟨[.bool y36.f_Neg, v40]⟩) sz26 rfl rfl rfl rfl (one_cons rfl (one_cons (h41.one) one_nil)) .here (.here (.here .done))) ?_
  rintro _ _ _ ⟨rfl, rfl, rfl⟩
  refine w_done ?_
  refine w_seq ?_
  refine w_region rfl ?_
  refine w_d rfl (d_move (v := v_rest) rfl) ?_
  obtain ⟨y45, hy46, he⟩ := Option.bind_eq_some_iff.1 he
  refine w_a rfl (o_call co51 (vs := [.bool false, v_rest]) rfl (radomeref01_num.calls k hy46 (h_rest.mono (e28.trans e44)))) ?_
  rintro _ H47 _ ⟨rfl, e48, ⟨v49, rfl, h50⟩⟩
  refine w_a rfl (o_alloc zr26 rfl) ?_
  rintro _ _ _ ⟨b51, rfl, rfl, rfl⟩
  refine w_a0 rfl (o_store (v := .agg ⟨[.bool y45.f_Neg, v49]⟩) sz26 rfl rfl rfl rfl (one_cons rfl (one_cons (h50.one) one_nil)) .here (.here (.here .done))) ?_
  rintro _ _ _ ⟨rfl, rfl, rfl⟩
  refine w_done ?_
  refine w_seq ?_
  refine w_seq ?_
  refine w_region rfl ?_
  refine w_d rfl (d_fld (o' := 0) Tryd.underlying26 rfl sz4 rfl rfl rfl) ?_
  refine w_d rfl (d_loado (v := .bool a_0) ty4 rfl (.there (.there (.there (.there (.there (.there .here)))))) rfl rfl rfl rfl) ?_
  refine w_d rfl (d_move (v := .bool a_0) rfl) ?_
  refine w_g (g := a_0) rfl rfl rfl wn_t (fun g52 => d_move (v := v_rest) rfl) ?_
  refine w_g (g := a_0) rfl rfl rfl wn_t (fun g53 => d_len Tryd.underlying24 (cvt g53) (h_rest.mono ((e28.trans e44).trans e48)).src) ?_
  refine w_g (g := a_0) rfl rfl rfl wn_t (fun g54 => d_gtr (cvt g54) rfl) ?_
  refine w_d rfl (d_and' (b := a_0) (p := (decide (0 < (rest.length : Int)))) rfl rfl rfl) ?_
  refine w_done ?_
  rcases its he with ⟨c55, he⟩ | ⟨c55, he⟩
  ·
   refine w_then rfl c55 ?_
   refine w_seq ?_
   refine w_region rfl ?_
   refine w_d rfl (d_fld (o' := 1) Tryd.underlying26 rfl sz24 rfl rfl rfl) ?_
   refine w_d rfl (d_loado (v := v_b_1) ty24 rfl (.there (.there (.there (.there (.there .here))))) rfl rfl rfl rfl) ?_
   refine w_d rfl (d_move (v := v_rest) rfl) ?_
   obtain ⟨y56, hy57, he⟩ := Option.bind_eq_some_iff.1 he
   refine w_a rfl (o_call co54 (vs := [v_b_1, v_rest]) rfl (radomeref01_minus.calls k hy57 ((h_b_1.mono ((e28.trans e44).trans e48)).src) ((h_rest.mono ((e28.trans e44).trans e48)).src))) ?_
   rintro v60 H58 _ ⟨rfl, e59, h61⟩
   obtain ⟨y62, hy63, he⟩ := Option.bind_eq_some_iff.1 he
   refine w_a rfl (o_call co51 (vs := [.bool false, v60]) rfl (radomeref01_num.calls k hy63 h61)) ?_
   rintro _ H64 _ ⟨rfl, e65, ⟨v66, rfl, h67⟩⟩
   refine w_a0 rfl (o_store (v := .agg ⟨[.bool y62.f_Neg, v66]⟩) sz26 rfl rfl rfl rfl (one_cons rfl (one_cons (h67.one) one_nil)) .here (.here (.here .done))) ?_
   rintro _ _ _ ⟨rfl, rfl, rfl⟩
   refine w_done ?_
   refine w_seq ?_
   refine w_region rfl ?_
   refine w_d rfl (d_fld (o' := 0) Tryd.underlying26 rfl sz4 rfl rfl rfl) ?_
   refine w_d rfl (d_loado (v := .bool b_0) ty4 rfl (.there (.there (.there (.there (.there .here))))) rfl rfl rfl rfl) ?_
   refine w_done ?_
   rcases its he with ⟨c68, he⟩ | ⟨c68, he⟩
   ·
    refine w_then rfl c68 ?_
    obtain ⟨y69, hy70, he⟩ := Option.bind_eq_some_iff.1 he
    refine w_drawn (p := 2) (tl := [2, 3]) [[], []] [some 71, some 72] (fctF (.is (.agg ⟨[.bool y36.f_Neg, v40]⟩) :: .of (radomeref01_Of.out y69) (radomeref01_Of.out_mono _) :: [])) (fun m_ => some (b51, .cells ⟨[.bool y62.f_Neg, v66]⟩ 26 (0, 0)) :: some (b42, .cells ⟨[.bool y36.f_Neg, v40]⟩ 26 (0, 0)) :: none :: some (b_t5, .cells ⟨[.bool false, .slice none 0 0]⟩ 26 (0, 0)) :: some (b_t4, .cells ⟨[.bool false, .slice none 0 0]⟩ 26 (0, 0)) :: some (b_b, .cells ⟨[.bool b_0, v_b_1]⟩ 26 (0, 0)) :: some (b_a, .cells ⟨[.bool a_0, v_a_1]⟩ 26 (0, 0)) :: L) (fun _ => none) mixed (by kernel_rfl) (by kernel_rfl) rfl (fct_mono (by kernel_rfl)) ⟨(by intro H' m_ hH hm_ hu_; refine depK_nil ?_; exact s_d (m_ 0) rfl (d_loado (v := .agg ⟨[.bool y36.f_Neg, v40]⟩) ty26 rfl (.there .here) rfl rfl rfl rfl) (by exact rfl) rfl), (by intro H' m_ hH hm_ hu_; refine depK_nil ?_; exact s_k (m_ 1) rfl (o_call co42 (vs := [.int .i64 1]) rfl (radomeref01_Of.calls k hy70)) rfl (by rintro v_ H_ _ ⟨rfl, e_, h_⟩; exact ⟨rfl, e_, h_⟩)), trivial⟩ ?_
    intro H75 e76
    rintro _ _ rfl _ _ ⟨v73, rfl, h74⟩
    obtain ⟨y77, hy78, he⟩ := Option.bind_eq_some_iff.1 he
    refine w_a rfl (o_call co13 (vs := [.agg ⟨[.bool y36.f_Neg, v40]⟩, .agg ⟨[.bool y69.f_Neg, v73]⟩]) rfl (radomeref01_Add.calls k (a := (⟨y36.f_Neg, y36.f_D⟩ : radomeref01_Num)) (b := (⟨y69.f_Neg, y69.f_D⟩ : radomeref01_Num)) hy78 (h41.mono (((e48.trans e59).trans e65).trans e76)) h74)) ?_
    rintro _ H79 _ ⟨rfl, e80, ⟨v81, rfl, h82⟩⟩
    refine w_a0 rfl (o_store (v := .agg ⟨[.bool y77.f_Neg, v81]⟩) sz26 rfl rfl rfl rfl (one_cons rfl (one_cons (h82.one) one_nil)) (.there .here) (.here (.here .done))) ?_
    rintro _ _ _ ⟨rfl, rfl, rfl⟩
    refine w_done ?_
    refine w_seq ?_
    refine w_drawn (p := 3) (tl := [3]) [[], [], [(0, some 77)]] [some 77, some 78, none] (fctF (.is (.agg ⟨[.bool y77.f_Neg, v81]⟩) :: .is (.agg ⟨[.bool y62.f_Neg, v66]⟩) :: .itm (fun H it => it = some (b_t4, .cells ⟨[.bool y77.f_Neg, v81]⟩ 26 (0, 0))) (by rintro _ _ _ hle rfl; exact rfl) :: [])) (fun m_ => some (b51, .cells ⟨[.bool y62.f_Neg, v66]⟩ 26 (0, 0)) :: some (b42, .cells ⟨[.bool y77.f_Neg, v81]⟩ 26 (0, 0)) :: none :: some (b_t5, .cells ⟨[.bool false, .slice none 0 0]⟩ 26 (0, 0)) :: m_ 2 :: some (b_b, .cells ⟨[.bool b_0, v_b_1]⟩ 26 (0, 0)) :: some (b_a, .cells ⟨[.bool a_0, v_a_1]⟩ 26 (0, 0)) :: L) (fun i_ => if i_ = 2 then some (b_t4, .cells ⟨[.bool false, .slice none 0 0]⟩ 26 (0, 0)) else none) mixed (by kernel_rfl) (by kernel_rfl) rfl (fct_mono (by kernel_rfl)) ⟨(by intro H' m_ hH hm_ hu_; refine depK_nil ?_; exact s_d (m_ 0) rfl (d_loado (v := .agg ⟨[.bool y77.f_Neg, v81]⟩) ty26 rfl (.there .here) rfl rfl rfl rfl) (by exact rfl) rfl), (by intro H' m_ hH hm_ hu_; refine depK_nil ?_; exact s_d (m_ 1) rfl (d_loado (v := .agg ⟨[.bool y62.f_Neg, v66]⟩) ty26 rfl .here rfl rfl rfl rfl) (by exact rfl) rfl), (by intro H' m_ hH hm_ hu_; rintro _ rfl; refine depK_nil ?_; exact s_store (some (b_t4, .cells ⟨[.bool y77.f_Neg, v81]⟩ 26 (0, 0))) hm_ rfl (o_store (v := .agg ⟨[.bool y77.f_Neg, v81]⟩) sz26 rfl rfl rfl rfl (one_cons rfl (one_cons (h82.one) one_nil)) (.there (.there (.there (.there .here)))) (.here (.here .done))) rfl (by exact ⟨rfl, rfl⟩)), trivial⟩ ?_
    intro H83 e84
    rintro _ _ rfl _ _ rfl _ _ ⟨rfl, rfl⟩
    refine w_it (L' := some (b51, .cells ⟨[.bool y62.f_Neg, v66]⟩ 26 (0, 0)) :: some (b42, .cells ⟨[.bool y77.f_Neg, v81]⟩ 26 (0, 0)) :: none :: some (b_t5, .cells ⟨[.bool false, .slice none 0 0]⟩ 26 (0, 0)) :: some (b_t4, .cells ⟨[.bool y77.f_Neg, v81]⟩ 26 (0, 0)) :: some (b_b, .cells ⟨[.bool b_0, v_b_1]⟩ 26 (0, 0)) :: some (b_a, .cells ⟨[.bool a_0, v_a_1]⟩ 26 (0, 0)) :: L) rfl ?_
    refine w_a0 rfl (o_store (v := .agg ⟨[.bool y62.f_Neg, v66]⟩) sz26 rfl rfl rfl rfl (one_cons rfl (one_cons (h67.one) one_nil)) (.there (.there (.there .here))) (.here (.here .done))) ?_
    rintro _ _ _ ⟨rfl, rfl, rfl⟩
    refine w_done ?_
    obtain rfl := Option.some.inj he
    refine w_return fn_25 rs_25 (.box (v := .agg ⟨[.bool y77.f_Neg, v81]⟩) rfl ty26 rfl rfl (.there (.there (.there (.there .here)))) rfl (.box (v := .agg ⟨[.bool y62.f_Neg, v66]⟩) rfl ty26 rfl rfl (.there (.there (.there .here))) rfl .nil)) ?_
    exact ⟨⟨[_, _, _, _, _, _, _], rfl⟩, hle.trans (((((((e28.trans e44).trans e48).trans e59).trans e65).trans e76).trans e80).trans e84), ⟨v81, v66, rfl, (h82.mono e84), (h67.mono ((e76.trans e80).trans e84))⟩⟩
   ·
    refine w_else rfl (Bool.eq_false_iff.2 c68) ?_
    obtain ⟨y85, hy86, he⟩ := Option.bind_eq_some_iff.1 he
    refine w_drawn (p := 2) (tl := [2, 3]) [[], []] [some 74, some 75] (fctF (.is (.agg ⟨[.bool y36.f_Neg, v40]⟩) :: .of (radomeref01_Of.out y85) (radomeref01_Of.out_mono _) :: [])) (fun m_ => some (b51, .cells ⟨[.bool y62.f_Neg, v66]⟩ 26 (0, 0)) :: some (b42, .cells ⟨[.bool y36.f_Neg, v40]⟩ 26 (0, 0)) :: none :: some (b_t5, .cells ⟨[.bool false, .slice none 0 0]⟩ 26 (0, 0)) :: some (b_t4, .cells ⟨[.bool false, .slice none 0 0]⟩ 26 (0, 0)) :: some (b_b, .cells ⟨[.bool b_0, v_b_1]⟩ 26 (0, 0)) :: some (b_a, .cells ⟨[.bool a_0, v_a_1]⟩ 26 (0, 0)) :: L) (fun _ => none) mixed (by kernel_rfl) (by kernel_rfl) rfl (fct_mono (by kernel_rfl)) ⟨(by intro H' m_ hH hm_ hu_; refine depK_nil ?_; exact s_d (m_ 0) rfl (d_loado (v := .agg ⟨[.bool y36.f_Neg, v40]⟩) ty26 rfl (.there .here) rfl rfl rfl rfl) (by exact rfl) rfl), (by intro H' m_ hH hm_ hu_; refine depK_nil ?_; exact s_k (m_ 1) rfl (o_call co42 (vs := [.int .i64 1]) rfl (radomeref01_Of.calls k hy86)) rfl (by rintro v_ H_ _ ⟨rfl, e_, h_⟩; exact ⟨rfl, e_, h_⟩)), trivial⟩ ?_
    intro H91 e92
    rintro _ _ rfl _ _ ⟨v89, rfl, h90⟩
    obtain ⟨y93, hy94, he⟩ := Option.bind_eq_some_iff.1 he
    refine w_a rfl (o_call co14 (vs := [.agg ⟨[.bool y36.f_Neg, v40]⟩, .agg ⟨[.bool y85.f_Neg, v89]⟩]) rfl (radomeref01_Sub.calls k (a := (⟨y36.f_Neg, y36.f_D⟩ : radomeref01_Num)) (b := (⟨y85.f_Neg, y85.f_D⟩ : radomeref01_Num)) hy94 (h41.mono (((e48.trans e59).trans e65).trans e92)) h90)) ?_
    rintro _ H95 _ ⟨rfl, e96, ⟨v97, rfl, h98⟩⟩
    refine w_a0 rfl (o_store (v := .agg ⟨[.bool y93.f_Neg, v97]⟩) sz26 rfl rfl rfl rfl (one_cons rfl (one_cons (h98.one) one_nil)) (.there .here) (.here (.here .done))) ?_
    rintro _ _ _ ⟨rfl, rfl, rfl⟩
    refine w_done ?_
    refine w_seq ?_
    refine w_drawn (p := 3) (tl := [3]) [[], [], [(0, some 77)]] [some 77, some 78, none] (fctF (.is (.agg ⟨[.bool y93.f_Neg, v97]⟩) :: .is (.agg ⟨[.bool y62.f_Neg, v66]⟩) :: .itm (fun H it => it = some (b_t4, .cells ⟨[.bool y93.f_Neg, v97]⟩ 26 (0, 0))) (by rintro _ _ _ hle rfl; exact rfl) :: [])) (fun m_ => some (b51, .cells ⟨[.bool y62.f_Neg, v66]⟩ 26 (0, 0)) :: some (b42, .cells ⟨[.bool y93.f_Neg, v97]⟩ 26 (0, 0)) :: none :: some (b_t5, .cells ⟨[.bool false, .slice none 0 0]⟩ 26 (0, 0)) :: m_ 2 :: some (b_b, .cells ⟨[.bool b_0, v_b_1]⟩ 26 (0, 0)) :: some (b_a, .cells ⟨[.bool a_0, v_a_1]⟩ 26 (0, 0)) :: L) (fun i_ => if i_ = 2 then some (b_t4, .cells ⟨[.bool false, .slice none 0 0]⟩ 26 (0, 0)) else none) mixed (by kernel_rfl) (by kernel_rfl) rfl (fct_mono (by kernel_rfl)) ⟨(by intro H' m_ hH hm_ hu_; refine depK_nil ?_; exact s_d (m_ 0) rfl (d_loado (v := .agg ⟨[.bool y93.f_Neg, v97]⟩) ty26 rfl (.there .here) rfl rfl rfl rfl) (by exact rfl) rfl), (by intro H' m_ hH hm_ hu_; refine depK_nil ?_; exact s_d (m_ 1) rfl (d_loado (v := .agg ⟨[.bool y62.f_Neg, v66]⟩) ty26 rfl .here rfl rfl rfl rfl) (by exact rfl) rfl), (by intro H' m_ hH hm_ hu_; rintro _ rfl; refine depK_nil ?_; exact s_store (some (b_t4, .cells ⟨[.bool y93.f_Neg, v97]⟩ 26 (0, 0))) hm_ rfl (o_store (v := .agg ⟨[.bool y93.f_Neg, v97]⟩) sz26 rfl rfl rfl rfl (one_cons rfl (one_cons (h98.one) one_nil)) (.there (.there (.there (.there .here)))) (.here (.here .done))) rfl (by exact ⟨rfl, rfl⟩)), trivial⟩ ?_
    intro H99 e100
    rintro _ _ rfl _ _ rfl _ _ ⟨rfl, rfl⟩
    refine w_it (L' := some (b51, .cells ⟨[.bool y62.f_Neg, v66]⟩ 26 (0, 0)) :: some (b42, .cells ⟨[.bool y93.f_Neg, v97]⟩ 26 (0, 0)) :: none :: some (b_t5, .cells ⟨[.bool false, .slice none 0 0]⟩ 26 (0, 0)) :: some (b_t4, .cells ⟨[.bool y93.f_Neg, v97]⟩ 26 (0, 0)) :: some (b_b, .cells ⟨[.bool b_0, v_b_1]⟩ 26 (0, 0)) :: some (b_a, .cells ⟨[.bool a_0, v_a_1]⟩ 26 (0, 0)) :: L) rfl ?_
    refine w_a0 rfl (o_store (v := .agg ⟨[.bool y62.f_Neg, v66]⟩) sz26 rfl rfl rfl rfl (one_cons rfl (one_cons (h67.one) one_nil)) (.there (.there (.there .here))) (.here (.here .done))) ?_
    rintro _ _ _ ⟨rfl, rfl, rfl⟩
    refine w_done ?_
    obtain rfl := Option.some.inj he
    refine w_return fn_25 rs_25 (.box (v := .agg ⟨[.bool y93.f_Neg, v97]⟩) rfl ty26 rfl rfl (.there (.there (.there (.there .here)))) rfl (.box (v := .agg ⟨[.bool y62.f_Neg, v66]⟩) rfl ty26 rfl rfl (.there (.there (.there .here))) rfl .nil)) ?_
    exact ⟨⟨[_, _, _, _, _, _, _], rfl⟩, hle.trans (((((((e28.trans e44).trans e48).trans e59).trans e65).trans e92).trans e96).trans e100), ⟨v97, v66, rfl, (h98.mono e100), (h67.mono ((e92.trans e96).trans e100))⟩⟩
  ·
   refine w_else rfl (Bool.eq_false_iff.2 c55) ?_
   refine w_skip ?_
   refine w_seq ?_
   refine w_drawn (p := 3) (tl := [3]) [[], [], [(0, some 77)]] [some 77, some 78, none] (fctF (.is (.agg ⟨[.bool y36.f_Neg, v40]⟩) :: .is (.agg ⟨[.bool y45.f_Neg, v49]⟩) :: .itm (fun H it => it = some (b_t4, .cells ⟨[.bool y36.f_Neg, v40]⟩ 26 (0, 0))) (by rintro _ _ _ hle rfl; exact rfl) :: [])) (fun m_ => some (b51, .cells ⟨[.bool y45.f_Neg, v49]⟩ 26 (0, 0)) :: some (b42, .cells ⟨[.bool y36.f_Neg, v40]⟩ 26 (0, 0)) :: none :: some (b_t5, .cells ⟨[.bool false, .slice none 0 0]⟩ 26 (0, 0)) :: m_ 2 :: some (b_b, .cells ⟨[.bool b_0, v_b_1]⟩ 26 (0, 0)) :: some (b_a, .cells ⟨[.bool a_0, v_a_1]⟩ 26 (0, 0)) :: L) (fun i_ => if i_ = 2 then some (b_t4, .cells ⟨[.bool false, .slice none 0 0]⟩ 26 (0, 0)) else none) mixed (by kernel_rfl) (by kernel_rfl) rfl (fct_mono (by kernel_rfl)) ⟨(by intro H' m_ hH hm_ hu_; refine depK_nil ?_; exact s_d (m_ 0) rfl (d_loado (v := .agg ⟨[.bool y36.f_Neg, v40]⟩) ty26 rfl (.there .here) rfl rfl rfl rfl) (by exact rfl) rfl), (by intro H' m_ hH hm_ hu_; refine depK_nil ?_; exact s_d (m_ 1) rfl (d_loado (v := .agg ⟨[.bool y45.f_Neg, v49]⟩) ty26 rfl .here rfl rfl rfl rfl) (by exact rfl) rfl), (by intro H' m_ hH hm_ hu_; rintro _ rfl; refine depK_nil ?_; exact s_store (some (b_t4, .cells ⟨[.bool y36.f_Neg, v40]⟩ 26 (0, 0))) hm_ rfl (o_store (v := .agg ⟨[.bool y36.f_Neg, v40]⟩) sz26 rfl rfl rfl rfl (one_cons rfl (one_cons (h41.one) one_nil)) (.there (.there (.there (.there .here)))) (.here (.here .done))) rfl (by exact ⟨rfl, rfl⟩)), trivial⟩ ?_
   intro H101 e102
   rintro _ _ rfl _ _ rfl _ _ ⟨rfl, rfl⟩
   refine w_it (L' := some (b51, .cells ⟨[.bool y45.f_Neg, v49]⟩ 26 (0, 0)) :: some (b42, .cells ⟨[.bool y36.f_Neg, v40]⟩ 26 (0, 0)) :: none :: some (b_t5, .cells ⟨[.bool false, .slice none 0 0]⟩ 26 (0, 0)) :: some (b_t4, .cells ⟨[.bool y36.f_Neg, v40]⟩ 26 (0, 0)) :: some (b_b, .cells ⟨[.bool b_0, v_b_1]⟩ 26 (0, 0)) :: some (b_a, .cells ⟨[.bool a_0, v_a_1]⟩ 26 (0, 0)) :: L) rfl ?_
   refine w_a0 rfl (o_store (v := .agg ⟨[.bool y45.f_Neg, v49]⟩) sz26 rfl rfl rfl rfl (one_cons rfl (one_cons (h50.one) one_nil)) (.there (.there (.there .here))) (.here (.here .done))) ?_
   rintro _ _ _ ⟨rfl, rfl, rfl⟩
   refine w_done ?_
   obtain rfl := Option.some.inj he
   refine w_return fn_25 rs_25 (.box (v := .agg ⟨[.bool y36.f_Neg, v40]⟩) rfl ty26 rfl rfl (.there (.there (.there (.there .here)))) rfl (.box (v := .agg ⟨[.bool y45.f_Neg, v49]⟩) rfl ty26 rfl rfl (.there (.there (.there .here))) rfl .nil)) ?_
   exact ⟨⟨[_, _, _, _, _, _, _], rfl⟩, hle.trans (((e28.trans e44).trans e48).trans e102), ⟨v40, v49, rfl, (h41.mono (e48.trans e102)), (h50.mono e102)⟩⟩
set_option maxRecDepth 100000 in
set_option maxHeartbeats 2000000 in
theorem radomeref01_Div.b1_ok {k : Nat} {h : radomeref01_Div.Hs} (hh : radomeref01_Div.OK h) {H0 H : Hp} {L : Items} {r : radomeref01_Num × radomeref01_Num} {jk_ : Nat → Value} {a_0 : Bool} {a_1 : List Int} {b_0 : Bool} {b_1 : List Int} {rest : List Int} {q : List Int} {i : Int} {v_a_1 : Value} {v_b_1 : Value} {v_rest : Value} {v_q : Value} {i_q : Item'} {b_a : Nat} {b_b : Nat} {b_t4 : Nat} {b_t5 : Nat} (hle : H0.le H) (he : radomeref01_Div.b1 k h a_0 a_1 b_0 b_1 rest q i = some r) (h_a_1 : Ro (Kd.int .i64) H v_a_1 a_1) (h_b_1 : Ro (Kd.int .i64) H v_b_1 b_1) (h_rest : Ro (Kd.int .i64) H v_rest rest) (h_q : Sl (Kd.int .i64) H 3 i_q v_q q) : Wp Tryd.prog 25 79 radomeref01_Div.Kl1 (upd (upd (upd (upd (upd (upd (upd jk_ 2 (.pointer (some ⟨b_a, 0, none⟩))) 3 (.pointer (some ⟨b_b, 0, none⟩))) 4 (.pointer (some ⟨b_t4, 0, none⟩))) 5 (.pointer (some ⟨b_t5, 0, none⟩))) 6 (v_rest)) 7 (v_q)) 8 (.int .i64 i)) H (i_q :: some (b_t5, .cells ⟨[.bool false, .slice none 0 0]⟩ 26 (0, 0)) :: some (b_t4, .cells ⟨[.bool false, .slice none 0 0]⟩ 26 (0, 0)) :: some (b_b, .cells ⟨[.bool b_0, v_b_1]⟩ 26 (0, 0)) :: some (b_a, .cells ⟨[.bool a_0, v_a_1]⟩ 26 (0, 0)) :: L) (radomeref01_Div.R H0 L r) := by
 unfold radomeref01_Div.b1 at he
 unfold radomeref01_Div.Kl1
 refine w_seq ?_
 refine w_seq ?_
 refine w_region rfl ?_
 refine w_d rfl (d_move (v := v_rest) rfl) ?_
 refine w_d rfl (d_fld (o' := 1) Tryd.underlying26 rfl sz24 rfl rfl rfl) ?_
 refine w_d rfl (d_loado (v := v_b_1) ty24 rfl (.there (.there (.there .here))) rfl rfl rfl rfl) ?_
 obtain ⟨y103, hy104, he⟩ := Option.bind_eq_some_iff.1 he
 refine w_d rfl (call_d (o_call co53 (vs := [v_rest, v_b_1]) rfl (radomeref01_Less.calls k hy104 h_rest.src h_b_1.src))) ?_
 refine w_d rfl (d_not (b := y103) rfl) ?_
 refine w_done ?_
 rcases its he with ⟨c107, he⟩ | ⟨c107, he⟩
 ·
  refine w_then rfl c107 ?_
  refine w_skip ?_
  refine w_block ?_
  refine w_seq ?_
  refine w_region rfl ?_
  refine w_d rfl (d_move (v := v_rest) rfl) ?_
  refine w_d rfl (d_fld (o' := 1) Tryd.underlying26 rfl sz24 rfl rfl rfl) ?_
  refine w_d rfl (d_loado (v := v_b_1) ty24 rfl (.there (.there (.there .here))) rfl rfl rfl rfl) ?_
  obtain ⟨y108, hy109, he⟩ := Option.bind_eq_some_iff.1 he
  refine w_a rfl (o_call co54 (vs := [v_rest, v_b_1]) rfl (radomeref01_minus.calls k hy109 h_rest.src h_b_1.src)) ?_
  rintro v112 H110 _ ⟨rfl, e111, h113⟩
  refine w_d rfl (d_assign (v := v112) rfl) ?_
  refine w_done ?_
  refine w_region rfl ?_
  refine w_d rfl (d_move (v := v_q) rfl) ?_
  refine w_d rfl (d_move (v := .int .i64 i) rfl) ?_
  obtain ⟨c114, he⟩ := rq he
  refine w_d rfl (d_indexS (sz := 1) Tryd.underlying24 sz3 rfl (h_q.mono e111).shp rfl c114) ?_
  refine w_d rfl (d_ldint ty3 rfl ((h_q.mono e111).src .here) c114) ?_
  refine w_d rfl (d_add (c := w64 ((rd q i) + 1)) rfl rfl rfl) ?_
  obtain ⟨c115, he⟩ := rq he
  refine w_d rfl (d_indexS (sz := 1) Tryd.underlying24 sz3 rfl (h_q.mono e111).shp rfl c115) ?_
  refine w_a0 rfl (o_storeEl (kd := (Kd.int .i64)) (v := .int .i64 (w64 ((rd q i) + 1))) (F := fun z_ => z_ :: some (b_t5, .cells ⟨[.bool false, .slice none 0 0]⟩ 26 (0, 0)) :: some (b_t4, .cells ⟨[.bool false, .slice none 0 0]⟩ 26 (0, 0)) :: some (b_b, .cells ⟨[.bool b_0, v_b_1]⟩ 26 (0, 0)) :: some (b_a, .cells ⟨[.bool a_0, v_a_1]⟩ 26 (0, 0)) :: L) sz3 rfl rfl rfl rfl (h_q.mono e111) c115 (fun _ => .here)) ?_
  rintro _ _ _ ⟨i116, rfl, rfl, rfl, h117⟩
  refine w_done ?_
  refine w_inBlock ?_
  refine w_inLoop ?_
  refine w_sl 2 (.pointer (some ⟨b_a, 0, none⟩)) rfl ?_
  refine w_sl 3 (.pointer (some ⟨b_b, 0, none⟩)) rfl ?_
  refine w_sl 4 (.pointer (some ⟨b_t4, 0, none⟩)) rfl ?_
  refine w_sl 5 (.pointer (some ⟨b_t5, 0, none⟩)) rfl ?_
  refine w_sl 6 (v112) rfl ?_
  refine w_sl 7 (v_q) rfl ?_
  refine w_sl 8 (.int .i64 i) rfl ?_
  exact hh.l1 (hle.trans e111) he (h_a_1.mono e111) (h_b_1.mono e111) h113 h117
 ·
  refine w_else rfl (Bool.eq_false_iff.2 c107) ?_
  refine w_exit rfl ?_
  refine w_inBlock ?_
  refine w_region rfl ?_
  refine w_d rfl (d_move (v := .int .i64 i) rfl) ?_
  refine w_d rfl (d_sub (c := w64 (i - 1)) rfl rfl rfl) ?_
  refine w_d rfl (d_assign (v := .int .i64 (w64 (i - 1))) rfl) ?_
  refine w_done ?_
  refine w_inLoop ?_
  refine w_sl 2 (.pointer (some ⟨b_a, 0, none⟩)) rfl ?_
  refine w_sl 3 (.pointer (some ⟨b_b, 0, none⟩)) rfl ?_
  refine w_sl 4 (.pointer (some ⟨b_t4, 0, none⟩)) rfl ?_
  refine w_sl 5 (.pointer (some ⟨b_t5, 0, none⟩)) rfl ?_
  refine w_sl 6 (v_rest) rfl ?_
  refine w_sl 7 (v_q) rfl ?_
  refine w_sl 8 (.int .i64 (w64 (i - 1))) rfl ?_
  exact hh.l0 hle he h_a_1 h_b_1 h_rest h_q
theorem radomeref01_Div.ok : ∀ k, radomeref01_Div.OK (radomeref01_Div.hs k)
 | 0 => ⟨(by intros; exact nomatch (show none = some _ from by assumption)), (by intros; exact nomatch (show none = some _ from by assumption))⟩
 | k + 1 => ⟨radomeref01_Div.b0_ok (k := k) (radomeref01_Div.ok k), radomeref01_Div.b1_ok (k := k) (radomeref01_Div.ok k)⟩
set_option maxRecDepth 100000 in
set_option maxHeartbeats 2000000 in
theorem radomeref01_Div.calls (k : Nat) {H : Hp} {L : Items} {a : radomeref01_Num} {b : radomeref01_Num} {v0_a : Value} {v1_b : Value} {r : radomeref01_Num × radomeref01_Num} (he : radomeref01_Div.f k a b = some r) (h0_a : Ro (Kd.int .i64) H v0_a a.f_D) (h1_b : Ro (Kd.int .i64) H v1_b b.f_D) : Ct Tryd.prog 25 ⟨[.agg ⟨[.bool a.f_Neg, v0_a]⟩, .agg ⟨[.bool b.f_Neg, v1_b]⟩]⟩ H L (fun v H' L' => L = L' ∧ H.le H' ∧ radomeref01_Div.out r H' v) := by
 refine ct_out (O := radomeref01_Div.out r) ?_
 have hle : H.le H := .refl _
 have hh := radomeref01_Div.ok k
 unfold radomeref01_Div.f at he
 refine ct_enter (args := [.agg ⟨[.bool a.f_Neg, v0_a]⟩, .agg ⟨[.bool b.f_Neg, v1_b]⟩]) fn_25 rfl nt_25 rfl ?_
 refine w_seq ?_
 refine w_region rfl ?_
 refine w_a rfl (o_box (v := .agg ⟨[.bool a.f_Neg, v0_a]⟩) rfl rfl) ?_
 rintro _ _ _ ⟨b1, rfl, rfl, rfl⟩
 refine w_a rfl (o_box (v := .agg ⟨[.bool b.f_Neg, v1_b]⟩) rfl rfl) ?_
 rintro _ _ _ ⟨b2, rfl, rfl, rfl⟩
 refine w_a rfl (o_alloc zr26 rfl) ?_
 rintro _ _ _ ⟨b3, rfl, rfl, rfl⟩
 refine w_a rfl (o_alloc zr26 rfl) ?_
 rintro _ _ _ ⟨b4, rfl, rfl, rfl⟩
 refine w_done ?_
 refine w_seq ?_
 refine w_region rfl ?_
 refine w_d rfl (d_assign (v := .slice none 0 0) rfl) ?_
 refine w_done ?_
 refine w_seq ?_
 refine w_region rfl ?_
 refine w_d rfl (d_fld (o' := 1) Tryd.underlying26 rfl sz24 rfl rfl rfl) ?_
 refine w_d rfl (d_loado (v := v0_a) ty24 rfl (.there (.there (.there .here))) rfl rfl rfl rfl) ?_
 refine w_d rfl (d_len Tryd.underlying24 rfl h0_a.src) ?_
 obtain ⟨c5, he⟩ := rq he
 refine w_a rfl (o_make' (kd := (Kd.int .i64)) (z0 := 0) Tryd.underlying24 ti3 (zp3 _) rfl rfl (by omega) (by omega) (by omega)) ?_
 rintro v6 _ _ ⟨i7, rfl, rfl, h8⟩
 refine w_d rfl (d_assign (v := v6) rfl) ?_
 refine w_done ?_
 refine w_seq ?_
 refine w_seq ?_
 refine w_region rfl ?_
 refine w_d rfl (d_fld (o' := 1) Tryd.underlying26 rfl sz24 rfl rfl rfl) ?_
 refine w_d rfl (d_loado (v := v0_a) ty24 rfl (.there (.there (.there (.there .here)))) rfl rfl rfl rfl) ?_
 refine w_d rfl (d_len Tryd.underlying24 rfl h0_a.src) ?_
 refine w_d rfl (d_sub (c := w64 ((a.f_D.length : Int) - 1)) rfl rfl rfl) ?_
 refine w_d rfl (d_assign (v := .int .i64 (w64 ((a.f_D.length : Int) - 1))) rfl) ?_
 refine w_done ?_
 refine w_block ?_
 refine w_loop ?_
 refine w_sl 2 (.pointer (some ⟨b1, 0, none⟩)) rfl ?_
 refine w_sl 3 (.pointer (some ⟨b2, 0, none⟩)) rfl ?_
 refine w_sl 4 (.pointer (some ⟨b3, 0, none⟩)) rfl ?_
 refine w_sl 5 (.pointer (some ⟨b4, 0, none⟩)) rfl ?_
 refine w_sl 6 (.slice none 0 0) rfl ?_
 refine w_sl 7 (v6) rfl ?_
 refine w_sl 8 (.int .i64 (w64 ((a.f_D.length : Int) - 1))) rfl ?_
 exact hh.l0 hle he h0_a h1_b (ro_nil _ _) h8
/-! ### radome/radomeref01.Floor -/
noncomputable def radomeref01_Floor.C : Code := (Tryd.f30.body).getD .skip
def radomeref01_Floor.out (r : radomeref01_Num) (H : Hp) (v : Value) : Prop := ∃ v0, v = .agg ⟨[.bool r.f_Neg, v0]⟩ ∧ Ro (Kd.int .i64) H v0 r.f_D
theorem radomeref01_Floor.out_mono (r : radomeref01_Num) {H H' : Hp} {v : Value} (hle : H.le H') (h : radomeref01_Floor.out r H v) : radomeref01_Floor.out r H' v := by
 obtain ⟨v0, rfl, h0⟩ := h; exact ⟨v0, rfl, h0.mono hle⟩
abbrev radomeref01_Floor.R (H0 : Hp) (L : Items) (r : radomeref01_Num) : Value → Hp → Items → Prop := fun v H' L' => (∃ p, L' = p ++ L) ∧ H0.le H' ∧ radomeref01_Floor.out r H' v
noncomputable def radomeref01_Floor.f (k : Nat) (a : radomeref01_Num) (b : radomeref01_Num) : Option radomeref01_Num := (radomeref01_Div.f k (⟨a.f_Neg, a.f_D⟩ : radomeref01_Num) (⟨b.f_Neg, b.f_D⟩ : radomeref01_Num)).bind fun y4 => some ((⟨y4.1.f_Neg, y4.1.f_D⟩ : radomeref01_Num))
theorem radomeref01_Floor.mono : ∀ k y0 y1, LeO (radomeref01_Floor.f k y0 y1) (radomeref01_Floor.f (k + 1) y0 y1) := fun k _ _ => by unfold radomeref01_Floor.f; exact (LeO.bind (radomeref01_Div.mono k _ _) fun _ => LeO.refl _)
set_option maxRecDepth 100000 in
set_option maxHeartbeats 2000000 in
theorem radomeref01_Floor.calls (k : Nat) {H : Hp} {L : Items} {a : radomeref01_Num} {b : radomeref01_Num} {v0_a : Value} {v1_b : Value} {r : radomeref01_Num} (he : radomeref01_Floor.f k a b = some r) (h0_a : Ro (Kd.int .i64) H v0_a a.f_D) (h1_b : Ro (Kd.int .i64) H v1_b b.f_D) : Ct Tryd.prog 30 ⟨[.agg ⟨[.bool a.f_Neg, v0_a]⟩, .agg ⟨[.bool b.f_Neg, v1_b]⟩]⟩ H L (fun v H' L' => L = L' ∧ H.le H' ∧ radomeref01_Floor.out r H' v) := by
 refine ct_out (O := radomeref01_Floor.out r) ?_
 have hle : H.le H := .refl _
 unfold radomeref01_Floor.f at he
 refine ct_enter (args := [.agg ⟨[.bool a.f_Neg, v0_a]⟩, .agg ⟨[.bool b.f_Neg, v1_b]⟩]) fn_30 rfl nt_30 rfl ?_
 refine w_seq ?_
 refine w_region rfl ?_
 refine w_a rfl (o_box (v := .agg ⟨[.bool a.f_Neg, v0_a]⟩) rfl rfl) ?_
 rintro _ _ _ ⟨b1, rfl, rfl, rfl⟩
 refine w_a rfl (o_box (v := .agg ⟨[.bool b.f_Neg, v1_b]⟩) rfl rfl) ?_
 rintro _ _ _ ⟨b2, rfl, rfl, rfl⟩
 refine w_a rfl (o_alloc zr26 rfl) ?_
 rintro _ _ _ ⟨b3, rfl, rfl, rfl⟩
 refine w_done ?_
 refine w_seq ?_
 refine w_region rfl ?_
 refine w_d rfl (d_loado (v := .agg ⟨[.bool a.f_Neg, v0_a]⟩) ty26 rfl (.there (.there .here)) rfl rfl rfl rfl) ?_
 refine w_d rfl (d_loado (v := .agg ⟨[.bool b.f_Neg, v1_b]⟩) ty26 rfl (.there .here) rfl rfl rfl rfl) ?_
 obtain ⟨y4, hy5, he⟩ := Option.bind_eq_some_iff.1 he
 refine w_a rfl (o_call co25 (vs := [.agg ⟨[.bool a.f_Neg, v0_a]⟩, .agg ⟨[.bool b.f_Neg, v1_b]⟩]) rfl (radomeref01_Div.calls k (a := (⟨a.f_Neg, a.f_D⟩ : radomeref01_Num)) (b := (⟨b.f_Neg, b.f_D⟩ : radomeref01_Num)) hy5 h0_a h1_b)) ?_
 rintro _ H6 _ ⟨rfl, e7, ⟨v8, v10, rfl, h9, h11⟩⟩
 refine w_d rfl (d_move (v := .tuple ⟨[.agg ⟨[.bool y4.1.f_Neg, v8]⟩, .agg ⟨[.bool y4.2.f_Neg, v10]⟩]⟩) rfl) ?_
 refine w_d rfl (d_ext (vs := [.agg ⟨[.bool y4.1.f_Neg, v8]⟩, .agg ⟨[.bool y4.2.f_Neg, v10]⟩]) rfl rfl) ?_
 refine w_d rfl (d_ext (vs := [.agg ⟨[.bool y4.1.f_Neg, v8]⟩, .agg ⟨[.bool y4.2.f_Neg, v10]⟩]) rfl rfl) ?_
 refine w_a rfl (o_alloc zr26 rfl) ?_
 rintro _ _ _ ⟨b12, rfl, rfl, rfl⟩
 refine w_a rfl (o_alloc zr26 rfl) ?_
 rintro _ _ _ ⟨b13, rfl, rfl, rfl⟩
 refine w_a0 rfl (o_store (v := .agg ⟨[.bool y4.1.f_Neg, v8]⟩) sz26 rfl rfl rfl rfl (one_cons rfl (one_cons (h9.one) one_nil)) (.there .here) (.here (.here .done))) ?_
 rintro _ _ _ ⟨rfl, rfl, rfl⟩
 refine w_a0 rfl (o_store (v := .agg ⟨[.bool y4.2.f_Neg, v10]⟩) sz26 rfl rfl rfl rfl (one_cons rfl (one_cons (h11.one) one_nil)) .here (.here (.here .done))) ?_
 rintro _ _ _ ⟨rfl, rfl, rfl⟩
 refine w_done ?_
 refine w_seq ?_
 refine w_region rfl ?_
 refine w_d rfl (d_loado (v := .agg ⟨[.bool y4.1.f_Neg, v8]⟩) ty26 rfl (.there .here) rfl rfl rfl rfl) ?_
 refine w_a0 rfl (o_store (v := .agg ⟨[.bool y4.1.f_Neg, v8]⟩) sz26 rfl rfl rfl rfl (one_cons rfl (one_cons (h9.one) one_nil)) (.there (.there .here)) (.here (.here .done))) ?_
 rintro _ _ _ ⟨rfl, rfl, rfl⟩
 refine w_done ?_
 obtain rfl := Option.some.inj he
 refine w_return fn_30 rs_30 (.box (v := .agg ⟨[.bool y4.1.f_Neg, v8]⟩) rfl ty26 rfl rfl (.there (.there .here)) rfl .nil) ?_
 exact ⟨⟨[_, _, _, _, _], rfl⟩, hle.trans e7, ⟨v8, rfl, h9⟩⟩
/-! ### radome/radomelaw01.WideRoots -/
noncomputable def radomelaw01_WideRoots.C : Code := (Tryd.f4.body).getD .skip
def radomelaw01_WideRoots.out (r : Bool) (H : Hp) (v : Value) : Prop := v = .bool r
abbrev radomelaw01_WideRoots.R (H0 : Hp) (L : Items) (r : Bool) : Value → Hp → Items → Prop := fun v H' L' => (∃ p, L' = p ++ L) ∧ H0.le H' ∧ radomelaw01_WideRoots.out r H' v
noncomputable def radomelaw01_WideRoots.j1 (k : Nat)  (bits : Int) (t6 : Bool) (x_0 : Bool) (x_1 : List Int) (m_0 : Bool) (m_1 : List Int) (f_ : Option Int) : Option Bool := if ((decide (bits < (-4096))) || (decide (4096 < bits))) = true then ((gd (decide ((errN f_) = 1)) (wide_Int_Sign.f k (⟨m_0, m_1⟩ : wide_Int)) (0)).bind fun y117 => (gd ((decide ((errN f_) = 1)) && (decide (y117 = 0))) (radomelaw01_sure.f k) (false)).bind fun y123 => some (((decide ((errN f_) = 1)) && (decide (y117 = 0))) && y123)) else (if ((decide (bits < (-600))) || (decide (600 < bits))) = true then ((gd (f_.isNone || (decide ((errN f_) = 12))) (radomelaw01_sure.f k) (false)).bind fun y134 => some ((f_.isNone || (decide ((errN f_) = 12))) && y134)) else (if 0 ≤ bits then ((gd f_.isNone (radomeref01_Two.f k bits) ((⟨false, []⟩ : radomeref01_Num))).bind fun y143 => (gd f_.isNone (radomeref01_Mul.f k (⟨x_0, x_1⟩ : radomeref01_Num) (⟨y143.f_Neg, y143.f_D⟩ : radomeref01_Num)) ((⟨false, []⟩ : radomeref01_Num))).bind fun y150 => (gd f_.isNone (radomelaw01_is.f k (⟨m_0, m_1⟩ : wide_Int) (⟨y150.f_Neg, y150.f_D⟩ : radomeref01_Num)) (false)).bind fun y159 => (gd (f_.isNone && y159) (radomelaw01_sure.f k) (false)).bind fun y164 => some ((f_.isNone && y159) && y164)) else ((gd f_.isNone (radomeref01_Two.f k (w64 (0 - bits))) ((⟨false, []⟩ : radomeref01_Num))).bind fun y173 => (gd f_.isNone (radomeref01_Floor.f k (⟨x_0, x_1⟩ : radomeref01_Num) (⟨y173.f_Neg, y173.f_D⟩ : radomeref01_Num)) ((⟨false, []⟩ : radomeref01_Num))).bind fun y180 => (gd f_.isNone (radomelaw01_is.f k (⟨m_0, m_1⟩ : wide_Int) (⟨y180.f_Neg, y180.f_D⟩ : radomeref01_Num)) (false)).bind fun y189 => (gd (f_.isNone && y189) (radomelaw01_sure.f k) (false)).bind fun y194 => some ((f_.isNone && y189) && y194))))
noncomputable def radomelaw01_WideRoots.f (k : Nat) (a : List Int) (neg : Bool) (bits : Int) : Option Bool := (radomelaw01_whole.f k a neg 150).bind fun y1 => (radomelaw01_giveInt.f k (⟨y1.f_Neg, y1.f_D⟩ : radomeref01_Num)).bind fun y8 => (wide_Int_Root.f k (⟨y8.f_neg, y8.f_w⟩ : wide_Int)).bind fun y15 => (wide_Int_Move.f k (⟨y8.f_neg, y8.f_w⟩ : wide_Int) bits).bind fun y22 => (gd neg (radomeref01_Sign.f k (⟨y1.f_Neg, y1.f_D⟩ : radomeref01_Num)) (0)).bind fun y31 => if (neg && (decide (y31 < 0))) = true then ((gd (!(!decide ((errN y15.2) = 1))) (wide_Int_Sign.f k (⟨y15.1.f_neg, y15.1.f_w⟩ : wide_Int)) (0)).bind fun y39 => if ((!decide ((errN y15.2) = 1)) || (!decide (y39 = 0))) = true then (some (false)) else (radomelaw01_WideRoots.j1 k bits false y1.f_Neg y1.f_D y22.1.f_neg y22.1.f_w y22.2)) else ((wide_Int_Mul.f k (⟨y15.1.f_neg, y15.1.f_w⟩ : wide_Int) (⟨y15.1.f_neg, y15.1.f_w⟩ : wide_Int)).bind fun y45 => (wide_Of.f k 1).bind fun y52 => (wide_Int_Add.f k (⟨y15.1.f_neg, y15.1.f_w⟩ : wide_Int) (⟨y52.f_neg, y52.f_w⟩ : wide_Int)).bind fun y58 => (wide_Int_Mul.f k (⟨y58.1.f_neg, y58.1.f_w⟩ : wide_Int) (⟨y58.1.f_neg, y58.1.f_w⟩ : wide_Int)).bind fun y75 => (gd (!(((y15.2.isSome || y45.2.isSome) || y58.2.isSome) || y75.2.isSome)) (wide_Int_Cmp.f k (⟨y45.1.f_neg, y45.1.f_w⟩ : wide_Int) (⟨y8.f_neg, y8.f_w⟩ : wide_Int)) (0)).bind fun y91 => (gd (!((((y15.2.isSome || y45.2.isSome) || y58.2.isSome) || y75.2.isSome) || (decide (0 < y91)))) (wide_Int_Cmp.f k (⟨y75.1.f_neg, y75.1.f_w⟩ : wide_Int) (⟨y8.f_neg, y8.f_w⟩ : wide_Int)) (0)).bind fun y99 => (gd (!(((((y15.2.isSome || y45.2.isSome) || y58.2.isSome) || y75.2.isSome) || (decide (0 < y91))) || (decide (y99 ≤ 0)))) (wide_Int_Sign.f k (⟨y15.1.f_neg, y15.1.f_w⟩ : wide_Int)) (0)).bind fun y106 => if ((((((y15.2.isSome || y45.2.isSome) || y58.2.isSome) || y75.2.isSome) || (decide (0 < y91))) || (decide (y99 ≤ 0))) || (decide (y106 < 0))) = true then (some (false)) else (radomelaw01_WideRoots.j1 k bits false y1.f_Neg y1.f_D y22.1.f_neg y22.1.f_w y22.2))
theorem radomelaw01_WideRoots.j1_mono {k : Nat} : ∀ y0 y1 y2 y3 y4 y5 y6, LeO (radomelaw01_WideRoots.j1 k y0 y1 y2 y3 y4 y5 y6) (radomelaw01_WideRoots.j1 (k + 1) y0 y1 y2 y3 y4 y5 y6) := fun _ _ _ _ _ _ _ => (LeO.ite (LeO.bind (LeO.gd (wide_Int_Sign.mono k _)) fun _ => LeO.bind (LeO.gd (radomelaw01_sure.mono k)) fun _ => LeO.refl _) (LeO.ite (LeO.bind (LeO.gd (radomelaw01_sure.mono k)) fun _ => LeO.refl _) (LeO.ite (LeO.bind (LeO.gd (radomeref01_Two.mono k _)) fun _ => LeO.bind (LeO.gd (radomeref01_Mul.mono k _ _)) fun _ => LeO.bind (LeO.gd (radomelaw01_is.mono k _ _)) fun _ => LeO.bind (LeO.gd (radomelaw01_sure.mono k)) fun _ => LeO.refl _) (LeO.bind (LeO.gd (radomeref01_Two.mono k _)) fun _ => LeO.bind (LeO.gd (radomeref01_Floor.mono k _ _)) fun _ => LeO.bind (LeO.gd (radomelaw01_is.mono k _ _)) fun _ => LeO.bind (LeO.gd (radomelaw01_sure.mono k)) fun _ => LeO.refl _))))
theorem radomelaw01_WideRoots.mono : ∀ k y0 y1 y2, LeO (radomelaw01_WideRoots.f k y0 y1 y2) (radomelaw01_WideRoots.f (k + 1) y0 y1 y2) := fun k _ _ _ => by unfold radomelaw01_WideRoots.f; exact (LeO.bind (radomelaw01_whole.mono k _ _ _) fun _ => LeO.bind (radomelaw01_giveInt.mono k _) fun _ => LeO.bind (wide_Int_Root.mono k _) fun _ => LeO.bind (wide_Int_Move.mono k _ _) fun _ => LeO.bind (LeO.gd (radomeref01_Sign.mono k _)) fun _ => LeO.ite (LeO.bind (LeO.gd (wide_Int_Sign.mono k _)) fun _ => LeO.ite (LeO.refl _) (radomelaw01_WideRoots.j1_mono (k := k)  _ _ _ _ _ _ _)) (LeO.bind (wide_Int_Mul.mono k _ _) fun _ => LeO.bind (wide_Of.mono k _) fun _ => LeO.bind (wide_Int_Add.mono k _ _) fun _ => LeO.bind (wide_Int_Mul.mono k _ _) fun _ => LeO.bind (LeO.gd (wide_Int_Cmp.mono k _ _)) fun _ => LeO.bind (LeO.gd (wide_Int_Cmp.mono k _ _)) fun _ => LeO.bind (LeO.gd (wide_Int_Sign.mono k _)) fun _ => LeO.ite (LeO.refl _) (radomelaw01_WideRoots.j1_mono (k := k)  _ _ _ _ _ _ _)))
noncomputable def radomelaw01_WideRoots.Kj1 : List Item := .code (seqR (seqR (seqR (seqR (seqR (seqR radomelaw01_WideRoots.C)))))) :: []
set_option maxRecDepth 100000 in
set_option maxHeartbeats 2000000 in
theorem radomelaw01_WideRoots.j1_ok {k : Nat} {H0 H : Hp} {L : Items} {r : Bool} {jk_ : Nat → Value} {bits : Int} {t6 : Bool} {x_0 : Bool} {x_1 : List Int} {m_0 : Bool} {m_1 : List Int} {f_ : Option Int} {v_x_1 : Value} {v_m_1 : Value} {b_x : Nat} {b_m : Nat} (hle : H0.le H) (hG : GH H) (he : radomelaw01_WideRoots.j1 k bits t6 x_0 x_1 m_0 m_1 f_ = some r) (h_x_1 : Ro (Kd.int .i64) H v_x_1 x_1) (h_m_1 : Ro (Kd.int .u32) H v_m_1 m_1) : Wp Tryd.prog 4 160 radomelaw01_WideRoots.Kj1 (upd (upd (upd (upd (upd jk_ 2 (.int .i64 bits)) 6 (.bool t6)) 7 (.pointer (some ⟨b_x, 0, none⟩))) 11 (.pointer (some ⟨b_m, 0, none⟩))) 12 (errV 89 f_)) H (some (b_m, .cells ⟨[.bool m_0, v_m_1]⟩ 30 (0, 0)) :: some (b_x, .cells ⟨[.bool x_0, v_x_1]⟩ 26 (0, 0)) :: L) (radomelaw01_WideRoots.R H0 L r) := by
 unfold radomelaw01_WideRoots.j1 at he
 unfold radomelaw01_WideRoots.Kj1
 refine w_seq ?_
 refine w_seq ?_
 refine w_region rfl ?_
 refine w_d rfl (d_move (v := .int .i64 bits) rfl) ?_
 refine w_d rfl (d_lss rfl rfl) ?_
 refine w_d rfl (d_move (v := .bool (decide (bits < (-4096)))) rfl) ?_
 refine w_g (g := !(decide (bits < (-4096)))) rfl rfl rfl wn_f (fun g112 => d_move (v := .int .i64 bits) rfl) ?_
 refine w_g (g := !(decide (bits < (-4096)))) rfl rfl rfl wn_f (fun g113 => d_gtr (cvt g113) rfl) ?_
 refine w_d rfl (d_or' (b := (decide (bits < (-4096)))) (p := (decide (4096 < bits))) rfl rfl rfl) ?_
 refine w_done ?_
 rcases its he with ⟨c114, he⟩ | ⟨c114, he⟩
 ·
  refine w_then rfl c114 ?_
  refine w_seq ?_
  refine w_region rfl ?_
  refine w_d rfl (d_move (v := errV 89 f_) rfl) ?_
  refine w_d rfl (call_d (o_call co23 (vs := [errV 89 f_]) rfl (num23.calls (hG) rfl))) ?_
  refine w_d rfl (d_eql rfl rfl) ?_
  refine w_d rfl (d_move (v := .bool (decide ((errN f_) = 1))) rfl) ?_
  refine w_g (g := decide ((errN f_) = 1)) rfl rfl rfl wn_t (fun g115 => d_loado (v := .agg ⟨[.bool m_0, v_m_1]⟩) ty30 rfl .here rfl rfl rfl rfl) ?_
  obtain ⟨y117, hy118, he⟩ := Option.bind_eq_some_iff.1 he
  refine w_g (g := decide ((errN f_) = 1)) rfl rfl rfl wn_t (fun g116 => call_d (o_call co18 (vs := [.agg ⟨[.bool m_0, v_m_1]⟩]) (acons (cvt g116) (anil)) (wide_Int_Sign.calls k (a := (⟨m_0, m_1⟩ : wide_Int)) (gd_t g116 hy118) h_m_1))) ?_
  refine w_g (g := decide ((errN f_) = 1)) rfl rfl rfl wn_t (fun g121 => d_eql (cvt g121) rfl) ?_
  refine w_d rfl (d_and' (b := (decide ((errN f_) = 1))) (p := (decide (y117 = 0))) rfl rfl rfl) ?_
  refine w_d rfl (d_move (v := .bool ((decide ((errN f_) = 1)) && (decide (y117 = 0)))) rfl) ?_
  obtain ⟨y123, hy124, he⟩ := Option.bind_eq_some_iff.1 he
  refine w_g (g := (decide ((errN f_) = 1)) && (decide (y117 = 0))) rfl rfl rfl wn_t (fun g122 => call_d (o_call co24 (vs := []) rfl (radomelaw01_sure.calls k (gd_t g122 hy124)))) ?_
  refine w_d rfl (d_and' (b := ((decide ((errN f_) = 1)) && (decide (y117 = 0)))) (p := y123) rfl rfl rfl) ?_
  refine w_d rfl (d_assign (v := .bool (((decide ((errN f_) = 1)) && (decide (y117 = 0))) && y123)) rfl) ?_
  refine w_done ?_
  obtain rfl := Option.some.inj he
  refine w_return fn_4 rs_4 (.tmp (v := .bool (((decide ((errN f_) = 1)) && (decide (y117 = 0))) && y123)) rfl .nil) ?_
  exact ⟨⟨[_, _], rfl⟩, hle, rfl⟩
 ·
  refine w_else rfl (Bool.eq_false_iff.2 c114) ?_
  refine w_skip ?_
  refine w_seq ?_
  refine w_seq ?_
  refine w_region rfl ?_
  refine w_d rfl (d_move (v := .int .i64 bits) rfl) ?_
  refine w_d rfl (d_lss rfl rfl) ?_
  refine w_d rfl (d_move (v := .bool (decide (bits < (-600)))) rfl) ?_
  refine w_g (g := !(decide (bits < (-600)))) rfl rfl rfl wn_f (fun g127 => d_move (v := .int .i64 bits) rfl) ?_
  refine w_g (g := !(decide (bits < (-600)))) rfl rfl rfl wn_f (fun g128 => d_gtr (cvt g128) rfl) ?_
  refine w_d rfl (d_or' (b := (decide (bits < (-600)))) (p := (decide (600 < bits))) rfl rfl rfl) ?_
  refine w_done ?_
  rcases its he with ⟨c129, he⟩ | ⟨c129, he⟩
  ·
   refine w_then rfl c129 ?_
   refine w_seq ?_
   refine w_region rfl ?_
   refine w_d rfl (d_move (v := errV 89 f_) rfl) ?_
   refine w_d rfl (d_eqnil (e := f_) Tryd.underlying33 rfl) ?_
   refine w_d rfl (d_move (v := .bool f_.isNone) rfl) ?_
   refine w_g (g := !f_.isNone) rfl rfl rfl wn_f (fun g130 => d_move (v := errV 89 f_) rfl) ?_
   refine w_g (g := !f_.isNone) rfl rfl rfl wn_f (fun g131 => call_d (o_call co23 (vs := [errV 89 f_]) (acons (cvt g131) (anil)) (num23.calls (hG) rfl))) ?_
   refine w_g (g := !f_.isNone) rfl rfl rfl wn_f (fun g132 => d_eql (cvt g132) rfl) ?_
   refine w_d rfl (d_or' (b := f_.isNone) (p := (decide ((errN f_) = 12))) rfl rfl rfl) ?_
   refine w_d rfl (d_move (v := .bool (f_.isNone || (decide ((errN f_) = 12)))) rfl) ?_
   obtain ⟨y134, hy135, he⟩ := Option.bind_eq_some_iff.1 he
   refine w_g (g := f_.isNone || (decide ((errN f_) = 12))) rfl rfl rfl wn_t (fun g133 => call_d (o_call co24 (vs := []) rfl (radomelaw01_sure.calls k (gd_t g133 hy135)))) ?_
   refine w_d rfl (d_and' (b := (f_.isNone || (decide ((errN f_) = 12)))) (p := y134) rfl rfl rfl) ?_
   refine w_d rfl (d_assign (v := .bool ((f_.isNone || (decide ((errN f_) = 12))) && y134)) rfl) ?_
   refine w_done ?_
   obtain rfl := Option.some.inj he
   refine w_return fn_4 rs_4 (.tmp (v := .bool ((f_.isNone || (decide ((errN f_) = 12))) && y134)) rfl .nil) ?_
   exact ⟨⟨[_, _], rfl⟩, hle, rfl⟩
  ·
   refine w_else rfl (Bool.eq_false_iff.2 c129) ?_
   refine w_skip ?_
   refine w_seq ?_
   refine w_seq ?_
   refine w_region rfl ?_
   refine w_d rfl (d_move (v := .int .i64 bits) rfl) ?_
   refine w_d rfl (d_geq rfl rfl) ?_
   refine w_done ?_
   rcases its he with ⟨c138, he⟩ | ⟨c138, he⟩
   ·
    refine w_then rfl (decide_eq_true c138) ?_
    refine w_seq ?_
    obtain ⟨y143, hy144, he⟩ := Option.bind_eq_some_iff.1 he
    obtain ⟨y150, hy151, he⟩ := Option.bind_eq_some_iff.1 he
    refine w_drawn (p := 8) (tl := [8, 9, 10, 11, 12, 13]) [[], [(0, some 133)], [(1, some 134)], [(2, some 135)], [(2, some 135)], [(2, some 135)], [(2, some 135), (5, some 138)], [(2, some 135), (4, some 137), (6, some 139)]] [some 133, some 134, some 135, some 136, some 137, some 138, some 139, some 140] (fctF (.is (errV 89 f_) :: .is (.bool f_.isNone) :: .is (.bool f_.isNone) :: .is (cond f_.isNone (.agg ⟨[.bool m_0, v_m_1]⟩) undef) :: .is (cond f_.isNone (.agg ⟨[.bool x_0, v_x_1]⟩) undef) :: .is (cond f_.isNone (.int .i64 bits) undef) :: .of (fun H v => ∃ v147, v = cond f_.isNone (.agg ⟨[.bool y143.f_Neg, v147]⟩) undef ∧ (f_.isNone = true → Ro (Kd.int .i64) H v147 y143.f_D)) (by rintro _ _ _ hle ⟨v147, rfl, h148⟩; exact ⟨v147, rfl, fun g_ => (h148 g_).mono hle⟩) :: .of (fun H v => ∃ v154, v = cond f_.isNone (.agg ⟨[.bool y150.f_Neg, v154]⟩) undef ∧ (f_.isNone = true → Ro (Kd.int .i64) H v154 y150.f_D)) (by rintro _ _ _ hle ⟨v154, rfl, h155⟩; exact ⟨v154, rfl, fun g_ => (h155 g_).mono hle⟩) :: [])) (fun m_ => some (b_m, .cells ⟨[.bool m_0, v_m_1]⟩ 30 (0, 0)) :: some (b_x, .cells ⟨[.bool x_0, v_x_1]⟩ 26 (0, 0)) :: L) (fun _ => none) mixed (by kernel_rfl) (by kernel_rfl) rfl (fct_mono (by kernel_rfl)) ⟨(by intro H' m_ hH hm_ hu_; refine depK_nil ?_; exact s_d (m_ 0) rfl (d_move (v := errV 89 f_) rfl) (by exact rfl) rfl), (by intro H' m_ hH hm_ hu_; rintro _ rfl; refine depK_nil ?_; exact s_d (m_ 1) rfl (d_eqnil (e := f_) Tryd.underlying33 rfl) (by exact rfl) rfl), (by intro H' m_ hH hm_ hu_; rintro _ rfl; refine depK_nil ?_; exact s_d (m_ 2) rfl (d_move (v := .bool f_.isNone) rfl) (by exact rfl) rfl), (by intro H' m_ hH hm_ hu_; rintro _ rfl; refine depK_nil ?_; exact s_g (g := f_.isNone) (m_ 3) rfl rfl rfl wn_t (fun g139 => d_loado (v := .agg ⟨[.bool m_0, v_m_1]⟩) ty30 rfl .here rfl rfl rfl rfl) rfl (by exact fun g_ => cvt g_) (by exact fun g_ => cnt g_)), (by intro H' m_ hH hm_ hu_; rintro _ rfl; refine depK_nil ?_; exact s_g (g := f_.isNone) (m_ 4) rfl rfl rfl wn_t (fun g140 => d_loado (v := .agg ⟨[.bool x_0, v_x_1]⟩) ty26 rfl (.there .here) rfl rfl rfl rfl) rfl (by exact fun g_ => cvt g_) (by exact fun g_ => cnt g_)), (by intro H' m_ hH hm_ hu_; rintro _ rfl; refine depK_nil ?_; exact s_g (g := f_.isNone) (m_ 5) rfl rfl rfl wn_t (fun g141 => d_move (v := .int .i64 bits) rfl) rfl (by exact fun g_ => cvt g_) (by exact fun g_ => cnt g_)), (by intro H' m_ hH hm_ hu_; rintro _ rfl _ rfl; refine depK_nil ?_; exact s_gr (g := f_.isNone) (fun v147 => .agg ⟨[.bool y143.f_Neg, v147]⟩) (fun H v147 => Ro (Kd.int .i64) H v147 y143.f_D) (m_ 6) rfl rfl rfl wn_t (fun g142 => by exact o_call co29 (vs := [.int .i64 bits]) (acons (cvt g142) (anil)) (radomeref01_Two.calls k (gd_t g142 hy144))) rfl (by exact fun c_ H_ h_ => ⟨c_, rfl, h_⟩)), (by intro H' m_ hH hm_ hu_; rintro _ rfl _ rfl _ ⟨v147, rfl, h148⟩; refine depK_nil ?_; exact s_gr (g := f_.isNone) (fun v154 => .agg ⟨[.bool y150.f_Neg, v154]⟩) (fun H v154 => Ro (Kd.int .i64) H v154 y150.f_D) (m_ 7) rfl rfl rfl wn_t (fun g149 => by exact o_call co15 (vs := [.agg ⟨[.bool x_0, v_x_1]⟩, .agg ⟨[.bool y143.f_Neg, v147]⟩]) (acons (cvt g149) (acons (cvt g149) (anil))) (radomeref01_Mul.calls k (a := (⟨x_0, x_1⟩ : radomeref01_Num)) (b := (⟨y143.f_Neg, y143.f_D⟩ : radomeref01_Num)) (gd_t g149 hy151) (h_x_1.mono hH) (h148 g149))) rfl (by exact fun c_ H_ h_ => ⟨c_, rfl, h_⟩)), trivial⟩ ?_
    intro H156 e157
    rintro _ _ rfl _ _ rfl _ _ rfl _ _ rfl _ _ rfl _ _ rfl _ _ ⟨v147, rfl, h148⟩ _ _ ⟨v154, rfl, h155⟩
    obtain ⟨y159, hy160, he⟩ := Option.bind_eq_some_iff.1 he
    refine w_g (g := f_.isNone) rfl rfl rfl wn_t (fun g158 => call_d (o_call co12 (vs := [.agg ⟨[.bool m_0, v_m_1]⟩, .agg ⟨[.bool y150.f_Neg, v154]⟩]) (acons (cvt g158) (acons (cvt g158) (anil))) (radomelaw01_is.calls k (a := (⟨m_0, m_1⟩ : wide_Int)) (b := (⟨y150.f_Neg, y150.f_D⟩ : radomeref01_Num)) (gd_t g158 hy160) (h_m_1.mono e157) (h155 g158)))) ?_
    refine w_d rfl (d_and' (b := f_.isNone) (p := y159) rfl rfl rfl) ?_
    refine w_d rfl (d_move (v := .bool (f_.isNone && y159)) rfl) ?_
    obtain ⟨y164, hy165, he⟩ := Option.bind_eq_some_iff.1 he
    refine w_g (g := f_.isNone && y159) rfl rfl rfl wn_t (fun g163 => call_d (o_call co24 (vs := []) rfl (radomelaw01_sure.calls k (gd_t g163 hy165)))) ?_
    refine w_d rfl (d_and' (b := (f_.isNone && y159)) (p := y164) rfl rfl rfl) ?_
    refine w_d rfl (d_assign (v := .bool ((f_.isNone && y159) && y164)) rfl) ?_
    refine w_done ?_
    obtain rfl := Option.some.inj he
    refine w_return fn_4 rs_4 (.tmp (v := .bool ((f_.isNone && y159) && y164)) rfl .nil) ?_
    exact ⟨⟨[_, _], rfl⟩, hle.trans e157, rfl⟩
   ·
    refine w_else rfl (decide_eq_false c138) ?_
    refine w_skip ?_
    refine w_seq ?_
    obtain ⟨y173, hy174, he⟩ := Option.bind_eq_some_iff.1 he
    obtain ⟨y180, hy181, he⟩ := Option.bind_eq_some_iff.1 he
    refine w_drawn (p := 9) (tl := [9, 10, 11, 12, 13, 14]) [[], [(0, some 146)], [(1, some 147)], [(2, some 148)], [(2, some 148)], [(2, some 148)], [(2, some 148), (5, some 151)], [(2, some 148), (6, some 152)], [(2, some 148), (4, some 150), (7, some 153)]] [some 146, some 147, some 148, some 149, some 150, some 151, some 152, some 153, some 154] (fctF (.is (errV 89 f_) :: .is (.bool f_.isNone) :: .is (.bool f_.isNone) :: .is (cond f_.isNone (.agg ⟨[.bool m_0, v_m_1]⟩) undef) :: .is (cond f_.isNone (.agg ⟨[.bool x_0, v_x_1]⟩) undef) :: .is (cond f_.isNone (.int .i64 bits) undef) :: .is (cond f_.isNone (.int .i64 (w64 (0 - bits))) undef) :: .of (fun H v => ∃ v177, v = cond f_.isNone (.agg ⟨[.bool y173.f_Neg, v177]⟩) undef ∧ (f_.isNone = true → Ro (Kd.int .i64) H v177 y173.f_D)) (by rintro _ _ _ hle ⟨v177, rfl, h178⟩; exact ⟨v177, rfl, fun g_ => (h178 g_).mono hle⟩) :: .of (fun H v => ∃ v184, v = cond f_.isNone (.agg ⟨[.bool y180.f_Neg, v184]⟩) undef ∧ (f_.isNone = true → Ro (Kd.int .i64) H v184 y180.f_D)) (by rintro _ _ _ hle ⟨v184, rfl, h185⟩; exact ⟨v184, rfl, fun g_ => (h185 g_).mono hle⟩) :: [])) (fun m_ => some (b_m, .cells ⟨[.bool m_0, v_m_1]⟩ 30 (0, 0)) :: some (b_x, .cells ⟨[.bool x_0, v_x_1]⟩ 26 (0, 0)) :: L) (fun _ => none) mixed (by kernel_rfl) (by kernel_rfl) rfl (fct_mono (by kernel_rfl)) ⟨(by intro H' m_ hH hm_ hu_; refine depK_nil ?_; exact s_d (m_ 0) rfl (d_move (v := errV 89 f_) rfl) (by exact rfl) rfl), (by intro H' m_ hH hm_ hu_; rintro _ rfl; refine depK_nil ?_; exact s_d (m_ 1) rfl (d_eqnil (e := f_) Tryd.underlying33 rfl) (by exact rfl) rfl), (by intro H' m_ hH hm_ hu_; rintro _ rfl; refine depK_nil ?_; exact s_d (m_ 2) rfl (d_move (v := .bool f_.isNone) rfl) (by exact rfl) rfl), (by intro H' m_ hH hm_ hu_; rintro _ rfl; refine depK_nil ?_; exact s_g (g := f_.isNone) (m_ 3) rfl rfl rfl wn_t (fun g168 => d_loado (v := .agg ⟨[.bool m_0, v_m_1]⟩) ty30 rfl .here rfl rfl rfl rfl) rfl (by exact fun g_ => cvt g_) (by exact fun g_ => cnt g_)), (by intro H' m_ hH hm_ hu_; rintro _ rfl; refine depK_nil ?_; exact s_g (g := f_.isNone) (m_ 4) rfl rfl rfl wn_t (fun g169 => d_loado (v := .agg ⟨[.bool x_0, v_x_1]⟩) ty26 rfl (.there .here) rfl rfl rfl rfl) rfl (by exact fun g_ => cvt g_) (by exact fun g_ => cnt g_)), (by intro H' m_ hH hm_ hu_; rintro _ rfl; refine depK_nil ?_; exact s_g (g := f_.isNone) (m_ 5) rfl rfl rfl wn_t (fun g170 => d_move (v := .int .i64 bits) rfl) rfl (by exact fun g_ => cvt g_) (by exact fun g_ => cnt g_)), (by intro H' m_ hH hm_ hu_; rintro _ rfl _ rfl; refine depK_nil ?_; exact s_g (g := f_.isNone) (m_ 6) rfl rfl rfl wn_t (fun g171 => d_neg (c := w64 (0 - bits)) (cvt g171) rfl) rfl (by exact fun g_ => cvt g_) (by exact fun g_ => cnt g_)), (by intro H' m_ hH hm_ hu_; rintro _ rfl _ rfl; refine depK_nil ?_; exact s_gr (g := f_.isNone) (fun v177 => .agg ⟨[.bool y173.f_Neg, v177]⟩) (fun H v177 => Ro (Kd.int .i64) H v177 y173.f_D) (m_ 7) rfl rfl rfl wn_t (fun g172 => by exact o_call co29 (vs := [.int .i64 (w64 (0 - bits))]) (acons (cvt g172) (anil)) (radomeref01_Two.calls k (gd_t g172 hy174))) rfl (by exact fun c_ H_ h_ => ⟨c_, rfl, h_⟩)), (by intro H' m_ hH hm_ hu_; rintro _ rfl _ rfl _ ⟨v177, rfl, h178⟩; refine depK_nil ?_; exact s_gr (g := f_.isNone) (fun v184 => .agg ⟨[.bool y180.f_Neg, v184]⟩) (fun H v184 => Ro (Kd.int .i64) H v184 y180.f_D) (m_ 8) rfl rfl rfl wn_t (fun g179 => by exact o_call co30 (vs := [.agg ⟨[.bool x_0, v_x_1]⟩, .agg ⟨[.bool y173.f_Neg, v177]⟩]) (acons (cvt g179) (acons (cvt g179) (anil))) (radomeref01_Floor.calls k (a := (⟨x_0, x_1⟩ : radomeref01_Num)) (b := (⟨y173.f_Neg, y173.f_D⟩ : radomeref01_Num)) (gd_t g179 hy181) (h_x_1.mono hH) (h178 g179))) rfl (by exact fun c_ H_ h_ => ⟨c_, rfl, h_⟩)), trivial⟩ ?_
    intro H186 e187
    rintro _ _ rfl _ _ rfl _ _ rfl _ _ rfl _ _ rfl _ _ rfl _ _ rfl _ _ ⟨v177, rfl, h178⟩ _ _ ⟨v184, rfl, h185⟩
    obtain ⟨y189, hy190, he⟩ := Option.bind_eq_some_iff.1 he
    refine w_g (g := f_.isNone) rfl rfl rfl wn_t (fun g188 => call_d (o_call co12 (vs := [.agg ⟨[.bool m_0, v_m_1]⟩, .agg ⟨[.bool y180.f_Neg, v184]⟩]) (acons (cvt g188) (acons (cvt g188) (anil))) (radomelaw01_is.calls k (a := (⟨m_0, m_1⟩ : wide_Int)) (b := (⟨y180.f_Neg, y180.f_D⟩ : radomeref01_Num)) (gd_t g188 hy190) (h_m_1.mono e187) (h185 g188)))) ?_
    refine w_d rfl (d_and' (b := f_.isNone) (p := y189) rfl rfl rfl) ?_
    refine w_d rfl (d_move (v := .bool (f_.isNone && y189)) rfl) ?_
    obtain ⟨y194, hy195, he⟩ := Option.bind_eq_some_iff.1 he
    refine w_g (g := f_.isNone && y189) rfl rfl rfl wn_t (fun g193 => call_d (o_call co24 (vs := []) rfl (radomelaw01_sure.calls k (gd_t g193 hy195)))) ?_
    refine w_d rfl (d_and' (b := (f_.isNone && y189)) (p := y194) rfl rfl rfl) ?_
    refine w_d rfl (d_assign (v := .bool ((f_.isNone && y189) && y194)) rfl) ?_
    refine w_done ?_
    obtain rfl := Option.some.inj he
    refine w_return fn_4 rs_4 (.tmp (v := .bool ((f_.isNone && y189) && y194)) rfl .nil) ?_
    exact ⟨⟨[_, _], rfl⟩, hle.trans e187, rfl⟩
set_option maxRecDepth 100000 in
set_option maxHeartbeats 2000000 in
theorem radomelaw01_WideRoots.calls (k : Nat) {H : Hp} {L : Items} {a : List Int} {neg : Bool} {bits : Int} {v0_a : Value} {r : Bool} (hG : GH H) (he : radomelaw01_WideRoots.f k a neg bits = some r) (h0_a : Ro (Kd.int .u8) H v0_a a) : Ct Tryd.prog 4 ⟨[v0_a, .bool neg, .int .i64 bits]⟩ H L (fun v H' L' => L = L' ∧ H = H' ∧ v = .bool r) := by
 refine ct_outs (O := radomelaw01_WideRoots.out r) (fun _ _ h => h) ?_
 have hle : H.le H := .refl _
 unfold radomelaw01_WideRoots.f at he
 refine ct_enter (args := [v0_a, .bool neg, .int .i64 bits]) fn_4 rfl nt_4 rfl ?_
 refine w_seq ?_
 refine w_region rfl ?_
 refine w_d rfl (d_assign (v := .bool false) rfl) ?_
 refine w_done ?_
 refine w_seq ?_
 refine w_region rfl ?_
 refine w_d rfl (d_move (v := v0_a) rfl) ?_
 refine w_d rfl (d_move (v := .bool neg) rfl) ?_
 obtain ⟨y1, hy2, he⟩ := Option.bind_eq_some_iff.1 he
 refine w_a rfl (o_call co7 (vs := [v0_a, .bool neg, .int .i64 150]) rfl (radomelaw01_whole.calls k hy2 h0_a.src)) ?_
 rintro _ H3 _ ⟨rfl, e4, ⟨v5, rfl, h6⟩⟩
 refine w_a rfl (o_alloc zr26 rfl) ?_
 rintro _ _ _ ⟨b7, rfl, rfl, rfl⟩
 refine w_a0 rfl (o_store (v := .agg ⟨[.bool y1.f_Neg, v5]⟩) sz26 rfl rfl rfl rfl (one_cons rfl (one_cons (h6.one) one_nil)) .here (.here (.here .done))) ?_
 rintro _ _ _ ⟨rfl, rfl, rfl⟩
 refine w_done ?_
 refine w_seq ?_
 refine w_region rfl ?_
 refine w_d rfl (d_loado (v := .agg ⟨[.bool y1.f_Neg, v5]⟩) ty26 rfl .here rfl rfl rfl rfl) ?_
 obtain ⟨y8, hy9, he⟩ := Option.bind_eq_some_iff.1 he
 refine w_a rfl (o_call co8 (vs := [.agg ⟨[.bool y1.f_Neg, v5]⟩]) rfl (radomelaw01_giveInt.calls k (a := (⟨y1.f_Neg, y1.f_D⟩ : radomeref01_Num)) hy9 h6)) ?_
 rintro _ H10 _ ⟨rfl, e11, ⟨v12, rfl, h13⟩⟩
 refine w_a rfl (o_alloc zr30 rfl) ?_
 rintro _ _ _ ⟨b14, rfl, rfl, rfl⟩
 refine w_a0 rfl (o_store (v := .agg ⟨[.bool y8.f_neg, v12]⟩) sz30 rfl rfl rfl rfl (one_cons rfl (one_cons (h13.one) one_nil)) .here (.here (.here .done))) ?_
 rintro _ _ _ ⟨rfl, rfl, rfl⟩
 refine w_done ?_
 refine w_seq ?_
 refine w_region rfl ?_
 refine w_d rfl (d_loado (v := .agg ⟨[.bool y8.f_neg, v12]⟩) ty30 rfl .here rfl rfl rfl rfl) ?_
 obtain ⟨y15, hy16, he⟩ := Option.bind_eq_some_iff.1 he
 refine w_a rfl (o_call co26 (vs := [.agg ⟨[.bool y8.f_neg, v12]⟩]) rfl (wide_Int_Root.calls k (a := (⟨y8.f_neg, y8.f_w⟩ : wide_Int)) hy16 h13)) ?_
 rintro _ H17 _ ⟨rfl, e18, ⟨v19, rfl, h20⟩⟩
 refine w_d rfl (d_move (v := .tuple ⟨[.agg ⟨[.bool y15.1.f_neg, v19]⟩, errV 89 y15.2]⟩) rfl) ?_
 refine w_d rfl (d_ext (vs := [.agg ⟨[.bool y15.1.f_neg, v19]⟩, errV 89 y15.2]) rfl rfl) ?_
 refine w_d rfl (d_ext (vs := [.agg ⟨[.bool y15.1.f_neg, v19]⟩, errV 89 y15.2]) rfl rfl) ?_
 refine w_a rfl (o_alloc zr30 rfl) ?_
 rintro _ _ _ ⟨b21, rfl, rfl, rfl⟩
 refine w_a0 rfl (o_store (v := .agg ⟨[.bool y15.1.f_neg, v19]⟩) sz30 rfl rfl rfl rfl (one_cons rfl (one_cons (h20.one) one_nil)) .here (.here (.here .done))) ?_
 rintro _ _ _ ⟨rfl, rfl, rfl⟩
 refine w_d rfl (d_assign (v := errV 89 y15.2) rfl) ?_
 refine w_done ?_
 refine w_seq ?_
 refine w_region rfl ?_
 refine w_d rfl (d_loado (v := .agg ⟨[.bool y8.f_neg, v12]⟩) ty30 rfl (.there .here) rfl rfl rfl rfl) ?_
 refine w_d rfl (d_move (v := .int .i64 bits) rfl) ?_
 obtain ⟨y22, hy23, he⟩ := Option.bind_eq_some_iff.1 he
 refine w_a rfl (o_call co27 (vs := [.agg ⟨[.bool y8.f_neg, v12]⟩, .int .i64 bits]) rfl (wide_Int_Move.calls k (a := (⟨y8.f_neg, y8.f_w⟩ : wide_Int)) hy23 (h13.mono e18))) ?_
 rintro _ H24 _ ⟨rfl, e25, ⟨v26, rfl, h27⟩⟩
 refine w_d rfl (d_move (v := .tuple ⟨[.agg ⟨[.bool y22.1.f_neg, v26]⟩, errV 89 y22.2]⟩) rfl) ?_
 refine w_d rfl (d_ext (vs := [.agg ⟨[.bool y22.1.f_neg, v26]⟩, errV 89 y22.2]) rfl rfl) ?_
 refine w_d rfl (d_ext (vs := [.agg ⟨[.bool y22.1.f_neg, v26]⟩, errV 89 y22.2]) rfl rfl) ?_
 refine w_a rfl (o_alloc zr30 rfl) ?_
 rintro _ _ _ ⟨b28, rfl, rfl, rfl⟩
 refine w_a0 rfl (o_store (v := .agg ⟨[.bool y22.1.f_neg, v26]⟩) sz30 rfl rfl rfl rfl (one_cons rfl (one_cons (h27.one) one_nil)) .here (.here (.here .done))) ?_
 rintro _ _ _ ⟨rfl, rfl, rfl⟩
 refine w_d rfl (d_assign (v := errV 89 y22.2) rfl) ?_
 refine w_done ?_
 refine w_seq ?_
 refine w_seq ?_
 refine w_region rfl ?_
 refine w_d rfl (d_move (v := .bool neg) rfl) ?_
 refine w_d rfl (d_move (v := .bool neg) rfl) ?_
 refine w_g (g := neg) rfl rfl rfl wn_t (fun g29 => d_loado (v := .agg ⟨[.bool y1.f_Neg, v5]⟩) ty26 rfl (.there (.there (.there .here))) rfl rfl rfl rfl) ?_
 obtain ⟨y31, hy32, he⟩ := Option.bind_eq_some_iff.1 he
 refine w_g (g := neg) rfl rfl rfl wn_t (fun g30 => call_d (o_call co19 (vs := [.agg ⟨[.bool y1.f_Neg, v5]⟩]) (acons (cvt g30) (anil)) (radomeref01_Sign.calls k (a := (⟨y1.f_Neg, y1.f_D⟩ : radomeref01_Num)) (gd_t g30 hy32) (h6.mono ((e11.trans e18).trans e25))))) ?_
 refine w_g (g := neg) rfl rfl rfl wn_t (fun g35 => d_lss (cvt g35) rfl) ?_
 refine w_d rfl (d_and' (b := neg) (p := (decide (y31 < 0))) rfl rfl rfl) ?_
 refine w_done ?_
 rcases its he with ⟨c36, he⟩ | ⟨c36, he⟩
 ·
  refine w_then rfl c36 ?_
  refine w_seq ?_
  refine w_region rfl ?_
  refine w_d rfl (d_move (v := errV 89 y15.2) rfl) ?_
  refine w_d rfl (call_d (o_call co23 (vs := [errV 89 y15.2]) rfl (num23.calls (hG.mono (((e4.trans e11).trans e18).trans e25)) rfl))) ?_
  refine w_d rfl (d_neq rfl rfl) ?_
  refine w_d rfl (d_move (v := .bool (!decide ((errN y15.2) = 1))) rfl) ?_
  refine w_g (g := !(!decide ((errN y15.2) = 1))) rfl rfl rfl wn_f (fun g37 => d_loado (v := .agg ⟨[.bool y15.1.f_neg, v19]⟩) ty30 rfl (.there .here) rfl rfl rfl rfl) ?_
  obtain ⟨y39, hy40, he⟩ := Option.bind_eq_some_iff.1 he
  refine w_g (g := !(!decide ((errN y15.2) = 1))) rfl rfl rfl wn_f (fun g38 => call_d (o_call co18 (vs := [.agg ⟨[.bool y15.1.f_neg, v19]⟩]) (acons (cvt g38) (anil)) (wide_Int_Sign.calls k (a := (⟨y15.1.f_neg, y15.1.f_w⟩ : wide_Int)) (gd_t g38 hy40) (h20.mono e25)))) ?_
  refine w_g (g := !(!decide ((errN y15.2) = 1))) rfl rfl rfl wn_f (fun g43 => d_neq (cvt g43) rfl) ?_
  refine w_d rfl (d_or' (b := (!decide ((errN y15.2) = 1))) (p := (!decide (y39 = 0))) rfl rfl rfl) ?_
  refine w_done ?_
  rcases its he with ⟨c44, he⟩ | ⟨c44, he⟩
  ·
   refine w_then rfl c44 ?_
   refine w_seq ?_
   refine w_region rfl ?_
   refine w_d rfl (d_assign (v := .bool false) rfl) ?_
   refine w_done ?_
   obtain rfl := Option.some.inj he
   refine w_return fn_4 rs_4 (.tmp (v := .bool false) rfl .nil) ?_
   exact ⟨⟨[_, _, _, _], rfl⟩, hle.trans (((e4.trans e11).trans e18).trans e25), rfl⟩
  ·
   refine w_else rfl (Bool.eq_false_iff.2 c44) ?_
   refine w_skip ?_
   refine w_del (.there (.there .here)) ?_
   refine w_del (.there .here) ?_
   refine w_sl 2 (.int .i64 bits) rfl ?_
   refine w_sl 6 (.bool false) rfl ?_
   refine w_sl 7 (.pointer (some ⟨b7, 0, none⟩)) rfl ?_
   refine w_sl 11 (.pointer (some ⟨b28, 0, none⟩)) rfl ?_
   refine w_sl 12 (errV 89 y22.2) rfl ?_
   exact radomelaw01_WideRoots.j1_ok (k := k) (hle.trans (((e4.trans e11).trans e18).trans e25)) (hG.mono (((e4.trans e11).trans e18).trans e25)) he (h6.mono ((e11.trans e18).trans e25)) h27
 ·
  refine w_else rfl (Bool.eq_false_iff.2 c36) ?_
  refine w_seq ?_
  refine w_region rfl ?_
  refine w_d rfl (d_loado (v := .agg ⟨[.bool y15.1.f_neg, v19]⟩) ty30 rfl (.there .here) rfl rfl rfl rfl) ?_
  refine w_d rfl (d_loado (v := .agg ⟨[.bool y15.1.f_neg, v19]⟩) ty30 rfl (.there .here) rfl rfl rfl rfl) ?_
  obtain ⟨y45, hy46, he⟩ := Option.bind_eq_some_iff.1 he
  refine w_a rfl (o_call co11 (vs := [.agg ⟨[.bool y15.1.f_neg, v19]⟩, .agg ⟨[.bool y15.1.f_neg, v19]⟩]) rfl (wide_Int_Mul.calls k (a := (⟨y15.1.f_neg, y15.1.f_w⟩ : wide_Int)) (b := (⟨y15.1.f_neg, y15.1.f_w⟩ : wide_Int)) hy46 (h20.mono e25) (h20.mono e25))) ?_
  rintro _ H47 _ ⟨rfl, e48, ⟨v49, rfl, h50⟩⟩
  refine w_d rfl (d_move (v := .tuple ⟨[.agg ⟨[.bool y45.1.f_neg, v49]⟩, errV 89 y45.2]⟩) rfl) ?_
  refine w_d rfl (d_ext (vs := [.agg ⟨[.bool y45.1.f_neg, v49]⟩, errV 89 y45.2]) rfl rfl) ?_
  refine w_d rfl (d_ext (vs := [.agg ⟨[.bool y45.1.f_neg, v49]⟩, errV 89 y45.2]) rfl rfl) ?_
  refine w_a rfl (o_alloc zr30 rfl) ?_
  rintro _ _ _ ⟨b51, rfl, rfl, rfl⟩
  refine w_a0 rfl (o_store (v := .agg ⟨[.bool y45.1.f_neg, v49]⟩) sz30 rfl rfl rfl rfl (one_cons rfl (one_cons (h50.one) one_nil)) .here (.here (.here .done))) ?_
  rintro _ _ _ ⟨rfl, rfl, rfl⟩
  refine w_d rfl (d_assign (v := errV 89 y45.2) rfl) ?_
  refine w_done ?_
  refine w_seq ?_
  obtain ⟨y52, hy53, he⟩ := Option.bind_eq_some_iff.1 he
  obtain ⟨y58, hy59, he⟩ := Option.bind_eq_some_iff.1 he
  refine w_none (?_)
  refine w_drawn (p := 8) (tl := [8]) [[], [], [(0, some 56), (1, some 57)], [(2, some 58)], [(3, some 55)], [(3, some 55)], [], [(4, some 59), (6, some 15)]] [some 56, some 57, some 58, some 55, some 59, some 60, some 15, none] (fctF (.is (.agg ⟨[.bool y15.1.f_neg, v19]⟩) :: .of (wide_Of.out y52) (wide_Of.out_mono _) :: .of (wide_Int_Add.out y58) (wide_Int_Add.out_mono _) :: .of (fun H v => ∃ v64, v = .tuple ⟨[.agg ⟨[.bool y58.1.f_neg, v64]⟩, errV 89 y58.2]⟩ ∧ Ro (Kd.int .u32) H v64 y58.1.f_w) (by rintro _ _ _ hle ⟨v64, rfl, h65⟩; exact ⟨v64, rfl, h65.mono hle⟩) :: .of (fun H v => ∃ v66, v = .agg ⟨[.bool y58.1.f_neg, v66]⟩ ∧ Ro (Kd.int .u32) H v66 y58.1.f_w) (by rintro _ _ _ hle ⟨v66, rfl, h67⟩; exact ⟨v66, rfl, h67.mono hle⟩) :: .is (errV 89 y58.2) :: .box 30 [.bool false, .slice none 0 0] :: .st 6 (fun H b it => ∃ v69, it = some (b, .cells ⟨[.bool y58.1.f_neg, v69]⟩ 30 (0, 0)) ∧ Ro (Kd.int .u32) H v69 y58.1.f_w) (by rintro _ _ _ _ hle ⟨v69, rfl, h70⟩; exact ⟨v69, rfl, h70.mono hle⟩) :: [])) (fun m_ => pk (m_ 7) (m_ 6) :: some (b51, .cells ⟨[.bool y45.1.f_neg, v49]⟩ 30 (0, 0)) :: some (b28, .cells ⟨[.bool y22.1.f_neg, v26]⟩ 30 (0, 0)) :: some (b21, .cells ⟨[.bool y15.1.f_neg, v19]⟩ 30 (0, 0)) :: some (b14, .cells ⟨[.bool y8.f_neg, v12]⟩ 30 (0, 0)) :: some (b7, .cells ⟨[.bool y1.f_Neg, v5]⟩ 26 (0, 0)) :: L) (fun _ => none) mixed (by kernel_rfl) (by kernel_rfl) rfl (fct_mono (by kernel_rfl)) ⟨(by intro H' m_ hH hm_ hu_; refine depK_nil ?_; exact s_d (m_ 0) rfl (d_loado (v := .agg ⟨[.bool y15.1.f_neg, v19]⟩) ty30 rfl (.there (.there (.there .here))) rfl rfl rfl rfl) (by exact rfl) rfl), (by intro H' m_ hH hm_ hu_; refine depK_nil ?_; exact s_k (m_ 1) rfl (o_call co28 (vs := [.int .i64 1]) rfl (wide_Of.calls k hy53)) rfl (by rintro v_ H_ _ ⟨rfl, e_, h_⟩; exact ⟨rfl, e_, h_⟩)), (by intro H' m_ hH hm_ hu_; rintro _ rfl _ ⟨v56, rfl, h57⟩; refine depK_nil ?_; exact s_k (m_ 2) rfl (o_call co9 (vs := [.agg ⟨[.bool y15.1.f_neg, v19]⟩, .agg ⟨[.bool y52.f_neg, v56]⟩]) rfl (wide_Int_Add.calls k (a := (⟨y15.1.f_neg, y15.1.f_w⟩ : wide_Int)) (b := (⟨y52.f_neg, y52.f_w⟩ : wide_Int)) hy59 (h20.mono ((e25.trans e48).trans hH)) h57)) rfl (by rintro v_ H_ _ ⟨rfl, e_, h_⟩; exact ⟨rfl, e_, h_⟩)), (by intro H' m_ hH hm_ hu_; rintro _ ⟨v62, rfl, h63⟩; refine depK_nil ?_; exact s_d (m_ 3) rfl (d_move (v := .tuple ⟨[.agg ⟨[.bool y58.1.f_neg, v62]⟩, errV 89 y58.2]⟩) rfl) (by exact ⟨v62, rfl, h63⟩) rfl), (by intro H' m_ hH hm_ hu_; rintro _ ⟨v64, rfl, h65⟩; refine depK_nil ?_; exact s_d (m_ 4) rfl (d_ext (vs := [.agg ⟨[.bool y58.1.f_neg, v64]⟩, errV 89 y58.2]) rfl rfl) (by exact ⟨v64, rfl, h65⟩) rfl), (by intro H' m_ hH hm_ hu_; rintro _ ⟨v64, rfl, h65⟩; refine depK_nil ?_; exact s_d (m_ 5) rfl (d_ext (vs := [.agg ⟨[.bool y58.1.f_neg, v64]⟩, errV 89 y58.2]) rfl rfl) (by exact rfl) rfl), (by intro H' m_ hH hm_ hu_; refine depK_nil ?_; exact s_box hm_ rfl rfl (o_alloc zr30 rfl) rfl (fun _ => (pk_upd (hu_ 7 (by kernel_rfl)))) (by exact fun b_ => ⟨b_, rfl, rfl⟩)), (by intro H' m_ hH hm_ hu_; rintro _ ⟨v66, rfl, h67⟩ _ ⟨b68, rfl, hb68_⟩; refine depK_nil ?_; exact s_store2 (Λ' := fun z_ => z_ :: some (b51, .cells ⟨[.bool y45.1.f_neg, v49]⟩ 30 (0, 0)) :: some (b28, .cells ⟨[.bool y22.1.f_neg, v26]⟩ 30 (0, 0)) :: some (b21, .cells ⟨[.bool y15.1.f_neg, v19]⟩ 30 (0, 0)) :: some (b14, .cells ⟨[.bool y8.f_neg, v12]⟩ 30 (0, 0)) :: some (b7, .cells ⟨[.bool y1.f_Neg, v5]⟩ 26 (0, 0)) :: L) (some (b68, .cells ⟨[.bool y58.1.f_neg, v66]⟩ 30 (0, 0))) hm_ rfl hb68_ rfl (o_store (v := .agg ⟨[.bool y58.1.f_neg, v66]⟩) sz30 rfl rfl rfl rfl (one_cons rfl (one_cons (h67.one) one_nil)) .here (.here (.here .done))) rfl rfl (by exact ⟨rfl, v66, congrArg (fun b_ => (some (b_, Obj.cells ⟨[.bool y58.1.f_neg, v66]⟩ 30 (0, 0)) : Item')) (bof_eq hb68_).symm, h67⟩)), trivial⟩ ?_
  intro H73 e74
  rintro _ _ rfl _ _ ⟨v56, rfl, h57⟩ _ _ ⟨v62, rfl, h63⟩ _ _ ⟨v64, rfl, h65⟩ _ _ ⟨v66, rfl, h67⟩ _ _ rfl _ _ ⟨b68, rfl, rfl⟩ _ i71 ⟨rfl, v69, h72, h70⟩
  replace h72 : i71 = some (b68, .cells ⟨[.bool y58.1.f_neg, v69]⟩ 30 (0, 0)) := h72
  subst h72
  refine w_it (L' := some (b68, .cells ⟨[.bool y58.1.f_neg, v69]⟩ 30 (0, 0)) :: some (b51, .cells ⟨[.bool y45.1.f_neg, v49]⟩ 30 (0, 0)) :: some (b28, .cells ⟨[.bool y22.1.f_neg, v26]⟩ 30 (0, 0)) :: some (b21, .cells ⟨[.bool y15.1.f_neg, v19]⟩ 30 (0, 0)) :: some (b14, .cells ⟨[.bool y8.f_neg, v12]⟩ 30 (0, 0)) :: some (b7, .cells ⟨[.bool y1.f_Neg, v5]⟩ 26 (0, 0)) :: L) rfl ?_
  refine w_d rfl (d_assign (v := errV 89 y58.2) rfl) ?_
  refine w_done ?_
  refine w_seq ?_
  refine w_region rfl ?_
  refine w_d rfl (d_loado (v := .agg ⟨[.bool y58.1.f_neg, v69]⟩) ty30 rfl .here rfl rfl rfl rfl) ?_
  refine w_d rfl (d_loado (v := .agg ⟨[.bool y58.1.f_neg, v69]⟩) ty30 rfl .here rfl rfl rfl rfl) ?_
  obtain ⟨y75, hy76, he⟩ := Option.bind_eq_some_iff.1 he
  refine w_a rfl (o_call co11 (vs := [.agg ⟨[.bool y58.1.f_neg, v69]⟩, .agg ⟨[.bool y58.1.f_neg, v69]⟩]) rfl (wide_Int_Mul.calls k (a := (⟨y58.1.f_neg, y58.1.f_w⟩ : wide_Int)) (b := (⟨y58.1.f_neg, y58.1.f_w⟩ : wide_Int)) hy76 h70 h70)) ?_
  rintro _ H77 _ ⟨rfl, e78, ⟨v79, rfl, h80⟩⟩
  refine w_d rfl (d_move (v := .tuple ⟨[.agg ⟨[.bool y75.1.f_neg, v79]⟩, errV 89 y75.2]⟩) rfl) ?_
  refine w_d rfl (d_ext (vs := [.agg ⟨[.bool y75.1.f_neg, v79]⟩, errV 89 y75.2]) rfl rfl) ?_
  refine w_d rfl (d_ext (vs := [.agg ⟨[.bool y75.1.f_neg, v79]⟩, errV 89 y75.2]) rfl rfl) ?_
  refine w_a rfl (o_alloc zr30 rfl) ?_
  rintro _ _ _ ⟨b81, rfl, rfl, rfl⟩
  refine w_a0 rfl (o_store (v := .agg ⟨[.bool y75.1.f_neg, v79]⟩) sz30 rfl rfl rfl rfl (one_cons rfl (one_cons (h80.one) one_nil)) .here (.here (.here .done))) ?_
  rintro _ _ _ ⟨rfl, rfl, rfl⟩
  refine w_d rfl (d_assign (v := errV 89 y75.2) rfl) ?_
  refine w_done ?_
  refine w_seq ?_
  refine w_region rfl ?_
  refine w_d rfl (d_move (v := errV 89 y15.2) rfl) ?_
  refine w_d rfl (d_nenil (e := y15.2) Tryd.underlying33 rfl) ?_
  refine w_d rfl (d_move (v := .bool y15.2.isSome) rfl) ?_
  refine w_g (g := !y15.2.isSome) rfl rfl rfl wn_f (fun g82 => d_move (v := errV 89 y45.2) rfl) ?_
  refine w_g (g := !y15.2.isSome) rfl rfl rfl wn_f (fun g83 => d_nenil (e := y45.2) Tryd.underlying33 (cvt g83)) ?_
  refine w_d rfl (d_or' (b := y15.2.isSome) (p := y45.2.isSome) rfl rfl rfl) ?_
  refine w_d rfl (d_move (v := .bool (y15.2.isSome || y45.2.isSome)) rfl) ?_
  refine w_g (g := !(y15.2.isSome || y45.2.isSome)) rfl rfl rfl wn_f (fun g84 => d_move (v := errV 89 y58.2) rfl) ?_
  refine w_g (g := !(y15.2.isSome || y45.2.isSome)) rfl rfl rfl wn_f (fun g85 => d_nenil (e := y58.2) Tryd.underlying33 (cvt g85)) ?_
  refine w_d rfl (d_or' (b := (y15.2.isSome || y45.2.isSome)) (p := y58.2.isSome) rfl rfl rfl) ?_
  refine w_d rfl (d_move (v := .bool ((y15.2.isSome || y45.2.isSome) || y58.2.isSome)) rfl) ?_
  refine w_g (g := !((y15.2.isSome || y45.2.isSome) || y58.2.isSome)) rfl rfl rfl wn_f (fun g86 => d_move (v := errV 89 y75.2) rfl) ?_
  refine w_g (g := !((y15.2.isSome || y45.2.isSome) || y58.2.isSome)) rfl rfl rfl wn_f (fun g87 => d_nenil (e := y75.2) Tryd.underlying33 (cvt g87)) ?_
  refine w_d rfl (d_or' (b := ((y15.2.isSome || y45.2.isSome) || y58.2.isSome)) (p := y75.2.isSome) rfl rfl rfl) ?_
  refine w_d rfl (d_move (v := .bool (((y15.2.isSome || y45.2.isSome) || y58.2.isSome) || y75.2.isSome)) rfl) ?_
  refine w_g (g := !(((y15.2.isSome || y45.2.isSome) || y58.2.isSome) || y75.2.isSome)) rfl rfl rfl wn_f (fun g88 => d_loado (v := .agg ⟨[.bool y45.1.f_neg, v49]⟩) ty30 rfl (.there (.there .here)) rfl rfl rfl rfl) ?_
  refine w_g (g := !(((y15.2.isSome || y45.2.isSome) || y58.2.isSome) || y75.2.isSome)) rfl rfl rfl wn_f (fun g89 => d_loado (v := .agg ⟨[.bool y8.f_neg, v12]⟩) ty30 rfl (.there (.there (.there (.there (.there .here))))) rfl rfl rfl rfl) ?_
  obtain ⟨y91, hy92, he⟩ := Option.bind_eq_some_iff.1 he
  refine w_g (g := !(((y15.2.isSome || y45.2.isSome) || y58.2.isSome) || y75.2.isSome)) rfl rfl rfl wn_f (fun g90 => call_d (o_call co16 (vs := [.agg ⟨[.bool y45.1.f_neg, v49]⟩, .agg ⟨[.bool y8.f_neg, v12]⟩]) (acons (cvt g90) (acons (cvt g90) (anil))) (wide_Int_Cmp.calls k (a := (⟨y45.1.f_neg, y45.1.f_w⟩ : wide_Int)) (b := (⟨y8.f_neg, y8.f_w⟩ : wide_Int)) (gd_t g90 hy92) (h50.mono (e74.trans e78)) (h13.mono ((((e18.trans e25).trans e48).trans e74).trans e78))))) ?_
  refine w_g (g := !(((y15.2.isSome || y45.2.isSome) || y58.2.isSome) || y75.2.isSome)) rfl rfl rfl wn_f (fun g95 => d_gtr (cvt g95) rfl) ?_
  refine w_d rfl (d_or' (b := (((y15.2.isSome || y45.2.isSome) || y58.2.isSome) || y75.2.isSome)) (p := (decide (0 < y91))) rfl rfl rfl) ?_
  refine w_d rfl (d_move (v := .bool ((((y15.2.isSome || y45.2.isSome) || y58.2.isSome) || y75.2.isSome) || (decide (0 < y91)))) rfl) ?_
  refine w_g (g := !((((y15.2.isSome || y45.2.isSome) || y58.2.isSome) || y75.2.isSome) || (decide (0 < y91)))) rfl rfl rfl wn_f (fun g96 => d_loado (v := .agg ⟨[.bool y75.1.f_neg, v79]⟩) ty30 rfl .here rfl rfl rfl rfl) ?_
  refine w_g (g := !((((y15.2.isSome || y45.2.isSome) || y58.2.isSome) || y75.2.isSome) || (decide (0 < y91)))) rfl rfl rfl wn_f (fun g97 => d_loado (v := .agg ⟨[.bool y8.f_neg, v12]⟩) ty30 rfl (.there (.there (.there (.there (.there .here))))) rfl rfl rfl rfl) ?_
  obtain ⟨y99, hy100, he⟩ := Option.bind_eq_some_iff.1 he
  refine w_g (g := !((((y15.2.isSome || y45.2.isSome) || y58.2.isSome) || y75.2.isSome) || (decide (0 < y91)))) rfl rfl rfl wn_f (fun g98 => call_d (o_call co16 (vs := [.agg ⟨[.bool y75.1.f_neg, v79]⟩, .agg ⟨[.bool y8.f_neg, v12]⟩]) (acons (cvt g98) (acons (cvt g98) (anil))) (wide_Int_Cmp.calls k (a := (⟨y75.1.f_neg, y75.1.f_w⟩ : wide_Int)) (b := (⟨y8.f_neg, y8.f_w⟩ : wide_Int)) (gd_t g98 hy100) h80 (h13.mono ((((e18.trans e25).trans e48).trans e74).trans e78))))) ?_
  refine w_g (g := !((((y15.2.isSome || y45.2.isSome) || y58.2.isSome) || y75.2.isSome) || (decide (0 < y91)))) rfl rfl rfl wn_f (fun g103 => d_leq (cvt g103) rfl) ?_
  refine w_d rfl (d_or' (b := ((((y15.2.isSome || y45.2.isSome) || y58.2.isSome) || y75.2.isSome) || (decide (0 < y91)))) (p := (decide (y99 ≤ 0))) rfl rfl rfl) ?_
  refine w_d rfl (d_move (v := .bool (((((y15.2.isSome || y45.2.isSome) || y58.2.isSome) || y75.2.isSome) || (decide (0 < y91))) || (decide (y99 ≤ 0)))) rfl) ?_
  refine w_g (g := !(((((y15.2.isSome || y45.2.isSome) || y58.2.isSome) || y75.2.isSome) || (decide (0 < y91))) || (decide (y99 ≤ 0)))) rfl rfl rfl wn_f (fun g104 => d_loado (v := .agg ⟨[.bool y15.1.f_neg, v19]⟩) ty30 rfl (.there (.there (.there (.there .here)))) rfl rfl rfl rfl) ?_
  obtain ⟨y106, hy107, he⟩ := Option.bind_eq_some_iff.1 he
  refine w_g (g := !(((((y15.2.isSome || y45.2.isSome) || y58.2.isSome) || y75.2.isSome) || (decide (0 < y91))) || (decide (y99 ≤ 0)))) rfl rfl rfl wn_f (fun g105 => call_d (o_call co18 (vs := [.agg ⟨[.bool y15.1.f_neg, v19]⟩]) (acons (cvt g105) (anil)) (wide_Int_Sign.calls k (a := (⟨y15.1.f_neg, y15.1.f_w⟩ : wide_Int)) (gd_t g105 hy107) (h20.mono (((e25.trans e48).trans e74).trans e78))))) ?_
  refine w_g (g := !(((((y15.2.isSome || y45.2.isSome) || y58.2.isSome) || y75.2.isSome) || (decide (0 < y91))) || (decide (y99 ≤ 0)))) rfl rfl rfl wn_f (fun g110 => d_lss (cvt g110) rfl) ?_
  refine w_d rfl (d_or' (b := (((((y15.2.isSome || y45.2.isSome) || y58.2.isSome) || y75.2.isSome) || (decide (0 < y91))) || (decide (y99 ≤ 0)))) (p := (decide (y106 < 0))) rfl rfl rfl) ?_
  refine w_done ?_
  rcases its he with ⟨c111, he⟩ | ⟨c111, he⟩
  ·
   refine w_then rfl c111 ?_
   refine w_seq ?_
   refine w_region rfl ?_
   refine w_d rfl (d_assign (v := .bool false) rfl) ?_
   refine w_done ?_
   obtain rfl := Option.some.inj he
   refine w_return fn_4 rs_4 (.tmp (v := .bool false) rfl .nil) ?_
   exact ⟨⟨[_, _, _, _, _, _, _], rfl⟩, hle.trans ((((((e4.trans e11).trans e18).trans e25).trans e48).trans e74).trans e78), rfl⟩
  ·
   refine w_else rfl (Bool.eq_false_iff.2 c111) ?_
   refine w_skip ?_
   refine w_del (.there (.there (.there (.there (.there .here))))) ?_
   refine w_del (.there (.there (.there (.there .here)))) ?_
   refine w_del (.there (.there .here)) ?_
   refine w_del (.there .here) ?_
   refine w_del .here ?_
   refine w_sl 2 (.int .i64 bits) rfl ?_
   refine w_sl 6 (.bool false) rfl ?_
   refine w_sl 7 (.pointer (some ⟨b7, 0, none⟩)) rfl ?_
   refine w_sl 11 (.pointer (some ⟨b28, 0, none⟩)) rfl ?_
   refine w_sl 12 (errV 89 y22.2) rfl ?_
   exact radomelaw01_WideRoots.j1_ok (k := k) (hle.trans ((((((e4.trans e11).trans e18).trans e25).trans e48).trans e74).trans e78)) (hG.mono ((((((e4.trans e11).trans e18).trans e25).trans e48).trans e74).trans e78)) he (h6.mono (((((e11.trans e18).trans e25).trans e48).trans e74).trans e78)) (h27.mono ((e48.trans e74).trans e78))
end Go.Proofs.YtmnhbbckndlnkaaDoor.GWR

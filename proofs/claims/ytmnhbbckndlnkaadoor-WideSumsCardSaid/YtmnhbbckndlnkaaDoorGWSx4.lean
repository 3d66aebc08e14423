/- A text of this session, written by a program (wip/k/gen.py): Go functions as Lean functions, and proofs that the code comes to them. -/
import Derived.Test.YtmnhbbckndlnkaaDoorGWSx3
namespace Go.Proofs.YtmnhbbckndlnkaaDoor.GWS
open Go Go.RowKit Go.Proofs.YtmnhbbckndlnkaaDoorK Go.Proofs.YtmnhbbckndlnkaaDoor
set_option linter.unusedVariables false
set_option linter.unusedSimpArgs false
/-! ### radome/radomeref01.Div -/
noncomputable def radomeref01_Div.C : Code := (Tryd.f25.body).getD .skip
def radomeref01_Div.out (r : radomeref01_Num × radomeref01_Num) (H : Hp) (v : Value) : Prop := ∃ v0, ∃ v1, v = .tuple ⟨[.agg ⟨[.bool r.1.f_Neg, v0]⟩, .agg ⟨[.bool r.2.f_Neg, v1]⟩]⟩ ∧ Ro (Kd.int .i64) H v0 r.1.f_D ∧ Ro (Kd.int .i64) H v1 r.2.f_D
theorem radomeref01_Div.out_mono (r : radomeref01_Num × radomeref01_Num) {H H' : Hp} {v : Value} (hle : H.le H') (h : radomeref01_Div.out r H v) : radomeref01_Div.out r H' v := by
 obtain ⟨v0, v1, rfl, h0, h1⟩ := h; exact ⟨v0, v1, rfl, h0.mono hle, h1.mono hle⟩
abbrev radomeref01_Div.R (H0 : Hp) (L : Items) (r : radomeref01_Num × radomeref01_Num) : Value → Hp → Items → Prop := fun v H' L' => (∃ p, L' = p ++ L) ∧ H0.le H' ∧ radomeref01_Div.out r H' v
structure radomeref01_Div.Hs where
 l0 : Bool → (List Int) → Bool → (List Int) → (List Int) → (List Int) → Int → Option (radomeref01_Num × radomeref01_Num)
 l1 : Bool → (List Int) → Bool → (List Int) → (List Int) → (List Int) → Int → Option (radomeref01_Num × radomeref01_Num)
noncomputable def radomeref01_Div.b0 (k : Nat) (h : radomeref01_Div.Hs)  (a_0 : Bool) (a_1 : List Int) (b_0 : Bool) (b_1 : List Int) (rest : List Int) (q : List Int) (i : Int) : Option (radomeref01_Num × radomeref01_Num) := if 0 ≤ i then (if (0 : Int) ≤ i ∧ i < (a_1.length : Int) then (if [rd a_1 i].length + rest.length ≤ 17592186044288 then ((radomeref01_trim.f k ([rd a_1 i] ++ rest)).bind fun y21 => h.l1 a_0 a_1 b_0 b_1 y21 q i) else none) else none) else ((radomeref01_trim.f k q).bind fun y30 => (radomeref01_num.f k (!(a_0 == b_0)) y30).bind fun y36 => (radomeref01_num.f k false rest).bind fun y45 => if (a_0 && (decide (0 < (rest.length : Int)))) = true then ((radomeref01_minus.f k b_1 rest).bind fun y56 => (radomeref01_num.f k false y56).bind fun y62 => if b_0 = true then ((radomeref01_Of.f k 1).bind fun y69 => (radomeref01_Add.f k (⟨y36.f_Neg, y36.f_D⟩ : radomeref01_Num) (⟨y69.f_Neg, y69.f_D⟩ : radomeref01_Num)).bind fun y77 => some ((⟨y77.f_Neg, y77.f_D⟩ : radomeref01_Num), (⟨y62.f_Neg, y62.f_D⟩ : radomeref01_Num))) else ((radomeref01_Of.f k 1).bind fun y85 => (radomeref01_Sub.f k (⟨y36.f_Neg, y36.f_D⟩ : radomeref01_Num) (⟨y85.f_Neg, y85.f_D⟩ : radomeref01_Num)).bind fun y93 => some ((⟨y93.f_Neg, y93.f_D⟩ : radomeref01_Num), (⟨y62.f_Neg, y62.f_D⟩ : radomeref01_Num)))) else (some ((⟨y36.f_Neg, y36.f_D⟩ : radomeref01_Num), (⟨y45.f_Neg, y45.f_D⟩ : radomeref01_Num))))
noncomputable def radomeref01_Div.b1 (k : Nat) (h : radomeref01_Div.Hs)  (a_0 : Bool) (a_1 : List Int) (b_0 : Bool) (b_1 : List Int) (rest : List Int) (q : List Int) (i : Int) : Option (radomeref01_Num × radomeref01_Num) := (radomeref01_Less.f k rest b_1).bind fun y103 => if (!y103) = true then ((radomeref01_minus.f k rest b_1).bind fun y108 => if (0 : Int) ≤ i ∧ i < (q.length : Int) then (if (0 : Int) ≤ i ∧ i < (q.length : Int) then (h.l1 a_0 a_1 b_0 b_1 y108 (q.set (i : Int).toNat (w64 ((rd q i) + 1))) i) else none) else none) else (h.l0 a_0 a_1 b_0 b_1 rest q (w64 (i - 1)))
noncomputable def radomeref01_Div.hs : Nat → radomeref01_Div.Hs
 | 0 => ⟨fun _ _ _ _ _ _ _ => none, fun _ _ _ _ _ _ _ => none⟩
 | k + 1 => ⟨fun x0 x1 x2 x3 x4 x5 x6 => radomeref01_Div.b0 k (radomeref01_Div.hs k) x0 x1 x2 x3 x4 x5 x6, fun x0 x1 x2 x3 x4 x5 x6 => radomeref01_Div.b1 k (radomeref01_Div.hs k) x0 x1 x2 x3 x4 x5 x6⟩
noncomputable def radomeref01_Div.f (k : Nat) (a : radomeref01_Num) (b : radomeref01_Num) : Option (radomeref01_Num × radomeref01_Num) := (fun h : radomeref01_Div.Hs => if 0 ≤ (a.f_D.length : Int) ∧ (a.f_D.length : Int) ≤ 35184372088832 then (h.l0 a.f_Neg a.f_D b.f_Neg b.f_D [] (List.replicate ((a.f_D.length : Int) : Int).toNat (0 : Int)) (w64 ((a.f_D.length : Int) - 1))) else none) (radomeref01_Div.hs k)
structure radomeref01_Div.LE (h h' : radomeref01_Div.Hs) : Prop where
 l0 : ∀ y0 y1 y2 y3 y4 y5 y6, LeO (h.l0 y0 y1 y2 y3 y4 y5 y6) (h'.l0 y0 y1 y2 y3 y4 y5 y6)
 l1 : ∀ y0 y1 y2 y3 y4 y5 y6, LeO (h.l1 y0 y1 y2 y3 y4 y5 y6) (h'.l1 y0 y1 y2 y3 y4 y5 y6)
theorem radomeref01_Div.b0_mono {k : Nat} {h h' : radomeref01_Div.Hs} (hl : radomeref01_Div.LE h h') : ∀ y0 y1 y2 y3 y4 y5 y6, LeO (radomeref01_Div.b0 k h y0 y1 y2 y3 y4 y5 y6) (radomeref01_Div.b0 (k + 1) h' y0 y1 y2 y3 y4 y5 y6) := fun _ _ _ _ _ _ _ => (LeO.ite (LeO.ite (LeO.ite (LeO.bind (radomeref01_trim.mono k _) fun _ => hl.l1 _ _ _ _ _ _ _) (LeO.refl _)) (LeO.refl _)) (LeO.bind (radomeref01_trim.mono k _) fun _ => LeO.bind (radomeref01_num.mono k _ _) fun _ => LeO.bind (radomeref01_num.mono k _ _) fun _ => LeO.ite (LeO.bind (radomeref01_minus.mono k _ _) fun _ => LeO.bind (radomeref01_num.mono k _ _) fun _ => LeO.ite (LeO.bind (radomeref01_Of.mono k _) fun _ => LeO.bind (radomeref01_Add.mono k _ _) fun _ => LeO.refl _) (LeO.bind (radomeref01_Of.mono k _) fun _ => LeO.bind (radomeref01_Sub.mono k _ _) fun _ => LeO.refl _)) (LeO.refl _)))
theorem radomeref01_Div.b1_mono {k : Nat} {h h' : radomeref01_Div.Hs} (hl : radomeref01_Div.LE h h') : ∀ y0 y1 y2 y3 y4 y5 y6, LeO (radomeref01_Div.b1 k h y0 y1 y2 y3 y4 y5 y6) (radomeref01_Div.b1 (k + 1) h' y0 y1 y2 y3 y4 y5 y6) := fun _ _ _ _ _ _ _ => (LeO.bind (radomeref01_Less.mono k _ _) fun _ => LeO.ite (LeO.bind (radomeref01_minus.mono k _ _) fun _ => LeO.ite (LeO.ite (hl.l1 _ _ _ _ _ _ _) (LeO.refl _)) (LeO.refl _)) (hl.l0 _ _ _ _ _ _ _))
theorem radomeref01_Div.hs_mono : ∀ k, radomeref01_Div.LE (radomeref01_Div.hs k) (radomeref01_Div.hs (k + 1))
 | 0 => ⟨fun _ _ _ _ _ _ _ => LeO.none _, fun _ _ _ _ _ _ _ => LeO.none _⟩
 | k + 1 => ⟨radomeref01_Div.b0_mono (k := k) (radomeref01_Div.hs_mono k), radomeref01_Div.b1_mono (k := k) (radomeref01_Div.hs_mono k)⟩
theorem radomeref01_Div.mono : ∀ k y0 y1, LeO (radomeref01_Div.f k y0 y1) (radomeref01_Div.f (k + 1) y0 y1) := fun k _ _ => have hl := radomeref01_Div.hs_mono k; by unfold radomeref01_Div.f; exact (LeO.ite (hl.l0 _ _ _ _ _ _ _) (LeO.refl _))
noncomputable def radomeref01_Div.Kl0 : List Item := .code (lopB (blkB (seqR (seqL (seqR (seqR (seqR radomeref01_Div.C))))))) :: .inLoop (lopB (blkB (seqR (seqL (seqR (seqR (seqR radomeref01_Div.C))))))) :: .inBlock 0 :: .code (seqR (seqR (seqR (seqR radomeref01_Div.C)))) :: []
noncomputable def radomeref01_Div.Kl1 : List Item := .code (lopB (blkB (seqR (blkB (seqL (seqR (lopB (blkB (seqR (seqL (seqR (seqR (seqR radomeref01_Div.C))))))))))))) :: .inLoop (lopB (blkB (seqR (blkB (seqL (seqR (lopB (blkB (seqR (seqL (seqR (seqR (seqR radomeref01_Div.C))))))))))))) :: .inBlock 2 :: .inBlock 1 :: .code (seqR (seqR (lopB (blkB (seqR (seqL (seqR (seqR (seqR radomeref01_Div.C))))))))) :: .inLoop (lopB (blkB (seqR (seqL (seqR (seqR (seqR radomeref01_Div.C))))))) :: .inBlock 0 :: .code (seqR (seqR (seqR (seqR radomeref01_Div.C)))) :: []
structure radomeref01_Div.OK (h : radomeref01_Div.Hs) : Prop where
 l0 : ∀ {H0 H : Hp} {L : Items} {r : radomeref01_Num × radomeref01_Num} {jk_ : Nat → Value} {a_0 : Bool} {a_1 : List Int} {b_0 : Bool} {b_1 : List Int} {rest : List Int} {q : List Int} {i : Int} {v_a_1 : Value} {v_b_1 : Value} {v_rest : Value} {v_q : Value} {i_q : Item'} {b_a : Nat} {b_b : Nat} {b_t4 : Nat} {b_t5 : Nat} (_ : H0.le H) (_he : h.l0 a_0 a_1 b_0 b_1 rest q i = some r) (_h_a_1 : Ro (Kd.int .i64) H v_a_1 a_1) (_h_b_1 : Ro (Kd.int .i64) H v_b_1 b_1) (_h_rest : Ro (Kd.int .i64) H v_rest rest) (_h_q : Sl (Kd.int .i64) H 3 i_q v_q q), Wp Tryd.prog 25 79 radomeref01_Div.Kl0 (upd (upd (upd (upd (upd (upd (upd jk_ 2 (.pointer (some ⟨b_a, 0, none⟩))) 3 (.pointer (some ⟨b_b, 0, none⟩))) 4 (.pointer (some ⟨b_t4, 0, none⟩))) 5 (.pointer (some ⟨b_t5, 0, none⟩))) 6 (v_rest)) 7 (v_q)) 8 (.int .i64 i)) H (i_q :: some (b_t5, .cells ⟨[.bool false, .slice none 0 0]⟩ 26 (0, 0)) :: some (b_t4, .cells ⟨[.bool false, .slice none 0 0]⟩ 26 (0, 0)) :: some (b_b, .cells ⟨[.bool b_0, v_b_1]⟩ 26 (0, 0)) :: some (b_a, .cells ⟨[.bool a_0, v_a_1]⟩ 26 (0, 0)) :: L) (radomeref01_Div.R H0 L r)
 l1 : ∀ {H0 H : Hp} {L : Items} {r : radomeref01_Num × radomeref01_Num} {jk_ : Nat → Value} {a_0 : Bool} {a_1 : List Int} {b_0 : Bool} {b_1 : List Int} {rest : List Int} {q : List Int} {i : Int} {v_a_1 : Value} {v_b_1 : Value} {v_rest : Value} {v_q : Value} {i_q : Item'} {b_a : Nat} {b_b : Nat} {b_t4 : Nat} {b_t5 : Nat} (_ : H0.le H) (_he : h.l1 a_0 a_1 b_0 b_1 rest q i = some r) (_h_a_1 : Ro (Kd.int .i64) H v_a_1 a_1) (_h_b_1 : Ro (Kd.int .i64) H v_b_1 b_1) (_h_rest : Ro (Kd.int .i64) H v_rest rest) (_h_q : Sl (Kd.int .i64) H 3 i_q v_q q), Wp Tryd.prog 25 79 radomeref01_Div.Kl1 (upd (upd (upd (upd (upd (upd (upd jk_ 2 (.pointer (some ⟨b_a, 0, none⟩))) 3 (.pointer (some ⟨b_b, 0, none⟩))) 4 (.pointer (some ⟨b_t4, 0, none⟩))) 5 (.pointer (some ⟨b_t5, 0, none⟩))) 6 (v_rest)) 7 (v_q)) 8 (.int .i64 i)) H (i_q :: some (b_t5, .cells ⟨[.bool false, .slice none 0 0]⟩ 26 (0, 0)) :: some (b_t4, .cells ⟨[.bool false, .slice none 0 0]⟩ 26 (0, 0)) :: some (b_b, .cells ⟨[.bool b_0, v_b_1]⟩ 26 (0, 0)) :: some (b_a, .cells ⟨[.bool a_0, v_a_1]⟩ 26 (0, 0)) :: L) (radomeref01_Div.R H0 L r)
set_option maxRecDepth 100000 in
set_option maxHeartbeats 2000000 in
theorem radomeref01_Div.b0_ok {k : Nat} {h : radomeref01_Div.Hs} (hh : radomeref01_Div.OK h) {H0 H : Hp} {L : Items} {r : radomeref01_Num × radomeref01_Num} {jk_ : Nat → Value} {a_0 : Bool} {a_1 : List Int} {b_0 : Bool} {b_1 : List Int} {rest : List Int} {q : List Int} {i : Int} {v_a_1 : Value} {v_b_1 : Value} {v_rest : Value} {v_q : Value} {i_q : Item'} {b_a : Nat} {b_b : Nat} {b_t4 : Nat} {b_t5 : Nat} (hle : H0.le H) (he : radomeref01_Div.b0 k h a_0 a_1 b_0 b_1 rest q i = some r) (h_a_1 : Ro (Kd.int .i64) H v_a_1 a_1) (h_b_1 : Ro (Kd.int .i64) H v_b_1 b_1) (h_rest : Ro (Kd.int .i64) H v_rest rest) (h_q : Sl (Kd.int .i64) H 3 i_q v_q q) : Wp Tryd.prog 25 79 radomeref01_Div.Kl0 (upd (upd (upd (upd (upd (upd (upd jk_ 2 (.pointer (some ⟨b_a, 0, none⟩))) 3 (.pointer (some ⟨b_b, 0, none⟩))) 4 (.pointer (some ⟨b_t4, 0, none⟩))) 5 (.pointer (some ⟨b_t5, 0, none⟩))) 6 (v_rest)) 7 (v_q)) 8 (.int .i64 i)) H (i_q :: some (b_t5, .cells ⟨[.bool false, .slice none 0 0]⟩ 26 (0, 0)) :: some (b_t4, .cells ⟨[.bool false, .slice none 0 0]⟩ 26 (0, 0)) :: some (b_b, .cells ⟨[.bool b_0, v_b_1]⟩ 26 (0, 0)) :: some (b_a, .cells ⟨[.bool a_0, v_a_1]⟩ 26 (0, 0)) :: L) (radomeref01_Div.R H0 L r) := by
 unfold radomeref01_Div.b0 at he
 unfold radomeref01_Div.Kl0
 refine w_seq ?_
 refine w_seq ?_
 refine w_region rfl ?_
 refine w_d rfl (d_move (v := .int .i64 i) rfl) ?_
 refine w_d rfl (d_geq rfl rfl) ?_
 refine w_done ?_
 rcases its he with ⟨c9, he⟩ | ⟨c9, he⟩
 ·
  refine w_then rfl (decide_eq_true c9) ?_
  refine w_skip ?_
  refine w_seq ?_
  refine w_block ?_
  refine w_seq ?_
  refine w_region rfl ?_
  refine w_d rfl (d_fld (o' := 1) Tryd.underlying26 rfl sz24 rfl rfl rfl) ?_
  refine w_d rfl (d_loado (v := v_a_1) ty24 rfl (.there (.there (.there (.there .here)))) rfl rfl rfl rfl) ?_
  refine w_d rfl (d_move (v := .int .i64 i) rfl) ?_
  obtain ⟨c10, he⟩ := rq he
  refine w_d rfl (d_index (sz := 1) Tryd.underlying24 sz3 rfl h_a_1.src rfl c10) ?_
  refine w_d rfl (d_ldint ty3 rfl h_a_1.src c10) ?_
  refine w_a rfl (o_buildSlice' (kd := (Kd.int .i64)) (css := [[.int .i64 (rd a_1 i)]]) (xs := [rd a_1 i]) (parts := [(0, .int .i64 (rd a_1 i))]) Tryd.underlying24 ti3 rfl ⟨_, _, rfl, rfl, rfl⟩ ⟨rfl, trivial⟩ rfl (by decide)) ?_
  rintro v11 _ _ ⟨i12, rfl, rfl, h13⟩
  refine w_d rfl (d_move (v := v_rest) rfl) ?_
  obtain ⟨c14, he⟩ := rq he
  refine w_a rfl (o_append' (kd := (Kd.int .i64)) (F := fun z_ => z_ :: i_q :: some (b_t5, .cells ⟨[.bool false, .slice none 0 0]⟩ 26 (0, 0)) :: some (b_t4, .cells ⟨[.bool false, .slice none 0 0]⟩ 26 (0, 0)) :: some (b_b, .cells ⟨[.bool b_0, v_b_1]⟩ 26 (0, 0)) :: some (b_a, .cells ⟨[.bool a_0, v_a_1]⟩ 26 (0, 0)) :: L) Tryd.underlying24 Tryd.underlying24 ti3 rfl (by first | omega | (simp only [List.nil_append, List.length_cons, List.length_nil]; omega)) rfl rfl h13 h_rest.src (fun _ => .here)) ?_
  rintro v15 _ _ ⟨i16, rfl, rfl, h17⟩
  refine w_freeze h17 .here ?_
  intro H18 e19 h20
  obtain ⟨y21, hy22, he⟩ := Option.bind_eq_some_iff.1 he
  refine w_a rfl (o_call co55 (vs := [v15]) rfl (radomeref01_trim.calls k hy22 h20)) ?_
  rintro v25 H23 _ ⟨rfl, e24, h26⟩
  refine w_d rfl (d_assign (v := v25) rfl) ?_
  refine w_done ?_
  refine w_block ?_
  refine w_loop ?_
  refine w_del .here ?_
  refine w_sl 2 (.pointer (some ⟨b_a, 0, none⟩)) rfl ?_
  refine w_sl 3 (.pointer (some ⟨b_b, 0, none⟩)) rfl ?_
  refine w_sl 4 (.pointer (some ⟨b_t4, 0, none⟩)) rfl ?_
  refine w_sl 5 (.pointer (some ⟨b_t5, 0, none⟩)) rfl ?_
  refine w_sl 6 (v25) rfl ?_
  refine w_sl 7 (v_q) rfl ?_
  refine w_sl 8 (.int .i64 i) rfl ?_
  exact hh.l1 (hle.trans (e19.trans e24)) he (h_a_1.mono (e19.trans e24)) (h_b_1.mono (e19.trans e24)) h26 (h_q.mono (e19.trans e24))
 ·
  refine w_else rfl (decide_eq_false c9) ?_
  refine w_exit rfl ?_
  refine w_seq ?_
  refine w_freeze h_q .here ?_
  intro H27 e28 h29
  obtain ⟨y30, hy31, he⟩ := Option.bind_eq_some_iff.1 he
  obtain ⟨y36, hy37, he⟩ := Option.bind_eq_some_iff.1 he
  refine w_none (?_)
  refine w_drawn (p := 9) (tl := [9]) [[], [(0, some 47)], [], [(2, some 49)], [(1, some 48), (3, some 50)], [], [(5, some 52)], [(4, some 51), (6, some 53)], []] [some 47, some 48, some 49, some 50, some 51, some 52, some 53, some 54, some 9] (fctF (.is (.pointer (some ⟨b_a, 0, none⟩)) :: .is (.bool a_0) :: .is (.pointer (some ⟨b_b, 0, none⟩)) :: .is (.bool b_0) :: .is (.bool (!(a_0 == b_0))) :: .is (v_q) :: .ro (Kd.int .i64) (y30) :: .of (radomeref01_num.out y36) (radomeref01_num.out_mono _) :: .box 26 [.bool false, .slice none 0 0] :: [])) (fun m_ => m_ 8 :: none :: some (b_t5, .cells ⟨[.bool false, .slice none 0 0]⟩ 26 (0, 0)) :: some (b_t4, .cells ⟨[.bool false, .slice none 0 0]⟩ 26 (0, 0)) :: some (b_b, .cells ⟨[.bool b_0, v_b_1]⟩ 26 (0, 0)) :: some (b_a, .cells ⟨[.bool a_0, v_a_1]⟩ 26 (0, 0)) :: L) (fun _ => none) mixed (by kernel_rfl) (by kernel_rfl) rfl (fct_mono (by kernel_rfl)) ⟨(by intro H' m_ hH hm_ hu_; refine depK_nil ?_; exact s_d (m_ 0) rfl (d_fld (o' := 0) Tryd.underlying26 rfl sz4 rfl rfl rfl) (by exact rfl) rfl), (by intro H' m_ hH hm_ hu_; rintro _ rfl; refine depK_nil ?_; exact s_d (m_ 1) rfl (d_loado (v := .bool a_0) ty4 rfl (.there (.there (.there (.there (.there .here))))) rfl rfl rfl rfl) (by exact rfl) rfl), (by intro H' m_ hH hm_ hu_; refine depK_nil ?_; exact s_d (m_ 2) rfl (d_fld (o' := 0) Tryd.underlying26 rfl sz4 rfl rfl rfl) (by exact rfl) rfl), (by intro H' m_ hH hm_ hu_; rintro _ rfl; refine depK_nil ?_; exact s_d (m_ 3) rfl (d_loado (v := .bool b_0) ty4 rfl (.there (.there (.there (.there .here)))) rfl rfl rfl rfl) (by exact rfl) rfl), (by intro H' m_ hH hm_ hu_; rintro _ rfl _ rfl; refine depK_nil ?_; exact s_d (m_ 4) rfl (d_neb (a := a_0) (b := b_0) Tryd.underlying4 rfl rfl) (by exact rfl) rfl), (by intro H' m_ hH hm_ hu_; refine depK_nil ?_; exact s_d (m_ 5) rfl (d_move (v := v_q) rfl) (by exact rfl) rfl), (by intro H' m_ hH hm_ hu_; rintro _ rfl; refine depK_nil ?_; exact s_k (m_ 6) rfl (o_call co55 (vs := [v_q]) rfl (radomeref01_trim.calls k hy31 (h29.mono hH))) rfl (by rintro v_ H_ _ ⟨rfl, e_, h_⟩; exact ⟨rfl, e_, h_⟩)), (by intro H' m_ hH hm_ hu_; rintro _ rfl v34 (h35 : Ro (Kd.int .i64) H' v34 y30); refine depK_nil ?_; exact s_k (m_ 7) rfl (o_call co51 (vs := [.bool (!(a_0 == b_0)), v34]) rfl (radomeref01_num.calls k hy37 h35)) rfl (by rintro v_ H_ _ ⟨rfl, e_, h_⟩; exact ⟨rfl, e_, h_⟩)), (by intro H' m_ hH hm_ hu_; refine depK_nil ?_; exact s_box hm_ rfl rfl (o_alloc zr26 rfl) rfl (fun _ => .here) (by exact fun b_ => ⟨b_, rfl, rfl⟩)), trivial⟩ ?_
  intro H43 e44
  rintro _ _ rfl _ _ rfl _ _ rfl _ _ rfl _ _ rfl _ _ rfl v34 _ (h35 : Ro (Kd.int .i64) H43 v34 y30) _ _ ⟨v40, rfl, h41⟩ _ _ ⟨b42, rfl, rfl⟩
  refine w_a0 rfl (o_store (v := .agg ⟨[.bool y36.f_Neg, v40]⟩) sz26 rfl rfl rfl rfl (one_cons rfl (one_cons (h41.one) one_nil)) .here (.here (.here .done))) ?_
  rintro _ _ _ ⟨rfl, rfl, rfl⟩
  refine w_done ?_
  refine w_seq ?_
  refine w_region rfl ?_
  refine w_d rfl (d_move (v := v_rest) rfl) ?_
  obtain ⟨y45, hy46, he⟩ := Option.bind_eq_some_iff.1 he
  refine w_a rfl (o_call co51 (vs := [.bool false, v_rest]) rfl (radomeref01_num.calls k hy46 (h_rest.mono (e28.trans e44)))) ?_
  rintro _ H47 _ ⟨rfl, e48, ⟨v49, rfl, h50⟩⟩
  refine w_a rfl (o_alloc zr26 rfl) ?_
  rintro _ _ _ ⟨b51, rfl, rfl, rfl⟩
  refine w_a0 rfl (o_store (v := .agg ⟨[.bool y45.f_Neg, v49]⟩) sz26 rfl rfl rfl rfl (one_cons rfl (one_cons (h50.one) one_nil)) .here (.here (.here .done))) ?_
  rintro _ _ _ ⟨rfl, rfl, rfl⟩
  refine w_done ?_
  refine w_seq ?_
  refine w_seq ?_
  refine w_region rfl ?_
  refine w_d rfl (d_fld (o' := 0) Tryd.underlying26 rfl sz4 rfl rfl rfl) ?_
  refine w_d rfl (d_loado (v := .bool a_0) ty4 rfl (.there (.there (.there (.there (.there (.there .here)))))) rfl rfl rfl rfl) ?_
  refine w_d rfl (d_move (v := .bool a_0) rfl) ?_
  refine w_g (g := a_0) rfl rfl rfl wn_t (fun g52 => d_move (v := v_rest) rfl) ?_
  refine w_g (g := a_0) rfl rfl rfl wn_t (fun g53 => d_len Tryd.underlying24 (cvt g53) (h_rest.mono ((e28.trans e44).trans e48)).src) ?_
  refine w_g (g := a_0) rfl rfl rfl wn_t (fun g54 => d_gtr (cvt g54) rfl) ?_
  refine w_d rfl (d_and' (b := a_0) (p := (decide (0 < (rest.length : Int)))) rfl rfl rfl) ?_
  refine w_done ?_
  rcases its he with ⟨c55, he⟩ | ⟨c55, he⟩
  ·
   refine w_then rfl c55 ?_
   refine w_seq ?_
   refine w_region rfl ?_
   refine w_d rfl (d_fld (o' := 1) Tryd.underlying26 rfl sz24 rfl rfl rfl) ?_
   refine w_d rfl (d_loado (v := v_b_1) ty24 rfl (.there (.there (.there (.there (.there .here))))) rfl rfl rfl rfl) ?_
   refine w_d rfl (d_move (v := v_rest) rfl) ?_
   obtain ⟨y56, hy57, he⟩ := Option.bind_eq_some_iff.1 he
   refine w_a rfl (o_call co54 (vs := [v_b_1, v_rest]) rfl (radomeref01_minus.calls k hy57 ((h_b_1.mono ((e28.trans e44).trans e48)).src) ((h_rest.mono ((e28.trans e44).trans e48)).src))) ?_
   rintro v60 H58 _ ⟨rfl, e59, h61⟩
   obtain ⟨y62, hy63, he⟩ := Option.bind_eq_some_iff.1 he
   refine w_a rfl (o_call co51 (vs := [.bool false, v60]) rfl (radomeref01_num.calls k hy63 h61)) ?_
   rintro _ H64 _ ⟨rfl, e65, ⟨v66, rfl, h67⟩⟩
   refine w_a0 rfl (o_store (v := .agg ⟨[.bool y62.f_Neg, v66]⟩) sz26 rfl rfl rfl rfl (one_cons rfl (one_cons (h67.one) one_nil)) .here (.here (.here .done))) ?_
   rintro _ _ _ ⟨rfl, rfl, rfl⟩
   refine w_done ?_
   refine w_seq ?_
   refine w_region rfl ?_
   refine w_d rfl (d_fld (o' := 0) Tryd.underlying26 rfl sz4 rfl rfl rfl) ?_
   refine w_d rfl (d_loado (v := .bool b_0) ty4 rfl (.there (.there (.there (.there (.there .here))))) rfl rfl rfl rfl) ?_
   refine w_done ?_
   rcases its he with ⟨c68, he⟩ | ⟨c68, he⟩
   ·
    refine w_then rfl c68 ?_
    obtain ⟨y69, hy70, he⟩ := Option.bind_eq_some_iff.1 he
    refine w_drawn (p := 2) (tl := [2, 3]) [[], []] [some 71, some 72] (fctF (.is (.agg ⟨[.bool y36.f_Neg, v40]⟩) :: .of (radomeref01_Of.out y69) (radomeref01_Of.out_mono _) :: [])) (fun m_ => some (b51, .cells ⟨[.bool y62.f_Neg, v66]⟩ 26 (0, 0)) :: some (b42, .cells ⟨[.bool y36.f_Neg, v40]⟩ 26 (0, 0)) :: none :: some (b_t5, .cells ⟨[.bool false, .slice none 0 0]⟩ 26 (0, 0)) :: some (b_t4, .cells ⟨[.bool false, .slice none 0 0]⟩ 26 (0, 0)) :: some (b_b, .cells ⟨[.bool b_0, v_b_1]⟩ 26 (0, 0)) :: some (b_a, .cells ⟨[.bool a_0, v_a_1]⟩ 26 (0, 0)) :: L) (fun _ => none) mixed (by kernel_rfl) (by kernel_rfl) rfl (fct_mono (by kernel_rfl)) ⟨(by intro H' m_ hH hm_ hu_; refine depK_nil ?_; exact s_d (m_ 0) rfl (d_loado (v := .agg ⟨[.bool y36.f_Neg, v40]⟩) ty26 rfl (.there .here) rfl rfl rfl rfl) (by exact rfl) rfl), (by intro H' m_ hH hm_ hu_; refine depK_nil ?_; exact s_k (m_ 1) rfl (o_call co42 (vs := [.int .i64 1]) rfl (radomeref01_Of.calls k hy70)) rfl (by rintro v_ H_ _ ⟨rfl, e_, h_⟩; exact ⟨rfl, e_, h_⟩)), trivial⟩ ?_
    intro H75 e76
    rintro _ _ rfl _ _ ⟨v73, rfl, h74⟩
    obtain ⟨y77, hy78, he⟩ := Option.bind_eq_some_iff.1 he
    refine w_a rfl (o_call co13 (vs := [.agg ⟨[.bool y36.f_Neg, v40]⟩, .agg ⟨[.bool y69.f_Neg, v73]⟩]) rfl (radomeref01_Add.calls k (a := (⟨y36.f_Neg, y36.f_D⟩ : radomeref01_Num)) (b := (⟨y69.f_Neg, y69.f_D⟩ : radomeref01_Num)) hy78 (h41.mono (((e48.trans e59).trans e65).trans e76)) h74)) ?_
    rintro _ H79 _ ⟨rfl, e80, ⟨v81, rfl, h82⟩⟩
    refine w_a0 rfl (o_store (v := .agg ⟨[.bool y77.f_Neg, v81]⟩) sz26 rfl rfl rfl rfl (one_cons rfl (one_cons (h82.one) one_nil)) (.there .here) (.here (.here .done))) ?_
    rintro _ _ _ ⟨rfl, rfl, rfl⟩
    refine w_done ?_
    refine w_seq ?_
    refine w_drawn (p := 3) (tl := [3]) [[], [], [(0, some 77)]] [some 77, some 78, none] (fctF (.is (.agg ⟨[.bool y77.f_Neg, v81]⟩) :: .is (.agg ⟨[.bool y62.f_Neg, v66]⟩) :: .itm (fun H it => it = some (b_t4, .cells ⟨[.bool y77.f_Neg, v81]⟩ 26 (0, 0))) (by rintro _ _ _ hle rfl; exact rfl) :: [])) (fun m_ => some (b51, .cells ⟨[.bool y62.f_Neg, v66]⟩ 26 (0, 0)) :: some (b42, .cells ⟨[.bool y77.f_Neg, v81]⟩ 26 (0, 0)) :: none :: some (b_t5, .cells ⟨[.bool false, .slice none 0 0]⟩ 26 (0, 0)) :: m_ 2 :: some (b_b, .cells ⟨[.bool b_0, v_b_1]⟩ 26 (0, 0)) :: some (b_a, .cells ⟨[.bool a_0, v_a_1]⟩ 26 (0, 0)) :: L) (fun i_ => if i_ = 2 then some (b_t4, .cells ⟨[.bool false, .slice none 0 0]⟩ 26 (0, 0)) else none) mixed (by kernel_rfl) (by kernel_rfl) rfl (fct_mono (by kernel_rfl)) ⟨(by intro H' m_ hH hm_ hu_; refine depK_nil ?_; exact s_d (m_ 0) rfl (d_loado (v := .agg ⟨[.bool y77.f_Neg, v81]⟩) ty26 rfl (.there .here) rfl rfl rfl rfl) (by exact rfl) rfl), (by intro H' m_ hH hm_ hu_; refine depK_nil ?_; exact s_d (m_ 1) rfl (d_loado (v := .agg ⟨[.bool y62.f_Neg, v66]⟩) ty26 rfl .here rfl rfl rfl rfl) (by exact rfl) rfl), (by intro H' m_ hH hm_ hu_; rintro _ rfl; refine depK_nil ?_; exact s_store (some (b_t4, .cells ⟨[.bool y77.f_Neg, v81]⟩ 26 (0, 0))) hm_ rfl (o_store (v := .agg ⟨[.bool y77.f_Neg, v81]⟩) sz26 rfl rfl rfl rfl (one_cons rfl (one_cons (h82.one) one_nil)) (.there (.there (.there (.there .here)))) (.here (.here .done))) rfl (by exact ⟨rfl, rfl⟩)), trivial⟩ ?_
    intro H83 e84
    rintro _ _ rfl _ _ rfl _ _ ⟨rfl, rfl⟩
    refine w_it (L' := some (b51, .cells ⟨[.bool y62.f_Neg, v66]⟩ 26 (0, 0)) :: some (b42, .cells ⟨[.bool y77.f_Neg, v81]⟩ 26 (0, 0)) :: none :: some (b_t5, .cells ⟨[.bool false, .slice none 0 0]⟩ 26 (0, 0)) :: some (b_t4, .cells ⟨[.bool y77.f_Neg, v81]⟩ 26 (0, 0)) :: some (b_b, .cells ⟨[.bool b_0, v_b_1]⟩ 26 (0, 0)) :: some (b_a, .cells ⟨[.bool a_0, v_a_1]⟩ 26 (0, 0)) :: L) rfl ?_
    refine w_a0 rfl (o_store (v := .agg ⟨[.bool y62.f_Neg, v66]⟩) sz26 rfl rfl rfl rfl (one_cons rfl (one_cons (h67.one) one_nil)) (.there (.there (.there .here))) (.here (.here .done))) ?_
    rintro _ _ _ ⟨rfl, rfl, rfl⟩
    refine w_done ?_
    obtain rfl := Option.some.inj he
    refine w_return fn_25 rs_25 (.box (v := .agg ⟨[.bool y77.f_Neg, v81]⟩) rfl ty26 rfl rfl (.there (.there (.there (.there .here)))) rfl (.box (v := .agg ⟨[.bool y62.f_Neg, v66]⟩) rfl ty26 rfl rfl (.there (.there (.there .here))) rfl .nil)) ?_
    exact ⟨⟨[_, _, _, _, _, _, _], rfl⟩, hle.trans (((((((e28.trans e44).trans e48).trans e59).trans e65).trans e76).trans e80).trans e84), ⟨v81, v66, rfl, (h82.mono e84), (h67.mono ((e76.trans e80).trans e84))⟩⟩
   ·
    refine w_else rfl (Bool.eq_false_iff.2 c68) ?_
    obtain ⟨y85, hy86, he⟩ := Option.bind_eq_some_iff.1 he
    refine w_drawn (p := 2) (tl := [2, 3]) [[], []] [some 74, some 75] (fctF (.is (.agg ⟨[.bool y36.f_Neg, v40]⟩) :: .of (radomeref01_Of.out y85) (radomeref01_Of.out_mono _) :: [])) (fun m_ => some (b51, .cells ⟨[.bool y62.f_Neg, v66]⟩ 26 (0, 0)) :: some (b42, .cells ⟨[.bool y36.f_Neg, v40]⟩ 26 (0, 0)) :: none :: some (b_t5, .cells ⟨[.bool false, .slice none 0 0]⟩ 26 (0, 0)) :: some (b_t4, .cells ⟨[.bool false, .slice none 0 0]⟩ 26 (0, 0)) :: some (b_b, .cells ⟨[.bool b_0, v_b_1]⟩ 26 (0, 0)) :: some (b_a, .cells ⟨[.bool a_0, v_a_1]⟩ 26 (0, 0)) :: L) (fun _ => none) mixed (by kernel_rfl) (by kernel_rfl) rfl (fct_mono (by kernel_rfl)) ⟨(by intro H' m_ hH hm_ hu_; refine depK_nil ?_; exact s_d (m_ 0) rfl (d_loado (v := .agg ⟨[.bool y36.f_Neg, v40]⟩) ty26 rfl (.there .here) rfl rfl rfl rfl) (by exact rfl) rfl), (by intro H' m_ hH hm_ hu_; refine depK_nil ?_; exact s_k (m_ 1) rfl (o_call co42 (vs := [.int .i64 1]) rfl (radomeref01_Of.calls k hy86)) rfl (by rintro v_ H_ _ ⟨rfl, e_, h_⟩; exact ⟨rfl, e_, h_⟩)), trivial⟩ ?_
    intro H91 e92
    rintro _ _ rfl _ _ ⟨v89, rfl, h90⟩
    obtain ⟨y93, hy94, he⟩ := Option.bind_eq_some_iff.1 he
    refine w_a rfl (o_call co14 (vs := [.agg ⟨[.bool y36.f_Neg, v40]⟩, .agg ⟨[.bool y85.f_Neg, v89]⟩]) rfl (radomeref01_Sub.calls k (a := (⟨y36.f_Neg, y36.f_D⟩ : radomeref01_Num)) (b := (⟨y85.f_Neg, y85.f_D⟩ : radomeref01_Num)) hy94 (h41.mono (((e48.trans e59).trans e65).trans e92)) h90)) ?_
    rintro _ H95 _ ⟨rfl, e96, ⟨v97, rfl, h98⟩⟩
    refine w_a0 rfl (o_store (v := .agg ⟨[.bool y93.f_Neg, v97]⟩) sz26 rfl rfl rfl rfl (one_cons rfl (one_cons (h98.one) one_nil)) (.there .here) (.here (.here .done))) ?_
    rintro _ _ _ ⟨rfl, rfl, rfl⟩
    refine w_done ?_
    refine w_seq ?_
    refine w_drawn (p := 3) (tl := [3]) [[], [], [(0, some 77)]] [some 77, some 78, none] (fctF (.is (.agg ⟨[.bool y93.f_Neg, v97]⟩) :: .is (.agg ⟨[.bool y62.f_Neg, v66]⟩) :: .itm (fun H it => it = some (b_t4, .cells ⟨[.bool y93.f_Neg, v97]⟩ 26 (0, 0))) (by rintro _ _ _ hle rfl; exact rfl) :: [])) (fun m_ => some (b51, .cells ⟨[.bool y62.f_Neg, v66]⟩ 26 (0, 0)) :: some (b42, .cells ⟨[.bool y93.f_Neg, v97]⟩ 26 (0, 0)) :: none :: some (b_t5, .cells ⟨[.bool false, .slice none 0 0]⟩ 26 (0, 0)) :: m_ 2 :: some (b_b, .cells ⟨[.bool b_0, v_b_1]⟩ 26 (0, 0)) :: some (b_a, .cells ⟨[.bool a_0, v_a_1]⟩ 26 (0, 0)) :: L) (fun i_ => if i_ = 2 then some (b_t4, .cells ⟨[.bool false, .slice none 0 0]⟩ 26 (0, 0)) else none) mixed (by kernel_rfl) (by kernel_rfl) rfl (fct_mono (by kernel_rfl)) ⟨(by intro H' m_ hH hm_ hu_; refine depK_nil ?_; exact s_d (m_ 0) rfl (d_loado (v := .agg ⟨[.bool y93.f_Neg, v97]⟩) ty26 rfl (.there .here) rfl rfl rfl rfl) (by exact rfl) rfl), (by intro H' m_ hH hm_ hu_; refine depK_nil ?_; exact s_d (m_ 1) rfl (d_loado (v := .agg ⟨[.bool y62.f_Neg, v66]⟩) ty26 rfl .here rfl rfl rfl rfl) (by exact rfl) rfl), (by intro H' m_ hH hm_ hu_; rintro _ rfl; refine depK_nil ?_; exact s_store (some (b_t4, .cells ⟨[.bool y93.f_Neg, v97]⟩ 26 (0, 0))) hm_ rfl (o_store (v := .agg ⟨[.bool y93.f_Neg, v97]⟩) sz26 rfl rfl rfl rfl (one_cons rfl (one_cons (h98.one) one_nil)) (.there (.there (.there (.there .here)))) (.here (.here .done))) rfl (by exact ⟨rfl, rfl⟩)), trivial⟩ ?_
    intro H99 e100
    rintro _ _ rfl _ _ rfl _ _ ⟨rfl, rfl⟩
    refine w_it (L' := some (b51, .cells ⟨[.bool y62.f_Neg, v66]⟩ 26 (0, 0)) :: some (b42, .cells ⟨[.bool y93.f_Neg, v97]⟩ 26 (0, 0)) :: none :: some (b_t5, .cells ⟨[.bool false, .slice none 0 0]⟩ 26 (0, 0)) :: some (b_t4, .cells ⟨[.bool y93.f_Neg, v97]⟩ 26 (0, 0)) :: some (b_b, .cells ⟨[.bool b_0, v_b_1]⟩ 26 (0, 0)) :: some (b_a, .cells ⟨[.bool a_0, v_a_1]⟩ 26 (0, 0)) :: L) rfl ?_
    refine w_a0 rfl (o_store (v := .agg ⟨[.bool y62.f_Neg, v66]⟩) sz26 rfl rfl rfl rfl (one_cons rfl (one_cons (h67.one) one_nil)) (.there (.there (.there .here))) (.here (.here .done))) ?_
    rintro _ _ _ ⟨rfl, rfl, rfl⟩
    refine w_done ?_
    obtain rfl := Option.some.inj he
    refine w_return fn_25 rs_25 (.box (v := .agg ⟨[.bool y93.f_Neg, v97]⟩) rfl ty26 rfl rfl (.there (.there (.there (.there .here)))) rfl (.box (v := .agg ⟨[.bool y62.f_Neg, v66]⟩) rfl ty26 rfl rfl (.there (.there (.there .here))) rfl .nil)) ?_
    exact ⟨⟨[_, _, _, _, _, _, _], rfl⟩, hle.trans (((((((e28.trans e44).trans e48).trans e59).trans e65).trans e92).trans e96).trans e100), ⟨v97, v66, rfl, (h98.mono e100), (h67.mono ((e92.trans e96).trans e100))⟩⟩
  ·
   refine w_else rfl (Bool.eq_false_iff.2 c55) ?_
   refine w_skip ?_
   refine w_seq ?_
   refine w_drawn (p := 3) (tl := [3]) [[], [], [(0, some 77)]] [some 77, some 78, none] (fctF (.is (.agg ⟨[.bool y36.f_Neg, v40]⟩) :: .is (.agg ⟨[.bool y45.f_Neg, v49]⟩) :: .itm (fun H it => it = some (b_t4, .cells ⟨[.bool y36.f_Neg, v40]⟩ 26 (0, 0))) (by rintro _ _ _ hle rfl; exact rfl) :: [])) (fun m_ => some (b51, .cells ⟨[.bool y45.f_Neg, v49]⟩ 26 (0, 0)) :: some (b42, .cells ⟨[.bool y36.f_Neg, v40]⟩ 26 (0, 0)) :: none :: some (b_t5, .cells ⟨[.bool false, .slice none 0 0]⟩ 26 (0, 0)) :: m_ 2 :: some (b_b, .cells ⟨[.bool b_0, v_b_1]⟩ 26 (0, 0)) :: some (b_a, .cells ⟨[.bool a_0, v_a_1]⟩ 26 (0, 0)) :: L) (fun i_ => if i_ = 2 then some (b_t4, .cells ⟨[.bool false, .slice none 0 0]⟩ 26 (0, 0)) else none) mixed (by kernel_rfl) (by kernel_rfl) rfl (fct_mono (by kernel_rfl)) ⟨(by intro H' m_ hH hm_ hu_; refine depK_nil ?_; exact s_d (m_ 0) rfl (d_loado (v := .agg ⟨[.bool y36.f_Neg, v40]⟩) ty26 rfl (.there .here) rfl rfl rfl rfl) (by exact rfl) rfl), (by intro H' m_ hH hm_ hu_; refine depK_nil ?_; exact s_d (m_ 1) rfl (d_loado (v := .agg ⟨[.bool y45.f_Neg, v49]⟩) ty26 rfl .here rfl rfl rfl rfl) (by exact rfl) rfl), (by intro H' m_ hH hm_ hu_; rintro _ rfl; refine depK_nil ?_; exact s_store (some (b_t4, .cells ⟨[.bool y36.f_Neg, v40]⟩ 26 (0, 0))) hm_ rfl (o_store (v := .agg ⟨[.bool y36.f_Neg, v40]⟩) sz26 rfl rfl rfl rfl (one_cons rfl (one_cons (h41.one) one_nil)) (.there (.there (.there (.there .here)))) (.here (.here .done))) rfl (by exact ⟨rfl, rfl⟩)), trivial⟩ ?_
   intro H101 e102
   rintro _ _ rfl _ _ rfl _ _ ⟨rfl, rfl⟩
   refine w_it (L' := some (b51, .cells ⟨[.bool y45.f_Neg, v49]⟩ 26 (0, 0)) :: some (b42, .cells ⟨[.bool y36.f_Neg, v40]⟩ 26 (0, 0)) :: none :: some (b_t5, .cells ⟨[.bool false, .slice none 0 0]⟩ 26 (0, 0)) :: some (b_t4, .cells ⟨[.bool y36.f_Neg, v40]⟩ 26 (0, 0)) :: some (b_b, .cells ⟨[.bool b_0, v_b_1]⟩ 26 (0, 0)) :: some (b_a, .cells ⟨[.bool a_0, v_a_1]⟩ 26 (0, 0)) :: L) rfl ?_
   refine w_a0 rfl (o_store (v := .agg ⟨[.bool y45.f_Neg, v49]⟩) sz26 rfl rfl rfl rfl (one_cons rfl (one_cons (h50.one) one_nil)) (.there (.there (.there .here))) (.here (.here .done))) ?_
   rintro _ _ _ ⟨rfl, rfl, rfl⟩
   refine w_done ?_
   obtain rfl := Option.some.inj he
   refine w_return fn_25 rs_25 (.box (v := .agg ⟨[.bool y36.f_Neg, v40]⟩) rfl ty26 rfl rfl (.there (.there (.there (.there .here)))) rfl (.box (v := .agg ⟨[.bool y45.f_Neg, v49]⟩) rfl ty26 rfl rfl (.there (.there (.there .here))) rfl .nil)) ?_
   exact ⟨⟨[_, _, _, _, _, _, _], rfl⟩, hle.trans (((e28.trans e44).trans e48).trans e102), ⟨v40, v49, rfl, (h41.mono (e48.trans e102)), (h50.mono e102)⟩⟩
set_option maxRecDepth 100000 in
set_option maxHeartbeats 2000000 in
theorem radomeref01_Div.b1_ok {k : Nat} {h : radomeref01_Div.Hs} (hh : radomeref01_Div.OK h) {H0 H : Hp} {L : Items} {r : radomeref01_Num × radomeref01_Num} {jk_ : Nat → Value} {a_0 : Bool} {a_1 : List Int} {b_0 : Bool} {b_1 : List Int} {rest : List Int} {q : List Int} {i : Int} {v_a_1 : Value} {v_b_1 : Value} {v_rest : Value} {v_q : Value} {i_q : Item'} {b_a : Nat} {b_b : Nat} {b_t4 : Nat} {b_t5 : Nat} (hle : H0.le H) (he : radomeref01_Div.b1 k h a_0 a_1 b_0 b_1 rest q i = some r) (h_a_1 : Ro (Kd.int .i64) H v_a_1 a_1) (h_b_1 : Ro (Kd.int .i64) H v_b_1 b_1) (h_rest : Ro (Kd.int .i64) H v_rest rest) (h_q : Sl (Kd.int .i64) H 3 i_q v_q q) : Wp Tryd.prog 25 79 radomeref01_Div.Kl1 (upd (upd (upd (upd (upd (upd (upd jk_ 2 (.pointer (some ⟨b_a, 0, none⟩))) 3 (.pointer (some ⟨b_b, 0, none⟩))) 4 (.pointer (some ⟨b_t4, 0, none⟩))) 5 (.pointer (some ⟨b_t5, 0, none⟩))) 6 (v_rest)) 7 (v_q)) 8 (.int .i64 i)) H (i_q :: some (b_t5, .cells ⟨[.bool false, .slice none 0 0]⟩ 26 (0, 0)) :: some (b_t4, .cells ⟨[.bool false, .slice none 0 0]⟩ 26 (0, 0)) :: some (b_b, .cells ⟨[.bool b_0, v_b_1]⟩ 26 (0, 0)) :: some (b_a, .cells ⟨[.bool a_0, v_a_1]⟩ 26 (0, 0)) :: L) (radomeref01_Div.R H0 L r) := by
 unfold radomeref01_Div.b1 at he
 unfold radomeref01_Div.Kl1
 refine w_seq ?_
 refine w_seq ?_
 refine w_region rfl ?_
 refine w_d rfl (d_move (v := v_rest) rfl) ?_
 refine w_d rfl (d_fld (o' := 1) Tryd.underlying26 rfl sz24 rfl rfl rfl) ?_
 refine w_d rfl (d_loado (v := v_b_1) ty24 rfl (.there (.there (.there .here))) rfl rfl rfl rfl) ?_
 obtain ⟨y103, hy104, he⟩ := Option.bind_eq_some_iff.1 he
 refine w_d rfl (call_d (o_call co53 (vs := [v_rest, v_b_1]) rfl (radomeref01_Less.calls k hy104 h_rest.src h_b_1.src))) ?_
 refine w_d rfl (d_not (b := y103) rfl) ?_
 refine w_done ?_
 rcases its he with ⟨c107, he⟩ | ⟨c107, he⟩
 ·
  refine w_then rfl c107 ?_
  refine w_skip ?_
  refine w_block ?_
  refine w_seq ?_
  refine w_region rfl ?_
  refine w_d rfl (d_move (v := v_rest) rfl) ?_
  refine w_d rfl (d_fld (o' := 1) Tryd.underlying26 rfl sz24 rfl rfl rfl) ?_
  refine w_d rfl (d_loado (v := v_b_1) ty24 rfl (.there (.there (.there .here))) rfl rfl rfl rfl) ?_
  obtain ⟨y108, hy109, he⟩ := Option.bind_eq_some_iff.1 he
  refine w_a rfl (o_call co54 (vs := [v_rest, v_b_1]) rfl (radomeref01_minus.calls k hy109 h_rest.src h_b_1.src)) ?_
  rintro v112 H110 _ ⟨rfl, e111, h113⟩
  refine w_d rfl (d_assign (v := v112) rfl) ?_
  refine w_done ?_
  refine w_region rfl ?_
  refine w_d rfl (d_move (v := v_q) rfl) ?_
  refine w_d rfl (d_move (v := .int .i64 i) rfl) ?_
  obtain ⟨c114, he⟩ := rq he
  refine w_d rfl (d_indexS (sz := 1) Tryd.underlying24 sz3 rfl (h_q.mono e111).shp rfl c114) ?_
  refine w_d rfl (d_ldint ty3 rfl ((h_q.mono e111).src .here) c114) ?_
  refine w_d rfl (d_add (c := w64 ((rd q i) + 1)) rfl rfl rfl) ?_
  obtain ⟨c115, he⟩ := rq he
  refine w_d rfl (d_indexS (sz := 1) Tryd.underlying24 sz3 rfl (h_q.mono e111).shp rfl c115) ?_
  refine w_a0 rfl (o_storeEl (kd := (Kd.int .i64)) (v := .int .i64 (w64 ((rd q i) + 1))) (F := fun z_ => z_ :: some (b_t5, .cells ⟨[.bool false, .slice none 0 0]⟩ 26 (0, 0)) :: some (b_t4, .cells ⟨[.bool false, .slice none 0 0]⟩ 26 (0, 0)) :: some (b_b, .cells ⟨[.bool b_0, v_b_1]⟩ 26 (0, 0)) :: some (b_a, .cells ⟨[.bool a_0, v_a_1]⟩ 26 (0, 0)) :: L) sz3 rfl rfl rfl rfl (h_q.mono e111) c115 (fun _ => .here)) ?_
  rintro _ _ _ ⟨i116, rfl, rfl, rfl, h117⟩
  refine w_done ?_
  refine w_inBlock ?_
  refine w_inLoop ?_
  refine w_sl 2 (.pointer (some ⟨b_a, 0, none⟩)) rfl ?_
  refine w_sl 3 (.pointer (some ⟨b_b, 0, none⟩)) rfl ?_
  refine w_sl 4 (.pointer (some ⟨b_t4, 0, none⟩)) rfl ?_
  refine w_sl 5 (.pointer (some ⟨b_t5, 0, none⟩)) rfl ?_
  refine w_sl 6 (v112) rfl ?_
  refine w_sl 7 (v_q) rfl ?_
  refine w_sl 8 (.int .i64 i) rfl ?_
  exact hh.l1 (hle.trans e111) he (h_a_1.mono e111) (h_b_1.mono e111) h113 h117
 ·
  refine w_else rfl (Bool.eq_false_iff.2 c107) ?_
  refine w_exit rfl ?_
  refine w_inBlock ?_
  refine w_region rfl ?_
  refine w_d rfl (d_move (v := .int .i64 i) rfl) ?_
  refine w_d rfl (d_sub (c := w64 (i - 1)) rfl rfl rfl) ?_
  refine w_d rfl (d_assign (v := .int .i64 (w64 (i - 1))) rfl) ?_
  refine w_done ?_
  refine w_inLoop ?_
  refine w_sl 2 (.pointer (some ⟨b_a, 0, none⟩)) rfl ?_
  refine w_sl 3 (.pointer (some ⟨b_b, 0, none⟩)) rfl ?_
  refine w_sl 4 (.pointer (some ⟨b_t4, 0, none⟩)) rfl ?_
  refine w_sl 5 (.pointer (some ⟨b_t5, 0, none⟩)) rfl ?_
  refine w_sl 6 (v_rest) rfl ?_
  refine w_sl 7 (v_q) rfl ?_
  refine w_sl 8 (.int .i64 (w64 (i - 1))) rfl ?_
  exact hh.l0 hle he h_a_1 h_b_1 h_rest h_q
theorem radomeref01_Div.ok : ∀ k, radomeref01_Div.OK (radomeref01_Div.hs k)
 | 0 => ⟨(by intros; exact nomatch (show none = some _ from by assumption)), (by intros; exact nomatch (show none = some _ from by assumption))⟩
 | k + 1 => ⟨radomeref01_Div.b0_ok (k := k) (radomeref01_Div.ok k), radomeref01_Div.b1_ok (k := k) (radomeref01_Div.ok k)⟩
set_option maxRecDepth 100000 in
set_option maxHeartbeats 2000000 in
theorem radomeref01_Div.calls (k : Nat) {H : Hp} {L : Items} {a : radomeref01_Num} {b : radomeref01_Num} {v0_a : Value} {v1_b : Value} {r : radomeref01_Num × radomeref01_Num} (he : radomeref01_Div.f k a b = some r) (h0_a : Ro (Kd.int .i64) H v0_a a.f_D) (h1_b : Ro (Kd.int .i64) H v1_b b.f_D) : Ct Tryd.prog 25 ⟨[.agg ⟨[.bool a.f_Neg, v0_a]⟩, .agg ⟨[.bool b.f_Neg, v1_b]⟩]⟩ H L (fun v H' L' => L = L' ∧ H.le H' ∧ radomeref01_Div.out r H' v) := by
 refine ct_out (O := radomeref01_Div.out r) ?_
 have hle : H.le H := .refl _
 have hh := radomeref01_Div.ok k
 unfold radomeref01_Div.f at he
 refine ct_enter (args := [.agg ⟨[.bool a.f_Neg, v0_a]⟩, .agg ⟨[.bool b.f_Neg, v1_b]⟩]) fn_25 rfl nt_25 rfl ?_
 refine w_seq ?_
 refine w_region rfl ?_
 refine w_a rfl (o_box (v := .agg ⟨[.bool a.f_Neg, v0_a]⟩) rfl rfl) ?_
 rintro _ _ _ ⟨b1, rfl, rfl, rfl⟩
 refine w_a rfl (o_box (v := .agg ⟨[.bool b.f_Neg, v1_b]⟩) rfl rfl) ?_
 rintro _ _ _ ⟨b2, rfl, rfl, rfl⟩
 refine w_a rfl (o_alloc zr26 rfl) ?_
 rintro _ _ _ ⟨b3, rfl, rfl, rfl⟩
 refine w_a rfl (o_alloc zr26 rfl) ?_
 rintro _ _ _ ⟨b4, rfl, rfl, rfl⟩
 refine w_done ?_
 refine w_seq ?_
 refine w_region rfl ?_
 refine w_d rfl (d_assign (v := .slice none 0 0) rfl) ?_
 refine w_done ?_
 refine w_seq ?_
 refine w_region rfl ?_
 refine w_d rfl (d_fld (o' := 1) Tryd.underlying26 rfl sz24 rfl rfl rfl) ?_
 refine w_d rfl (d_loado (v := v0_a) ty24 rfl (.there (.there (.there .here))) rfl rfl rfl rfl) ?_
 refine w_d rfl (d_len Tryd.underlying24 rfl h0_a.src) ?_
 obtain ⟨c5, he⟩ := rq he
 refine w_a rfl (o_make' (kd := (Kd.int .i64)) (z0 := 0) Tryd.underlying24 ti3 (zp3 _) rfl rfl (by omega) (by omega) (by omega)) ?_
 rintro v6 _ _ ⟨i7, rfl, rfl, h8⟩
 refine w_d rfl (d_assign (v := v6) rfl) ?_
 refine w_done ?_
 refine w_seq ?_
 refine w_seq ?_
 refine w_region rfl ?_
 refine w_d rfl (d_fld (o' := 1) Tryd.underlying26 rfl sz24 rfl rfl rfl) ?_
 refine w_d rfl (d_loado (v := v0_a) ty24 rfl (.there (.there (.there (.there .here)))) rfl rfl rfl rfl) ?_
 refine w_d rfl (d_len Tryd.underlying24 rfl h0_a.src) ?_
 refine w_d rfl (d_sub (c := w64 ((a.f_D.length : Int) - 1)) rfl rfl rfl) ?_
 refine w_d rfl (d_assign (v := .int .i64 (w64 ((a.f_D.length : Int) - 1))) rfl) ?_
 refine w_done ?_
 refine w_block ?_
 refine w_loop ?_
 refine w_sl 2 (.pointer (some ⟨b1, 0, none⟩)) rfl ?_
 refine w_sl 3 (.pointer (some ⟨b2, 0, none⟩)) rfl ?_
 refine w_sl 4 (.pointer (some ⟨b3, 0, none⟩)) rfl ?_
 refine w_sl 5 (.pointer (some ⟨b4, 0, none⟩)) rfl ?_
 refine w_sl 6 (.slice none 0 0) rfl ?_
 refine w_sl 7 (v6) rfl ?_
 refine w_sl 8 (.int .i64 (w64 ((a.f_D.length : Int) - 1))) rfl ?_
 exact hh.l0 hle he h0_a h1_b (ro_nil _ _) h8
/-! ### radome/radomelaw01.WideSums -/
noncomputable def radomelaw01_WideSums.C : Code := (Tryd.f3.body).getD .skip
def radomelaw01_WideSums.out (r : Bool) (H : Hp) (v : Value) : Prop := v = .bool r
abbrev radomelaw01_WideSums.R (H0 : Hp) (L : Items) (r : Bool) : Value → Hp → Items → Prop := fun v H' L' => (∃ p, L' = p ++ L) ∧ H0.le H' ∧ radomelaw01_WideSums.out r H' v
noncomputable def radomelaw01_WideSums.f (k : Nat) (a : List Int) (b : List Int) (neg : T23) : Option Bool := (radomelaw01_whole.f k a neg.e0 120).bind fun y2 => (radomelaw01_whole.f k b neg.e1 120).bind fun y8 => (radomelaw01_giveInt.f k (⟨y2.f_Neg, y2.f_D⟩ : radomeref01_Num)).bind fun y18 => (radomelaw01_giveInt.f k (⟨y8.f_Neg, y8.f_D⟩ : radomeref01_Num)).bind fun y24 => (wide_Int_Add.f k (⟨y18.f_neg, y18.f_w⟩ : wide_Int) (⟨y24.f_neg, y24.f_w⟩ : wide_Int)).bind fun y34 => (wide_Int_Sub.f k (⟨y18.f_neg, y18.f_w⟩ : wide_Int) (⟨y24.f_neg, y24.f_w⟩ : wide_Int)).bind fun y41 => (wide_Int_Mul.f k (⟨y18.f_neg, y18.f_w⟩ : wide_Int) (⟨y24.f_neg, y24.f_w⟩ : wide_Int)).bind fun y48 => (gd (!((y34.2.isSome || y41.2.isSome) || y48.2.isSome)) (radomelaw01_is.f k (⟨y18.f_neg, y18.f_w⟩ : wide_Int) (⟨y2.f_Neg, y2.f_D⟩ : radomeref01_Num)) (false)).bind fun y62 => (gd (!(((y34.2.isSome || y41.2.isSome) || y48.2.isSome) || (!y62))) (radomeref01_Add.f k (⟨y2.f_Neg, y2.f_D⟩ : radomeref01_Num) (⟨y8.f_Neg, y8.f_D⟩ : radomeref01_Num)) ((⟨false, []⟩ : radomeref01_Num))).bind fun y71 => (gd (!(((y34.2.isSome || y41.2.isSome) || y48.2.isSome) || (!y62))) (radomelaw01_is.f k (⟨y34.1.f_neg, y34.1.f_w⟩ : wide_Int) (⟨y71.f_Neg, y71.f_D⟩ : radomeref01_Num)) (false)).bind fun y78 => (gd (!((((y34.2.isSome || y41.2.isSome) || y48.2.isSome) || (!y62)) || (!y78))) (radomeref01_Sub.f k (⟨y2.f_Neg, y2.f_D⟩ : radomeref01_Num) (⟨y8.f_Neg, y8.f_D⟩ : radomeref01_Num)) ((⟨false, []⟩ : radomeref01_Num))).bind fun y87 => (gd (!((((y34.2.isSome || y41.2.isSome) || y48.2.isSome) || (!y62)) || (!y78))) (radomelaw01_is.f k (⟨y41.1.f_neg, y41.1.f_w⟩ : wide_Int) (⟨y87.f_Neg, y87.f_D⟩ : radomeref01_Num)) (false)).bind fun y94 => (gd (!(((((y34.2.isSome || y41.2.isSome) || y48.2.isSome) || (!y62)) || (!y78)) || (!y94))) (radomeref01_Mul.f k (⟨y2.f_Neg, y2.f_D⟩ : radomeref01_Num) (⟨y8.f_Neg, y8.f_D⟩ : radomeref01_Num)) ((⟨false, []⟩ : radomeref01_Num))).bind fun y103 => (gd (!(((((y34.2.isSome || y41.2.isSome) || y48.2.isSome) || (!y62)) || (!y78)) || (!y94))) (radomelaw01_is.f k (⟨y48.1.f_neg, y48.1.f_w⟩ : wide_Int) (⟨y103.f_Neg, y103.f_D⟩ : radomeref01_Num)) (false)).bind fun y110 => (gd (!((((((y34.2.isSome || y41.2.isSome) || y48.2.isSome) || (!y62)) || (!y78)) || (!y94)) || (!y110))) (wide_Int_Cmp.f k (⟨y18.f_neg, y18.f_w⟩ : wide_Int) (⟨y24.f_neg, y24.f_w⟩ : wide_Int)) (0)).bind fun y118 => (gd (!((((((y34.2.isSome || y41.2.isSome) || y48.2.isSome) || (!y62)) || (!y78)) || (!y94)) || (!y110))) (radomeref01_Cmp.f k (⟨y2.f_Neg, y2.f_D⟩ : radomeref01_Num) (⟨y8.f_Neg, y8.f_D⟩ : radomeref01_Num)) (0)).bind fun y125 => (gd (!(((((((y34.2.isSome || y41.2.isSome) || y48.2.isSome) || (!y62)) || (!y78)) || (!y94)) || (!y110)) || (!decide (y118 = y125)))) (wide_Int_Sign.f k (⟨y18.f_neg, y18.f_w⟩ : wide_Int)) (0)).bind fun y132 => (gd (!(((((((y34.2.isSome || y41.2.isSome) || y48.2.isSome) || (!y62)) || (!y78)) || (!y94)) || (!y110)) || (!decide (y118 = y125)))) (radomeref01_Sign.f k (⟨y2.f_Neg, y2.f_D⟩ : radomeref01_Num)) (0)).bind fun y138 => (gd (!((((((((y34.2.isSome || y41.2.isSome) || y48.2.isSome) || (!y62)) || (!y78)) || (!y94)) || (!y110)) || (!decide (y118 = y125))) || (!decide (y132 = y138)))) (wide_Int_Neg.f k (⟨y18.f_neg, y18.f_w⟩ : wide_Int)) ((⟨false, []⟩ : wide_Int))).bind fun y145 => (gd (!((((((((y34.2.isSome || y41.2.isSome) || y48.2.isSome) || (!y62)) || (!y78)) || (!y94)) || (!y110)) || (!decide (y118 = y125))) || (!decide (y132 = y138)))) (radomeref01_Neg.f k (⟨y2.f_Neg, y2.f_D⟩ : radomeref01_Num)) ((⟨false, []⟩ : radomeref01_Num))).bind fun y155 => (gd (!((((((((y34.2.isSome || y41.2.isSome) || y48.2.isSome) || (!y62)) || (!y78)) || (!y94)) || (!y110)) || (!decide (y118 = y125))) || (!decide (y132 = y138)))) (radomelaw01_is.f k (⟨y145.f_neg, y145.f_w⟩ : wide_Int) (⟨y155.f_Neg, y155.f_D⟩ : radomeref01_Num)) (false)).bind fun y163 => if (((((((((y34.2.isSome || y41.2.isSome) || y48.2.isSome) || (!y62)) || (!y78)) || (!y94)) || (!y110)) || (!decide (y118 = y125))) || (!decide (y132 = y138))) || (!y163)) = true then (some (false)) else ((wide_Int_Div.f k (⟨y18.f_neg, y18.f_w⟩ : wide_Int) (⟨y24.f_neg, y24.f_w⟩ : wide_Int)).bind fun y169 => (radomeref01_Sign.f k (⟨y8.f_Neg, y8.f_D⟩ : radomeref01_Num)).bind fun y179 => if y179 = 0 then ((gd (decide ((errN y169.2.2) = 11)) (radomelaw01_is.f k (⟨y169.1.f_neg, y169.1.f_w⟩ : wide_Int) (⟨false, []⟩ : radomeref01_Num)) (false)).bind fun y187 => (gd ((decide ((errN y169.2.2) = 11)) && y187) (radomelaw01_is.f k (⟨y169.2.1.f_neg, y169.2.1.f_w⟩ : wide_Int) (⟨false, []⟩ : radomeref01_Num)) (false)).bind fun y194 => (gd (((decide ((errN y169.2.2) = 11)) && y187) && y194) (radomelaw01_sure.f k) (false)).bind fun y199 => some ((((decide ((errN y169.2.2) = 11)) && y187) && y194) && y199)) else ((radomeref01_Div.f k (⟨y2.f_Neg, y2.f_D⟩ : radomeref01_Num) (⟨y8.f_Neg, y8.f_D⟩ : radomeref01_Num)).bind fun y203 => (gd y169.2.2.isNone (radomelaw01_is.f k (⟨y169.1.f_neg, y169.1.f_w⟩ : wide_Int) (⟨y203.1.f_Neg, y203.1.f_D⟩ : radomeref01_Num)) (false)).bind fun y216 => (gd (y169.2.2.isNone && y216) (radomelaw01_is.f k (⟨y169.2.1.f_neg, y169.2.1.f_w⟩ : wide_Int) (⟨y203.2.f_Neg, y203.2.f_D⟩ : radomeref01_Num)) (false)).bind fun y223 => (gd ((y169.2.2.isNone && y216) && y223) (radomelaw01_sure.f k) (false)).bind fun y228 => some (((y169.2.2.isNone && y216) && y223) && y228)))
theorem radomelaw01_WideSums.mono : ∀ k y0 y1 y2, LeO (radomelaw01_WideSums.f k y0 y1 y2) (radomelaw01_WideSums.f (k + 1) y0 y1 y2) := fun k _ _ _ => by unfold radomelaw01_WideSums.f; exact (LeO.bind (radomelaw01_whole.mono k _ _ _) fun _ => LeO.bind (radomelaw01_whole.mono k _ _ _) fun _ => LeO.bind (radomelaw01_giveInt.mono k _) fun _ => LeO.bind (radomelaw01_giveInt.mono k _) fun _ => LeO.bind (wide_Int_Add.mono k _ _) fun _ => LeO.bind (wide_Int_Sub.mono k _ _) fun _ => LeO.bind (wide_Int_Mul.mono k _ _) fun _ => LeO.bind (LeO.gd (radomelaw01_is.mono k _ _)) fun _ => LeO.bind (LeO.gd (radomeref01_Add.mono k _ _)) fun _ => LeO.bind (LeO.gd (radomelaw01_is.mono k _ _)) fun _ => LeO.bind (LeO.gd (radomeref01_Sub.mono k _ _)) fun _ => LeO.bind (LeO.gd (radomelaw01_is.mono k _ _)) fun _ => LeO.bind (LeO.gd (radomeref01_Mul.mono k _ _)) fun _ => LeO.bind (LeO.gd (radomelaw01_is.mono k _ _)) fun _ => LeO.bind (LeO.gd (wide_Int_Cmp.mono k _ _)) fun _ => LeO.bind (LeO.gd (radomeref01_Cmp.mono k _ _)) fun _ => LeO.bind (LeO.gd (wide_Int_Sign.mono k _)) fun _ => LeO.bind (LeO.gd (radomeref01_Sign.mono k _)) fun _ => LeO.bind (LeO.gd (wide_Int_Neg.mono k _)) fun _ => LeO.bind (LeO.gd (radomeref01_Neg.mono k _)) fun _ => LeO.bind (LeO.gd (radomelaw01_is.mono k _ _)) fun _ => LeO.ite (LeO.refl _) (LeO.bind (wide_Int_Div.mono k _ _) fun _ => LeO.bind (radomeref01_Sign.mono k _) fun _ => LeO.ite (LeO.bind (LeO.gd (radomelaw01_is.mono k _ _)) fun _ => LeO.bind (LeO.gd (radomelaw01_is.mono k _ _)) fun _ => LeO.bind (LeO.gd (radomelaw01_sure.mono k)) fun _ => LeO.refl _) (LeO.bind (radomeref01_Div.mono k _ _) fun _ => LeO.bind (LeO.gd (radomelaw01_is.mono k _ _)) fun _ => LeO.bind (LeO.gd (radomelaw01_is.mono k _ _)) fun _ => LeO.bind (LeO.gd (radomelaw01_sure.mono k)) fun _ => LeO.refl _)))
set_option maxRecDepth 100000 in
set_option maxHeartbeats 2000000 in
theorem radomelaw01_WideSums.calls (k : Nat) {H : Hp} {L : Items} {a : List Int} {b : List Int} {neg : T23} {v0_a : Value} {v1_b : Value} {r : Bool} (hG : GH H) (he : radomelaw01_WideSums.f k a b neg = some r) (h0_a : Ro (Kd.int .u8) H v0_a a) (h1_b : Ro (Kd.int .u8) H v1_b b) : Ct Tryd.prog 3 ⟨[v0_a, v1_b, .agg ⟨[.bool neg.e0, .bool neg.e1]⟩]⟩ H L (fun v H' L' => L = L' ∧ H = H' ∧ v = .bool r) := by
 refine ct_outs (O := radomelaw01_WideSums.out r) (fun _ _ h => h) ?_
 have hle : H.le H := .refl _
 unfold radomelaw01_WideSums.f at he
 refine ct_enter (args := [v0_a, v1_b, .agg ⟨[.bool neg.e0, .bool neg.e1]⟩]) fn_3 rfl nt_3 rfl ?_
 refine w_seq ?_
 refine w_region rfl ?_
 refine w_a rfl (o_box (v := .agg ⟨[.bool neg.e0, .bool neg.e1]⟩) rfl rfl) ?_
 rintro _ _ _ ⟨b1, rfl, rfl, rfl⟩
 refine w_d rfl (d_assign (v := .bool false) rfl) ?_
 refine w_done ?_
 refine w_seq ?_
 obtain ⟨y2, hy3, he⟩ := Option.bind_eq_some_iff.1 he
 obtain ⟨y8, hy9, he⟩ := Option.bind_eq_some_iff.1 he
 refine w_none (w_none (?_))
 refine w_drawn (p := 10) (tl := [10, 11]) [[], [], [(1, some 23)], [(0, some 22), (2, some 24)], [], [], [(5, some 27)], [(4, some 26), (6, some 28)], [], []] [some 22, some 23, some 24, some 25, some 26, some 27, some 28, some 29, some 7, some 8] (fctF (.is (v0_a) :: .is (.pointer (some ⟨b1, 0, none⟩)) :: .is (.bool neg.e0) :: .of (radomelaw01_whole.out y2) (radomelaw01_whole.out_mono _) :: .is (v1_b) :: .is (.pointer (some ⟨b1, 1, none⟩)) :: .is (.bool neg.e1) :: .of (radomelaw01_whole.out y8) (radomelaw01_whole.out_mono _) :: .box 26 [.bool false, .slice none 0 0] :: .box 26 [.bool false, .slice none 0 0] :: [])) (fun m_ => m_ 8 :: m_ 9 :: some (b1, .cells ⟨[.bool neg.e0, .bool neg.e1]⟩ 23 (0, 0)) :: L) (fun _ => none) mixed (by kernel_rfl) (by kernel_rfl) rfl (fct_mono (by kernel_rfl)) ⟨(by intro H' m_ hH hm_ hu_; refine depK_nil ?_; exact s_d (m_ 0) rfl (d_move (v := v0_a) rfl) (by exact rfl) rfl), (by intro H' m_ hH hm_ hu_; refine depK_nil ?_; exact s_d (m_ 1) rfl (d_idxArr (o' := 0) Tryd.underlying23 sz4 rfl rfl (by decide) rfl) (by exact rfl) rfl), (by intro H' m_ hH hm_ hu_; rintro _ rfl; refine depK_nil ?_; exact s_d (m_ 2) rfl (d_loado (v := .bool neg.e0) ty4 rfl (.there (.there .here)) rfl rfl rfl rfl) (by exact rfl) rfl), (by intro H' m_ hH hm_ hu_; rintro _ rfl _ rfl; refine depK_nil ?_; exact s_k (m_ 3) rfl (o_call co7 (vs := [v0_a, .bool neg.e0, .int .i64 120]) rfl (radomelaw01_whole.calls k hy3 ((h0_a.mono hH).src))) rfl (by rintro v_ H_ _ ⟨rfl, e_, h_⟩; exact ⟨rfl, e_, h_⟩)), (by intro H' m_ hH hm_ hu_; refine depK_nil ?_; exact s_d (m_ 4) rfl (d_move (v := v1_b) rfl) (by exact rfl) rfl), (by intro H' m_ hH hm_ hu_; refine depK_nil ?_; exact s_d (m_ 5) rfl (d_idxArr (o' := 1) Tryd.underlying23 sz4 rfl rfl (by decide) rfl) (by exact rfl) rfl), (by intro H' m_ hH hm_ hu_; rintro _ rfl; refine depK_nil ?_; exact s_d (m_ 6) rfl (d_loado (v := .bool neg.e1) ty4 rfl (.there (.there .here)) rfl rfl rfl rfl) (by exact rfl) rfl), (by intro H' m_ hH hm_ hu_; rintro _ rfl _ rfl; refine depK_nil ?_; exact s_k (m_ 7) rfl (o_call co7 (vs := [v1_b, .bool neg.e1, .int .i64 120]) rfl (radomelaw01_whole.calls k hy9 ((h1_b.mono hH).src))) rfl (by rintro v_ H_ _ ⟨rfl, e_, h_⟩; exact ⟨rfl, e_, h_⟩)), (by intro H' m_ hH hm_ hu_; refine depK_nil ?_; exact s_box hm_ rfl rfl (o_alloc zr26 rfl) rfl (fun _ => .here) (by exact fun b_ => ⟨b_, rfl, rfl⟩)), (by intro H' m_ hH hm_ hu_; refine depK_nil ?_; exact s_box hm_ rfl rfl (o_alloc zr26 rfl) rfl (fun _ => (.there .here)) (by exact fun b_ => ⟨b_, rfl, rfl⟩)), trivial⟩ ?_
 intro H16 e17
 rintro _ _ rfl _ _ rfl _ _ rfl _ _ ⟨v6, rfl, h7⟩ _ _ rfl _ _ rfl _ _ rfl _ _ ⟨v12, rfl, h13⟩ _ _ ⟨b14, rfl, rfl⟩ _ _ ⟨b15, rfl, rfl⟩
 refine w_a0 rfl (o_store (v := .agg ⟨[.bool y2.f_Neg, v6]⟩) sz26 rfl rfl rfl rfl (one_cons rfl (one_cons (h7.one) one_nil)) .here (.here (.here .done))) ?_
 rintro _ _ _ ⟨rfl, rfl, rfl⟩
 refine w_a0 rfl (o_store (v := .agg ⟨[.bool y8.f_Neg, v12]⟩) sz26 rfl rfl rfl rfl (one_cons rfl (one_cons (h13.one) one_nil)) (.there .here) (.here (.here .done))) ?_
 rintro _ _ _ ⟨rfl, rfl, rfl⟩
 refine w_done ?_
 refine w_seq ?_
 obtain ⟨y18, hy19, he⟩ := Option.bind_eq_some_iff.1 he
 obtain ⟨y24, hy25, he⟩ := Option.bind_eq_some_iff.1 he
 refine w_none (w_none (?_))
 refine w_drawn (p := 6) (tl := [6, 7]) [[], [(0, some 30)], [], [(2, some 32)], [], []] [some 30, some 31, some 32, some 33, some 9, some 10] (fctF (.is (.agg ⟨[.bool y2.f_Neg, v6]⟩) :: .of (radomelaw01_giveInt.out y18) (radomelaw01_giveInt.out_mono _) :: .is (.agg ⟨[.bool y8.f_Neg, v12]⟩) :: .of (radomelaw01_giveInt.out y24) (radomelaw01_giveInt.out_mono _) :: .box 30 [.bool false, .slice none 0 0] :: .box 30 [.bool false, .slice none 0 0] :: [])) (fun m_ => m_ 4 :: m_ 5 :: some (b14, .cells ⟨[.bool y2.f_Neg, v6]⟩ 26 (0, 0)) :: some (b15, .cells ⟨[.bool y8.f_Neg, v12]⟩ 26 (0, 0)) :: some (b1, .cells ⟨[.bool neg.e0, .bool neg.e1]⟩ 23 (0, 0)) :: L) (fun _ => none) mixed (by kernel_rfl) (by kernel_rfl) rfl (fct_mono (by kernel_rfl)) ⟨(by intro H' m_ hH hm_ hu_; refine depK_nil ?_; exact s_d (m_ 0) rfl (d_loado (v := .agg ⟨[.bool y2.f_Neg, v6]⟩) ty26 rfl (.there (.there .here)) rfl rfl rfl rfl) (by exact rfl) rfl), (by intro H' m_ hH hm_ hu_; rintro _ rfl; refine depK_nil ?_; exact s_k (m_ 1) rfl (o_call co8 (vs := [.agg ⟨[.bool y2.f_Neg, v6]⟩]) rfl (radomelaw01_giveInt.calls k (a := (⟨y2.f_Neg, y2.f_D⟩ : radomeref01_Num)) hy19 (h7.mono hH))) rfl (by rintro v_ H_ _ ⟨rfl, e_, h_⟩; exact ⟨rfl, e_, h_⟩)), (by intro H' m_ hH hm_ hu_; refine depK_nil ?_; exact s_d (m_ 2) rfl (d_loado (v := .agg ⟨[.bool y8.f_Neg, v12]⟩) ty26 rfl (.there (.there (.there .here))) rfl rfl rfl rfl) (by exact rfl) rfl), (by intro H' m_ hH hm_ hu_; rintro _ rfl; refine depK_nil ?_; exact s_k (m_ 3) rfl (o_call co8 (vs := [.agg ⟨[.bool y8.f_Neg, v12]⟩]) rfl (radomelaw01_giveInt.calls k (a := (⟨y8.f_Neg, y8.f_D⟩ : radomeref01_Num)) hy25 (h13.mono hH))) rfl (by rintro v_ H_ _ ⟨rfl, e_, h_⟩; exact ⟨rfl, e_, h_⟩)), (by intro H' m_ hH hm_ hu_; refine depK_nil ?_; exact s_box hm_ rfl rfl (o_alloc zr30 rfl) rfl (fun _ => .here) (by exact fun b_ => ⟨b_, rfl, rfl⟩)), (by intro H' m_ hH hm_ hu_; refine depK_nil ?_; exact s_box hm_ rfl rfl (o_alloc zr30 rfl) rfl (fun _ => (.there .here)) (by exact fun b_ => ⟨b_, rfl, rfl⟩)), trivial⟩ ?_
 intro H32 e33
 rintro _ _ rfl _ _ ⟨v22, rfl, h23⟩ _ _ rfl _ _ ⟨v28, rfl, h29⟩ _ _ ⟨b30, rfl, rfl⟩ _ _ ⟨b31, rfl, rfl⟩
 refine w_a0 rfl (o_store (v := .agg ⟨[.bool y18.f_neg, v22]⟩) sz30 rfl rfl rfl rfl (one_cons rfl (one_cons (h23.one) one_nil)) .here (.here (.here .done))) ?_
 rintro _ _ _ ⟨rfl, rfl, rfl⟩
 refine w_a0 rfl (o_store (v := .agg ⟨[.bool y24.f_neg, v28]⟩) sz30 rfl rfl rfl rfl (one_cons rfl (one_cons (h29.one) one_nil)) (.there .here) (.here (.here .done))) ?_
 rintro _ _ _ ⟨rfl, rfl, rfl⟩
 refine w_done ?_
 refine w_seq ?_
 refine w_region rfl ?_
 refine w_d rfl (d_loado (v := .agg ⟨[.bool y18.f_neg, v22]⟩) ty30 rfl .here rfl rfl rfl rfl) ?_
 refine w_d rfl (d_loado (v := .agg ⟨[.bool y24.f_neg, v28]⟩) ty30 rfl (.there .here) rfl rfl rfl rfl) ?_
 obtain ⟨y34, hy35, he⟩ := Option.bind_eq_some_iff.1 he
 refine w_a rfl (o_call co9 (vs := [.agg ⟨[.bool y18.f_neg, v22]⟩, .agg ⟨[.bool y24.f_neg, v28]⟩]) rfl (wide_Int_Add.calls k (a := (⟨y18.f_neg, y18.f_w⟩ : wide_Int)) (b := (⟨y24.f_neg, y24.f_w⟩ : wide_Int)) hy35 h23 h29)) ?_
 rintro _ H36 _ ⟨rfl, e37, ⟨v38, rfl, h39⟩⟩
 refine w_d rfl (d_move (v := .tuple ⟨[.agg ⟨[.bool y34.1.f_neg, v38]⟩, errV 89 y34.2]⟩) rfl) ?_
 refine w_d rfl (d_ext (vs := [.agg ⟨[.bool y34.1.f_neg, v38]⟩, errV 89 y34.2]) rfl rfl) ?_
 refine w_d rfl (d_ext (vs := [.agg ⟨[.bool y34.1.f_neg, v38]⟩, errV 89 y34.2]) rfl rfl) ?_
 refine w_a rfl (o_alloc zr30 rfl) ?_
 rintro _ _ _ ⟨b40, rfl, rfl, rfl⟩
 refine w_a0 rfl (o_store (v := .agg ⟨[.bool y34.1.f_neg, v38]⟩) sz30 rfl rfl rfl rfl (one_cons rfl (one_cons (h39.one) one_nil)) .here (.here (.here .done))) ?_
 rintro _ _ _ ⟨rfl, rfl, rfl⟩
 refine w_d rfl (d_assign (v := errV 89 y34.2) rfl) ?_
 refine w_done ?_
 refine w_seq ?_
 refine w_region rfl ?_
 refine w_d rfl (d_loado (v := .agg ⟨[.bool y18.f_neg, v22]⟩) ty30 rfl (.there .here) rfl rfl rfl rfl) ?_
 refine w_d rfl (d_loado (v := .agg ⟨[.bool y24.f_neg, v28]⟩) ty30 rfl (.there (.there .here)) rfl rfl rfl rfl) ?_
 obtain ⟨y41, hy42, he⟩ := Option.bind_eq_some_iff.1 he
 refine w_a rfl (o_call co10 (vs := [.agg ⟨[.bool y18.f_neg, v22]⟩, .agg ⟨[.bool y24.f_neg, v28]⟩]) rfl (wide_Int_Sub.calls k (a := (⟨y18.f_neg, y18.f_w⟩ : wide_Int)) (b := (⟨y24.f_neg, y24.f_w⟩ : wide_Int)) hy42 (h23.mono e37) (h29.mono e37))) ?_
 rintro _ H43 _ ⟨rfl, e44, ⟨v45, rfl, h46⟩⟩
 refine w_d rfl (d_move (v := .tuple ⟨[.agg ⟨[.bool y41.1.f_neg, v45]⟩, errV 89 y41.2]⟩) rfl) ?_
 refine w_d rfl (d_ext (vs := [.agg ⟨[.bool y41.1.f_neg, v45]⟩, errV 89 y41.2]) rfl rfl) ?_
 refine w_d rfl (d_ext (vs := [.agg ⟨[.bool y41.1.f_neg, v45]⟩, errV 89 y41.2]) rfl rfl) ?_
 refine w_a rfl (o_alloc zr30 rfl) ?_
 rintro _ _ _ ⟨b47, rfl, rfl, rfl⟩
 refine w_a0 rfl (o_store (v := .agg ⟨[.bool y41.1.f_neg, v45]⟩) sz30 rfl rfl rfl rfl (one_cons rfl (one_cons (h46.one) one_nil)) .here (.here (.here .done))) ?_
 rintro _ _ _ ⟨rfl, rfl, rfl⟩
 refine w_d rfl (d_assign (v := errV 89 y41.2) rfl) ?_
 refine w_done ?_
 refine w_seq ?_
 refine w_region rfl ?_
 refine w_d rfl (d_loado (v := .agg ⟨[.bool y18.f_neg, v22]⟩) ty30 rfl (.there (.there .here)) rfl rfl rfl rfl) ?_
 refine w_d rfl (d_loado (v := .agg ⟨[.bool y24.f_neg, v28]⟩) ty30 rfl (.there (.there (.there .here))) rfl rfl rfl rfl) ?_
 obtain ⟨y48, hy49, he⟩ := Option.bind_eq_some_iff.1 he
 refine w_a rfl (o_call co11 (vs := [.agg ⟨[.bool y18.f_neg, v22]⟩, .agg ⟨[.bool y24.f_neg, v28]⟩]) rfl (wide_Int_Mul.calls k (a := (⟨y18.f_neg, y18.f_w⟩ : wide_Int)) (b := (⟨y24.f_neg, y24.f_w⟩ : wide_Int)) hy49 (h23.mono (e37.trans e44)) (h29.mono (e37.trans e44)))) ?_
 rintro _ H50 _ ⟨rfl, e51, ⟨v52, rfl, h53⟩⟩
 refine w_d rfl (d_move (v := .tuple ⟨[.agg ⟨[.bool y48.1.f_neg, v52]⟩, errV 89 y48.2]⟩) rfl) ?_
 refine w_d rfl (d_ext (vs := [.agg ⟨[.bool y48.1.f_neg, v52]⟩, errV 89 y48.2]) rfl rfl) ?_
 refine w_d rfl (d_ext (vs := [.agg ⟨[.bool y48.1.f_neg, v52]⟩, errV 89 y48.2]) rfl rfl) ?_
 refine w_a rfl (o_alloc zr30 rfl) ?_
 rintro _ _ _ ⟨b54, rfl, rfl, rfl⟩
 refine w_a0 rfl (o_store (v := .agg ⟨[.bool y48.1.f_neg, v52]⟩) sz30 rfl rfl rfl rfl (one_cons rfl (one_cons (h53.one) one_nil)) .here (.here (.here .done))) ?_
 rintro _ _ _ ⟨rfl, rfl, rfl⟩
 refine w_d rfl (d_assign (v := errV 89 y48.2) rfl) ?_
 refine w_done ?_
 refine w_seq ?_
 refine w_seq ?_
 obtain ⟨y62, hy63, he⟩ := Option.bind_eq_some_iff.1 he
 obtain ⟨y71, hy72, he⟩ := Option.bind_eq_some_iff.1 he
 obtain ⟨y78, hy79, he⟩ := Option.bind_eq_some_iff.1 he
 obtain ⟨y87, hy88, he⟩ := Option.bind_eq_some_iff.1 he
 obtain ⟨y94, hy95, he⟩ := Option.bind_eq_some_iff.1 he
 obtain ⟨y103, hy104, he⟩ := Option.bind_eq_some_iff.1 he
 obtain ⟨y110, hy111, he⟩ := Option.bind_eq_some_iff.1 he
 obtain ⟨y118, hy119, he⟩ := Option.bind_eq_some_iff.1 he
 obtain ⟨y125, hy126, he⟩ := Option.bind_eq_some_iff.1 he
 obtain ⟨y132, hy133, he⟩ := Option.bind_eq_some_iff.1 he
 obtain ⟨y138, hy139, he⟩ := Option.bind_eq_some_iff.1 he
 obtain ⟨y145, hy146, he⟩ := Option.bind_eq_some_iff.1 he
 refine w_drawn (p := 60) (tl := [60, 61, 62, 63]) [[], [(0, some 52)], [(1, some 53)], [(2, some 54)], [(2, some 54), (3, some 55)], [(2, some 54), (4, some 56)], [(5, some 57)], [(6, some 58)], [(6, some 58), (7, some 59)], [(6, some 58), (8, some 60)], [(9, some 61)], [(10, some 62)], [(10, some 62)], [(10, some 62), (11, some 63), (12, some 64)], [(10, some 62), (13, some 65)], [(10, some 62), (14, some 66)], [(15, some 67)], [(16, some 68)], [(16, some 68)], [(16, some 68)], [(16, some 68), (18, some 70), (19, some 71)], [(16, some 68), (17, some 69), (20, some 72)], [(16, some 68), (21, some 73)], [(16, some 68), (22, some 74)], [(23, some 75)], [(24, some 76)], [(24, some 76)], [(24, some 76)], [(24, some 76), (26, some 78), (27, some 79)], [(24, some 76), (25, some 77), (28, some 80)], [(24, some 76), (29, some 81)], [(24, some 76), (30, some 82)], [(31, some 83)], [(32, some 84)], [(32, some 84)], [(32, some 84)], [(32, some 84), (34, some 86), (35, some 87)], [(32, some 84), (33, some 85), (36, some 88)], [(32, some 84), (37, some 89)], [(32, some 84), (38, some 90)], [(39, some 91)], [(40, some 92)], [(40, some 92)], [(40, some 92), (41, some 93), (42, some 94)], [(40, some 92)], [(40, some 92)], [(40, some 92), (44, some 96), (45, some 97)], [(40, some 92), (43, some 95), (46, some 98)], [(40, some 92), (47, some 99)], [(48, some 100)], [(49, some 101)], [(49, some 101), (50, some 102)], [(49, some 101)], [(49, some 101), (52, some 104)], [(49, some 101), (51, some 103), (53, some 105)], [(49, some 101), (54, some 106)], [(55, some 107)], [(56, some 108)], [(56, some 108), (57, some 109)], [(56, some 108)]] [some 52, some 53, some 54, some 55, some 56, some 57, some 58, some 59, some 60, some 61, some 62, some 63, some 64, some 65, some 66, some 67, some 68, some 69, some 70, some 71, some 72, some 73, some 74, some 75, some 76, some 77, some 78, some 79, some 80, some 81, some 82, some 83, some 84, some 85, some 86, some 87, some 88, some 89, some 90, some 91, some 92, some 93, some 94, some 95, some 96, some 97, some 98, some 99, some 100, some 101, some 102, some 103, some 104, some 105, some 106, some 107, some 108, some 109, some 110, some 111] (fctF (.is (errV 89 y34.2) :: .is (.bool y34.2.isSome) :: .is (.bool y34.2.isSome) :: .is (cond (!y34.2.isSome) (errV 89 y41.2) undef) :: .is (cond (!y34.2.isSome) (.bool y41.2.isSome) undef) :: .is (.bool (y34.2.isSome || y41.2.isSome)) :: .is (.bool (y34.2.isSome || y41.2.isSome)) :: .is (cond (!(y34.2.isSome || y41.2.isSome)) (errV 89 y48.2) undef) :: .is (cond (!(y34.2.isSome || y41.2.isSome)) (.bool y48.2.isSome) undef) :: .is (.bool ((y34.2.isSome || y41.2.isSome) || y48.2.isSome)) :: .is (.bool ((y34.2.isSome || y41.2.isSome) || y48.2.isSome)) :: .is (cond (!((y34.2.isSome || y41.2.isSome) || y48.2.isSome)) (.agg ⟨[.bool y18.f_neg, v22]⟩) undef) :: .is (cond (!((y34.2.isSome || y41.2.isSome) || y48.2.isSome)) (.agg ⟨[.bool y2.f_Neg, v6]⟩) undef) :: .is (cond (!((y34.2.isSome || y41.2.isSome) || y48.2.isSome)) (.bool y62) undef) :: .is (cond (!((y34.2.isSome || y41.2.isSome) || y48.2.isSome)) (.bool (!y62)) undef) :: .is (.bool (((y34.2.isSome || y41.2.isSome) || y48.2.isSome) || (!y62))) :: .is (.bool (((y34.2.isSome || y41.2.isSome) || y48.2.isSome) || (!y62))) :: .is (cond (!(((y34.2.isSome || y41.2.isSome) || y48.2.isSome) || (!y62))) (.agg ⟨[.bool y34.1.f_neg, v38]⟩) undef) :: .is (cond (!(((y34.2.isSome || y41.2.isSome) || y48.2.isSome) || (!y62))) (.agg ⟨[.bool y2.f_Neg, v6]⟩) undef) :: .is (cond (!(((y34.2.isSome || y41.2.isSome) || y48.2.isSome) || (!y62))) (.agg ⟨[.bool y8.f_Neg, v12]⟩) undef) :: .of (fun H v => ∃ v75, v = cond (!(((y34.2.isSome || y41.2.isSome) || y48.2.isSome) || (!y62))) (.agg ⟨[.bool y71.f_Neg, v75]⟩) undef ∧ ((!(((y34.2.isSome || y41.2.isSome) || y48.2.isSome) || (!y62))) = true → Ro (Kd.int .i64) H v75 y71.f_D)) (by rintro _ _ _ hle ⟨v75, rfl, h76⟩; exact ⟨v75, rfl, fun g_ => (h76 g_).mono hle⟩) :: .is (cond (!(((y34.2.isSome || y41.2.isSome) || y48.2.isSome) || (!y62))) (.bool y78) undef) :: .is (cond (!(((y34.2.isSome || y41.2.isSome) || y48.2.isSome) || (!y62))) (.bool (!y78)) undef) :: .is (.bool ((((y34.2.isSome || y41.2.isSome) || y48.2.isSome) || (!y62)) || (!y78))) :: .is (.bool ((((y34.2.isSome || y41.2.isSome) || y48.2.isSome) || (!y62)) || (!y78))) :: .is (cond (!((((y34.2.isSome || y41.2.isSome) || y48.2.isSome) || (!y62)) || (!y78))) (.agg ⟨[.bool y41.1.f_neg, v45]⟩) undef) :: .is (cond (!((((y34.2.isSome || y41.2.isSome) || y48.2.isSome) || (!y62)) || (!y78))) (.agg ⟨[.bool y2.f_Neg, v6]⟩) undef) :: .is (cond (!((((y34.2.isSome || y41.2.isSome) || y48.2.isSome) || (!y62)) || (!y78))) (.agg ⟨[.bool y8.f_Neg, v12]⟩) undef) :: .of (fun H v => ∃ v91, v = cond (!((((y34.2.isSome || y41.2.isSome) || y48.2.isSome) || (!y62)) || (!y78))) (.agg ⟨[.bool y87.f_Neg, v91]⟩) undef ∧ ((!((((y34.2.isSome || y41.2.isSome) || y48.2.isSome) || (!y62)) || (!y78))) = true → Ro (Kd.int .i64) H v91 y87.f_D)) (by rintro _ _ _ hle ⟨v91, rfl, h92⟩; exact ⟨v91, rfl, fun g_ => (h92 g_).mono hle⟩) :: .is (cond (!((((y34.2.isSome || y41.2.isSome) || y48.2.isSome) || (!y62)) || (!y78))) (.bool y94) undef) :: .is (cond (!((((y34.2.isSome || y41.2.isSome) || y48.2.isSome) || (!y62)) || (!y78))) (.bool (!y94)) undef) :: .is (.bool (((((y34.2.isSome || y41.2.isSome) || y48.2.isSome) || (!y62)) || (!y78)) || (!y94))) :: .is (.bool (((((y34.2.isSome || y41.2.isSome) || y48.2.isSome) || (!y62)) || (!y78)) || (!y94))) :: .is (cond (!(((((y34.2.isSome || y41.2.isSome) || y48.2.isSome) || (!y62)) || (!y78)) || (!y94))) (.agg ⟨[.bool y48.1.f_neg, v52]⟩) undef) :: .is (cond (!(((((y34.2.isSome || y41.2.isSome) || y48.2.isSome) || (!y62)) || (!y78)) || (!y94))) (.agg ⟨[.bool y2.f_Neg, v6]⟩) undef) :: .is (cond (!(((((y34.2.isSome || y41.2.isSome) || y48.2.isSome) || (!y62)) || (!y78)) || (!y94))) (.agg ⟨[.bool y8.f_Neg, v12]⟩) undef) :: .of (fun H v => ∃ v107, v = cond (!(((((y34.2.isSome || y41.2.isSome) || y48.2.isSome) || (!y62)) || (!y78)) || (!y94))) (.agg ⟨[.bool y103.f_Neg, v107]⟩) undef ∧ ((!(((((y34.2.isSome || y41.2.isSome) || y48.2.isSome) || (!y62)) || (!y78)) || (!y94))) = true → Ro (Kd.int .i64) H v107 y103.f_D)) (by rintro _ _ _ hle ⟨v107, rfl, h108⟩; exact ⟨v107, rfl, fun g_ => (h108 g_).mono hle⟩) :: .is (cond (!(((((y34.2.isSome || y41.2.isSome) || y48.2.isSome) || (!y62)) || (!y78)) || (!y94))) (.bool y110) undef) :: .is (cond (!(((((y34.2.isSome || y41.2.isSome) || y48.2.isSome) || (!y62)) || (!y78)) || (!y94))) (.bool (!y110)) undef) :: .is (.bool ((((((y34.2.isSome || y41.2.isSome) || y48.2.isSome) || (!y62)) || (!y78)) || (!y94)) || (!y110))) :: .is (.bool ((((((y34.2.isSome || y41.2.isSome) || y48.2.isSome) || (!y62)) || (!y78)) || (!y94)) || (!y110))) :: .is (cond (!((((((y34.2.isSome || y41.2.isSome) || y48.2.isSome) || (!y62)) || (!y78)) || (!y94)) || (!y110))) (.agg ⟨[.bool y18.f_neg, v22]⟩) undef) :: .is (cond (!((((((y34.2.isSome || y41.2.isSome) || y48.2.isSome) || (!y62)) || (!y78)) || (!y94)) || (!y110))) (.agg ⟨[.bool y24.f_neg, v28]⟩) undef) :: .is (cond (!((((((y34.2.isSome || y41.2.isSome) || y48.2.isSome) || (!y62)) || (!y78)) || (!y94)) || (!y110))) (.int .i64 y118) undef) :: .is (cond (!((((((y34.2.isSome || y41.2.isSome) || y48.2.isSome) || (!y62)) || (!y78)) || (!y94)) || (!y110))) (.agg ⟨[.bool y2.f_Neg, v6]⟩) undef) :: .is (cond (!((((((y34.2.isSome || y41.2.isSome) || y48.2.isSome) || (!y62)) || (!y78)) || (!y94)) || (!y110))) (.agg ⟨[.bool y8.f_Neg, v12]⟩) undef) :: .is (cond (!((((((y34.2.isSome || y41.2.isSome) || y48.2.isSome) || (!y62)) || (!y78)) || (!y94)) || (!y110))) (.int .i64 y125) undef) :: .is (cond (!((((((y34.2.isSome || y41.2.isSome) || y48.2.isSome) || (!y62)) || (!y78)) || (!y94)) || (!y110))) (.bool (!decide (y118 = y125))) undef) :: .is (.bool (((((((y34.2.isSome || y41.2.isSome) || y48.2.isSome) || (!y62)) || (!y78)) || (!y94)) || (!y110)) || (!decide (y118 = y125)))) :: .is (.bool (((((((y34.2.isSome || y41.2.isSome) || y48.2.isSome) || (!y62)) || (!y78)) || (!y94)) || (!y110)) || (!decide (y118 = y125)))) :: .is (cond (!(((((((y34.2.isSome || y41.2.isSome) || y48.2.isSome) || (!y62)) || (!y78)) || (!y94)) || (!y110)) || (!decide (y118 = y125)))) (.agg ⟨[.bool y18.f_neg, v22]⟩) undef) :: .is (cond (!(((((((y34.2.isSome || y41.2.isSome) || y48.2.isSome) || (!y62)) || (!y78)) || (!y94)) || (!y110)) || (!decide (y118 = y125)))) (.int .i64 y132) undef) :: .is (cond (!(((((((y34.2.isSome || y41.2.isSome) || y48.2.isSome) || (!y62)) || (!y78)) || (!y94)) || (!y110)) || (!decide (y118 = y125)))) (.agg ⟨[.bool y2.f_Neg, v6]⟩) undef) :: .is (cond (!(((((((y34.2.isSome || y41.2.isSome) || y48.2.isSome) || (!y62)) || (!y78)) || (!y94)) || (!y110)) || (!decide (y118 = y125)))) (.int .i64 y138) undef) :: .is (cond (!(((((((y34.2.isSome || y41.2.isSome) || y48.2.isSome) || (!y62)) || (!y78)) || (!y94)) || (!y110)) || (!decide (y118 = y125)))) (.bool (!decide (y132 = y138))) undef) :: .is (.bool ((((((((y34.2.isSome || y41.2.isSome) || y48.2.isSome) || (!y62)) || (!y78)) || (!y94)) || (!y110)) || (!decide (y118 = y125))) || (!decide (y132 = y138)))) :: .is (.bool ((((((((y34.2.isSome || y41.2.isSome) || y48.2.isSome) || (!y62)) || (!y78)) || (!y94)) || (!y110)) || (!decide (y118 = y125))) || (!decide (y132 = y138)))) :: .is (cond (!((((((((y34.2.isSome || y41.2.isSome) || y48.2.isSome) || (!y62)) || (!y78)) || (!y94)) || (!y110)) || (!decide (y118 = y125))) || (!decide (y132 = y138)))) (.agg ⟨[.bool y18.f_neg, v22]⟩) undef) :: .of (fun H v => ∃ v149, v = cond (!((((((((y34.2.isSome || y41.2.isSome) || y48.2.isSome) || (!y62)) || (!y78)) || (!y94)) || (!y110)) || (!decide (y118 = y125))) || (!decide (y132 = y138)))) (.agg ⟨[.bool y145.f_neg, v149]⟩) undef ∧ ((!((((((((y34.2.isSome || y41.2.isSome) || y48.2.isSome) || (!y62)) || (!y78)) || (!y94)) || (!y110)) || (!decide (y118 = y125))) || (!decide (y132 = y138)))) = true → Ro (Kd.int .u32) H v149 y145.f_w)) (by rintro _ _ _ hle ⟨v149, rfl, h150⟩; exact ⟨v149, rfl, fun g_ => (h150 g_).mono hle⟩) :: .is (cond (!((((((((y34.2.isSome || y41.2.isSome) || y48.2.isSome) || (!y62)) || (!y78)) || (!y94)) || (!y110)) || (!decide (y118 = y125))) || (!decide (y132 = y138)))) (.agg ⟨[.bool y2.f_Neg, v6]⟩) undef) :: [])) (fun m_ => some (b54, .cells ⟨[.bool y48.1.f_neg, v52]⟩ 30 (0, 0)) :: some (b47, .cells ⟨[.bool y41.1.f_neg, v45]⟩ 30 (0, 0)) :: some (b40, .cells ⟨[.bool y34.1.f_neg, v38]⟩ 30 (0, 0)) :: some (b30, .cells ⟨[.bool y18.f_neg, v22]⟩ 30 (0, 0)) :: some (b31, .cells ⟨[.bool y24.f_neg, v28]⟩ 30 (0, 0)) :: some (b14, .cells ⟨[.bool y2.f_Neg, v6]⟩ 26 (0, 0)) :: some (b15, .cells ⟨[.bool y8.f_Neg, v12]⟩ 26 (0, 0)) :: some (b1, .cells ⟨[.bool neg.e0, .bool neg.e1]⟩ 23 (0, 0)) :: L) (fun _ => none) mixed (by kernel_rfl) (by kernel_rfl) rfl (fct_mono (by kernel_rfl)) ⟨(by intro H' m_ hH hm_ hu_; refine depK_nil ?_; exact s_d (m_ 0) rfl (d_move (v := errV 89 y34.2) rfl) (by exact rfl) rfl), (by intro H' m_ hH hm_ hu_; rintro _ rfl; refine depK_nil ?_; exact s_d (m_ 1) rfl (d_nenil (e := y34.2) Tryd.underlying33 rfl) (by exact rfl) rfl), (by intro H' m_ hH hm_ hu_; rintro _ rfl; refine depK_nil ?_; exact s_d (m_ 2) rfl (d_move (v := .bool y34.2.isSome) rfl) (by exact rfl) rfl), (by intro H' m_ hH hm_ hu_; rintro _ rfl; refine depK_nil ?_; exact s_g (g := !y34.2.isSome) (m_ 3) rfl rfl rfl wn_f (fun g55 => d_move (v := errV 89 y41.2) rfl) rfl (by exact fun g_ => cvt g_) (by exact fun g_ => cnt g_)), (by intro H' m_ hH hm_ hu_; rintro _ rfl _ rfl; refine depK_nil ?_; exact s_g (g := !y34.2.isSome) (m_ 4) rfl rfl rfl wn_f (fun g56 => d_nenil (e := y41.2) Tryd.underlying33 (cvt g56)) rfl (by exact fun g_ => cvt g_) (by exact fun g_ => cnt g_)), (by intro H' m_ hH hm_ hu_; rintro _ rfl _ rfl; refine depK_nil ?_; exact s_d (m_ 5) rfl (d_or' (b := y34.2.isSome) (p := y41.2.isSome) rfl rfl rfl) (by exact rfl) rfl), (by intro H' m_ hH hm_ hu_; rintro _ rfl; refine depK_nil ?_; exact s_d (m_ 6) rfl (d_move (v := .bool (y34.2.isSome || y41.2.isSome)) rfl) (by exact rfl) rfl), (by intro H' m_ hH hm_ hu_; rintro _ rfl; refine depK_nil ?_; exact s_g (g := !(y34.2.isSome || y41.2.isSome)) (m_ 7) rfl rfl rfl wn_f (fun g57 => d_move (v := errV 89 y48.2) rfl) rfl (by exact fun g_ => cvt g_) (by exact fun g_ => cnt g_)), (by intro H' m_ hH hm_ hu_; rintro _ rfl _ rfl; refine depK_nil ?_; exact s_g (g := !(y34.2.isSome || y41.2.isSome)) (m_ 8) rfl rfl rfl wn_f (fun g58 => d_nenil (e := y48.2) Tryd.underlying33 (cvt g58)) rfl (by exact fun g_ => cvt g_) (by exact fun g_ => cnt g_)), (by intro H' m_ hH hm_ hu_; rintro _ rfl _ rfl; refine depK_nil ?_; exact s_d (m_ 9) rfl (d_or' (b := (y34.2.isSome || y41.2.isSome)) (p := y48.2.isSome) rfl rfl rfl) (by exact rfl) rfl), (by intro H' m_ hH hm_ hu_; rintro _ rfl; refine depK_nil ?_; exact s_d (m_ 10) rfl (d_move (v := .bool ((y34.2.isSome || y41.2.isSome) || y48.2.isSome)) rfl) (by exact rfl) rfl), (by intro H' m_ hH hm_ hu_; rintro _ rfl; refine depK_nil ?_; exact s_g (g := !((y34.2.isSome || y41.2.isSome) || y48.2.isSome)) (m_ 11) rfl rfl rfl wn_f (fun g59 => d_loado (v := .agg ⟨[.bool y18.f_neg, v22]⟩) ty30 rfl (.there (.there (.there .here))) rfl rfl rfl rfl) rfl (by exact fun g_ => cvt g_) (by exact fun g_ => cnt g_)), (by intro H' m_ hH hm_ hu_; rintro _ rfl; refine depK_nil ?_; exact s_g (g := !((y34.2.isSome || y41.2.isSome) || y48.2.isSome)) (m_ 12) rfl rfl rfl wn_f (fun g60 => d_loado (v := .agg ⟨[.bool y2.f_Neg, v6]⟩) ty26 rfl (.there (.there (.there (.there (.there .here))))) rfl rfl rfl rfl) rfl (by exact fun g_ => cvt g_) (by exact fun g_ => cnt g_)), (by intro H' m_ hH hm_ hu_; rintro _ rfl _ rfl _ rfl; refine depK_nil ?_; exact s_g (g := !((y34.2.isSome || y41.2.isSome) || y48.2.isSome)) (m_ 13) rfl rfl rfl wn_f (fun g61 => call_d (o_call co12 (vs := [.agg ⟨[.bool y18.f_neg, v22]⟩, .agg ⟨[.bool y2.f_Neg, v6]⟩]) (acons (cvt g61) (acons (cvt g61) (anil))) (radomelaw01_is.calls k (a := (⟨y18.f_neg, y18.f_w⟩ : wide_Int)) (b := (⟨y2.f_Neg, y2.f_D⟩ : radomeref01_Num)) (gd_t g61 hy63) (h23.mono (((e37.trans e44).trans e51).trans hH)) (h7.mono ((((e33.trans e37).trans e44).trans e51).trans hH))))) rfl (by exact fun g_ => cvt g_) (by exact fun g_ => cnt g_)), (by intro H' m_ hH hm_ hu_; rintro _ rfl _ rfl; refine depK_nil ?_; exact s_g (g := !((y34.2.isSome || y41.2.isSome) || y48.2.isSome)) (m_ 14) rfl rfl rfl wn_f (fun g66 => d_not (b := y62) (cvt g66)) rfl (by exact fun g_ => cvt g_) (by exact fun g_ => cnt g_)), (by intro H' m_ hH hm_ hu_; rintro _ rfl _ rfl; refine depK_nil ?_; exact s_d (m_ 15) rfl (d_or' (b := ((y34.2.isSome || y41.2.isSome) || y48.2.isSome)) (p := (!y62)) rfl rfl rfl) (by exact rfl) rfl), (by intro H' m_ hH hm_ hu_; rintro _ rfl; refine depK_nil ?_; exact s_d (m_ 16) rfl (d_move (v := .bool (((y34.2.isSome || y41.2.isSome) || y48.2.isSome) || (!y62))) rfl) (by exact rfl) rfl), (by intro H' m_ hH hm_ hu_; rintro _ rfl; refine depK_nil ?_; exact s_g (g := !(((y34.2.isSome || y41.2.isSome) || y48.2.isSome) || (!y62))) (m_ 17) rfl rfl rfl wn_f (fun g67 => d_loado (v := .agg ⟨[.bool y34.1.f_neg, v38]⟩) ty30 rfl (.there (.there .here)) rfl rfl rfl rfl) rfl (by exact fun g_ => cvt g_) (by exact fun g_ => cnt g_)), (by intro H' m_ hH hm_ hu_; rintro _ rfl; refine depK_nil ?_; exact s_g (g := !(((y34.2.isSome || y41.2.isSome) || y48.2.isSome) || (!y62))) (m_ 18) rfl rfl rfl wn_f (fun g68 => d_loado (v := .agg ⟨[.bool y2.f_Neg, v6]⟩) ty26 rfl (.there (.there (.there (.there (.there .here))))) rfl rfl rfl rfl) rfl (by exact fun g_ => cvt g_) (by exact fun g_ => cnt g_)), (by intro H' m_ hH hm_ hu_; rintro _ rfl; refine depK_nil ?_; exact s_g (g := !(((y34.2.isSome || y41.2.isSome) || y48.2.isSome) || (!y62))) (m_ 19) rfl rfl rfl wn_f (fun g69 => d_loado (v := .agg ⟨[.bool y8.f_Neg, v12]⟩) ty26 rfl (.there (.there (.there (.there (.there (.there .here)))))) rfl rfl rfl rfl) rfl (by exact fun g_ => cvt g_) (by exact fun g_ => cnt g_)), (by intro H' m_ hH hm_ hu_; rintro _ rfl _ rfl _ rfl; refine depK_nil ?_; exact s_gr (g := (!(((y34.2.isSome || y41.2.isSome) || y48.2.isSome) || (!y62)))) (fun v75 => .agg ⟨[.bool y71.f_Neg, v75]⟩) (fun H v75 => Ro (Kd.int .i64) H v75 y71.f_D) (m_ 20) rfl rfl rfl wn_f (fun g70 => by exact o_call co13 (vs := [.agg ⟨[.bool y2.f_Neg, v6]⟩, .agg ⟨[.bool y8.f_Neg, v12]⟩]) (acons (cvt g70) (acons (cvt g70) (anil))) (radomeref01_Add.calls k (a := (⟨y2.f_Neg, y2.f_D⟩ : radomeref01_Num)) (b := (⟨y8.f_Neg, y8.f_D⟩ : radomeref01_Num)) (gd_t g70 hy72) (h7.mono ((((e33.trans e37).trans e44).trans e51).trans hH)) (h13.mono ((((e33.trans e37).trans e44).trans e51).trans hH)))) rfl (by exact fun c_ H_ h_ => ⟨c_, rfl, h_⟩)), (by intro H' m_ hH hm_ hu_; rintro _ rfl _ rfl _ ⟨v75, rfl, h76⟩; refine depK_nil ?_; exact s_g (g := !(((y34.2.isSome || y41.2.isSome) || y48.2.isSome) || (!y62))) (m_ 21) rfl rfl rfl wn_f (fun g77 => call_d (o_call co12 (vs := [.agg ⟨[.bool y34.1.f_neg, v38]⟩, .agg ⟨[.bool y71.f_Neg, v75]⟩]) (acons (cvt g77) (acons (cvt g77) (anil))) (radomelaw01_is.calls k (a := (⟨y34.1.f_neg, y34.1.f_w⟩ : wide_Int)) (b := (⟨y71.f_Neg, y71.f_D⟩ : radomeref01_Num)) (gd_t g77 hy79) (h39.mono ((e44.trans e51).trans hH)) (h76 g77)))) rfl (by exact fun g_ => cvt g_) (by exact fun g_ => cnt g_)), (by intro H' m_ hH hm_ hu_; rintro _ rfl _ rfl; refine depK_nil ?_; exact s_g (g := !(((y34.2.isSome || y41.2.isSome) || y48.2.isSome) || (!y62))) (m_ 22) rfl rfl rfl wn_f (fun g82 => d_not (b := y78) (cvt g82)) rfl (by exact fun g_ => cvt g_) (by exact fun g_ => cnt g_)), (by intro H' m_ hH hm_ hu_; rintro _ rfl _ rfl; refine depK_nil ?_; exact s_d (m_ 23) rfl (d_or' (b := (((y34.2.isSome || y41.2.isSome) || y48.2.isSome) || (!y62))) (p := (!y78)) rfl rfl rfl) (by exact rfl) rfl), (by intro H' m_ hH hm_ hu_; rintro _ rfl; refine depK_nil ?_; exact s_d (m_ 24) rfl (d_move (v := .bool ((((y34.2.isSome || y41.2.isSome) || y48.2.isSome) || (!y62)) || (!y78))) rfl) (by exact rfl) rfl), (by intro H' m_ hH hm_ hu_; rintro _ rfl; refine depK_nil ?_; exact s_g (g := !((((y34.2.isSome || y41.2.isSome) || y48.2.isSome) || (!y62)) || (!y78))) (m_ 25) rfl rfl rfl wn_f (fun g83 => d_loado (v := .agg ⟨[.bool y41.1.f_neg, v45]⟩) ty30 rfl (.there .here) rfl rfl rfl rfl) rfl (by exact fun g_ => cvt g_) (by exact fun g_ => cnt g_)), (by intro H' m_ hH hm_ hu_; rintro _ rfl; refine depK_nil ?_; exact s_g (g := !((((y34.2.isSome || y41.2.isSome) || y48.2.isSome) || (!y62)) || (!y78))) (m_ 26) rfl rfl rfl wn_f (fun g84 => d_loado (v := .agg ⟨[.bool y2.f_Neg, v6]⟩) ty26 rfl (.there (.there (.there (.there (.there .here))))) rfl rfl rfl rfl) rfl (by exact fun g_ => cvt g_) (by exact fun g_ => cnt g_)), (by intro H' m_ hH hm_ hu_; rintro _ rfl; refine depK_nil ?_; exact s_g (g := !((((y34.2.isSome || y41.2.isSome) || y48.2.isSome) || (!y62)) || (!y78))) (m_ 27) rfl rfl rfl wn_f (fun g85 => d_loado (v := .agg ⟨[.bool y8.f_Neg, v12]⟩) ty26 rfl (.there (.there (.there (.there (.there (.there .here)))))) rfl rfl rfl rfl) rfl (by exact fun g_ => cvt g_) (by exact fun g_ => cnt g_)), (by intro H' m_ hH hm_ hu_; rintro _ rfl _ rfl _ rfl; refine depK_nil ?_; exact s_gr (g := (!((((y34.2.isSome || y41.2.isSome) || y48.2.isSome) || (!y62)) || (!y78)))) (fun v91 => .agg ⟨[.bool y87.f_Neg, v91]⟩) (fun H v91 => Ro (Kd.int .i64) H v91 y87.f_D) (m_ 28) rfl rfl rfl wn_f (fun g86 => by exact o_call co14 (vs := [.agg ⟨[.bool y2.f_Neg, v6]⟩, .agg ⟨[.bool y8.f_Neg, v12]⟩]) (acons (cvt g86) (acons (cvt g86) (anil))) (radomeref01_Sub.calls k (a := (⟨y2.f_Neg, y2.f_D⟩ : radomeref01_Num)) (b := (⟨y8.f_Neg, y8.f_D⟩ : radomeref01_Num)) (gd_t g86 hy88) (h7.mono ((((e33.trans e37).trans e44).trans e51).trans hH)) (h13.mono ((((e33.trans e37).trans e44).trans e51).trans hH)))) rfl (by exact fun c_ H_ h_ => ⟨c_, rfl, h_⟩)), (by intro H' m_ hH hm_ hu_; rintro _ rfl _ rfl _ ⟨v91, rfl, h92⟩; refine depK_nil ?_; exact s_g (g := !((((y34.2.isSome || y41.2.isSome) || y48.2.isSome) || (!y62)) || (!y78))) (m_ 29) rfl rfl rfl wn_f (fun g93 => call_d (o_call co12 (vs := [.agg ⟨[.bool y41.1.f_neg, v45]⟩, .agg ⟨[.bool y87.f_Neg, v91]⟩]) (acons (cvt g93) (acons (cvt g93) (anil))) (radomelaw01_is.calls k (a := (⟨y41.1.f_neg, y41.1.f_w⟩ : wide_Int)) (b := (⟨y87.f_Neg, y87.f_D⟩ : radomeref01_Num)) (gd_t g93 hy95) (h46.mono (e51.trans hH)) (h92 g93)))) rfl (by exact fun g_ => cvt g_) (by exact fun g_ => cnt g_)), (by intro H' m_ hH hm_ hu_; rintro _ rfl _ rfl; refine depK_nil ?_; exact s_g (g := !((((y34.2.isSome || y41.2.isSome) || y48.2.isSome) || (!y62)) || (!y78))) (m_ 30) rfl rfl rfl wn_f (fun g98 => d_not (b := y94) (cvt g98)) rfl (by exact fun g_ => cvt g_) (by exact fun g_ => cnt g_)), (by intro H' m_ hH hm_ hu_; rintro _ rfl _ rfl; refine depK_nil ?_; exact s_d (m_ 31) rfl (d_or' (b := ((((y34.2.isSome || y41.2.isSome) || y48.2.isSome) || (!y62)) || (!y78))) (p := (!y94)) rfl rfl rfl) (by exact rfl) rfl), (by intro H' m_ hH hm_ hu_; rintro _ rfl; refine depK_nil ?_; exact s_d (m_ 32) rfl (d_move (v := .bool (((((y34.2.isSome || y41.2.isSome) || y48.2.isSome) || (!y62)) || (!y78)) || (!y94))) rfl) (by exact rfl) rfl), (by intro H' m_ hH hm_ hu_; rintro _ rfl; refine depK_nil ?_; exact s_g (g := !(((((y34.2.isSome || y41.2.isSome) || y48.2.isSome) || (!y62)) || (!y78)) || (!y94))) (m_ 33) rfl rfl rfl wn_f (fun g99 => d_loado (v := .agg ⟨[.bool y48.1.f_neg, v52]⟩) ty30 rfl .here rfl rfl rfl rfl) rfl (by exact fun g_ => cvt g_) (by exact fun g_ => cnt g_)), (by intro H' m_ hH hm_ hu_; rintro _ rfl; refine depK_nil ?_; exact s_g (g := !(((((y34.2.isSome || y41.2.isSome) || y48.2.isSome) || (!y62)) || (!y78)) || (!y94))) (m_ 34) rfl rfl rfl wn_f (fun g100 => d_loado (v := .agg ⟨[.bool y2.f_Neg, v6]⟩) ty26 rfl (.there (.there (.there (.there (.there .here))))) rfl rfl rfl rfl) rfl (by exact fun g_ => cvt g_) (by exact fun g_ => cnt g_)), (by intro H' m_ hH hm_ hu_; rintro _ rfl; refine depK_nil ?_; exact s_g (g := !(((((y34.2.isSome || y41.2.isSome) || y48.2.isSome) || (!y62)) || (!y78)) || (!y94))) (m_ 35) rfl rfl rfl wn_f (fun g101 => d_loado (v := .agg ⟨[.bool y8.f_Neg, v12]⟩) ty26 rfl (.there (.there (.there (.there (.there (.there .here)))))) rfl rfl rfl rfl) rfl (by exact fun g_ => cvt g_) (by exact fun g_ => cnt g_)), (by intro H' m_ hH hm_ hu_; rintro _ rfl _ rfl _ rfl; refine depK_nil ?_; exact s_gr (g := (!(((((y34.2.isSome || y41.2.isSome) || y48.2.isSome) || (!y62)) || (!y78)) || (!y94)))) (fun v107 => .agg ⟨[.bool y103.f_Neg, v107]⟩) (fun H v107 => Ro (Kd.int .i64) H v107 y103.f_D) (m_ 36) rfl rfl rfl wn_f (fun g102 => by exact o_call co15 (vs := [.agg ⟨[.bool y2.f_Neg, v6]⟩, .agg ⟨[.bool y8.f_Neg, v12]⟩]) (acons (cvt g102) (acons (cvt g102) (anil))) (radomeref01_Mul.calls k (a := (⟨y2.f_Neg, y2.f_D⟩ : radomeref01_Num)) (b := (⟨y8.f_Neg, y8.f_D⟩ : radomeref01_Num)) (gd_t g102 hy104) (h7.mono ((((e33.trans e37).trans e44).trans e51).trans hH)) (h13.mono ((((e33.trans e37).trans e44).trans e51).trans hH)))) rfl (by exact fun c_ H_ h_ => ⟨c_, rfl, h_⟩)), (by intro H' m_ hH hm_ hu_; rintro _ rfl _ rfl _ ⟨v107, rfl, h108⟩; refine depK_nil ?_; exact s_g (g := !(((((y34.2.isSome || y41.2.isSome) || y48.2.isSome) || (!y62)) || (!y78)) || (!y94))) (m_ 37) rfl rfl rfl wn_f (fun g109 => call_d (o_call co12 (vs := [.agg ⟨[.bool y48.1.f_neg, v52]⟩, .agg ⟨[.bool y103.f_Neg, v107]⟩]) (acons (cvt g109) (acons (cvt g109) (anil))) (radomelaw01_is.calls k (a := (⟨y48.1.f_neg, y48.1.f_w⟩ : wide_Int)) (b := (⟨y103.f_Neg, y103.f_D⟩ : radomeref01_Num)) (gd_t g109 hy111) (h53.mono hH) (h108 g109)))) rfl (by exact fun g_ => cvt g_) (by exact fun g_ => cnt g_)), (by intro H' m_ hH hm_ hu_; rintro _ rfl _ rfl; refine depK_nil ?_; exact s_g (g := !(((((y34.2.isSome || y41.2.isSome) || y48.2.isSome) || (!y62)) || (!y78)) || (!y94))) (m_ 38) rfl rfl rfl wn_f (fun g114 => d_not (b := y110) (cvt g114)) rfl (by exact fun g_ => cvt g_) (by exact fun g_ => cnt g_)), (by intro H' m_ hH hm_ hu_; rintro _ rfl _ rfl; refine depK_nil ?_; exact s_d (m_ 39) rfl (d_or' (b := (((((y34.2.isSome || y41.2.isSome) || y48.2.isSome) || (!y62)) || (!y78)) || (!y94))) (p := (!y110)) rfl rfl rfl) (by exact rfl) rfl), (by intro H' m_ hH hm_ hu_; rintro _ rfl; refine depK_nil ?_; exact s_d (m_ 40) rfl (d_move (v := .bool ((((((y34.2.isSome || y41.2.isSome) || y48.2.isSome) || (!y62)) || (!y78)) || (!y94)) || (!y110))) rfl) (by exact rfl) rfl), (by intro H' m_ hH hm_ hu_; rintro _ rfl; refine depK_nil ?_; exact s_g (g := !((((((y34.2.isSome || y41.2.isSome) || y48.2.isSome) || (!y62)) || (!y78)) || (!y94)) || (!y110))) (m_ 41) rfl rfl rfl wn_f (fun g115 => d_loado (v := .agg ⟨[.bool y18.f_neg, v22]⟩) ty30 rfl (.there (.there (.there .here))) rfl rfl rfl rfl) rfl (by exact fun g_ => cvt g_) (by exact fun g_ => cnt g_)), (by intro H' m_ hH hm_ hu_; rintro _ rfl; refine depK_nil ?_; exact s_g (g := !((((((y34.2.isSome || y41.2.isSome) || y48.2.isSome) || (!y62)) || (!y78)) || (!y94)) || (!y110))) (m_ 42) rfl rfl rfl wn_f (fun g116 => d_loado (v := .agg ⟨[.bool y24.f_neg, v28]⟩) ty30 rfl (.there (.there (.there (.there .here)))) rfl rfl rfl rfl) rfl (by exact fun g_ => cvt g_) (by exact fun g_ => cnt g_)), (by intro H' m_ hH hm_ hu_; rintro _ rfl _ rfl _ rfl; refine depK_nil ?_; exact s_g (g := !((((((y34.2.isSome || y41.2.isSome) || y48.2.isSome) || (!y62)) || (!y78)) || (!y94)) || (!y110))) (m_ 43) rfl rfl rfl wn_f (fun g117 => call_d (o_call co16 (vs := [.agg ⟨[.bool y18.f_neg, v22]⟩, .agg ⟨[.bool y24.f_neg, v28]⟩]) (acons (cvt g117) (acons (cvt g117) (anil))) (wide_Int_Cmp.calls k (a := (⟨y18.f_neg, y18.f_w⟩ : wide_Int)) (b := (⟨y24.f_neg, y24.f_w⟩ : wide_Int)) (gd_t g117 hy119) (h23.mono (((e37.trans e44).trans e51).trans hH)) (h29.mono (((e37.trans e44).trans e51).trans hH))))) rfl (by exact fun g_ => cvt g_) (by exact fun g_ => cnt g_)), (by intro H' m_ hH hm_ hu_; rintro _ rfl; refine depK_nil ?_; exact s_g (g := !((((((y34.2.isSome || y41.2.isSome) || y48.2.isSome) || (!y62)) || (!y78)) || (!y94)) || (!y110))) (m_ 44) rfl rfl rfl wn_f (fun g122 => d_loado (v := .agg ⟨[.bool y2.f_Neg, v6]⟩) ty26 rfl (.there (.there (.there (.there (.there .here))))) rfl rfl rfl rfl) rfl (by exact fun g_ => cvt g_) (by exact fun g_ => cnt g_)), (by intro H' m_ hH hm_ hu_; rintro _ rfl; refine depK_nil ?_; exact s_g (g := !((((((y34.2.isSome || y41.2.isSome) || y48.2.isSome) || (!y62)) || (!y78)) || (!y94)) || (!y110))) (m_ 45) rfl rfl rfl wn_f (fun g123 => d_loado (v := .agg ⟨[.bool y8.f_Neg, v12]⟩) ty26 rfl (.there (.there (.there (.there (.there (.there .here)))))) rfl rfl rfl rfl) rfl (by exact fun g_ => cvt g_) (by exact fun g_ => cnt g_)), (by intro H' m_ hH hm_ hu_; rintro _ rfl _ rfl _ rfl; refine depK_nil ?_; exact s_g (g := !((((((y34.2.isSome || y41.2.isSome) || y48.2.isSome) || (!y62)) || (!y78)) || (!y94)) || (!y110))) (m_ 46) rfl rfl rfl wn_f (fun g124 => call_d (o_call co17 (vs := [.agg ⟨[.bool y2.f_Neg, v6]⟩, .agg ⟨[.bool y8.f_Neg, v12]⟩]) (acons (cvt g124) (acons (cvt g124) (anil))) (radomeref01_Cmp.calls k (a := (⟨y2.f_Neg, y2.f_D⟩ : radomeref01_Num)) (b := (⟨y8.f_Neg, y8.f_D⟩ : radomeref01_Num)) (gd_t g124 hy126) (h7.mono ((((e33.trans e37).trans e44).trans e51).trans hH)) (h13.mono ((((e33.trans e37).trans e44).trans e51).trans hH))))) rfl (by exact fun g_ => cvt g_) (by exact fun g_ => cnt g_)), (by intro H' m_ hH hm_ hu_; rintro _ rfl _ rfl _ rfl; refine depK_nil ?_; exact s_g (g := !((((((y34.2.isSome || y41.2.isSome) || y48.2.isSome) || (!y62)) || (!y78)) || (!y94)) || (!y110))) (m_ 47) rfl rfl rfl wn_f (fun g129 => d_neq (cvt g129) (cvt g129)) rfl (by exact fun g_ => cvt g_) (by exact fun g_ => cnt g_)), (by intro H' m_ hH hm_ hu_; rintro _ rfl _ rfl; refine depK_nil ?_; exact s_d (m_ 48) rfl (d_or' (b := ((((((y34.2.isSome || y41.2.isSome) || y48.2.isSome) || (!y62)) || (!y78)) || (!y94)) || (!y110))) (p := (!decide (y118 = y125))) rfl rfl rfl) (by exact rfl) rfl), (by intro H' m_ hH hm_ hu_; rintro _ rfl; refine depK_nil ?_; exact s_d (m_ 49) rfl (d_move (v := .bool (((((((y34.2.isSome || y41.2.isSome) || y48.2.isSome) || (!y62)) || (!y78)) || (!y94)) || (!y110)) || (!decide (y118 = y125)))) rfl) (by exact rfl) rfl), (by intro H' m_ hH hm_ hu_; rintro _ rfl; refine depK_nil ?_; exact s_g (g := !(((((((y34.2.isSome || y41.2.isSome) || y48.2.isSome) || (!y62)) || (!y78)) || (!y94)) || (!y110)) || (!decide (y118 = y125)))) (m_ 50) rfl rfl rfl wn_f (fun g130 => d_loado (v := .agg ⟨[.bool y18.f_neg, v22]⟩) ty30 rfl (.there (.there (.there .here))) rfl rfl rfl rfl) rfl (by exact fun g_ => cvt g_) (by exact fun g_ => cnt g_)), (by intro H' m_ hH hm_ hu_; rintro _ rfl _ rfl; refine depK_nil ?_; exact s_g (g := !(((((((y34.2.isSome || y41.2.isSome) || y48.2.isSome) || (!y62)) || (!y78)) || (!y94)) || (!y110)) || (!decide (y118 = y125)))) (m_ 51) rfl rfl rfl wn_f (fun g131 => call_d (o_call co18 (vs := [.agg ⟨[.bool y18.f_neg, v22]⟩]) (acons (cvt g131) (anil)) (wide_Int_Sign.calls k (a := (⟨y18.f_neg, y18.f_w⟩ : wide_Int)) (gd_t g131 hy133) (h23.mono (((e37.trans e44).trans e51).trans hH))))) rfl (by exact fun g_ => cvt g_) (by exact fun g_ => cnt g_)), (by intro H' m_ hH hm_ hu_; rintro _ rfl; refine depK_nil ?_; exact s_g (g := !(((((((y34.2.isSome || y41.2.isSome) || y48.2.isSome) || (!y62)) || (!y78)) || (!y94)) || (!y110)) || (!decide (y118 = y125)))) (m_ 52) rfl rfl rfl wn_f (fun g136 => d_loado (v := .agg ⟨[.bool y2.f_Neg, v6]⟩) ty26 rfl (.there (.there (.there (.there (.there .here))))) rfl rfl rfl rfl) rfl (by exact fun g_ => cvt g_) (by exact fun g_ => cnt g_)), (by intro H' m_ hH hm_ hu_; rintro _ rfl _ rfl; refine depK_nil ?_; exact s_g (g := !(((((((y34.2.isSome || y41.2.isSome) || y48.2.isSome) || (!y62)) || (!y78)) || (!y94)) || (!y110)) || (!decide (y118 = y125)))) (m_ 53) rfl rfl rfl wn_f (fun g137 => call_d (o_call co19 (vs := [.agg ⟨[.bool y2.f_Neg, v6]⟩]) (acons (cvt g137) (anil)) (radomeref01_Sign.calls k (a := (⟨y2.f_Neg, y2.f_D⟩ : radomeref01_Num)) (gd_t g137 hy139) (h7.mono ((((e33.trans e37).trans e44).trans e51).trans hH))))) rfl (by exact fun g_ => cvt g_) (by exact fun g_ => cnt g_)), (by intro H' m_ hH hm_ hu_; rintro _ rfl _ rfl _ rfl; refine depK_nil ?_; exact s_g (g := !(((((((y34.2.isSome || y41.2.isSome) || y48.2.isSome) || (!y62)) || (!y78)) || (!y94)) || (!y110)) || (!decide (y118 = y125)))) (m_ 54) rfl rfl rfl wn_f (fun g142 => d_neq (cvt g142) (cvt g142)) rfl (by exact fun g_ => cvt g_) (by exact fun g_ => cnt g_)), (by intro H' m_ hH hm_ hu_; rintro _ rfl _ rfl; refine depK_nil ?_; exact s_d (m_ 55) rfl (d_or' (b := (((((((y34.2.isSome || y41.2.isSome) || y48.2.isSome) || (!y62)) || (!y78)) || (!y94)) || (!y110)) || (!decide (y118 = y125)))) (p := (!decide (y132 = y138))) rfl rfl rfl) (by exact rfl) rfl), (by intro H' m_ hH hm_ hu_; rintro _ rfl; refine depK_nil ?_; exact s_d (m_ 56) rfl (d_move (v := .bool ((((((((y34.2.isSome || y41.2.isSome) || y48.2.isSome) || (!y62)) || (!y78)) || (!y94)) || (!y110)) || (!decide (y118 = y125))) || (!decide (y132 = y138)))) rfl) (by exact rfl) rfl), (by intro H' m_ hH hm_ hu_; rintro _ rfl; refine depK_nil ?_; exact s_g (g := !((((((((y34.2.isSome || y41.2.isSome) || y48.2.isSome) || (!y62)) || (!y78)) || (!y94)) || (!y110)) || (!decide (y118 = y125))) || (!decide (y132 = y138)))) (m_ 57) rfl rfl rfl wn_f (fun g143 => d_loado (v := .agg ⟨[.bool y18.f_neg, v22]⟩) ty30 rfl (.there (.there (.there .here))) rfl rfl rfl rfl) rfl (by exact fun g_ => cvt g_) (by exact fun g_ => cnt g_)), (by intro H' m_ hH hm_ hu_; rintro _ rfl _ rfl; refine depK_nil ?_; exact s_gr (g := (!((((((((y34.2.isSome || y41.2.isSome) || y48.2.isSome) || (!y62)) || (!y78)) || (!y94)) || (!y110)) || (!decide (y118 = y125))) || (!decide (y132 = y138))))) (fun v149 => .agg ⟨[.bool y145.f_neg, v149]⟩) (fun H v149 => Ro (Kd.int .u32) H v149 y145.f_w) (m_ 58) rfl rfl rfl wn_f (fun g144 => by exact o_call co20 (vs := [.agg ⟨[.bool y18.f_neg, v22]⟩]) (acons (cvt g144) (anil)) (wide_Int_Neg.calls k (a := (⟨y18.f_neg, y18.f_w⟩ : wide_Int)) (gd_t g144 hy146) (h23.mono (((e37.trans e44).trans e51).trans hH)))) rfl (by exact fun c_ H_ h_ => ⟨c_, rfl, h_⟩)), (by intro H' m_ hH hm_ hu_; rintro _ rfl; refine depK_nil ?_; exact s_g (g := !((((((((y34.2.isSome || y41.2.isSome) || y48.2.isSome) || (!y62)) || (!y78)) || (!y94)) || (!y110)) || (!decide (y118 = y125))) || (!decide (y132 = y138)))) (m_ 59) rfl rfl rfl wn_f (fun g151 => d_loado (v := .agg ⟨[.bool y2.f_Neg, v6]⟩) ty26 rfl (.there (.there (.there (.there (.there .here))))) rfl rfl rfl rfl) rfl (by exact fun g_ => cvt g_) (by exact fun g_ => cnt g_)), trivial⟩ ?_
 intro H152 e153
 rintro _ _ rfl _ _ rfl _ _ rfl _ _ rfl _ _ rfl _ _ rfl _ _ rfl _ _ rfl _ _ rfl _ _ rfl _ _ rfl _ _ rfl _ _ rfl _ _ rfl _ _ rfl _ _ rfl _ _ rfl _ _ rfl _ _ rfl _ _ rfl _ _ ⟨v75, rfl, h76⟩ _ _ rfl _ _ rfl _ _ rfl _ _ rfl _ _ rfl _ _ rfl _ _ rfl _ _ ⟨v91, rfl, h92⟩ _ _ rfl _ _ rfl _ _ rfl _ _ rfl _ _ rfl _ _ rfl _ _ rfl _ _ ⟨v107, rfl, h108⟩ _ _ rfl _ _ rfl _ _ rfl _ _ rfl _ _ rfl _ _ rfl _ _ rfl _ _ rfl _ _ rfl _ _ rfl _ _ rfl _ _ rfl _ _ rfl _ _ rfl _ _ rfl _ _ rfl _ _ rfl _ _ rfl _ _ rfl _ _ rfl _ _ rfl _ _ ⟨v149, rfl, h150⟩ _ _ rfl
 obtain ⟨y155, hy156, he⟩ := Option.bind_eq_some_iff.1 he
 refine w_gk (g := !((((((((y34.2.isSome || y41.2.isSome) || y48.2.isSome) || (!y62)) || (!y78)) || (!y94)) || (!y110)) || (!decide (y118 = y125))) || (!decide (y132 = y138)))) rfl rfl rfl wn_f (fun g154 => o_call co21 (vs := [.agg ⟨[.bool y2.f_Neg, v6]⟩]) (acons (cvt g154) (anil)) (radomeref01_Neg.calls k (a := (⟨y2.f_Neg, y2.f_D⟩ : radomeref01_Num)) (gd_t g154 hy156) (h7.mono ((((e33.trans e37).trans e44).trans e51).trans e153)))) ?_
 intro v161 H157 e158 hp_ hq_
 obtain ⟨v159, rfl, h160⟩ := gk1 (T := fun v159 => .agg ⟨[.bool y155.f_Neg, v159]⟩) (Q := fun v159 => Ro (Kd.int .i64) H157 v159 y155.f_D) hp_ hq_
 obtain ⟨y163, hy164, he⟩ := Option.bind_eq_some_iff.1 he
 refine w_g (g := !((((((((y34.2.isSome || y41.2.isSome) || y48.2.isSome) || (!y62)) || (!y78)) || (!y94)) || (!y110)) || (!decide (y118 = y125))) || (!decide (y132 = y138)))) rfl rfl rfl wn_f (fun g162 => call_d (o_call co12 (vs := [.agg ⟨[.bool y145.f_neg, v149]⟩, .agg ⟨[.bool y155.f_Neg, v159]⟩]) (acons (cvt g162) (acons (cvt g162) (anil))) (radomelaw01_is.calls k (a := (⟨y145.f_neg, y145.f_w⟩ : wide_Int)) (b := (⟨y155.f_Neg, y155.f_D⟩ : radomeref01_Num)) (gd_t g162 hy164) ((h150 g162).mono e158) (h160 g162)))) ?_
 refine w_g (g := !((((((((y34.2.isSome || y41.2.isSome) || y48.2.isSome) || (!y62)) || (!y78)) || (!y94)) || (!y110)) || (!decide (y118 = y125))) || (!decide (y132 = y138)))) rfl rfl rfl wn_f (fun g167 => d_not (b := y163) (cvt g167)) ?_
 refine w_d rfl (d_or' (b := ((((((((y34.2.isSome || y41.2.isSome) || y48.2.isSome) || (!y62)) || (!y78)) || (!y94)) || (!y110)) || (!decide (y118 = y125))) || (!decide (y132 = y138)))) (p := (!y163)) rfl rfl rfl) ?_
 refine w_done ?_
 rcases its he with ⟨c168, he⟩ | ⟨c168, he⟩
 ·
  refine w_then rfl c168 ?_
  refine w_seq ?_
  refine w_region rfl ?_
  refine w_d rfl (d_assign (v := .bool false) rfl) ?_
  refine w_done ?_
  obtain rfl := Option.some.inj he
  refine w_return fn_3 rs_3 (.tmp (v := .bool false) rfl .nil) ?_
  exact ⟨⟨[_, _, _, _, _, _, _, _], rfl⟩, hle.trans ((((((e17.trans e33).trans e37).trans e44).trans e51).trans e153).trans e158), rfl⟩
 ·
  refine w_else rfl (Bool.eq_false_iff.2 c168) ?_
  refine w_skip ?_
  refine w_seq ?_
  refine w_region rfl ?_
  refine w_d rfl (d_loado (v := .agg ⟨[.bool y18.f_neg, v22]⟩) ty30 rfl (.there (.there (.there .here))) rfl rfl rfl rfl) ?_
  refine w_d rfl (d_loado (v := .agg ⟨[.bool y24.f_neg, v28]⟩) ty30 rfl (.there (.there (.there (.there .here)))) rfl rfl rfl rfl) ?_
  obtain ⟨y169, hy170, he⟩ := Option.bind_eq_some_iff.1 he
  refine w_a rfl (o_call co22 (vs := [.agg ⟨[.bool y18.f_neg, v22]⟩, .agg ⟨[.bool y24.f_neg, v28]⟩]) rfl (wide_Int_Div.calls k (a := (⟨y18.f_neg, y18.f_w⟩ : wide_Int)) (b := (⟨y24.f_neg, y24.f_w⟩ : wide_Int)) hy170 (h23.mono ((((e37.trans e44).trans e51).trans e153).trans e158)) (h29.mono ((((e37.trans e44).trans e51).trans e153).trans e158)))) ?_
  rintro _ H171 _ ⟨rfl, e172, ⟨v173, v175, rfl, h174, h176⟩⟩
  refine w_d rfl (d_move (v := .tuple ⟨[.agg ⟨[.bool y169.1.f_neg, v173]⟩, .agg ⟨[.bool y169.2.1.f_neg, v175]⟩, errV 89 y169.2.2]⟩) rfl) ?_
  refine w_d rfl (d_ext (vs := [.agg ⟨[.bool y169.1.f_neg, v173]⟩, .agg ⟨[.bool y169.2.1.f_neg, v175]⟩, errV 89 y169.2.2]) rfl rfl) ?_
  refine w_d rfl (d_ext (vs := [.agg ⟨[.bool y169.1.f_neg, v173]⟩, .agg ⟨[.bool y169.2.1.f_neg, v175]⟩, errV 89 y169.2.2]) rfl rfl) ?_
  refine w_d rfl (d_ext (vs := [.agg ⟨[.bool y169.1.f_neg, v173]⟩, .agg ⟨[.bool y169.2.1.f_neg, v175]⟩, errV 89 y169.2.2]) rfl rfl) ?_
  refine w_a rfl (o_alloc zr30 rfl) ?_
  rintro _ _ _ ⟨b177, rfl, rfl, rfl⟩
  refine w_a rfl (o_alloc zr30 rfl) ?_
  rintro _ _ _ ⟨b178, rfl, rfl, rfl⟩
  refine w_a0 rfl (o_store (v := .agg ⟨[.bool y169.1.f_neg, v173]⟩) sz30 rfl rfl rfl rfl (one_cons rfl (one_cons (h174.one) one_nil)) (.there .here) (.here (.here .done))) ?_
  rintro _ _ _ ⟨rfl, rfl, rfl⟩
  refine w_a0 rfl (o_store (v := .agg ⟨[.bool y169.2.1.f_neg, v175]⟩) sz30 rfl rfl rfl rfl (one_cons rfl (one_cons (h176.one) one_nil)) .here (.here (.here .done))) ?_
  rintro _ _ _ ⟨rfl, rfl, rfl⟩
  refine w_d rfl (d_assign (v := errV 89 y169.2.2) rfl) ?_
  refine w_done ?_
  refine w_seq ?_
  refine w_seq ?_
  refine w_region rfl ?_
  refine w_d rfl (d_loado (v := .agg ⟨[.bool y8.f_Neg, v12]⟩) ty26 rfl (.there (.there (.there (.there (.there (.there (.there (.there .here)))))))) rfl rfl rfl rfl) ?_
  obtain ⟨y179, hy180, he⟩ := Option.bind_eq_some_iff.1 he
  refine w_d rfl (call_d (o_call co19 (vs := [.agg ⟨[.bool y8.f_Neg, v12]⟩]) rfl (radomeref01_Sign.calls k (a := (⟨y8.f_Neg, y8.f_D⟩ : radomeref01_Num)) hy180 (h13.mono ((((((e33.trans e37).trans e44).trans e51).trans e153).trans e158).trans e172))))) ?_
  refine w_d rfl (d_eql rfl rfl) ?_
  refine w_done ?_
  rcases its he with ⟨c183, he⟩ | ⟨c183, he⟩
  ·
   refine w_then rfl (decide_eq_true c183) ?_
   refine w_seq ?_
   refine w_region rfl ?_
   refine w_d rfl (d_move (v := errV 89 y169.2.2) rfl) ?_
   refine w_d rfl (call_d (o_call co23 (vs := [errV 89 y169.2.2]) rfl (num23.calls (hG.mono (((((((e17.trans e33).trans e37).trans e44).trans e51).trans e153).trans e158).trans e172)) rfl))) ?_
   refine w_d rfl (d_eql rfl rfl) ?_
   refine w_d rfl (d_move (v := .bool (decide ((errN y169.2.2) = 11))) rfl) ?_
   refine w_g (g := decide ((errN y169.2.2) = 11)) rfl rfl rfl wn_t (fun g184 => d_loado (v := .agg ⟨[.bool y169.1.f_neg, v173]⟩) ty30 rfl (.there .here) rfl rfl rfl rfl) ?_
   refine w_g (g := decide ((errN y169.2.2) = 11)) rfl rfl rfl wn_t (fun g185 => d_build (cs' := [.bool false, .slice none 0 0]) Tryd.underlying26 zr26 rfl (by kernel_rfl) (parts := []) rfl .nil) ?_
   obtain ⟨y187, hy188, he⟩ := Option.bind_eq_some_iff.1 he
   refine w_g (g := decide ((errN y169.2.2) = 11)) rfl rfl rfl wn_t (fun g186 => call_d (o_call co12 (vs := [.agg ⟨[.bool y169.1.f_neg, v173]⟩, .agg ⟨[.bool false, .slice none 0 0]⟩]) (acons (cvt g186) (acons (cvt g186) (anil))) (radomelaw01_is.calls k (a := (⟨y169.1.f_neg, y169.1.f_w⟩ : wide_Int)) (b := (⟨false, []⟩ : radomeref01_Num)) (gd_t g186 hy188) h174 (ro_nil _ _)))) ?_
   refine w_d rfl (d_and' (b := (decide ((errN y169.2.2) = 11))) (p := y187) rfl rfl rfl) ?_
   refine w_d rfl (d_move (v := .bool ((decide ((errN y169.2.2) = 11)) && y187)) rfl) ?_
   refine w_g (g := (decide ((errN y169.2.2) = 11)) && y187) rfl rfl rfl wn_t (fun g191 => d_loado (v := .agg ⟨[.bool y169.2.1.f_neg, v175]⟩) ty30 rfl .here rfl rfl rfl rfl) ?_
   refine w_g (g := (decide ((errN y169.2.2) = 11)) && y187) rfl rfl rfl wn_t (fun g192 => d_build (cs' := [.bool false, .slice none 0 0]) Tryd.underlying26 zr26 rfl (by kernel_rfl) (parts := []) rfl .nil) ?_
   obtain ⟨y194, hy195, he⟩ := Option.bind_eq_some_iff.1 he
   refine w_g (g := (decide ((errN y169.2.2) = 11)) && y187) rfl rfl rfl wn_t (fun g193 => call_d (o_call co12 (vs := [.agg ⟨[.bool y169.2.1.f_neg, v175]⟩, .agg ⟨[.bool false, .slice none 0 0]⟩]) (acons (cvt g193) (acons (cvt g193) (anil))) (radomelaw01_is.calls k (a := (⟨y169.2.1.f_neg, y169.2.1.f_w⟩ : wide_Int)) (b := (⟨false, []⟩ : radomeref01_Num)) (gd_t g193 hy195) h176 (ro_nil _ _)))) ?_
   refine w_d rfl (d_and' (b := ((decide ((errN y169.2.2) = 11)) && y187)) (p := y194) rfl rfl rfl) ?_
   refine w_d rfl (d_move (v := .bool (((decide ((errN y169.2.2) = 11)) && y187) && y194)) rfl) ?_
   obtain ⟨y199, hy200, he⟩ := Option.bind_eq_some_iff.1 he
   refine w_g (g := ((decide ((errN y169.2.2) = 11)) && y187) && y194) rfl rfl rfl wn_t (fun g198 => call_d (o_call co24 (vs := []) rfl (radomelaw01_sure.calls k (gd_t g198 hy200)))) ?_
   refine w_d rfl (d_and' (b := (((decide ((errN y169.2.2) = 11)) && y187) && y194)) (p := y199) rfl rfl rfl) ?_
   refine w_d rfl (d_assign (v := .bool ((((decide ((errN y169.2.2) = 11)) && y187) && y194) && y199)) rfl) ?_
   refine w_done ?_
   obtain rfl := Option.some.inj he
   refine w_return fn_3 rs_3 (.tmp (v := .bool ((((decide ((errN y169.2.2) = 11)) && y187) && y194) && y199)) rfl .nil) ?_
   exact ⟨⟨[_, _, _, _, _, _, _, _, _, _], rfl⟩, hle.trans (((((((e17.trans e33).trans e37).trans e44).trans e51).trans e153).trans e158).trans e172), rfl⟩
  ·
   refine w_else rfl (decide_eq_false c183) ?_
   refine w_skip ?_
   refine w_seq ?_
   refine w_region rfl ?_
   refine w_d rfl (d_loado (v := .agg ⟨[.bool y2.f_Neg, v6]⟩) ty26 rfl (.there (.there (.there (.there (.there (.there (.there .here))))))) rfl rfl rfl rfl) ?_
   refine w_d rfl (d_loado (v := .agg ⟨[.bool y8.f_Neg, v12]⟩) ty26 rfl (.there (.there (.there (.there (.there (.there (.there (.there .here)))))))) rfl rfl rfl rfl) ?_
   obtain ⟨y203, hy204, he⟩ := Option.bind_eq_some_iff.1 he
   refine w_a rfl (o_call co25 (vs := [.agg ⟨[.bool y2.f_Neg, v6]⟩, .agg ⟨[.bool y8.f_Neg, v12]⟩]) rfl (radomeref01_Div.calls k (a := (⟨y2.f_Neg, y2.f_D⟩ : radomeref01_Num)) (b := (⟨y8.f_Neg, y8.f_D⟩ : radomeref01_Num)) hy204 (h7.mono ((((((e33.trans e37).trans e44).trans e51).trans e153).trans e158).trans e172)) (h13.mono ((((((e33.trans e37).trans e44).trans e51).trans e153).trans e158).trans e172)))) ?_
   rintro _ H205 _ ⟨rfl, e206, ⟨v207, v209, rfl, h208, h210⟩⟩
   refine w_d rfl (d_move (v := .tuple ⟨[.agg ⟨[.bool y203.1.f_Neg, v207]⟩, .agg ⟨[.bool y203.2.f_Neg, v209]⟩]⟩) rfl) ?_
   refine w_d rfl (d_ext (vs := [.agg ⟨[.bool y203.1.f_Neg, v207]⟩, .agg ⟨[.bool y203.2.f_Neg, v209]⟩]) rfl rfl) ?_
   refine w_d rfl (d_ext (vs := [.agg ⟨[.bool y203.1.f_Neg, v207]⟩, .agg ⟨[.bool y203.2.f_Neg, v209]⟩]) rfl rfl) ?_
   refine w_a rfl (o_alloc zr26 rfl) ?_
   rintro _ _ _ ⟨b211, rfl, rfl, rfl⟩
   refine w_a rfl (o_alloc zr26 rfl) ?_
   rintro _ _ _ ⟨b212, rfl, rfl, rfl⟩
   refine w_a0 rfl (o_store (v := .agg ⟨[.bool y203.1.f_Neg, v207]⟩) sz26 rfl rfl rfl rfl (one_cons rfl (one_cons (h208.one) one_nil)) (.there .here) (.here (.here .done))) ?_
   rintro _ _ _ ⟨rfl, rfl, rfl⟩
   refine w_a0 rfl (o_store (v := .agg ⟨[.bool y203.2.f_Neg, v209]⟩) sz26 rfl rfl rfl rfl (one_cons rfl (one_cons (h210.one) one_nil)) .here (.here (.here .done))) ?_
   rintro _ _ _ ⟨rfl, rfl, rfl⟩
   refine w_done ?_
   refine w_seq ?_
   refine w_region rfl ?_
   refine w_d rfl (d_move (v := errV 89 y169.2.2) rfl) ?_
   refine w_d rfl (d_eqnil (e := y169.2.2) Tryd.underlying33 rfl) ?_
   refine w_d rfl (d_move (v := .bool y169.2.2.isNone) rfl) ?_
   refine w_g (g := y169.2.2.isNone) rfl rfl rfl wn_t (fun g213 => d_loado (v := .agg ⟨[.bool y169.1.f_neg, v173]⟩) ty30 rfl (.there (.there (.there .here))) rfl rfl rfl rfl) ?_
   refine w_g (g := y169.2.2.isNone) rfl rfl rfl wn_t (fun g214 => d_loado (v := .agg ⟨[.bool y203.1.f_Neg, v207]⟩) ty26 rfl (.there .here) rfl rfl rfl rfl) ?_
   obtain ⟨y216, hy217, he⟩ := Option.bind_eq_some_iff.1 he
   refine w_g (g := y169.2.2.isNone) rfl rfl rfl wn_t (fun g215 => call_d (o_call co12 (vs := [.agg ⟨[.bool y169.1.f_neg, v173]⟩, .agg ⟨[.bool y203.1.f_Neg, v207]⟩]) (acons (cvt g215) (acons (cvt g215) (anil))) (radomelaw01_is.calls k (a := (⟨y169.1.f_neg, y169.1.f_w⟩ : wide_Int)) (b := (⟨y203.1.f_Neg, y203.1.f_D⟩ : radomeref01_Num)) (gd_t g215 hy217) (h174.mono e206) h208))) ?_
   refine w_d rfl (d_and' (b := y169.2.2.isNone) (p := y216) rfl rfl rfl) ?_
   refine w_d rfl (d_move (v := .bool (y169.2.2.isNone && y216)) rfl) ?_
   refine w_g (g := y169.2.2.isNone && y216) rfl rfl rfl wn_t (fun g220 => d_loado (v := .agg ⟨[.bool y169.2.1.f_neg, v175]⟩) ty30 rfl (.there (.there .here)) rfl rfl rfl rfl) ?_
   refine w_g (g := y169.2.2.isNone && y216) rfl rfl rfl wn_t (fun g221 => d_loado (v := .agg ⟨[.bool y203.2.f_Neg, v209]⟩) ty26 rfl .here rfl rfl rfl rfl) ?_
   obtain ⟨y223, hy224, he⟩ := Option.bind_eq_some_iff.1 he
   refine w_g (g := y169.2.2.isNone && y216) rfl rfl rfl wn_t (fun g222 => call_d (o_call co12 (vs := [.agg ⟨[.bool y169.2.1.f_neg, v175]⟩, .agg ⟨[.bool y203.2.f_Neg, v209]⟩]) (acons (cvt g222) (acons (cvt g222) (anil))) (radomelaw01_is.calls k (a := (⟨y169.2.1.f_neg, y169.2.1.f_w⟩ : wide_Int)) (b := (⟨y203.2.f_Neg, y203.2.f_D⟩ : radomeref01_Num)) (gd_t g222 hy224) (h176.mono e206) h210))) ?_
   refine w_d rfl (d_and' (b := (y169.2.2.isNone && y216)) (p := y223) rfl rfl rfl) ?_
   refine w_d rfl (d_move (v := .bool ((y169.2.2.isNone && y216) && y223)) rfl) ?_
   obtain ⟨y228, hy229, he⟩ := Option.bind_eq_some_iff.1 he
   refine w_g (g := (y169.2.2.isNone && y216) && y223) rfl rfl rfl wn_t (fun g227 => call_d (o_call co24 (vs := []) rfl (radomelaw01_sure.calls k (gd_t g227 hy229)))) ?_
   refine w_d rfl (d_and' (b := ((y169.2.2.isNone && y216) && y223)) (p := y228) rfl rfl rfl) ?_
   refine w_d rfl (d_assign (v := .bool (((y169.2.2.isNone && y216) && y223) && y228)) rfl) ?_
   refine w_done ?_
   obtain rfl := Option.some.inj he
   refine w_return fn_3 rs_3 (.tmp (v := .bool (((y169.2.2.isNone && y216) && y223) && y228)) rfl .nil) ?_
   exact ⟨⟨[_, _, _, _, _, _, _, _, _, _, _, _], rfl⟩, hle.trans ((((((((e17.trans e33).trans e37).trans e44).trans e51).trans e153).trans e158).trans e172).trans e206), rfl⟩
end Go.Proofs.YtmnhbbckndlnkaaDoor.GWS

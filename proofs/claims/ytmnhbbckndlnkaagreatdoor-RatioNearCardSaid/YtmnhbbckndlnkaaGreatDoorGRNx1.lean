/- A text of this session, written by a program (wip/k/gen.py): Go functions as Lean functions, and proofs that the code comes to them. -/
import Derived.Test.YtmnhbbckndlnkaaGreatDoorGRNx0
namespace Go.Proofs.YtmnhbbckndlnkaaGreatDoor.GRN
open Go Go.RowKit Go.Proofs.YtmnhbbckndlnkaaGreatDoorK Go.Proofs.YtmnhbbckndlnkaaGreatDoor
set_option maxRecDepth 100000
set_option maxHeartbeats 2000000
set_option linter.unusedVariables false
set_option linter.unusedSimpArgs false
/-! ### radome/radomeref01.Div -/
noncomputable def radomeref01_Div.C : Code := (Tryz.f50.body).getD .skip
def radomeref01_Div.out (r : radomeref01_Num × radomeref01_Num) (H : Hp) (v : Value) : Prop := ∃ v0, ∃ v1, v = .tuple ⟨[.agg ⟨[.bool r.1.f_Neg, v0]⟩, .agg ⟨[.bool r.2.f_Neg, v1]⟩]⟩ ∧ Ro (Kd.int .i64) H v0 r.1.f_D ∧ Ro (Kd.int .i64) H v1 r.2.f_D
theorem radomeref01_Div.out_mono (r : radomeref01_Num × radomeref01_Num) {H H' : Hp} {v : Value} (hle : H.le H') (h : radomeref01_Div.out r H v) : radomeref01_Div.out r H' v := by
 obtain ⟨v0, v1, rfl, h0, h1⟩ := h; exact ⟨v0, v1, rfl, h0.mono hle, h1.mono hle⟩
abbrev radomeref01_Div.R (H0 : Hp) (L : Items) (r : radomeref01_Num × radomeref01_Num) : Value → Hp → Items → Prop := fun v H' L' => (∃ p, L' = p ++ L) ∧ H0.le H' ∧ radomeref01_Div.out r H' v
structure radomeref01_Div.Hs where
 l0 : Bool → (List Int) → Bool → (List Int) → (List Int) → (List Int) → Int → Option (radomeref01_Num × radomeref01_Num)
 l1 : Bool → (List Int) → Bool → (List Int) → (List Int) → (List Int) → Int → Option (radomeref01_Num × radomeref01_Num)
noncomputable def radomeref01_Div.b0 (k : Nat) (h : radomeref01_Div.Hs)  (a_0 : Bool) (a_1 : List Int) (b_0 : Bool) (b_1 : List Int) (rest : List Int) (q : List Int) (i : Int) : Option (radomeref01_Num × radomeref01_Num) := if 0 ≤ i then (if (0 : Int) ≤ i ∧ i < (a_1.length : Int) then (if [rd a_1 i].length + rest.length ≤ 17592186044288 then ((radomeref01_trim.f k ([rd a_1 i] ++ rest)).bind fun y21 => h.l1 a_0 a_1 b_0 b_1 y21 q i) else none) else none) else ((radomeref01_trim.f k q).bind fun y30 => (radomeref01_num.f k (!(a_0 == b_0)) y30).bind fun y36 => (radomeref01_num.f k false rest).bind fun y45 => if (a_0 && (decide (0 < (rest.length : Int)))) = true then ((radomeref01_minus.f k b_1 rest).bind fun y56 => (radomeref01_num.f k false y56).bind fun y62 => if b_0 = true then ((radomeref01_Of.f k 1).bind fun y69 => (radomeref01_Add.f k (⟨y36.f_Neg, y36.f_D⟩ : radomeref01_Num) (⟨y69.f_Neg, y69.f_D⟩ : radomeref01_Num)).bind fun y77 => some ((⟨y77.f_Neg, y77.f_D⟩ : radomeref01_Num), (⟨y62.f_Neg, y62.f_D⟩ : radomeref01_Num))) else ((radomeref01_Of.f k 1).bind fun y85 => (radomeref01_Sub.f k (⟨y36.f_Neg, y36.f_D⟩ : radomeref01_Num) (⟨y85.f_Neg, y85.f_D⟩ : radomeref01_Num)).bind fun y93 => some ((⟨y93.f_Neg, y93.f_D⟩ : radomeref01_Num), (⟨y62.f_Neg, y62.f_D⟩ : radomeref01_Num)))) else (some ((⟨y36.f_Neg, y36.f_D⟩ : radomeref01_Num), (⟨y45.f_Neg, y45.f_D⟩ : radomeref01_Num))))
noncomputable def radomeref01_Div.b1 (k : Nat) (h : radomeref01_Div.Hs)  (a_0 : Bool) (a_1 : List Int) (b_0 : Bool) (b_1 : List Int) (rest : List Int) (q : List Int) (i : Int) : Option (radomeref01_Num × radomeref01_Num) := (radomeref01_Less.f k rest b_1).bind fun y103 => if (!y103) = true then ((radomeref01_minus.f k rest b_1).bind fun y108 => if (0 : Int) ≤ i ∧ i < (q.length : Int) then (if (0 : Int) ≤ i ∧ i < (q.length : Int) then (h.l1 a_0 a_1 b_0 b_1 y108 (q.set (i : Int).toNat (w64 ((rd q i) + 1))) i) else none) else none) else (h.l0 a_0 a_1 b_0 b_1 rest q (w64 (i - 1)))
noncomputable def radomeref01_Div.hs : Nat → radomeref01_Div.Hs
 | 0 => ⟨fun _ _ _ _ _ _ _ => none, fun _ _ _ _ _ _ _ => none⟩
 | k + 1 => ⟨fun x0 x1 x2 x3 x4 x5 x6 => radomeref01_Div.b0 k (radomeref01_Div.hs k) x0 x1 x2 x3 x4 x5 x6, fun x0 x1 x2 x3 x4 x5 x6 => radomeref01_Div.b1 k (radomeref01_Div.hs k) x0 x1 x2 x3 x4 x5 x6⟩
noncomputable def radomeref01_Div.f (k : Nat) (a : radomeref01_Num) (b : radomeref01_Num) : Option (radomeref01_Num × radomeref01_Num) := (fun h : radomeref01_Div.Hs => if 0 ≤ (a.f_D.length : Int) ∧ (a.f_D.length : Int) ≤ 35184372088832 then (h.l0 a.f_Neg a.f_D b.f_Neg b.f_D [] (List.replicate ((a.f_D.length : Int) : Int).toNat (0 : Int)) (w64 ((a.f_D.length : Int) - 1))) else none) (radomeref01_Div.hs k)
structure radomeref01_Div.LE (h h' : radomeref01_Div.Hs) : Prop where
 l0 : ∀ y0 y1 y2 y3 y4 y5 y6, LeO (h.l0 y0 y1 y2 y3 y4 y5 y6) (h'.l0 y0 y1 y2 y3 y4 y5 y6)
 l1 : ∀ y0 y1 y2 y3 y4 y5 y6, LeO (h.l1 y0 y1 y2 y3 y4 y5 y6) (h'.l1 y0 y1 y2 y3 y4 y5 y6)
theorem radomeref01_Div.b0_mono {k : Nat} {h h' : radomeref01_Div.Hs} (hl : radomeref01_Div.LE h h') : ∀ y0 y1 y2 y3 y4 y5 y6, LeO (radomeref01_Div.b0 k h y0 y1 y2 y3 y4 y5 y6) (radomeref01_Div.b0 (k + 1) h' y0 y1 y2 y3 y4 y5 y6) := fun _ _ _ _ _ _ _ => (LeO.ite (LeO.ite (LeO.ite (LeO.bind (radomeref01_trim.mono k _) fun _ => hl.l1 _ _ _ _ _ _ _) (LeO.refl _)) (LeO.refl _)) (LeO.bind (radomeref01_trim.mono k _) fun _ => LeO.bind (radomeref01_num.mono k _ _) fun _ => LeO.bind (radomeref01_num.mono k _ _) fun _ => LeO.ite (LeO.bind (radomeref01_minus.mono k _ _) fun _ => LeO.bind (radomeref01_num.mono k _ _) fun _ => LeO.ite (LeO.bind (radomeref01_Of.mono k _) fun _ => LeO.bind (radomeref01_Add.mono k _ _) fun _ => LeO.refl _) (LeO.bind (radomeref01_Of.mono k _) fun _ => LeO.bind (radomeref01_Sub.mono k _ _) fun _ => LeO.refl _)) (LeO.refl _)))
theorem radomeref01_Div.b1_mono {k : Nat} {h h' : radomeref01_Div.Hs} (hl : radomeref01_Div.LE h h') : ∀ y0 y1 y2 y3 y4 y5 y6, LeO (radomeref01_Div.b1 k h y0 y1 y2 y3 y4 y5 y6) (radomeref01_Div.b1 (k + 1) h' y0 y1 y2 y3 y4 y5 y6) := fun _ _ _ _ _ _ _ => (LeO.bind (radomeref01_Less.mono k _ _) fun _ => LeO.ite (LeO.bind (radomeref01_minus.mono k _ _) fun _ => LeO.ite (LeO.ite (hl.l1 _ _ _ _ _ _ _) (LeO.refl _)) (LeO.refl _)) (hl.l0 _ _ _ _ _ _ _))
theorem radomeref01_Div.hs_mono : ∀ k, radomeref01_Div.LE (radomeref01_Div.hs k) (radomeref01_Div.hs (k + 1))
 | 0 => ⟨fun _ _ _ _ _ _ _ => LeO.none _, fun _ _ _ _ _ _ _ => LeO.none _⟩
 | k + 1 => ⟨radomeref01_Div.b0_mono (k := k) (radomeref01_Div.hs_mono k), radomeref01_Div.b1_mono (k := k) (radomeref01_Div.hs_mono k)⟩
theorem radomeref01_Div.mono : ∀ k y0 y1, LeO (radomeref01_Div.f k y0 y1) (radomeref01_Div.f (k + 1) y0 y1) := fun k _ _ => have hl := radomeref01_Div.hs_mono k; by unfold radomeref01_Div.f; exact (LeO.ite (hl.l0 _ _ _ _ _ _ _) (LeO.refl _))
noncomputable def radomeref01_Div.Kl0 : List Item := .code (lopB (blkB (seqR (seqL (seqR (seqR (seqR radomeref01_Div.C))))))) :: .inLoop (lopB (blkB (seqR (seqL (seqR (seqR (seqR radomeref01_Div.C))))))) :: .inBlock 0 :: .code (seqR (seqR (seqR (seqR radomeref01_Div.C)))) :: []
noncomputable def radomeref01_Div.Kl1 : List Item := .code (lopB (blkB (seqR (blkB (seqL (seqR (lopB (blkB (seqR (seqL (seqR (seqR (seqR radomeref01_Div.C))))))))))))) :: .inLoop (lopB (blkB (seqR (blkB (seqL (seqR (lopB (blkB (seqR (seqL (seqR (seqR (seqR radomeref01_Div.C))))))))))))) :: .inBlock 2 :: .inBlock 1 :: .code (seqR (seqR (lopB (blkB (seqR (seqL (seqR (seqR (seqR radomeref01_Div.C))))))))) :: .inLoop (lopB (blkB (seqR (seqL (seqR (seqR (seqR radomeref01_Div.C))))))) :: .inBlock 0 :: .code (seqR (seqR (seqR (seqR radomeref01_Div.C)))) :: []
structure radomeref01_Div.OK (h : radomeref01_Div.Hs) : Prop where
 l0 : ∀ {H0 H : Hp} {L : Items} {r : radomeref01_Num × radomeref01_Num} {jk_ : Nat → Value} {a_0 : Bool} {a_1 : List Int} {b_0 : Bool} {b_1 : List Int} {rest : List Int} {q : List Int} {i : Int} {v_a_1 : Value} {v_b_1 : Value} {v_rest : Value} {v_q : Value} {i_q : Item'} {b_a : Nat} {b_b : Nat} {b_t4 : Nat} {b_t5 : Nat} (_ : H0.le H) (_he : h.l0 a_0 a_1 b_0 b_1 rest q i = some r) (_h_a_1 : Ro (Kd.int .i64) H v_a_1 a_1) (_h_b_1 : Ro (Kd.int .i64) H v_b_1 b_1) (_h_rest : Ro (Kd.int .i64) H v_rest rest) (_h_q : Sl (Kd.int .i64) H 3 i_q v_q q), Wp Tryz.prog 50 79 radomeref01_Div.Kl0 (upd (upd (upd (upd (upd (upd (upd jk_ 2 (.pointer (some ⟨b_a, 0, none⟩))) 3 (.pointer (some ⟨b_b, 0, none⟩))) 4 (.pointer (some ⟨b_t4, 0, none⟩))) 5 (.pointer (some ⟨b_t5, 0, none⟩))) 6 (v_rest)) 7 (v_q)) 8 (.int .i64 i)) H (i_q :: some (b_t5, .cells ⟨[.bool false, .slice none 0 0]⟩ 27 (0, 0)) :: some (b_t4, .cells ⟨[.bool false, .slice none 0 0]⟩ 27 (0, 0)) :: some (b_b, .cells ⟨[.bool b_0, v_b_1]⟩ 27 (0, 0)) :: some (b_a, .cells ⟨[.bool a_0, v_a_1]⟩ 27 (0, 0)) :: L) (radomeref01_Div.R H0 L r)
 l1 : ∀ {H0 H : Hp} {L : Items} {r : radomeref01_Num × radomeref01_Num} {jk_ : Nat → Value} {a_0 : Bool} {a_1 : List Int} {b_0 : Bool} {b_1 : List Int} {rest : List Int} {q : List Int} {i : Int} {v_a_1 : Value} {v_b_1 : Value} {v_rest : Value} {v_q : Value} {i_q : Item'} {b_a : Nat} {b_b : Nat} {b_t4 : Nat} {b_t5 : Nat} (_ : H0.le H) (_he : h.l1 a_0 a_1 b_0 b_1 rest q i = some r) (_h_a_1 : Ro (Kd.int .i64) H v_a_1 a_1) (_h_b_1 : Ro (Kd.int .i64) H v_b_1 b_1) (_h_rest : Ro (Kd.int .i64) H v_rest rest) (_h_q : Sl (Kd.int .i64) H 3 i_q v_q q), Wp Tryz.prog 50 79 radomeref01_Div.Kl1 (upd (upd (upd (upd (upd (upd (upd jk_ 2 (.pointer (some ⟨b_a, 0, none⟩))) 3 (.pointer (some ⟨b_b, 0, none⟩))) 4 (.pointer (some ⟨b_t4, 0, none⟩))) 5 (.pointer (some ⟨b_t5, 0, none⟩))) 6 (v_rest)) 7 (v_q)) 8 (.int .i64 i)) H (i_q :: some (b_t5, .cells ⟨[.bool false, .slice none 0 0]⟩ 27 (0, 0)) :: some (b_t4, .cells ⟨[.bool false, .slice none 0 0]⟩ 27 (0, 0)) :: some (b_b, .cells ⟨[.bool b_0, v_b_1]⟩ 27 (0, 0)) :: some (b_a, .cells ⟨[.bool a_0, v_a_1]⟩ 27 (0, 0)) :: L) (radomeref01_Div.R H0 L r)
theorem radomeref01_Div.b0_ok {k : Nat} {h : radomeref01_Div.Hs} (hh : radomeref01_Div.OK h) {H0 H : Hp} {L : Items} {r : radomeref01_Num × radomeref01_Num} {jk_ : Nat → Value} {a_0 : Bool} {a_1 : List Int} {b_0 : Bool} {b_1 : List Int} {rest : List Int} {q : List Int} {i : Int} {v_a_1 : Value} {v_b_1 : Value} {v_rest : Value} {v_q : Value} {i_q : Item'} {b_a : Nat} {b_b : Nat} {b_t4 : Nat} {b_t5 : Nat} (hle : H0.le H) (he : radomeref01_Div.b0 k h a_0 a_1 b_0 b_1 rest q i = some r) (h_a_1 : Ro (Kd.int .i64) H v_a_1 a_1) (h_b_1 : Ro (Kd.int .i64) H v_b_1 b_1) (h_rest : Ro (Kd.int .i64) H v_rest rest) (h_q : Sl (Kd.int .i64) H 3 i_q v_q q) : Wp Tryz.prog 50 79 radomeref01_Div.Kl0 (upd (upd (upd (upd (upd (upd (upd jk_ 2 (.pointer (some ⟨b_a, 0, none⟩))) 3 (.pointer (some ⟨b_b, 0, none⟩))) 4 (.pointer (some ⟨b_t4, 0, none⟩))) 5 (.pointer (some ⟨b_t5, 0, none⟩))) 6 (v_rest)) 7 (v_q)) 8 (.int .i64 i)) H (i_q :: some (b_t5, .cells ⟨[.bool false, .slice none 0 0]⟩ 27 (0, 0)) :: some (b_t4, .cells ⟨[.bool false, .slice none 0 0]⟩ 27 (0, 0)) :: some (b_b, .cells ⟨[.bool b_0, v_b_1]⟩ 27 (0, 0)) :: some (b_a, .cells ⟨[.bool a_0, v_a_1]⟩ 27 (0, 0)) :: L) (radomeref01_Div.R H0 L r) := by
 unfold radomeref01_Div.b0 at he
 unfold radomeref01_Div.Kl0
 refine w_seq <| w_seq <| w_region rfl <| w_d rfl (d_move (v := .int .i64 i) rfl) <| w_d rfl (d_geq rfl rfl) <| w_done ?_
 rcases its he with ⟨c9, he⟩ | ⟨c9, he⟩
 ·
  refine w_then rfl (decide_eq_true c9) <| w_skip <| w_seq <| w_block <| w_seq <| w_region rfl <| w_d rfl (d_fld (o' := 1) Tryz.underlying27 rfl sz25 rfl rfl rfl) <| w_d rfl (d_loado (v := v_a_1) ty25 rfl (.there (.there (.there (.there .here)))) rfl rfl rfl rfl) <| w_d rfl (d_move (v := .int .i64 i) rfl) ?_
  obtain ⟨c10, he⟩ := rq he
  refine w_d rfl (d_index (sz := 1) Tryz.underlying25 sz3 rfl h_a_1.src rfl c10) <| w_d rfl (d_ldint ty3 rfl h_a_1.src c10) <| w_a rfl (o_buildSlice' (kd := (Kd.int .i64)) (css := [[.int .i64 (rd a_1 i)]]) (xs := [rd a_1 i]) (parts := [(0, .int .i64 (rd a_1 i))]) Tryz.underlying25 ti3 rfl ⟨_, _, rfl, rfl, rfl⟩ ⟨rfl, trivial⟩ rfl (by decide)) ?_
  rintro v11 _ _ ⟨i12, rfl, rfl, h13⟩
  refine w_d rfl (d_move (v := v_rest) rfl) ?_
  obtain ⟨c14, he⟩ := rq he
  refine w_a rfl (o_append' (kd := (Kd.int .i64)) (F := fun z_ => z_ :: i_q :: some (b_t5, .cells ⟨[.bool false, .slice none 0 0]⟩ 27 (0, 0)) :: some (b_t4, .cells ⟨[.bool false, .slice none 0 0]⟩ 27 (0, 0)) :: some (b_b, .cells ⟨[.bool b_0, v_b_1]⟩ 27 (0, 0)) :: some (b_a, .cells ⟨[.bool a_0, v_a_1]⟩ 27 (0, 0)) :: L) Tryz.underlying25 Tryz.underlying25 ti3 rfl (by first | omega | (simp only [List.nil_append, List.length_cons, List.length_nil]; omega)) rfl rfl h13 h_rest.src (fun _ => .here)) ?_
  rintro v15 _ _ ⟨i16, rfl, rfl, h17⟩
  refine w_freeze h17 .here ?_
  intro H18 e19 h20
  obtain ⟨y21, hy22, he⟩ := Option.bind_eq_some_iff.1 he
  refine w_a rfl (o_call co79 (vs := [v15]) rfl (radomeref01_trim.calls k hy22 h20)) ?_
  rintro v25 H23 _ ⟨rfl, e24, h26⟩
  refine w_d rfl (d_assign (v := v25) rfl) <| w_done <| w_block <| w_loop <| w_del .here <| w_sl 2 (.pointer (some ⟨b_a, 0, none⟩)) rfl <| w_sl 3 (.pointer (some ⟨b_b, 0, none⟩)) rfl <| w_sl 4 (.pointer (some ⟨b_t4, 0, none⟩)) rfl <| w_sl 5 (.pointer (some ⟨b_t5, 0, none⟩)) rfl <| w_sl 6 (v25) rfl <| w_sl 7 (v_q) rfl <| w_sl 8 (.int .i64 i) rfl <| hh.l1 (hle.trans (e19.trans e24)) he (h_a_1.mono (e19.trans e24)) (h_b_1.mono (e19.trans e24)) h26 (h_q.mono (e19.trans e24))
 ·
  refine w_else rfl (decide_eq_false c9) <| w_exit rfl <| w_seq <| w_freeze h_q .here ?_
  intro H27 e28 h29
  obtain ⟨y30, hy31, he⟩ := Option.bind_eq_some_iff.1 he
  obtain ⟨y36, hy37, he⟩ := Option.bind_eq_some_iff.1 he
  refine w_none (?_)
  refine w_drawn (p := 9) (tl := [9]) [[], [(0, some 47)], [], [(2, some 49)], [(1, some 48), (3, some 50)], [], [(5, some 52)], [(4, some 51), (6, some 53)], []] [some 47, some 48, some 49, some 50, some 51, some 52, some 53, some 54, some 9] (fctF (.is (.pointer (some ⟨b_a, 0, none⟩)) :: .is (.bool a_0) :: .is (.pointer (some ⟨b_b, 0, none⟩)) :: .is (.bool b_0) :: .is (.bool (!(a_0 == b_0))) :: .is (v_q) :: .ro (Kd.int .i64) (y30) :: .of (radomeref01_num.out y36) (radomeref01_num.out_mono _) :: .box 27 [.bool false, .slice none 0 0] :: [])) (fun m_ => m_ 8 :: none :: some (b_t5, .cells ⟨[.bool false, .slice none 0 0]⟩ 27 (0, 0)) :: some (b_t4, .cells ⟨[.bool false, .slice none 0 0]⟩ 27 (0, 0)) :: some (b_b, .cells ⟨[.bool b_0, v_b_1]⟩ 27 (0, 0)) :: some (b_a, .cells ⟨[.bool a_0, v_a_1]⟩ 27 (0, 0)) :: L) (fun _ => none) mixed (by kernel_rfl) (by kernel_rfl) rfl (fct_mono (by kernel_rfl)) ⟨(fun H' m_ hH hm_ hu_ => depK_nil <| s_d (m_ 0) rfl (d_fld (o' := 0) Tryz.underlying27 rfl sz4 rfl rfl rfl) (by exact rfl) rfl), (by rintro H' m_ hH hm_ hu_ _ rfl; exact depK_nil <| s_d (m_ 1) rfl (d_loado (v := .bool a_0) ty4 rfl (.there (.there (.there (.there (.there .here))))) rfl rfl rfl rfl) (by exact rfl) rfl), (fun H' m_ hH hm_ hu_ => depK_nil <| s_d (m_ 2) rfl (d_fld (o' := 0) Tryz.underlying27 rfl sz4 rfl rfl rfl) (by exact rfl) rfl), (by rintro H' m_ hH hm_ hu_ _ rfl; exact depK_nil <| s_d (m_ 3) rfl (d_loado (v := .bool b_0) ty4 rfl (.there (.there (.there (.there .here)))) rfl rfl rfl rfl) (by exact rfl) rfl), (by rintro H' m_ hH hm_ hu_ _ rfl _ rfl; exact depK_nil <| s_d (m_ 4) rfl (d_neb (a := a_0) (b := b_0) Tryz.underlying4 rfl rfl) (by exact rfl) rfl), (fun H' m_ hH hm_ hu_ => depK_nil <| s_d (m_ 5) rfl (d_move (v := v_q) rfl) (by exact rfl) rfl), (by rintro H' m_ hH hm_ hu_ _ rfl; exact depK_nil <| s_k (m_ 6) rfl (o_call co79 (vs := [v_q]) rfl (radomeref01_trim.calls k hy31 (h29.mono hH))) rfl (by rintro v_ H_ _ ⟨rfl, e_, h_⟩; exact ⟨rfl, e_, h_⟩)), (by rintro H' m_ hH hm_ hu_ _ rfl v34 (h35 : Ro (Kd.int .i64) H' v34 y30); exact depK_nil <| s_k (m_ 7) rfl (o_call co78 (vs := [.bool (!(a_0 == b_0)), v34]) rfl (radomeref01_num.calls k hy37 h35)) rfl (by rintro v_ H_ _ ⟨rfl, e_, h_⟩; exact ⟨rfl, e_, h_⟩)), (fun H' m_ hH hm_ hu_ => depK_nil <| s_box hm_ rfl rfl (o_alloc zr27 rfl) rfl (fun _ => .here) (by exact fun b_ => ⟨b_, rfl, rfl⟩)), trivial⟩ ?_
  intro H43 e44
  rintro _ _ rfl _ _ rfl _ _ rfl _ _ rfl _ _ rfl _ _ rfl v34 _ (h35 : Ro (Kd.int .i64) H43 v34 y30) _ _ ⟨v40, rfl, h41⟩ _ _ ⟨b42, rfl, rfl⟩
  refine w_a0 rfl (o_store (v := .agg ⟨[.bool y36.f_Neg, v40]⟩) sz27 rfl rfl rfl rfl (one_cons rfl (one_cons (h41.one) one_nil)) .here (.here (.here .done))) ?_
  rintro _ _ _ ⟨rfl, rfl, rfl⟩
  refine w_done <| w_seq <| w_region rfl <| w_d rfl (d_move (v := v_rest) rfl) ?_
  obtain ⟨y45, hy46, he⟩ := Option.bind_eq_some_iff.1 he
  refine w_a rfl (o_call co78 (vs := [.bool false, v_rest]) rfl (radomeref01_num.calls k hy46 (h_rest.mono (e28.trans e44)))) ?_
  rintro _ H47 _ ⟨rfl, e48, ⟨v49, rfl, h50⟩⟩
  refine w_a rfl (o_alloc zr27 rfl) ?_
  rintro _ _ _ ⟨b51, rfl, rfl, rfl⟩
  refine w_a0 rfl (o_store (v := .agg ⟨[.bool y45.f_Neg, v49]⟩) sz27 rfl rfl rfl rfl (one_cons rfl (one_cons (h50.one) one_nil)) .here (.here (.here .done))) ?_
  rintro _ _ _ ⟨rfl, rfl, rfl⟩
  refine w_done <| w_seq <| w_seq <| w_region rfl <| w_d rfl (d_fld (o' := 0) Tryz.underlying27 rfl sz4 rfl rfl rfl) <| w_d rfl (d_loado (v := .bool a_0) ty4 rfl (.there (.there (.there (.there (.there (.there .here)))))) rfl rfl rfl rfl) <| w_d rfl (d_move (v := .bool a_0) rfl) <| w_g (g := a_0) rfl rfl rfl wn_t (fun g52 => d_move (v := v_rest) rfl) <| w_g (g := a_0) rfl rfl rfl wn_t (fun g53 => d_len Tryz.underlying25 (cvt g53) (h_rest.mono ((e28.trans e44).trans e48)).src) <| w_g (g := a_0) rfl rfl rfl wn_t (fun g54 => d_gtr (cvt g54) rfl) <| w_d rfl (d_and' (b := a_0) (p := (decide (0 < (rest.length : Int)))) rfl rfl rfl) <| w_done ?_
  rcases its he with ⟨c55, he⟩ | ⟨c55, he⟩
  ·
   refine w_then rfl c55 <| w_seq <| w_region rfl <| w_d rfl (d_fld (o' := 1) Tryz.underlying27 rfl sz25 rfl rfl rfl) <| w_d rfl (d_loado (v := v_b_1) ty25 rfl (.there (.there (.there (.there (.there .here))))) rfl rfl rfl rfl) <| w_d rfl (d_move (v := v_rest) rfl) ?_
   obtain ⟨y56, hy57, he⟩ := Option.bind_eq_some_iff.1 he
   refine w_a rfl (o_call co82 (vs := [v_b_1, v_rest]) rfl (radomeref01_minus.calls k hy57 ((h_b_1.mono ((e28.trans e44).trans e48)).src) ((h_rest.mono ((e28.trans e44).trans e48)).src))) ?_
   rintro v60 H58 _ ⟨rfl, e59, h61⟩
   obtain ⟨y62, hy63, he⟩ := Option.bind_eq_some_iff.1 he
   refine w_a rfl (o_call co78 (vs := [.bool false, v60]) rfl (radomeref01_num.calls k hy63 h61)) ?_
   rintro _ H64 _ ⟨rfl, e65, ⟨v66, rfl, h67⟩⟩
   refine w_a0 rfl (o_store (v := .agg ⟨[.bool y62.f_Neg, v66]⟩) sz27 rfl rfl rfl rfl (one_cons rfl (one_cons (h67.one) one_nil)) .here (.here (.here .done))) ?_
   rintro _ _ _ ⟨rfl, rfl, rfl⟩
   refine w_done <| w_seq <| w_region rfl <| w_d rfl (d_fld (o' := 0) Tryz.underlying27 rfl sz4 rfl rfl rfl) <| w_d rfl (d_loado (v := .bool b_0) ty4 rfl (.there (.there (.there (.there (.there .here))))) rfl rfl rfl rfl) <| w_done ?_
   rcases its he with ⟨c68, he⟩ | ⟨c68, he⟩
   ·
    refine w_then rfl c68 ?_
    obtain ⟨y69, hy70, he⟩ := Option.bind_eq_some_iff.1 he
    refine w_drawn (p := 2) (tl := [2, 3]) [[], []] [some 71, some 72] (fctF (.is (.agg ⟨[.bool y36.f_Neg, v40]⟩) :: .of (radomeref01_Of.out y69) (radomeref01_Of.out_mono _) :: [])) (fun m_ => some (b51, .cells ⟨[.bool y62.f_Neg, v66]⟩ 27 (0, 0)) :: some (b42, .cells ⟨[.bool y36.f_Neg, v40]⟩ 27 (0, 0)) :: none :: some (b_t5, .cells ⟨[.bool false, .slice none 0 0]⟩ 27 (0, 0)) :: some (b_t4, .cells ⟨[.bool false, .slice none 0 0]⟩ 27 (0, 0)) :: some (b_b, .cells ⟨[.bool b_0, v_b_1]⟩ 27 (0, 0)) :: some (b_a, .cells ⟨[.bool a_0, v_a_1]⟩ 27 (0, 0)) :: L) (fun _ => none) mixed (by kernel_rfl) (by kernel_rfl) rfl (fct_mono (by kernel_rfl)) ⟨(fun H' m_ hH hm_ hu_ => depK_nil <| s_d (m_ 0) rfl (d_loado (v := .agg ⟨[.bool y36.f_Neg, v40]⟩) ty27 rfl (.there .here) rfl rfl rfl rfl) (by exact rfl) rfl), (fun H' m_ hH hm_ hu_ => depK_nil <| s_k (m_ 1) rfl (o_call co16 (vs := [.int .i64 1]) rfl (radomeref01_Of.calls k hy70)) rfl (by rintro v_ H_ _ ⟨rfl, e_, h_⟩; exact ⟨rfl, e_, h_⟩)), trivial⟩ ?_
    intro H75 e76
    rintro _ _ rfl _ _ ⟨v73, rfl, h74⟩
    obtain ⟨y77, hy78, he⟩ := Option.bind_eq_some_iff.1 he
    refine w_a rfl (o_call co45 (vs := [.agg ⟨[.bool y36.f_Neg, v40]⟩, .agg ⟨[.bool y69.f_Neg, v73]⟩]) rfl (radomeref01_Add.calls k (a := ⟨y36.f_Neg, y36.f_D⟩) (b := ⟨y69.f_Neg, y69.f_D⟩) hy78 (h41.mono (((e48.trans e59).trans e65).trans e76)) h74)) ?_
    rintro _ H79 _ ⟨rfl, e80, ⟨v81, rfl, h82⟩⟩
    refine w_a0 rfl (o_store (v := .agg ⟨[.bool y77.f_Neg, v81]⟩) sz27 rfl rfl rfl rfl (one_cons rfl (one_cons (h82.one) one_nil)) (.there .here) (.here (.here .done))) ?_
    rintro _ _ _ ⟨rfl, rfl, rfl⟩
    refine w_done <| w_seq <| w_drawn (p := 3) (tl := [3]) [[], [], [(0, some 77)]] [some 77, some 78, none] (fctF (.is (.agg ⟨[.bool y77.f_Neg, v81]⟩) :: .is (.agg ⟨[.bool y62.f_Neg, v66]⟩) :: .itm (fun H itq_ => itq_ = some (b_t4, .cells ⟨[.bool y77.f_Neg, v81]⟩ 27 (0, 0))) (by rintro _ _ _ hle rfl; exact rfl) :: [])) (fun m_ => some (b51, .cells ⟨[.bool y62.f_Neg, v66]⟩ 27 (0, 0)) :: some (b42, .cells ⟨[.bool y77.f_Neg, v81]⟩ 27 (0, 0)) :: none :: some (b_t5, .cells ⟨[.bool false, .slice none 0 0]⟩ 27 (0, 0)) :: m_ 2 :: some (b_b, .cells ⟨[.bool b_0, v_b_1]⟩ 27 (0, 0)) :: some (b_a, .cells ⟨[.bool a_0, v_a_1]⟩ 27 (0, 0)) :: L) (fun i_ => if i_ = 2 then some (b_t4, .cells ⟨[.bool false, .slice none 0 0]⟩ 27 (0, 0)) else none) mixed (by kernel_rfl) (by kernel_rfl) rfl (fct_mono (by kernel_rfl)) ⟨(fun H' m_ hH hm_ hu_ => depK_nil <| s_d (m_ 0) rfl (d_loado (v := .agg ⟨[.bool y77.f_Neg, v81]⟩) ty27 rfl (.there .here) rfl rfl rfl rfl) (by exact rfl) rfl), (fun H' m_ hH hm_ hu_ => depK_nil <| s_d (m_ 1) rfl (d_loado (v := .agg ⟨[.bool y62.f_Neg, v66]⟩) ty27 rfl .here rfl rfl rfl rfl) (by exact rfl) rfl), (by rintro H' m_ hH hm_ hu_ _ rfl; exact depK_nil <| s_store (some (b_t4, .cells ⟨[.bool y77.f_Neg, v81]⟩ 27 (0, 0))) hm_ rfl (o_store (v := .agg ⟨[.bool y77.f_Neg, v81]⟩) sz27 rfl rfl rfl rfl (one_cons rfl (one_cons (h82.one) one_nil)) (.there (.there (.there (.there .here)))) (.here (.here .done))) rfl (by exact ⟨rfl, rfl⟩)), trivial⟩ ?_
    intro H83 e84
    rintro _ _ rfl _ _ rfl _ _ ⟨rfl, rfl⟩
    refine w_it (L' := some (b51, .cells ⟨[.bool y62.f_Neg, v66]⟩ 27 (0, 0)) :: some (b42, .cells ⟨[.bool y77.f_Neg, v81]⟩ 27 (0, 0)) :: none :: some (b_t5, .cells ⟨[.bool false, .slice none 0 0]⟩ 27 (0, 0)) :: some (b_t4, .cells ⟨[.bool y77.f_Neg, v81]⟩ 27 (0, 0)) :: some (b_b, .cells ⟨[.bool b_0, v_b_1]⟩ 27 (0, 0)) :: some (b_a, .cells ⟨[.bool a_0, v_a_1]⟩ 27 (0, 0)) :: L) rfl <| w_a0 rfl (o_store (v := .agg ⟨[.bool y62.f_Neg, v66]⟩) sz27 rfl rfl rfl rfl (one_cons rfl (one_cons (h67.one) one_nil)) (.there (.there (.there .here))) (.here (.here .done))) ?_
    rintro _ _ _ ⟨rfl, rfl, rfl⟩
    refine w_done ?_
    obtain rfl := Option.some.inj he
    refine w_return fn_50 rs_50 (.box (v := .agg ⟨[.bool y77.f_Neg, v81]⟩) rfl ty27 rfl rfl (.there (.there (.there (.there .here)))) rfl (.box (v := .agg ⟨[.bool y62.f_Neg, v66]⟩) rfl ty27 rfl rfl (.there (.there (.there .here))) rfl .nil)) <| ⟨⟨[_, _, _, _, _, _, _], rfl⟩, hle.trans (((((((e28.trans e44).trans e48).trans e59).trans e65).trans e76).trans e80).trans e84), ⟨v81, v66, rfl, (h82.mono e84), (h67.mono ((e76.trans e80).trans e84))⟩⟩
   ·
    refine w_else rfl (Bool.eq_false_iff.2 c68) ?_
    obtain ⟨y85, hy86, he⟩ := Option.bind_eq_some_iff.1 he
    refine w_drawn (p := 2) (tl := [2, 3]) [[], []] [some 74, some 75] (fctF (.is (.agg ⟨[.bool y36.f_Neg, v40]⟩) :: .of (radomeref01_Of.out y85) (radomeref01_Of.out_mono _) :: [])) (fun m_ => some (b51, .cells ⟨[.bool y62.f_Neg, v66]⟩ 27 (0, 0)) :: some (b42, .cells ⟨[.bool y36.f_Neg, v40]⟩ 27 (0, 0)) :: none :: some (b_t5, .cells ⟨[.bool false, .slice none 0 0]⟩ 27 (0, 0)) :: some (b_t4, .cells ⟨[.bool false, .slice none 0 0]⟩ 27 (0, 0)) :: some (b_b, .cells ⟨[.bool b_0, v_b_1]⟩ 27 (0, 0)) :: some (b_a, .cells ⟨[.bool a_0, v_a_1]⟩ 27 (0, 0)) :: L) (fun _ => none) mixed (by kernel_rfl) (by kernel_rfl) rfl (fct_mono (by kernel_rfl)) ⟨(fun H' m_ hH hm_ hu_ => depK_nil <| s_d (m_ 0) rfl (d_loado (v := .agg ⟨[.bool y36.f_Neg, v40]⟩) ty27 rfl (.there .here) rfl rfl rfl rfl) (by exact rfl) rfl), (fun H' m_ hH hm_ hu_ => depK_nil <| s_k (m_ 1) rfl (o_call co16 (vs := [.int .i64 1]) rfl (radomeref01_Of.calls k hy86)) rfl (by rintro v_ H_ _ ⟨rfl, e_, h_⟩; exact ⟨rfl, e_, h_⟩)), trivial⟩ ?_
    intro H91 e92
    rintro _ _ rfl _ _ ⟨v89, rfl, h90⟩
    obtain ⟨y93, hy94, he⟩ := Option.bind_eq_some_iff.1 he
    refine w_a rfl (o_call co83 (vs := [.agg ⟨[.bool y36.f_Neg, v40]⟩, .agg ⟨[.bool y85.f_Neg, v89]⟩]) rfl (radomeref01_Sub.calls k (a := ⟨y36.f_Neg, y36.f_D⟩) (b := ⟨y85.f_Neg, y85.f_D⟩) hy94 (h41.mono (((e48.trans e59).trans e65).trans e92)) h90)) ?_
    rintro _ H95 _ ⟨rfl, e96, ⟨v97, rfl, h98⟩⟩
    refine w_a0 rfl (o_store (v := .agg ⟨[.bool y93.f_Neg, v97]⟩) sz27 rfl rfl rfl rfl (one_cons rfl (one_cons (h98.one) one_nil)) (.there .here) (.here (.here .done))) ?_
    rintro _ _ _ ⟨rfl, rfl, rfl⟩
    refine w_done <| w_seq <| w_drawn (p := 3) (tl := [3]) [[], [], [(0, some 77)]] [some 77, some 78, none] (fctF (.is (.agg ⟨[.bool y93.f_Neg, v97]⟩) :: .is (.agg ⟨[.bool y62.f_Neg, v66]⟩) :: .itm (fun H itq_ => itq_ = some (b_t4, .cells ⟨[.bool y93.f_Neg, v97]⟩ 27 (0, 0))) (by rintro _ _ _ hle rfl; exact rfl) :: [])) (fun m_ => some (b51, .cells ⟨[.bool y62.f_Neg, v66]⟩ 27 (0, 0)) :: some (b42, .cells ⟨[.bool y93.f_Neg, v97]⟩ 27 (0, 0)) :: none :: some (b_t5, .cells ⟨[.bool false, .slice none 0 0]⟩ 27 (0, 0)) :: m_ 2 :: some (b_b, .cells ⟨[.bool b_0, v_b_1]⟩ 27 (0, 0)) :: some (b_a, .cells ⟨[.bool a_0, v_a_1]⟩ 27 (0, 0)) :: L) (fun i_ => if i_ = 2 then some (b_t4, .cells ⟨[.bool false, .slice none 0 0]⟩ 27 (0, 0)) else none) mixed (by kernel_rfl) (by kernel_rfl) rfl (fct_mono (by kernel_rfl)) ⟨(fun H' m_ hH hm_ hu_ => depK_nil <| s_d (m_ 0) rfl (d_loado (v := .agg ⟨[.bool y93.f_Neg, v97]⟩) ty27 rfl (.there .here) rfl rfl rfl rfl) (by exact rfl) rfl), (fun H' m_ hH hm_ hu_ => depK_nil <| s_d (m_ 1) rfl (d_loado (v := .agg ⟨[.bool y62.f_Neg, v66]⟩) ty27 rfl .here rfl rfl rfl rfl) (by exact rfl) rfl), (by rintro H' m_ hH hm_ hu_ _ rfl; exact depK_nil <| s_store (some (b_t4, .cells ⟨[.bool y93.f_Neg, v97]⟩ 27 (0, 0))) hm_ rfl (o_store (v := .agg ⟨[.bool y93.f_Neg, v97]⟩) sz27 rfl rfl rfl rfl (one_cons rfl (one_cons (h98.one) one_nil)) (.there (.there (.there (.there .here)))) (.here (.here .done))) rfl (by exact ⟨rfl, rfl⟩)), trivial⟩ ?_
    intro H99 e100
    rintro _ _ rfl _ _ rfl _ _ ⟨rfl, rfl⟩
    refine w_it (L' := some (b51, .cells ⟨[.bool y62.f_Neg, v66]⟩ 27 (0, 0)) :: some (b42, .cells ⟨[.bool y93.f_Neg, v97]⟩ 27 (0, 0)) :: none :: some (b_t5, .cells ⟨[.bool false, .slice none 0 0]⟩ 27 (0, 0)) :: some (b_t4, .cells ⟨[.bool y93.f_Neg, v97]⟩ 27 (0, 0)) :: some (b_b, .cells ⟨[.bool b_0, v_b_1]⟩ 27 (0, 0)) :: some (b_a, .cells ⟨[.bool a_0, v_a_1]⟩ 27 (0, 0)) :: L) rfl <| w_a0 rfl (o_store (v := .agg ⟨[.bool y62.f_Neg, v66]⟩) sz27 rfl rfl rfl rfl (one_cons rfl (one_cons (h67.one) one_nil)) (.there (.there (.there .here))) (.here (.here .done))) ?_
    rintro _ _ _ ⟨rfl, rfl, rfl⟩
    refine w_done ?_
    obtain rfl := Option.some.inj he
    refine w_return fn_50 rs_50 (.box (v := .agg ⟨[.bool y93.f_Neg, v97]⟩) rfl ty27 rfl rfl (.there (.there (.there (.there .here)))) rfl (.box (v := .agg ⟨[.bool y62.f_Neg, v66]⟩) rfl ty27 rfl rfl (.there (.there (.there .here))) rfl .nil)) <| ⟨⟨[_, _, _, _, _, _, _], rfl⟩, hle.trans (((((((e28.trans e44).trans e48).trans e59).trans e65).trans e92).trans e96).trans e100), ⟨v97, v66, rfl, (h98.mono e100), (h67.mono ((e92.trans e96).trans e100))⟩⟩
  ·
   refine w_else rfl (Bool.eq_false_iff.2 c55) <| w_skip <| w_seq <| w_drawn (p := 3) (tl := [3]) [[], [], [(0, some 77)]] [some 77, some 78, none] (fctF (.is (.agg ⟨[.bool y36.f_Neg, v40]⟩) :: .is (.agg ⟨[.bool y45.f_Neg, v49]⟩) :: .itm (fun H itq_ => itq_ = some (b_t4, .cells ⟨[.bool y36.f_Neg, v40]⟩ 27 (0, 0))) (by rintro _ _ _ hle rfl; exact rfl) :: [])) (fun m_ => some (b51, .cells ⟨[.bool y45.f_Neg, v49]⟩ 27 (0, 0)) :: some (b42, .cells ⟨[.bool y36.f_Neg, v40]⟩ 27 (0, 0)) :: none :: some (b_t5, .cells ⟨[.bool false, .slice none 0 0]⟩ 27 (0, 0)) :: m_ 2 :: some (b_b, .cells ⟨[.bool b_0, v_b_1]⟩ 27 (0, 0)) :: some (b_a, .cells ⟨[.bool a_0, v_a_1]⟩ 27 (0, 0)) :: L) (fun i_ => if i_ = 2 then some (b_t4, .cells ⟨[.bool false, .slice none 0 0]⟩ 27 (0, 0)) else none) mixed (by kernel_rfl) (by kernel_rfl) rfl (fct_mono (by kernel_rfl)) ⟨(fun H' m_ hH hm_ hu_ => depK_nil <| s_d (m_ 0) rfl (d_loado (v := .agg ⟨[.bool y36.f_Neg, v40]⟩) ty27 rfl (.there .here) rfl rfl rfl rfl) (by exact rfl) rfl), (fun H' m_ hH hm_ hu_ => depK_nil <| s_d (m_ 1) rfl (d_loado (v := .agg ⟨[.bool y45.f_Neg, v49]⟩) ty27 rfl .here rfl rfl rfl rfl) (by exact rfl) rfl), (by rintro H' m_ hH hm_ hu_ _ rfl; exact depK_nil <| s_store (some (b_t4, .cells ⟨[.bool y36.f_Neg, v40]⟩ 27 (0, 0))) hm_ rfl (o_store (v := .agg ⟨[.bool y36.f_Neg, v40]⟩) sz27 rfl rfl rfl rfl (one_cons rfl (one_cons (h41.one) one_nil)) (.there (.there (.there (.there .here)))) (.here (.here .done))) rfl (by exact ⟨rfl, rfl⟩)), trivial⟩ ?_
   intro H101 e102
   rintro _ _ rfl _ _ rfl _ _ ⟨rfl, rfl⟩
   refine w_it (L' := some (b51, .cells ⟨[.bool y45.f_Neg, v49]⟩ 27 (0, 0)) :: some (b42, .cells ⟨[.bool y36.f_Neg, v40]⟩ 27 (0, 0)) :: none :: some (b_t5, .cells ⟨[.bool false, .slice none 0 0]⟩ 27 (0, 0)) :: some (b_t4, .cells ⟨[.bool y36.f_Neg, v40]⟩ 27 (0, 0)) :: some (b_b, .cells ⟨[.bool b_0, v_b_1]⟩ 27 (0, 0)) :: some (b_a, .cells ⟨[.bool a_0, v_a_1]⟩ 27 (0, 0)) :: L) rfl <| w_a0 rfl (o_store (v := .agg ⟨[.bool y45.f_Neg, v49]⟩) sz27 rfl rfl rfl rfl (one_cons rfl (one_cons (h50.one) one_nil)) (.there (.there (.there .here))) (.here (.here .done))) ?_
   rintro _ _ _ ⟨rfl, rfl, rfl⟩
   refine w_done ?_
   obtain rfl := Option.some.inj he
   refine w_return fn_50 rs_50 (.box (v := .agg ⟨[.bool y36.f_Neg, v40]⟩) rfl ty27 rfl rfl (.there (.there (.there (.there .here)))) rfl (.box (v := .agg ⟨[.bool y45.f_Neg, v49]⟩) rfl ty27 rfl rfl (.there (.there (.there .here))) rfl .nil)) <| ⟨⟨[_, _, _, _, _, _, _], rfl⟩, hle.trans (((e28.trans e44).trans e48).trans e102), ⟨v40, v49, rfl, (h41.mono (e48.trans e102)), (h50.mono e102)⟩⟩
theorem radomeref01_Div.b1_ok {k : Nat} {h : radomeref01_Div.Hs} (hh : radomeref01_Div.OK h) {H0 H : Hp} {L : Items} {r : radomeref01_Num × radomeref01_Num} {jk_ : Nat → Value} {a_0 : Bool} {a_1 : List Int} {b_0 : Bool} {b_1 : List Int} {rest : List Int} {q : List Int} {i : Int} {v_a_1 : Value} {v_b_1 : Value} {v_rest : Value} {v_q : Value} {i_q : Item'} {b_a : Nat} {b_b : Nat} {b_t4 : Nat} {b_t5 : Nat} (hle : H0.le H) (he : radomeref01_Div.b1 k h a_0 a_1 b_0 b_1 rest q i = some r) (h_a_1 : Ro (Kd.int .i64) H v_a_1 a_1) (h_b_1 : Ro (Kd.int .i64) H v_b_1 b_1) (h_rest : Ro (Kd.int .i64) H v_rest rest) (h_q : Sl (Kd.int .i64) H 3 i_q v_q q) : Wp Tryz.prog 50 79 radomeref01_Div.Kl1 (upd (upd (upd (upd (upd (upd (upd jk_ 2 (.pointer (some ⟨b_a, 0, none⟩))) 3 (.pointer (some ⟨b_b, 0, none⟩))) 4 (.pointer (some ⟨b_t4, 0, none⟩))) 5 (.pointer (some ⟨b_t5, 0, none⟩))) 6 (v_rest)) 7 (v_q)) 8 (.int .i64 i)) H (i_q :: some (b_t5, .cells ⟨[.bool false, .slice none 0 0]⟩ 27 (0, 0)) :: some (b_t4, .cells ⟨[.bool false, .slice none 0 0]⟩ 27 (0, 0)) :: some (b_b, .cells ⟨[.bool b_0, v_b_1]⟩ 27 (0, 0)) :: some (b_a, .cells ⟨[.bool a_0, v_a_1]⟩ 27 (0, 0)) :: L) (radomeref01_Div.R H0 L r) := by
 unfold radomeref01_Div.b1 at he
 unfold radomeref01_Div.Kl1
 refine w_seq <| w_seq <| w_region rfl <| w_d rfl (d_move (v := v_rest) rfl) <| w_d rfl (d_fld (o' := 1) Tryz.underlying27 rfl sz25 rfl rfl rfl) <| w_d rfl (d_loado (v := v_b_1) ty25 rfl (.there (.there (.there .here))) rfl rfl rfl rfl) ?_
 obtain ⟨y103, hy104, he⟩ := Option.bind_eq_some_iff.1 he
 refine w_d rfl (call_d (o_call co80 (vs := [v_rest, v_b_1]) rfl (radomeref01_Less.calls k hy104 h_rest.src h_b_1.src))) <| w_d rfl (d_not (b := y103) rfl) <| w_done ?_
 rcases its he with ⟨c107, he⟩ | ⟨c107, he⟩
 ·
  refine w_then rfl c107 <| w_skip <| w_block <| w_seq <| w_region rfl <| w_d rfl (d_move (v := v_rest) rfl) <| w_d rfl (d_fld (o' := 1) Tryz.underlying27 rfl sz25 rfl rfl rfl) <| w_d rfl (d_loado (v := v_b_1) ty25 rfl (.there (.there (.there .here))) rfl rfl rfl rfl) ?_
  obtain ⟨y108, hy109, he⟩ := Option.bind_eq_some_iff.1 he
  refine w_a rfl (o_call co82 (vs := [v_rest, v_b_1]) rfl (radomeref01_minus.calls k hy109 h_rest.src h_b_1.src)) ?_
  rintro v112 H110 _ ⟨rfl, e111, h113⟩
  refine w_d rfl (d_assign (v := v112) rfl) <| w_done <| w_region rfl <| w_d rfl (d_move (v := v_q) rfl) <| w_d rfl (d_move (v := .int .i64 i) rfl) ?_
  obtain ⟨c114, he⟩ := rq he
  refine w_d rfl (d_indexS (sz := 1) Tryz.underlying25 sz3 rfl (h_q.mono e111).shp rfl c114) <| w_d rfl (d_ldint ty3 rfl ((h_q.mono e111).src .here) c114) <| w_d rfl (d_add (c := w64 ((rd q i) + 1)) rfl rfl rfl) ?_
  obtain ⟨c115, he⟩ := rq he
  refine w_d rfl (d_indexS (sz := 1) Tryz.underlying25 sz3 rfl (h_q.mono e111).shp rfl c115) <| w_a0 rfl (o_storeEl (kd := (Kd.int .i64)) (v := .int .i64 (w64 ((rd q i) + 1))) (F := fun z_ => z_ :: some (b_t5, .cells ⟨[.bool false, .slice none 0 0]⟩ 27 (0, 0)) :: some (b_t4, .cells ⟨[.bool false, .slice none 0 0]⟩ 27 (0, 0)) :: some (b_b, .cells ⟨[.bool b_0, v_b_1]⟩ 27 (0, 0)) :: some (b_a, .cells ⟨[.bool a_0, v_a_1]⟩ 27 (0, 0)) :: L) sz3 rfl rfl rfl rfl (h_q.mono e111) c115 (fun _ => .here)) ?_
  rintro _ _ _ ⟨i116, rfl, rfl, rfl, h117⟩
  refine w_done <| w_inBlock <| w_inLoop <| w_sl 2 (.pointer (some ⟨b_a, 0, none⟩)) rfl <| w_sl 3 (.pointer (some ⟨b_b, 0, none⟩)) rfl <| w_sl 4 (.pointer (some ⟨b_t4, 0, none⟩)) rfl <| w_sl 5 (.pointer (some ⟨b_t5, 0, none⟩)) rfl <| w_sl 6 (v112) rfl <| w_sl 7 (v_q) rfl <| w_sl 8 (.int .i64 i) rfl <| hh.l1 (hle.trans e111) he (h_a_1.mono e111) (h_b_1.mono e111) h113 h117
 ·
  refine w_else rfl (Bool.eq_false_iff.2 c107) <| w_exit rfl <| w_inBlock <| w_region rfl <| w_d rfl (d_move (v := .int .i64 i) rfl) <| w_d rfl (d_sub (c := w64 (i - 1)) rfl rfl rfl) <| w_d rfl (d_assign (v := .int .i64 (w64 (i - 1))) rfl) <| w_done <| w_inLoop <| w_sl 2 (.pointer (some ⟨b_a, 0, none⟩)) rfl <| w_sl 3 (.pointer (some ⟨b_b, 0, none⟩)) rfl <| w_sl 4 (.pointer (some ⟨b_t4, 0, none⟩)) rfl ?_
  refine w_sl 5 (.pointer (some ⟨b_t5, 0, none⟩)) rfl <| w_sl 6 (v_rest) rfl <| w_sl 7 (v_q) rfl <| w_sl 8 (.int .i64 (w64 (i - 1))) rfl <| hh.l0 hle he h_a_1 h_b_1 h_rest h_q
theorem radomeref01_Div.ok : ∀ k, radomeref01_Div.OK (radomeref01_Div.hs k)
 | 0 => ⟨(by intros; exact nomatch (show none = some _ from by assumption)), (by intros; exact nomatch (show none = some _ from by assumption))⟩
 | k + 1 => ⟨radomeref01_Div.b0_ok (k := k) (radomeref01_Div.ok k), radomeref01_Div.b1_ok (k := k) (radomeref01_Div.ok k)⟩
theorem radomeref01_Div.calls (k : Nat) {H : Hp} {L : Items} {a : radomeref01_Num} {b : radomeref01_Num} {v0_a : Value} {v1_b : Value} {r : radomeref01_Num × radomeref01_Num} (he : radomeref01_Div.f k a b = some r) (h0_a : Ro (Kd.int .i64) H v0_a a.f_D) (h1_b : Ro (Kd.int .i64) H v1_b b.f_D) : Ct Tryz.prog 50 ⟨[.agg ⟨[.bool a.f_Neg, v0_a]⟩, .agg ⟨[.bool b.f_Neg, v1_b]⟩]⟩ H L (fun v H' L' => L = L' ∧ H.le H' ∧ radomeref01_Div.out r H' v) := by
 refine ct_out (O := radomeref01_Div.out r) ?_
 have hle : H.le H := .refl _
 have hh := radomeref01_Div.ok k
 unfold radomeref01_Div.f at he
 refine ct_enter (args := [.agg ⟨[.bool a.f_Neg, v0_a]⟩, .agg ⟨[.bool b.f_Neg, v1_b]⟩]) fn_50 rfl nt_50 rfl <| w_seq <| w_region rfl <| w_a rfl (o_box (v := .agg ⟨[.bool a.f_Neg, v0_a]⟩) rfl rfl) ?_
 rintro _ _ _ ⟨b1, rfl, rfl, rfl⟩
 refine w_a rfl (o_box (v := .agg ⟨[.bool b.f_Neg, v1_b]⟩) rfl rfl) ?_
 rintro _ _ _ ⟨b2, rfl, rfl, rfl⟩
 refine w_a rfl (o_alloc zr27 rfl) ?_
 rintro _ _ _ ⟨b3, rfl, rfl, rfl⟩
 refine w_a rfl (o_alloc zr27 rfl) ?_
 rintro _ _ _ ⟨b4, rfl, rfl, rfl⟩
 refine w_done <| w_seq <| w_region rfl <| w_d rfl (d_assign (v := .slice none 0 0) rfl) <| w_done <| w_seq <| w_region rfl <| w_d rfl (d_fld (o' := 1) Tryz.underlying27 rfl sz25 rfl rfl rfl) <| w_d rfl (d_loado (v := v0_a) ty25 rfl (.there (.there (.there .here))) rfl rfl rfl rfl) <| w_d rfl (d_len Tryz.underlying25 rfl h0_a.src) ?_
 obtain ⟨c5, he⟩ := rq he
 refine w_a rfl (o_make' (kd := (Kd.int .i64)) (z0 := 0) Tryz.underlying25 ti3 (zp3 _) rfl rfl (by omega) (by omega) (by omega)) ?_
 rintro v6 _ _ ⟨i7, rfl, rfl, h8⟩
 refine w_d rfl (d_assign (v := v6) rfl) <| w_done <| w_seq <| w_seq <| w_region rfl <| w_d rfl (d_fld (o' := 1) Tryz.underlying27 rfl sz25 rfl rfl rfl) <| w_d rfl (d_loado (v := v0_a) ty25 rfl (.there (.there (.there (.there .here)))) rfl rfl rfl rfl) <| w_d rfl (d_len Tryz.underlying25 rfl h0_a.src) <| w_d rfl (d_sub (c := w64 ((a.f_D.length : Int) - 1)) rfl rfl rfl) <| w_d rfl (d_assign (v := .int .i64 (w64 ((a.f_D.length : Int) - 1))) rfl) <| w_done <| w_block ?_
 refine w_loop <| w_sl 2 (.pointer (some ⟨b1, 0, none⟩)) rfl <| w_sl 3 (.pointer (some ⟨b2, 0, none⟩)) rfl <| w_sl 4 (.pointer (some ⟨b3, 0, none⟩)) rfl <| w_sl 5 (.pointer (some ⟨b4, 0, none⟩)) rfl <| w_sl 6 (.slice none 0 0) rfl <| w_sl 7 (v6) rfl <| w_sl 8 (.int .i64 (w64 ((a.f_D.length : Int) - 1))) rfl <| hh.l0 hle he h0_a h1_b (ro_nil _ _) h8
/-! ### radome/radomeref02.Of -/
noncomputable def radomeref02_Of.C : Code := (Tryz.f15.body).getD .skip
def radomeref02_Of.out (r : radomeref02_Ratio) (H : Hp) (v : Value) : Prop := ∃ v0, ∃ v1, v = .agg ⟨[.bool r.f_N.f_Neg, v0, .bool r.f_D.f_Neg, v1]⟩ ∧ Ro (Kd.int .i64) H v0 r.f_N.f_D ∧ Ro (Kd.int .i64) H v1 r.f_D.f_D
theorem radomeref02_Of.out_mono (r : radomeref02_Ratio) {H H' : Hp} {v : Value} (hle : H.le H') (h : radomeref02_Of.out r H v) : radomeref02_Of.out r H' v := by
 obtain ⟨v0, v1, rfl, h0, h1⟩ := h; exact ⟨v0, v1, rfl, h0.mono hle, h1.mono hle⟩
abbrev radomeref02_Of.R (H0 : Hp) (L : Items) (r : radomeref02_Ratio) : Value → Hp → Items → Prop := fun v H' L' => (∃ p, L' = p ++ L) ∧ H0.le H' ∧ radomeref02_Of.out r H' v
structure radomeref02_Of.Hs where
 l0 : Bool → (List Int) → Bool → (List Int) → Bool → (List Int) → Bool → (List Int) → Option radomeref02_Ratio
noncomputable def radomeref02_Of.j1 (k : Nat) (h : radomeref02_Of.Hs)  (n_0 : Bool) (n_1 : List Int) (d_0 : Bool) (d_1 : List Int) : Option radomeref02_Ratio := (radomeref02_size.f k (⟨n_0, n_1⟩ : radomeref01_Num)).bind fun y23 => h.l0 n_0 n_1 d_0 d_1 y23.f_Neg y23.f_D d_0 d_1
noncomputable def radomeref02_Of.b0 (k : Nat) (h : radomeref02_Of.Hs)  (n_0 : Bool) (n_1 : List Int) (d_0 : Bool) (d_1 : List Int) (a_0 : Bool) (a_1 : List Int) (b_0 : Bool) (b_1 : List Int) : Option radomeref02_Ratio := (radomeref01_Sign.f k (⟨b_0, b_1⟩ : radomeref01_Num)).bind fun y37 => if y37 = 0 then ((radomeref01_Div.f k (⟨n_0, n_1⟩ : radomeref01_Num) (⟨a_0, a_1⟩ : radomeref01_Num)).bind fun y42 => (radomeref01_Div.f k (⟨d_0, d_1⟩ : radomeref01_Num) (⟨a_0, a_1⟩ : radomeref01_Num)).bind fun y52 => some ((⟨(⟨y42.1.f_Neg, y42.1.f_D⟩ : radomeref01_Num), (⟨y52.1.f_Neg, y52.1.f_D⟩ : radomeref01_Num)⟩ : radomeref02_Ratio))) else ((radomeref01_Div.f k (⟨a_0, a_1⟩ : radomeref01_Num) (⟨b_0, b_1⟩ : radomeref01_Num)).bind fun y62 => h.l0 n_0 n_1 d_0 d_1 b_0 b_1 y62.2.f_Neg y62.2.f_D)
noncomputable def radomeref02_Of.hs : Nat → radomeref02_Of.Hs
 | 0 => ⟨fun _ _ _ _ _ _ _ _ => none⟩
 | k + 1 => ⟨fun x0 x1 x2 x3 x4 x5 x6 x7 => radomeref02_Of.b0 k (radomeref02_Of.hs k) x0 x1 x2 x3 x4 x5 x6 x7⟩
noncomputable def radomeref02_Of.f (k : Nat) (n : radomeref01_Num) (d : radomeref01_Num) : Option radomeref02_Ratio := (fun h : radomeref02_Of.Hs => (radomeref01_Sign.f k (⟨d.f_Neg, d.f_D⟩ : radomeref01_Num)).bind fun y4 => if y4 < 0 then ((radomeref01_Neg.f k (⟨n.f_Neg, n.f_D⟩ : radomeref01_Num)).bind fun y9 => (radomeref01_Neg.f k (⟨d.f_Neg, d.f_D⟩ : radomeref01_Num)).bind fun y17 => radomeref02_Of.j1 k h y9.f_Neg y9.f_D y17.f_Neg y17.f_D) else (radomeref02_Of.j1 k h n.f_Neg n.f_D d.f_Neg d.f_D)) (radomeref02_Of.hs k)
structure radomeref02_Of.LE (h h' : radomeref02_Of.Hs) : Prop where
 l0 : ∀ y0 y1 y2 y3 y4 y5 y6 y7, LeO (h.l0 y0 y1 y2 y3 y4 y5 y6 y7) (h'.l0 y0 y1 y2 y3 y4 y5 y6 y7)
theorem radomeref02_Of.j1_mono {k : Nat} {h h' : radomeref02_Of.Hs} (hl : radomeref02_Of.LE h h') : ∀ y0 y1 y2 y3, LeO (radomeref02_Of.j1 k h y0 y1 y2 y3) (radomeref02_Of.j1 (k + 1) h' y0 y1 y2 y3) := fun _ _ _ _ => (LeO.bind (radomeref02_size.mono k _) fun _ => hl.l0 _ _ _ _ _ _ _ _)
theorem radomeref02_Of.b0_mono {k : Nat} {h h' : radomeref02_Of.Hs} (hl : radomeref02_Of.LE h h') : ∀ y0 y1 y2 y3 y4 y5 y6 y7, LeO (radomeref02_Of.b0 k h y0 y1 y2 y3 y4 y5 y6 y7) (radomeref02_Of.b0 (k + 1) h' y0 y1 y2 y3 y4 y5 y6 y7) := fun _ _ _ _ _ _ _ _ => (LeO.bind (radomeref01_Sign.mono k _) fun _ => LeO.ite (LeO.bind (radomeref01_Div.mono k _ _) fun _ => LeO.bind (radomeref01_Div.mono k _ _) fun _ => LeO.refl _) (LeO.bind (radomeref01_Div.mono k _ _) fun _ => hl.l0 _ _ _ _ _ _ _ _))
theorem radomeref02_Of.hs_mono : ∀ k, radomeref02_Of.LE (radomeref02_Of.hs k) (radomeref02_Of.hs (k + 1))
 | 0 => ⟨fun _ _ _ _ _ _ _ _ => LeO.none _⟩
 | k + 1 => ⟨radomeref02_Of.b0_mono (k := k) (radomeref02_Of.hs_mono k)⟩
theorem radomeref02_Of.mono : ∀ k y0 y1, LeO (radomeref02_Of.f k y0 y1) (radomeref02_Of.f (k + 1) y0 y1) := fun k _ _ => have hl := radomeref02_Of.hs_mono k; by unfold radomeref02_Of.f; exact (LeO.bind (radomeref01_Sign.mono k _) fun _ => LeO.ite (LeO.bind (radomeref01_Neg.mono k _) fun _ => LeO.bind (radomeref01_Neg.mono k _) fun _ => radomeref02_Of.j1_mono (k := k) hl _ _ _ _) (radomeref02_Of.j1_mono (k := k) hl _ _ _ _))
noncomputable def radomeref02_Of.Kj1 : List Item := .code (seqR (seqR radomeref02_Of.C)) :: []
noncomputable def radomeref02_Of.Kl0 : List Item := .code (lopB (blkB (seqL (seqR (seqR (seqR radomeref02_Of.C)))))) :: .inLoop (lopB (blkB (seqL (seqR (seqR (seqR radomeref02_Of.C)))))) :: .inBlock 0 :: .code (seqR (seqR (seqR (seqR radomeref02_Of.C)))) :: []
structure radomeref02_Of.OK (h : radomeref02_Of.Hs) : Prop where
 l0 : ∀ {H0 H : Hp} {L : Items} {r : radomeref02_Ratio} {jk_ : Nat → Value} {n_0 : Bool} {n_1 : List Int} {d_0 : Bool} {d_1 : List Int} {a_0 : Bool} {a_1 : List Int} {b_0 : Bool} {b_1 : List Int} {v_n_1 : Value} {v_d_1 : Value} {v_a_1 : Value} {v_b_1 : Value} {b_n : Nat} {b_d : Nat} {b_t4 : Nat} {b_a : Nat} {b_b : Nat} (_ : H0.le H) (_he : h.l0 n_0 n_1 d_0 d_1 a_0 a_1 b_0 b_1 = some r) (_h_n_1 : Ro (Kd.int .i64) H v_n_1 n_1) (_h_d_1 : Ro (Kd.int .i64) H v_d_1 d_1) (_h_a_1 : Ro (Kd.int .i64) H v_a_1 a_1) (_h_b_1 : Ro (Kd.int .i64) H v_b_1 b_1), Wp Tryz.prog 15 49 radomeref02_Of.Kl0 (upd (upd (upd (upd (upd jk_ 2 (.pointer (some ⟨b_n, 0, none⟩))) 3 (.pointer (some ⟨b_d, 0, none⟩))) 4 (.pointer (some ⟨b_t4, 0, none⟩))) 5 (.pointer (some ⟨b_a, 0, none⟩))) 6 (.pointer (some ⟨b_b, 0, none⟩))) H (some (b_a, .cells ⟨[.bool a_0, v_a_1]⟩ 27 (0, 0)) :: some (b_b, .cells ⟨[.bool b_0, v_b_1]⟩ 27 (0, 0)) :: some (b_t4, .cells ⟨[.bool false, .slice none 0 0, .bool false, .slice none 0 0]⟩ 29 (0, 0)) :: some (b_d, .cells ⟨[.bool d_0, v_d_1]⟩ 27 (0, 0)) :: some (b_n, .cells ⟨[.bool n_0, v_n_1]⟩ 27 (0, 0)) :: L) (radomeref02_Of.R H0 L r)
theorem radomeref02_Of.j1_ok {k : Nat} {h : radomeref02_Of.Hs} (hh : radomeref02_Of.OK h) {H0 H : Hp} {L : Items} {r : radomeref02_Ratio} {jk_ : Nat → Value} {n_0 : Bool} {n_1 : List Int} {d_0 : Bool} {d_1 : List Int} {v_n_1 : Value} {v_d_1 : Value} {b_n : Nat} {b_d : Nat} {b_t4 : Nat} (hle : H0.le H) (he : radomeref02_Of.j1 k h n_0 n_1 d_0 d_1 = some r) (h_n_1 : Ro (Kd.int .i64) H v_n_1 n_1) (h_d_1 : Ro (Kd.int .i64) H v_d_1 d_1) : Wp Tryz.prog 15 49 radomeref02_Of.Kj1 (upd (upd (upd jk_ 2 (.pointer (some ⟨b_n, 0, none⟩))) 3 (.pointer (some ⟨b_d, 0, none⟩))) 4 (.pointer (some ⟨b_t4, 0, none⟩))) H (some (b_t4, .cells ⟨[.bool false, .slice none 0 0, .bool false, .slice none 0 0]⟩ 29 (0, 0)) :: some (b_d, .cells ⟨[.bool d_0, v_d_1]⟩ 27 (0, 0)) :: some (b_n, .cells ⟨[.bool n_0, v_n_1]⟩ 27 (0, 0)) :: L) (radomeref02_Of.R H0 L r) := by
 unfold radomeref02_Of.j1 at he
 unfold radomeref02_Of.Kj1
 refine w_seq ?_
 obtain ⟨y23, hy24, he⟩ := Option.bind_eq_some_iff.1 he
 refine w_none (w_none (?_))
 refine w_drawn (p := 6) (tl := [6]) [[], [(0, some 20)], [], [], [], [(1, some 21), (3, some 5)]] [some 20, some 21, some 22, some 5, some 6, none] (fctF (.is (.agg ⟨[.bool n_0, v_n_1]⟩) :: .of (radomeref02_size.out y23) (radomeref02_size.out_mono _) :: .is (.agg ⟨[.bool d_0, v_d_1]⟩) :: .box 27 [.bool false, .slice none 0 0] :: .box 27 [.bool false, .slice none 0 0] :: .st 3 (fun H bq_ itq_ => ∃ v31, itq_ = some (bq_, .cells ⟨[.bool y23.f_Neg, v31]⟩ 27 (0, 0)) ∧ Ro (Kd.int .i64) H v31 y23.f_D) (by rintro _ _ _ _ hle ⟨v31, rfl, h32⟩; exact ⟨v31, rfl, h32.mono hle⟩) :: [])) (fun m_ => pk (m_ 5) (m_ 3) :: m_ 4 :: some (b_t4, .cells ⟨[.bool false, .slice none 0 0, .bool false, .slice none 0 0]⟩ 29 (0, 0)) :: some (b_d, .cells ⟨[.bool d_0, v_d_1]⟩ 27 (0, 0)) :: some (b_n, .cells ⟨[.bool n_0, v_n_1]⟩ 27 (0, 0)) :: L) (fun _ => none) mixed (by kernel_rfl) (by kernel_rfl) rfl (fct_mono (by kernel_rfl)) ⟨(fun H' m_ hH hm_ hu_ => depK_nil <| s_d (m_ 0) rfl (d_loado (v := .agg ⟨[.bool n_0, v_n_1]⟩) ty27 rfl (.there (.there (.there (.there .here)))) rfl rfl rfl rfl) (by exact rfl) rfl), (by rintro H' m_ hH hm_ hu_ _ rfl; exact depK_nil <| s_k (m_ 1) rfl (o_call co49 (vs := [.agg ⟨[.bool n_0, v_n_1]⟩]) rfl (radomeref02_size.calls k (a := ⟨n_0, n_1⟩) hy24 (h_n_1.mono hH))) rfl (by rintro v_ H_ _ ⟨rfl, e_, h_⟩; exact ⟨rfl, e_, h_⟩)), (fun H' m_ hH hm_ hu_ => depK_nil <| s_d (m_ 2) rfl (d_loado (v := .agg ⟨[.bool d_0, v_d_1]⟩) ty27 rfl (.there (.there (.there .here))) rfl rfl rfl rfl) (by exact rfl) rfl), (fun H' m_ hH hm_ hu_ => depK_nil <| s_box hm_ rfl rfl (o_alloc zr27 rfl) rfl (fun _ => (pk_upd (hu_ 5 (by kernel_rfl)))) (by exact fun b_ => ⟨b_, rfl, rfl⟩)), (fun H' m_ hH hm_ hu_ => depK_nil <| s_box hm_ rfl rfl (o_alloc zr27 rfl) rfl (fun _ => (.there .here)) (by exact fun b_ => ⟨b_, rfl, rfl⟩)), (by rintro H' m_ hH hm_ hu_ _ ⟨v27, rfl, h28⟩ _ ⟨b29, rfl, hb29_⟩; exact depK_nil <| s_store2 (Λ' := fun z_ => z_ :: m_ 4 :: some (b_t4, .cells ⟨[.bool false, .slice none 0 0, .bool false, .slice none 0 0]⟩ 29 (0, 0)) :: some (b_d, .cells ⟨[.bool d_0, v_d_1]⟩ 27 (0, 0)) :: some (b_n, .cells ⟨[.bool n_0, v_n_1]⟩ 27 (0, 0)) :: L) (some (b29, .cells ⟨[.bool y23.f_Neg, v27]⟩ 27 (0, 0))) hm_ rfl hb29_ rfl (o_store (v := .agg ⟨[.bool y23.f_Neg, v27]⟩) sz27 rfl rfl rfl rfl (one_cons rfl (one_cons (h28.one) one_nil)) .here (.here (.here .done))) rfl rfl (by exact ⟨rfl, v27, congrArg (fun b_ => (some (b_, Obj.cells ⟨[.bool y23.f_Neg, v27]⟩ 27 (0, 0)) : Item')) (bof_eq hb29_).symm, h28⟩)), trivial⟩ ?_
 intro H35 e36
 rintro _ _ rfl _ _ ⟨v27, rfl, h28⟩ _ _ rfl _ _ ⟨b29, rfl, rfl⟩ _ _ ⟨b30, rfl, rfl⟩ _ i33 ⟨rfl, v31, h34, h32⟩
 replace h34 : i33 = some (b29, .cells ⟨[.bool y23.f_Neg, v31]⟩ 27 (0, 0)) := h34
 subst h34
 refine w_it (L' := some (b29, .cells ⟨[.bool y23.f_Neg, v31]⟩ 27 (0, 0)) :: some (b30, .cells ⟨[.bool false, .slice none 0 0]⟩ 27 (0, 0)) :: some (b_t4, .cells ⟨[.bool false, .slice none 0 0, .bool false, .slice none 0 0]⟩ 29 (0, 0)) :: some (b_d, .cells ⟨[.bool d_0, v_d_1]⟩ 27 (0, 0)) :: some (b_n, .cells ⟨[.bool n_0, v_n_1]⟩ 27 (0, 0)) :: L) rfl <| w_a0 rfl (o_store (v := .agg ⟨[.bool d_0, v_d_1]⟩) sz27 rfl rfl rfl rfl (one_cons rfl (one_cons (h_d_1.one) one_nil)) (.there .here) (.here (.here .done))) ?_
 rintro _ _ _ ⟨rfl, rfl, rfl⟩
 refine w_done <| w_seq <| w_block <| w_loop <| w_sl 2 (.pointer (some ⟨b_n, 0, none⟩)) rfl <| w_sl 3 (.pointer (some ⟨b_d, 0, none⟩)) rfl <| w_sl 4 (.pointer (some ⟨b_t4, 0, none⟩)) rfl <| w_sl 5 (.pointer (some ⟨b29, 0, none⟩)) rfl <| w_sl 6 (.pointer (some ⟨b30, 0, none⟩)) rfl <| hh.l0 (hle.trans e36) he (h_n_1.mono e36) (h_d_1.mono e36) h32 (h_d_1.mono e36)
theorem radomeref02_Of.b0_ok {k : Nat} {h : radomeref02_Of.Hs} (hh : radomeref02_Of.OK h) {H0 H : Hp} {L : Items} {r : radomeref02_Ratio} {jk_ : Nat → Value} {n_0 : Bool} {n_1 : List Int} {d_0 : Bool} {d_1 : List Int} {a_0 : Bool} {a_1 : List Int} {b_0 : Bool} {b_1 : List Int} {v_n_1 : Value} {v_d_1 : Value} {v_a_1 : Value} {v_b_1 : Value} {b_n : Nat} {b_d : Nat} {b_t4 : Nat} {b_a : Nat} {b_b : Nat} (hle : H0.le H) (he : radomeref02_Of.b0 k h n_0 n_1 d_0 d_1 a_0 a_1 b_0 b_1 = some r) (h_n_1 : Ro (Kd.int .i64) H v_n_1 n_1) (h_d_1 : Ro (Kd.int .i64) H v_d_1 d_1) (h_a_1 : Ro (Kd.int .i64) H v_a_1 a_1) (h_b_1 : Ro (Kd.int .i64) H v_b_1 b_1) : Wp Tryz.prog 15 49 radomeref02_Of.Kl0 (upd (upd (upd (upd (upd jk_ 2 (.pointer (some ⟨b_n, 0, none⟩))) 3 (.pointer (some ⟨b_d, 0, none⟩))) 4 (.pointer (some ⟨b_t4, 0, none⟩))) 5 (.pointer (some ⟨b_a, 0, none⟩))) 6 (.pointer (some ⟨b_b, 0, none⟩))) H (some (b_a, .cells ⟨[.bool a_0, v_a_1]⟩ 27 (0, 0)) :: some (b_b, .cells ⟨[.bool b_0, v_b_1]⟩ 27 (0, 0)) :: some (b_t4, .cells ⟨[.bool false, .slice none 0 0, .bool false, .slice none 0 0]⟩ 29 (0, 0)) :: some (b_d, .cells ⟨[.bool d_0, v_d_1]⟩ 27 (0, 0)) :: some (b_n, .cells ⟨[.bool n_0, v_n_1]⟩ 27 (0, 0)) :: L) (radomeref02_Of.R H0 L r) := by
 unfold radomeref02_Of.b0 at he
 unfold radomeref02_Of.Kl0
 refine w_seq <| w_seq <| w_region rfl <| w_d rfl (d_loado (v := .agg ⟨[.bool b_0, v_b_1]⟩) ty27 rfl (.there .here) rfl rfl rfl rfl) ?_
 obtain ⟨y37, hy38, he⟩ := Option.bind_eq_some_iff.1 he
 refine w_d rfl (call_d (o_call co29 (vs := [.agg ⟨[.bool b_0, v_b_1]⟩]) rfl (radomeref01_Sign.calls k (a := ⟨b_0, b_1⟩) hy38 h_b_1))) <| w_d rfl (d_neq rfl rfl) <| w_done ?_
 rcases its he with ⟨c41, he⟩ | ⟨c41, he⟩
 ·
  refine w_else rfl (nd_t c41) <| w_exit rfl <| w_seq <| w_region rfl <| w_d rfl (d_loado (v := .agg ⟨[.bool n_0, v_n_1]⟩) ty27 rfl (.there (.there (.there (.there .here)))) rfl rfl rfl rfl) <| w_d rfl (d_loado (v := .agg ⟨[.bool a_0, v_a_1]⟩) ty27 rfl .here rfl rfl rfl rfl) ?_
  obtain ⟨y42, hy43, he⟩ := Option.bind_eq_some_iff.1 he
  refine w_a rfl (o_call co50 (vs := [.agg ⟨[.bool n_0, v_n_1]⟩, .agg ⟨[.bool a_0, v_a_1]⟩]) rfl (radomeref01_Div.calls k (a := ⟨n_0, n_1⟩) (b := ⟨a_0, a_1⟩) hy43 h_n_1 h_a_1)) ?_
  rintro _ H44 _ ⟨rfl, e45, ⟨v46, v48, rfl, h47, h49⟩⟩
  refine w_d rfl (d_move (v := .tuple ⟨[.agg ⟨[.bool y42.1.f_Neg, v46]⟩, .agg ⟨[.bool y42.2.f_Neg, v48]⟩]⟩) rfl) <| w_d rfl (d_ext (vs := [.agg ⟨[.bool y42.1.f_Neg, v46]⟩, .agg ⟨[.bool y42.2.f_Neg, v48]⟩]) rfl rfl) <| w_d rfl (d_ext (vs := [.agg ⟨[.bool y42.1.f_Neg, v46]⟩, .agg ⟨[.bool y42.2.f_Neg, v48]⟩]) rfl rfl) <| w_a rfl (o_alloc zr27 rfl) ?_
  rintro _ _ _ ⟨b50, rfl, rfl, rfl⟩
  refine w_a rfl (o_alloc zr27 rfl) ?_
  rintro _ _ _ ⟨b51, rfl, rfl, rfl⟩
  refine w_a0 rfl (o_store (v := .agg ⟨[.bool y42.1.f_Neg, v46]⟩) sz27 rfl rfl rfl rfl (one_cons rfl (one_cons (h47.one) one_nil)) (.there .here) (.here (.here .done))) ?_
  rintro _ _ _ ⟨rfl, rfl, rfl⟩
  refine w_a0 rfl (o_store (v := .agg ⟨[.bool y42.2.f_Neg, v48]⟩) sz27 rfl rfl rfl rfl (one_cons rfl (one_cons (h49.one) one_nil)) .here (.here (.here .done))) ?_
  rintro _ _ _ ⟨rfl, rfl, rfl⟩
  refine w_done <| w_seq <| w_region rfl <| w_d rfl (d_loado (v := .agg ⟨[.bool d_0, v_d_1]⟩) ty27 rfl (.there (.there (.there (.there (.there .here))))) rfl rfl rfl rfl) <| w_d rfl (d_loado (v := .agg ⟨[.bool a_0, v_a_1]⟩) ty27 rfl (.there (.there .here)) rfl rfl rfl rfl) ?_
  obtain ⟨y52, hy53, he⟩ := Option.bind_eq_some_iff.1 he
  refine w_a rfl (o_call co50 (vs := [.agg ⟨[.bool d_0, v_d_1]⟩, .agg ⟨[.bool a_0, v_a_1]⟩]) rfl (radomeref01_Div.calls k (a := ⟨d_0, d_1⟩) (b := ⟨a_0, a_1⟩) hy53 (h_d_1.mono e45) (h_a_1.mono e45))) ?_
  rintro _ H54 _ ⟨rfl, e55, ⟨v56, v58, rfl, h57, h59⟩⟩
  refine w_d rfl (d_move (v := .tuple ⟨[.agg ⟨[.bool y52.1.f_Neg, v56]⟩, .agg ⟨[.bool y52.2.f_Neg, v58]⟩]⟩) rfl) <| w_d rfl (d_ext (vs := [.agg ⟨[.bool y52.1.f_Neg, v56]⟩, .agg ⟨[.bool y52.2.f_Neg, v58]⟩]) rfl rfl) <| w_d rfl (d_ext (vs := [.agg ⟨[.bool y52.1.f_Neg, v56]⟩, .agg ⟨[.bool y52.2.f_Neg, v58]⟩]) rfl rfl) <| w_a rfl (o_alloc zr27 rfl) ?_
  rintro _ _ _ ⟨b60, rfl, rfl, rfl⟩
  refine w_a rfl (o_alloc zr27 rfl) ?_
  rintro _ _ _ ⟨b61, rfl, rfl, rfl⟩
  refine w_a0 rfl (o_store (v := .agg ⟨[.bool y52.1.f_Neg, v56]⟩) sz27 rfl rfl rfl rfl (one_cons rfl (one_cons (h57.one) one_nil)) (.there .here) (.here (.here .done))) ?_
  rintro _ _ _ ⟨rfl, rfl, rfl⟩
  refine w_a0 rfl (o_store (v := .agg ⟨[.bool y52.2.f_Neg, v58]⟩) sz27 rfl rfl rfl rfl (one_cons rfl (one_cons (h59.one) one_nil)) .here (.here (.here .done))) ?_
  rintro _ _ _ ⟨rfl, rfl, rfl⟩
  refine w_done <| w_seq <| w_region rfl <| w_d rfl (d_loado (v := .agg ⟨[.bool y42.1.f_Neg, v46]⟩) ty27 rfl (.there (.there (.there .here))) rfl rfl rfl rfl) <| w_d rfl (d_loado (v := .agg ⟨[.bool y52.1.f_Neg, v56]⟩) ty27 rfl (.there .here) rfl rfl rfl rfl) <| w_d rfl (d_build (cs' := [.bool y42.1.f_Neg, v46, .bool y52.1.f_Neg, v56]) Tryz.underlying29 zr29 rfl (by kernel_rfl) (parts := [(0, .agg ⟨[.bool y42.1.f_Neg, v46]⟩), (1, .agg ⟨[.bool y52.1.f_Neg, v56]⟩)]) rfl (.cons (place_of rfl sz27 rfl) rfl rfl (.here (.here .done)) (.cons (place_of rfl sz27 rfl) rfl rfl (.there (.there (.here (.here .done)))) .nil))) <| w_a0 rfl (o_store (v := .agg ⟨[.bool y42.1.f_Neg, v46, .bool y52.1.f_Neg, v56]⟩) sz29 rfl rfl rfl rfl (one_cons rfl (one_cons (h47.one) (one_cons rfl (one_cons (h57.one) one_nil)))) (.there (.there (.there (.there (.there (.there .here)))))) (.here (.here (.here (.here .done))))) ?_
  rintro _ _ _ ⟨rfl, rfl, rfl⟩
  refine w_done ?_
  obtain rfl := Option.some.inj he
  refine w_return fn_15 rs_15 (.box (v := .agg ⟨[.bool y42.1.f_Neg, v46, .bool y52.1.f_Neg, v56]⟩) rfl ty29 rfl rfl (.there (.there (.there (.there (.there (.there .here)))))) rfl .nil) <| ⟨⟨[_, _, _, _, _, _, _, _, _], rfl⟩, hle.trans (e45.trans e55), ⟨v46, v56, rfl, (h47.mono e55), h57⟩⟩
 ·
  refine w_then rfl (nd_f c41) <| w_skip <| w_block <| w_seq <| w_region rfl <| w_d rfl (d_loado (v := .agg ⟨[.bool a_0, v_a_1]⟩) ty27 rfl .here rfl rfl rfl rfl) <| w_d rfl (d_loado (v := .agg ⟨[.bool b_0, v_b_1]⟩) ty27 rfl (.there .here) rfl rfl rfl rfl) ?_
  obtain ⟨y62, hy63, he⟩ := Option.bind_eq_some_iff.1 he
  refine w_a rfl (o_call co50 (vs := [.agg ⟨[.bool a_0, v_a_1]⟩, .agg ⟨[.bool b_0, v_b_1]⟩]) rfl (radomeref01_Div.calls k (a := ⟨a_0, a_1⟩) (b := ⟨b_0, b_1⟩) hy63 h_a_1 h_b_1)) ?_
  rintro _ H64 _ ⟨rfl, e65, ⟨v66, v68, rfl, h67, h69⟩⟩
  refine w_d rfl (d_move (v := .tuple ⟨[.agg ⟨[.bool y62.1.f_Neg, v66]⟩, .agg ⟨[.bool y62.2.f_Neg, v68]⟩]⟩) rfl) <| w_d rfl (d_ext (vs := [.agg ⟨[.bool y62.1.f_Neg, v66]⟩, .agg ⟨[.bool y62.2.f_Neg, v68]⟩]) rfl rfl) <| w_d rfl (d_ext (vs := [.agg ⟨[.bool y62.1.f_Neg, v66]⟩, .agg ⟨[.bool y62.2.f_Neg, v68]⟩]) rfl rfl) <| w_a rfl (o_alloc zr27 rfl) ?_
  rintro _ _ _ ⟨b70, rfl, rfl, rfl⟩
  refine w_a rfl (o_alloc zr27 rfl) ?_
  rintro _ _ _ ⟨b71, rfl, rfl, rfl⟩
  refine w_a0 rfl (o_store (v := .agg ⟨[.bool y62.1.f_Neg, v66]⟩) sz27 rfl rfl rfl rfl (one_cons rfl (one_cons (h67.one) one_nil)) (.there .here) (.here (.here .done))) ?_
  rintro _ _ _ ⟨rfl, rfl, rfl⟩
  refine w_a0 rfl (o_store (v := .agg ⟨[.bool y62.2.f_Neg, v68]⟩) sz27 rfl rfl rfl rfl (one_cons rfl (one_cons (h69.one) one_nil)) .here (.here (.here .done))) ?_
  rintro _ _ _ ⟨rfl, rfl, rfl⟩
  refine w_done <| w_drawn (p := 3) (tl := [3]) [[], [], [(0, some 32)]] [some 32, some 33, none] (fctF (.is (.agg ⟨[.bool b_0, v_b_1]⟩) :: .is (.agg ⟨[.bool y62.2.f_Neg, v68]⟩) :: .itm (fun H itq_ => itq_ = some (b_a, .cells ⟨[.bool b_0, v_b_1]⟩ 27 (0, 0))) (by rintro _ _ _ hle rfl; exact rfl) :: [])) (fun m_ => some (b71, .cells ⟨[.bool y62.2.f_Neg, v68]⟩ 27 (0, 0)) :: some (b70, .cells ⟨[.bool y62.1.f_Neg, v66]⟩ 27 (0, 0)) :: m_ 2 :: some (b_b, .cells ⟨[.bool b_0, v_b_1]⟩ 27 (0, 0)) :: some (b_t4, .cells ⟨[.bool false, .slice none 0 0, .bool false, .slice none 0 0]⟩ 29 (0, 0)) :: some (b_d, .cells ⟨[.bool d_0, v_d_1]⟩ 27 (0, 0)) :: some (b_n, .cells ⟨[.bool n_0, v_n_1]⟩ 27 (0, 0)) :: L) (fun i_ => if i_ = 2 then some (b_a, .cells ⟨[.bool a_0, v_a_1]⟩ 27 (0, 0)) else none) mixed (by kernel_rfl) (by kernel_rfl) rfl (fct_mono (by kernel_rfl)) ⟨(fun H' m_ hH hm_ hu_ => depK_nil <| s_d (m_ 0) rfl (d_loado (v := .agg ⟨[.bool b_0, v_b_1]⟩) ty27 rfl (.there (.there (.there .here))) rfl rfl rfl rfl) (by exact rfl) rfl), (fun H' m_ hH hm_ hu_ => depK_nil <| s_d (m_ 1) rfl (d_loado (v := .agg ⟨[.bool y62.2.f_Neg, v68]⟩) ty27 rfl .here rfl rfl rfl rfl) (by exact rfl) rfl), (by rintro H' m_ hH hm_ hu_ _ rfl; exact depK_nil <| s_store (some (b_a, .cells ⟨[.bool b_0, v_b_1]⟩ 27 (0, 0))) hm_ rfl (o_store (v := .agg ⟨[.bool b_0, v_b_1]⟩) sz27 rfl rfl rfl rfl (one_cons rfl (one_cons (h_b_1.one) one_nil)) (.there (.there .here)) (.here (.here .done))) rfl (by exact ⟨rfl, rfl⟩)), trivial⟩ ?_
  intro H72 e73
  rintro _ _ rfl _ _ rfl _ _ ⟨rfl, rfl⟩
  refine w_it (L' := some (b71, .cells ⟨[.bool y62.2.f_Neg, v68]⟩ 27 (0, 0)) :: some (b70, .cells ⟨[.bool y62.1.f_Neg, v66]⟩ 27 (0, 0)) :: some (b_a, .cells ⟨[.bool b_0, v_b_1]⟩ 27 (0, 0)) :: some (b_b, .cells ⟨[.bool b_0, v_b_1]⟩ 27 (0, 0)) :: some (b_t4, .cells ⟨[.bool false, .slice none 0 0, .bool false, .slice none 0 0]⟩ 29 (0, 0)) :: some (b_d, .cells ⟨[.bool d_0, v_d_1]⟩ 27 (0, 0)) :: some (b_n, .cells ⟨[.bool n_0, v_n_1]⟩ 27 (0, 0)) :: L) rfl <| w_a0 rfl (o_store (v := .agg ⟨[.bool y62.2.f_Neg, v68]⟩) sz27 rfl rfl rfl rfl (one_cons rfl (one_cons (h69.one) one_nil)) (.there (.there (.there .here))) (.here (.here .done))) ?_
  rintro _ _ _ ⟨rfl, rfl, rfl⟩
  refine w_done <| w_inBlock <| w_inLoop <| w_del (.there .here) <| w_del .here <| w_sl 2 (.pointer (some ⟨b_n, 0, none⟩)) rfl <| w_sl 3 (.pointer (some ⟨b_d, 0, none⟩)) rfl <| w_sl 4 (.pointer (some ⟨b_t4, 0, none⟩)) rfl <| w_sl 5 (.pointer (some ⟨b_a, 0, none⟩)) rfl <| w_sl 6 (.pointer (some ⟨b_b, 0, none⟩)) rfl <| hh.l0 (hle.trans (e65.trans e73)) he (h_n_1.mono (e65.trans e73)) (h_d_1.mono (e65.trans e73)) (h_b_1.mono (e65.trans e73)) (h69.mono e73)
theorem radomeref02_Of.ok : ∀ k, radomeref02_Of.OK (radomeref02_Of.hs k)
 | 0 => ⟨(by intros; exact nomatch (show none = some _ from by assumption))⟩
 | k + 1 => ⟨radomeref02_Of.b0_ok (k := k) (radomeref02_Of.ok k)⟩
theorem radomeref02_Of.calls (k : Nat) {H : Hp} {L : Items} {n : radomeref01_Num} {d : radomeref01_Num} {v0_n : Value} {v1_d : Value} {r : radomeref02_Ratio} (he : radomeref02_Of.f k n d = some r) (h0_n : Ro (Kd.int .i64) H v0_n n.f_D) (h1_d : Ro (Kd.int .i64) H v1_d d.f_D) : Ct Tryz.prog 15 ⟨[.agg ⟨[.bool n.f_Neg, v0_n]⟩, .agg ⟨[.bool d.f_Neg, v1_d]⟩]⟩ H L (fun v H' L' => L = L' ∧ H.le H' ∧ radomeref02_Of.out r H' v) := by
 refine ct_out (O := radomeref02_Of.out r) ?_
 have hle : H.le H := .refl _
 have hh := radomeref02_Of.ok k
 unfold radomeref02_Of.f at he
 refine ct_enter (args := [.agg ⟨[.bool n.f_Neg, v0_n]⟩, .agg ⟨[.bool d.f_Neg, v1_d]⟩]) fn_15 rfl nt_15 rfl <| w_seq <| w_region rfl <| w_a rfl (o_box (v := .agg ⟨[.bool n.f_Neg, v0_n]⟩) rfl rfl) ?_
 rintro _ _ _ ⟨b1, rfl, rfl, rfl⟩
 refine w_a rfl (o_box (v := .agg ⟨[.bool d.f_Neg, v1_d]⟩) rfl rfl) ?_
 rintro _ _ _ ⟨b2, rfl, rfl, rfl⟩
 refine w_a rfl (o_alloc zr29 rfl) ?_
 rintro _ _ _ ⟨b3, rfl, rfl, rfl⟩
 refine w_done <| w_seq <| w_seq <| w_region rfl <| w_d rfl (d_loado (v := .agg ⟨[.bool d.f_Neg, v1_d]⟩) ty27 rfl (.there .here) rfl rfl rfl rfl) ?_
 obtain ⟨y4, hy5, he⟩ := Option.bind_eq_some_iff.1 he
 refine w_d rfl (call_d (o_call co29 (vs := [.agg ⟨[.bool d.f_Neg, v1_d]⟩]) rfl (radomeref01_Sign.calls k (a := ⟨d.f_Neg, d.f_D⟩) hy5 h1_d))) <| w_d rfl (d_lss rfl rfl) <| w_done ?_
 rcases its he with ⟨c8, he⟩ | ⟨c8, he⟩
 ·
  refine w_then rfl (decide_eq_true c8) ?_
  obtain ⟨y9, hy10, he⟩ := Option.bind_eq_some_iff.1 he
  refine w_drawn (p := 3) (tl := [3, 4, 5]) [[], [(0, some 16)], []] [some 16, some 17, some 18] (fctF (.is (.agg ⟨[.bool n.f_Neg, v0_n]⟩) :: .of (radomeref01_Neg.out y9) (radomeref01_Neg.out_mono _) :: .is (.agg ⟨[.bool d.f_Neg, v1_d]⟩) :: [])) (fun m_ => some (b3, .cells ⟨[.bool false, .slice none 0 0, .bool false, .slice none 0 0]⟩ 29 (0, 0)) :: some (b2, .cells ⟨[.bool d.f_Neg, v1_d]⟩ 27 (0, 0)) :: some (b1, .cells ⟨[.bool n.f_Neg, v0_n]⟩ 27 (0, 0)) :: L) (fun _ => none) mixed (by kernel_rfl) (by kernel_rfl) rfl (fct_mono (by kernel_rfl)) ⟨(fun H' m_ hH hm_ hu_ => depK_nil <| s_d (m_ 0) rfl (d_loado (v := .agg ⟨[.bool n.f_Neg, v0_n]⟩) ty27 rfl (.there (.there .here)) rfl rfl rfl rfl) (by exact rfl) rfl), (by rintro H' m_ hH hm_ hu_ _ rfl; exact depK_nil <| s_k (m_ 1) rfl (o_call co48 (vs := [.agg ⟨[.bool n.f_Neg, v0_n]⟩]) rfl (radomeref01_Neg.calls k (a := ⟨n.f_Neg, n.f_D⟩) hy10 (h0_n.mono hH))) rfl (by rintro v_ H_ _ ⟨rfl, e_, h_⟩; exact ⟨rfl, e_, h_⟩)), (fun H' m_ hH hm_ hu_ => depK_nil <| s_d (m_ 2) rfl (d_loado (v := .agg ⟨[.bool d.f_Neg, v1_d]⟩) ty27 rfl (.there .here) rfl rfl rfl rfl) (by exact rfl) rfl), trivial⟩ ?_
  intro H15 e16
  rintro _ _ rfl _ _ ⟨v13, rfl, h14⟩ _ _ rfl
  obtain ⟨y17, hy18, he⟩ := Option.bind_eq_some_iff.1 he
  refine w_a rfl (o_call co48 (vs := [.agg ⟨[.bool d.f_Neg, v1_d]⟩]) rfl (radomeref01_Neg.calls k (a := ⟨d.f_Neg, d.f_D⟩) hy18 (h1_d.mono e16))) ?_
  rintro _ H19 _ ⟨rfl, e20, ⟨v21, rfl, h22⟩⟩
  refine w_a0 rfl (o_store (v := .agg ⟨[.bool y9.f_Neg, v13]⟩) sz27 rfl rfl rfl rfl (one_cons rfl (one_cons (h14.one) one_nil)) (.there (.there .here)) (.here (.here .done))) ?_
  rintro _ _ _ ⟨rfl, rfl, rfl⟩
  refine w_a0 rfl (o_store (v := .agg ⟨[.bool y17.f_Neg, v21]⟩) sz27 rfl rfl rfl rfl (one_cons rfl (one_cons (h22.one) one_nil)) (.there .here) (.here (.here .done))) ?_
  rintro _ _ _ ⟨rfl, rfl, rfl⟩
  refine w_done <| w_sl 2 (.pointer (some ⟨b1, 0, none⟩)) rfl <| w_sl 3 (.pointer (some ⟨b2, 0, none⟩)) rfl <| w_sl 4 (.pointer (some ⟨b3, 0, none⟩)) rfl <| radomeref02_Of.j1_ok (k := k) hh (hle.trans (e16.trans e20)) he (h14.mono e20) h22
 ·
  refine w_else rfl (decide_eq_false c8) <| w_skip <| w_sl 2 (.pointer (some ⟨b1, 0, none⟩)) rfl <| w_sl 3 (.pointer (some ⟨b2, 0, none⟩)) rfl <| w_sl 4 (.pointer (some ⟨b3, 0, none⟩)) rfl <| radomeref02_Of.j1_ok (k := k) hh hle he h0_n h1_d
/-! ### radome/radomelaw02.fraction -/
noncomputable def radomelaw02_fraction.C : Code := (Tryz.f5.body).getD .skip
def radomelaw02_fraction.out (r : radomeref02_Ratio) (H : Hp) (v : Value) : Prop := ∃ v0, ∃ v1, v = .agg ⟨[.bool r.f_N.f_Neg, v0, .bool r.f_D.f_Neg, v1]⟩ ∧ Ro (Kd.int .i64) H v0 r.f_N.f_D ∧ Ro (Kd.int .i64) H v1 r.f_D.f_D
theorem radomelaw02_fraction.out_mono (r : radomeref02_Ratio) {H H' : Hp} {v : Value} (hle : H.le H') (h : radomelaw02_fraction.out r H v) : radomelaw02_fraction.out r H' v := by
 obtain ⟨v0, v1, rfl, h0, h1⟩ := h; exact ⟨v0, v1, rfl, h0.mono hle, h1.mono hle⟩
abbrev radomelaw02_fraction.R (H0 : Hp) (L : Items) (r : radomeref02_Ratio) : Value → Hp → Items → Prop := fun v H' L' => (∃ p, L' = p ++ L) ∧ H0.le H' ∧ radomelaw02_fraction.out r H' v
noncomputable def radomelaw02_fraction.f (k : Nat) (n : List Int) (d : List Int) (neg : Bool) : Option radomeref02_Ratio := (radomelaw02_whole.f k n neg 60).bind fun y2 => (radomelaw02_whole.f k d false 60).bind fun y8 => (radomeref01_Sign.f k (⟨y8.f_Neg, y8.f_D⟩ : radomeref01_Num)).bind fun y16 => if y16 = 0 then ((radomeref01_Of.f k 1).bind fun y21 => (radomeref02_Of.f k (⟨y2.f_Neg, y2.f_D⟩ : radomeref01_Num) (⟨y21.f_Neg, y21.f_D⟩ : radomeref01_Num)).bind fun y27 => some ((⟨(⟨y27.f_N.f_Neg, y27.f_N.f_D⟩ : radomeref01_Num), (⟨y27.f_D.f_Neg, y27.f_D.f_D⟩ : radomeref01_Num)⟩ : radomeref02_Ratio))) else ((radomeref02_Of.f k (⟨y2.f_Neg, y2.f_D⟩ : radomeref01_Num) (⟨y8.f_Neg, y8.f_D⟩ : radomeref01_Num)).bind fun y35 => some ((⟨(⟨y35.f_N.f_Neg, y35.f_N.f_D⟩ : radomeref01_Num), (⟨y35.f_D.f_Neg, y35.f_D.f_D⟩ : radomeref01_Num)⟩ : radomeref02_Ratio)))
theorem radomelaw02_fraction.mono : ∀ k y0 y1 y2, LeO (radomelaw02_fraction.f k y0 y1 y2) (radomelaw02_fraction.f (k + 1) y0 y1 y2) := fun k _ _ _ => by unfold radomelaw02_fraction.f; exact (LeO.bind (radomelaw02_whole.mono k _ _ _) fun _ => LeO.bind (radomelaw02_whole.mono k _ _ _) fun _ => LeO.bind (radomeref01_Sign.mono k _) fun _ => LeO.ite (LeO.bind (radomeref01_Of.mono k _) fun _ => LeO.bind (radomeref02_Of.mono k _ _) fun _ => LeO.refl _) (LeO.bind (radomeref02_Of.mono k _ _) fun _ => LeO.refl _))
theorem radomelaw02_fraction.calls (k : Nat) {H : Hp} {L : Items} {n : List Int} {d : List Int} {neg : Bool} {v0_n : Value} {v1_d : Value} {r : radomeref02_Ratio} (he : radomelaw02_fraction.f k n d neg = some r) (h0_n : Src (Kd.int .u8) H L v0_n n) (h1_d : Src (Kd.int .u8) H L v1_d d) : Ct Tryz.prog 5 ⟨[v0_n, v1_d, .bool neg]⟩ H L (fun v H' L' => L = L' ∧ H.le H' ∧ radomelaw02_fraction.out r H' v) := by
 refine ct_out (O := radomelaw02_fraction.out r) ?_
 have hle : H.le H := .refl _
 unfold radomelaw02_fraction.f at he
 refine ct_enter (args := [v0_n, v1_d, .bool neg]) fn_5 rfl nt_5 rfl <| w_seq <| w_region rfl <| w_a rfl (o_alloc zr29 rfl) ?_
 rintro _ _ _ ⟨b1, rfl, rfl, rfl⟩
 refine w_done <| w_seq <| w_region rfl <| w_d rfl (d_move (v := v0_n) rfl) <| w_d rfl (d_move (v := .bool neg) rfl) ?_
 obtain ⟨y2, hy3, he⟩ := Option.bind_eq_some_iff.1 he
 refine w_a rfl (o_call co28 (vs := [v0_n, .bool neg, .int .i64 60]) rfl (radomelaw02_whole.calls k hy3 h0_n.th)) ?_
 rintro _ H4 _ ⟨rfl, e5, ⟨v6, rfl, h7⟩⟩
 refine w_d rfl (d_move (v := v1_d) rfl) ?_
 obtain ⟨y8, hy9, he⟩ := Option.bind_eq_some_iff.1 he
 refine w_a rfl (o_call co28 (vs := [v1_d, .bool false, .int .i64 60]) rfl (radomelaw02_whole.calls k hy9 ((h1_d.mono e5).th))) ?_
 rintro _ H10 _ ⟨rfl, e11, ⟨v12, rfl, h13⟩⟩
 refine w_a rfl (o_alloc zr27 rfl) ?_
 rintro _ _ _ ⟨b14, rfl, rfl, rfl⟩
 refine w_a rfl (o_alloc zr27 rfl) ?_
 rintro _ _ _ ⟨b15, rfl, rfl, rfl⟩
 refine w_a0 rfl (o_store (v := .agg ⟨[.bool y2.f_Neg, v6]⟩) sz27 rfl rfl rfl rfl (one_cons rfl (one_cons (h7.one) one_nil)) (.there .here) (.here (.here .done))) ?_
 rintro _ _ _ ⟨rfl, rfl, rfl⟩
 refine w_a0 rfl (o_store (v := .agg ⟨[.bool y8.f_Neg, v12]⟩) sz27 rfl rfl rfl rfl (one_cons rfl (one_cons (h13.one) one_nil)) .here (.here (.here .done))) ?_
 rintro _ _ _ ⟨rfl, rfl, rfl⟩
 refine w_done <| w_seq <| w_seq <| w_region rfl <| w_d rfl (d_loado (v := .agg ⟨[.bool y8.f_Neg, v12]⟩) ty27 rfl .here rfl rfl rfl rfl) ?_
 obtain ⟨y16, hy17, he⟩ := Option.bind_eq_some_iff.1 he
 refine w_d rfl (call_d (o_call co29 (vs := [.agg ⟨[.bool y8.f_Neg, v12]⟩]) rfl (radomeref01_Sign.calls k (a := ⟨y8.f_Neg, y8.f_D⟩) hy17 h13))) <| w_d rfl (d_eql rfl rfl) <| w_done ?_
 rcases its he with ⟨c20, he⟩ | ⟨c20, he⟩
 ·
  refine w_then rfl (decide_eq_true c20) <| w_region rfl ?_
  obtain ⟨y21, hy22, he⟩ := Option.bind_eq_some_iff.1 he
  refine w_a rfl (o_call co16 (vs := [.int .i64 1]) rfl (radomeref01_Of.calls k hy22)) ?_
  rintro _ H23 _ ⟨rfl, e24, ⟨v25, rfl, h26⟩⟩
  refine w_a0 rfl (o_store (v := .agg ⟨[.bool y21.f_Neg, v25]⟩) sz27 rfl rfl rfl rfl (one_cons rfl (one_cons (h26.one) one_nil)) .here (.here (.here .done))) ?_
  rintro _ _ _ ⟨rfl, rfl, rfl⟩
  refine w_done <| w_seq <| w_region rfl <| w_d rfl (d_loado (v := .agg ⟨[.bool y2.f_Neg, v6]⟩) ty27 rfl (.there .here) rfl rfl rfl rfl) <| w_d rfl (d_loado (v := .agg ⟨[.bool y21.f_Neg, v25]⟩) ty27 rfl .here rfl rfl rfl rfl) ?_
  obtain ⟨y27, hy28, he⟩ := Option.bind_eq_some_iff.1 he
  refine w_a rfl (o_call co15 (vs := [.agg ⟨[.bool y2.f_Neg, v6]⟩, .agg ⟨[.bool y21.f_Neg, v25]⟩]) rfl (radomeref02_Of.calls k (n := ⟨y2.f_Neg, y2.f_D⟩) (d := ⟨y21.f_Neg, y21.f_D⟩) hy28 (h7.mono (e11.trans e24)) h26)) ?_
  rintro _ H29 _ ⟨rfl, e30, ⟨v31, v33, rfl, h32, h34⟩⟩
  refine w_a0 rfl (o_store (v := .agg ⟨[.bool y27.f_N.f_Neg, v31, .bool y27.f_D.f_Neg, v33]⟩) sz29 rfl rfl rfl rfl (one_cons rfl (one_cons (h32.one) (one_cons rfl (one_cons (h34.one) one_nil)))) (.there (.there .here)) (.here (.here (.here (.here .done))))) ?_
  rintro _ _ _ ⟨rfl, rfl, rfl⟩
  refine w_done ?_
  obtain rfl := Option.some.inj he
  refine w_return fn_5 rs_5 (.box (v := .agg ⟨[.bool y27.f_N.f_Neg, v31, .bool y27.f_D.f_Neg, v33]⟩) rfl ty29 rfl rfl (.there (.there .here)) rfl .nil) <| ⟨⟨[_, _, _], rfl⟩, hle.trans (((e5.trans e11).trans e24).trans e30), ⟨v31, v33, rfl, h32, h34⟩⟩
 ·
  refine w_else rfl (decide_eq_false c20) <| w_skip <| w_seq <| w_region rfl <| w_d rfl (d_loado (v := .agg ⟨[.bool y2.f_Neg, v6]⟩) ty27 rfl (.there .here) rfl rfl rfl rfl) <| w_d rfl (d_loado (v := .agg ⟨[.bool y8.f_Neg, v12]⟩) ty27 rfl .here rfl rfl rfl rfl) ?_
  obtain ⟨y35, hy36, he⟩ := Option.bind_eq_some_iff.1 he
  refine w_a rfl (o_call co15 (vs := [.agg ⟨[.bool y2.f_Neg, v6]⟩, .agg ⟨[.bool y8.f_Neg, v12]⟩]) rfl (radomeref02_Of.calls k (n := ⟨y2.f_Neg, y2.f_D⟩) (d := ⟨y8.f_Neg, y8.f_D⟩) hy36 (h7.mono e11) h13)) ?_
  rintro _ H37 _ ⟨rfl, e38, ⟨v39, v41, rfl, h40, h42⟩⟩
  refine w_a0 rfl (o_store (v := .agg ⟨[.bool y35.f_N.f_Neg, v39, .bool y35.f_D.f_Neg, v41]⟩) sz29 rfl rfl rfl rfl (one_cons rfl (one_cons (h40.one) (one_cons rfl (one_cons (h42.one) one_nil)))) (.there (.there .here)) (.here (.here (.here (.here .done))))) ?_
  rintro _ _ _ ⟨rfl, rfl, rfl⟩
  refine w_done ?_
  obtain rfl := Option.some.inj he
  refine w_return fn_5 rs_5 (.box (v := .agg ⟨[.bool y35.f_N.f_Neg, v39, .bool y35.f_D.f_Neg, v41]⟩) rfl ty29 rfl rfl (.there (.there .here)) rfl .nil) <| ⟨⟨[_, _, _], rfl⟩, hle.trans ((e5.trans e11).trans e38), ⟨v39, v41, rfl, h40, h42⟩⟩
/-! ### radome/radomeref01.Text -/
noncomputable def radomeref01_Text.C : Code := (Tryz.f46.body).getD .skip
def radomeref01_Text.out (r : ByteArray) (H : Hp) (v : Value) : Prop := v = .string r
abbrev radomeref01_Text.R (H0 : Hp) (L : Items) (r : ByteArray) : Value → Hp → Items → Prop := fun v H' L' => (∃ p, L' = p ++ L) ∧ H0.le H' ∧ radomeref01_Text.out r H' v
structure radomeref01_Text.Hs where
 l0 : Bool → (List Int) → ByteArray → ByteArray → Int → Option ByteArray
noncomputable def radomeref01_Text.j1 (k : Nat) (h : radomeref01_Text.Hs)  (a_0 : Bool) (a_1 : List Int) (t2 : ByteArray) (s : ByteArray) : Option ByteArray := if (a_1.length : Int) = 0 then (some (str_2)) else (h.l0 a_0 a_1 t2 s (w64 ((a_1.length : Int) - 1)))
noncomputable def radomeref01_Text.b0 (k : Nat) (h : radomeref01_Text.Hs)  (a_0 : Bool) (a_1 : List Int) (t2 : ByteArray) (s : ByteArray) (i : Int) : Option ByteArray := if 0 ≤ i then (if (0 : Int) ≤ i ∧ i < (a_1.length : Int) then (if (0 : Int) ≤ i ∧ i < (a_1.length : Int) then (if (0 : Int) ≤ rd a_1 i ∧ (rd a_1 i : Int) ≤ w64 ((rd a_1 i) + 1) ∧ w64 ((rd a_1 i) + 1) ≤ (str_3.size : Int) then (if (s.size + (scut str_3 (rd a_1 i) (w64 ((rd a_1 i) + 1))).size : Int) ≤ 9223372036854775807 then (h.l0 a_0 a_1 t2 (s ++ (scut str_3 (rd a_1 i) (w64 ((rd a_1 i) + 1)))) (w64 (i - 1))) else none) else none) else none) else none) else (some (s))
noncomputable def radomeref01_Text.hs : Nat → radomeref01_Text.Hs
 | 0 => ⟨fun _ _ _ _ _ => none⟩
 | k + 1 => ⟨fun x0 x1 x2 x3 x4 => radomeref01_Text.b0 k (radomeref01_Text.hs k) x0 x1 x2 x3 x4⟩
noncomputable def radomeref01_Text.f (k : Nat) (a : radomeref01_Num) : Option ByteArray := (fun h : radomeref01_Text.Hs => (radomeref01_Sign.f k (⟨a.f_Neg, a.f_D⟩ : radomeref01_Num)).bind fun y2 => if y2 < 0 then (radomeref01_Text.j1 k h a.f_Neg a.f_D str_0 str_1) else (radomeref01_Text.j1 k h a.f_Neg a.f_D str_0 str_0)) (radomeref01_Text.hs k)
structure radomeref01_Text.LE (h h' : radomeref01_Text.Hs) : Prop where
 l0 : ∀ y0 y1 y2 y3 y4, LeO (h.l0 y0 y1 y2 y3 y4) (h'.l0 y0 y1 y2 y3 y4)
theorem radomeref01_Text.j1_mono {k : Nat} {h h' : radomeref01_Text.Hs} (hl : radomeref01_Text.LE h h') : ∀ y0 y1 y2 y3, LeO (radomeref01_Text.j1 k h y0 y1 y2 y3) (radomeref01_Text.j1 (k + 1) h' y0 y1 y2 y3) := fun _ _ _ _ => (LeO.ite (LeO.refl _) (hl.l0 _ _ _ _ _))
theorem radomeref01_Text.b0_mono {k : Nat} {h h' : radomeref01_Text.Hs} (hl : radomeref01_Text.LE h h') : ∀ y0 y1 y2 y3 y4, LeO (radomeref01_Text.b0 k h y0 y1 y2 y3 y4) (radomeref01_Text.b0 (k + 1) h' y0 y1 y2 y3 y4) := fun _ _ _ _ _ => (LeO.ite (LeO.ite (LeO.ite (LeO.ite (LeO.ite (hl.l0 _ _ _ _ _) (LeO.refl _)) (LeO.refl _)) (LeO.refl _)) (LeO.refl _)) (LeO.refl _))
theorem radomeref01_Text.hs_mono : ∀ k, radomeref01_Text.LE (radomeref01_Text.hs k) (radomeref01_Text.hs (k + 1))
 | 0 => ⟨fun _ _ _ _ _ => LeO.none _⟩
 | k + 1 => ⟨radomeref01_Text.b0_mono (k := k) (radomeref01_Text.hs_mono k)⟩
theorem radomeref01_Text.mono : ∀ k y0, LeO (radomeref01_Text.f k y0) (radomeref01_Text.f (k + 1) y0) := fun k _ => have hl := radomeref01_Text.hs_mono k; by unfold radomeref01_Text.f; exact (LeO.bind (radomeref01_Sign.mono k _) fun _ => LeO.ite (radomeref01_Text.j1_mono (k := k) hl _ _ _ _) (radomeref01_Text.j1_mono (k := k) hl _ _ _ _))
noncomputable def radomeref01_Text.Kj1 : List Item := .code (seqR (seqR (seqR radomeref01_Text.C))) :: []
noncomputable def radomeref01_Text.Kl0 : List Item := .code (lopB (blkB (seqR (seqL (seqR (seqR (seqR (seqR radomeref01_Text.C)))))))) :: .inLoop (lopB (blkB (seqR (seqL (seqR (seqR (seqR (seqR radomeref01_Text.C)))))))) :: .inBlock 0 :: .code (seqR (seqR (seqR (seqR (seqR radomeref01_Text.C))))) :: []
structure radomeref01_Text.OK (h : radomeref01_Text.Hs) : Prop where
 l0 : ∀ {H0 H : Hp} {L : Items} {r : ByteArray} {jk_ : Nat → Value} {a_0 : Bool} {a_1 : List Int} {t2 : ByteArray} {s : ByteArray} {i : Int} {v_a_1 : Value} {b_a : Nat} (_ : H0.le H) (_he : h.l0 a_0 a_1 t2 s i = some r) (_h_a_1 : Ro (Kd.int .i64) H v_a_1 a_1), Wp Tryz.prog 46 35 radomeref01_Text.Kl0 (upd (upd (upd (upd jk_ 1 (.pointer (some ⟨b_a, 0, none⟩))) 2 (.string t2)) 3 (.string s)) 4 (.int .i64 i)) H (some (b_a, .cells ⟨[.bool a_0, v_a_1]⟩ 27 (0, 0)) :: L) (radomeref01_Text.R H0 L r)
theorem radomeref01_Text.j1_ok {k : Nat} {h : radomeref01_Text.Hs} (hh : radomeref01_Text.OK h) {H0 H : Hp} {L : Items} {r : ByteArray} {jk_ : Nat → Value} {a_0 : Bool} {a_1 : List Int} {t2 : ByteArray} {s : ByteArray} {v_a_1 : Value} {b_a : Nat} (hle : H0.le H) (he : radomeref01_Text.j1 k h a_0 a_1 t2 s = some r) (h_a_1 : Ro (Kd.int .i64) H v_a_1 a_1) : Wp Tryz.prog 46 35 radomeref01_Text.Kj1 (upd (upd (upd jk_ 1 (.pointer (some ⟨b_a, 0, none⟩))) 2 (.string t2)) 3 (.string s)) H (some (b_a, .cells ⟨[.bool a_0, v_a_1]⟩ 27 (0, 0)) :: L) (radomeref01_Text.R H0 L r) := by
 unfold radomeref01_Text.j1 at he
 unfold radomeref01_Text.Kj1
 refine w_seq <| w_seq <| w_region rfl <| w_d rfl (d_fld (o' := 1) Tryz.underlying27 rfl sz25 rfl rfl rfl) <| w_d rfl (d_loado (v := v_a_1) ty25 rfl .here rfl rfl rfl rfl) <| w_d rfl (d_len Tryz.underlying25 rfl h_a_1.src) <| w_d rfl (d_eql rfl rfl) <| w_done ?_
 rcases its he with ⟨c7, he⟩ | ⟨c7, he⟩
 ·
  refine w_then rfl (decide_eq_true c7) <| w_seq <| w_region rfl <| w_d rfl (d_assign (v := .string str_2) rfl) <| w_done ?_
  obtain rfl := Option.some.inj he
  refine w_return fn_46 rs_46 (.tmp (v := .string str_2) rfl .nil) <| ⟨⟨[_], rfl⟩, hle, rfl⟩
 ·
  refine w_else rfl (decide_eq_false c7) <| w_skip <| w_seq <| w_seq <| w_region rfl <| w_d rfl (d_fld (o' := 1) Tryz.underlying27 rfl sz25 rfl rfl rfl) <| w_d rfl (d_loado (v := v_a_1) ty25 rfl .here rfl rfl rfl rfl) <| w_d rfl (d_len Tryz.underlying25 rfl h_a_1.src) <| w_d rfl (d_sub (c := w64 ((a_1.length : Int) - 1)) rfl rfl rfl) <| w_d rfl (d_assign (v := .int .i64 (w64 ((a_1.length : Int) - 1))) rfl) <| w_done <| w_block ?_
  refine w_loop <| w_sl 1 (.pointer (some ⟨b_a, 0, none⟩)) rfl <| w_sl 2 (.string t2) rfl <| w_sl 3 (.string s) rfl <| w_sl 4 (.int .i64 (w64 ((a_1.length : Int) - 1))) rfl <| hh.l0 hle he h_a_1
theorem radomeref01_Text.b0_ok {k : Nat} {h : radomeref01_Text.Hs} (hh : radomeref01_Text.OK h) {H0 H : Hp} {L : Items} {r : ByteArray} {jk_ : Nat → Value} {a_0 : Bool} {a_1 : List Int} {t2 : ByteArray} {s : ByteArray} {i : Int} {v_a_1 : Value} {b_a : Nat} (hle : H0.le H) (he : radomeref01_Text.b0 k h a_0 a_1 t2 s i = some r) (h_a_1 : Ro (Kd.int .i64) H v_a_1 a_1) : Wp Tryz.prog 46 35 radomeref01_Text.Kl0 (upd (upd (upd (upd jk_ 1 (.pointer (some ⟨b_a, 0, none⟩))) 2 (.string t2)) 3 (.string s)) 4 (.int .i64 i)) H (some (b_a, .cells ⟨[.bool a_0, v_a_1]⟩ 27 (0, 0)) :: L) (radomeref01_Text.R H0 L r) := by
 unfold radomeref01_Text.b0 at he
 unfold radomeref01_Text.Kl0
 refine w_seq <| w_seq <| w_region rfl <| w_d rfl (d_move (v := .int .i64 i) rfl) <| w_d rfl (d_geq rfl rfl) <| w_done ?_
 rcases its he with ⟨c8, he⟩ | ⟨c8, he⟩
 ·
  refine w_then rfl (decide_eq_true c8) <| w_skip <| w_seq <| w_block ?_
  obtain ⟨c9, he⟩ := rq he
  obtain ⟨c10, he⟩ := rq he
  obtain ⟨c11, he⟩ := rq he
  refine w_drawn (p := 13) (tl := [13, 14]) [[], [], [(1, some 21)], [], [(2, some 22), (3, some 23)], [(4, some 24)], [], [(6, some 26)], [], [(7, some 27), (8, some 28)], [(9, some 29)], [(10, some 30)], [(5, some 25), (11, some 31)]] [some 20, some 21, some 22, some 23, some 24, some 25, some 26, some 27, some 28, some 29, some 30, some 31, some 32] (fctF (.is (.string s) :: .is (.pointer (some ⟨b_a, 1, none⟩)) :: .is (v_a_1) :: .is (.int .i64 i) :: .is (.pointer (some (pel v_a_1 i 1))) :: .is (.int .i64 (rd a_1 i)) :: .is (.pointer (some ⟨b_a, 1, none⟩)) :: .is (v_a_1) :: .is (.int .i64 i) :: .is (.pointer (some (pel v_a_1 i 1))) :: .is (.int .i64 (rd a_1 i)) :: .is (.int .i64 (w64 ((rd a_1 i) + 1))) :: .is (.string (scut str_3 (rd a_1 i) (w64 ((rd a_1 i) + 1)))) :: [])) (fun m_ => some (b_a, .cells ⟨[.bool a_0, v_a_1]⟩ 27 (0, 0)) :: L) (fun _ => none) mixed (by kernel_rfl) (by kernel_rfl) rfl (fct_mono (by kernel_rfl)) ⟨(fun H' m_ hH hm_ hu_ => depK_nil <| s_d (m_ 0) rfl (d_move (v := .string s) rfl) (by exact rfl) rfl), (fun H' m_ hH hm_ hu_ => depK_nil <| s_d (m_ 1) rfl (d_fld (o' := 1) Tryz.underlying27 rfl sz25 rfl rfl rfl) (by exact rfl) rfl), (by rintro H' m_ hH hm_ hu_ _ rfl; exact depK_nil <| s_d (m_ 2) rfl (d_loado (v := v_a_1) ty25 rfl .here rfl rfl rfl rfl) (by exact rfl) rfl), (fun H' m_ hH hm_ hu_ => depK_nil <| s_d (m_ 3) rfl (d_move (v := .int .i64 i) rfl) (by exact rfl) rfl), (by rintro H' m_ hH hm_ hu_ _ rfl _ rfl; exact depK_nil <| s_d (m_ 4) rfl (d_index (sz := 1) Tryz.underlying25 sz3 rfl (h_a_1.mono hH).src rfl c9) (by exact rfl) rfl), (by rintro H' m_ hH hm_ hu_ _ rfl; exact depK_nil <| s_d (m_ 5) rfl (d_ldint ty3 rfl (h_a_1.mono hH).src c9) (by exact rfl) rfl), (fun H' m_ hH hm_ hu_ => depK_nil <| s_d (m_ 6) rfl (d_fld (o' := 1) Tryz.underlying27 rfl sz25 rfl rfl rfl) (by exact rfl) rfl), (by rintro H' m_ hH hm_ hu_ _ rfl; exact depK_nil <| s_d (m_ 7) rfl (d_loado (v := v_a_1) ty25 rfl .here rfl rfl rfl rfl) (by exact rfl) rfl), (fun H' m_ hH hm_ hu_ => depK_nil <| s_d (m_ 8) rfl (d_move (v := .int .i64 i) rfl) (by exact rfl) rfl), (by rintro H' m_ hH hm_ hu_ _ rfl _ rfl; exact depK_nil <| s_d (m_ 9) rfl (d_index (sz := 1) Tryz.underlying25 sz3 rfl (h_a_1.mono hH).src rfl c10) (by exact rfl) rfl), (by rintro H' m_ hH hm_ hu_ _ rfl; exact depK_nil <| s_d (m_ 10) rfl (d_ldint ty3 rfl (h_a_1.mono hH).src c10) (by exact rfl) rfl), (by rintro H' m_ hH hm_ hu_ _ rfl; exact depK_nil <| s_d (m_ 11) rfl (d_add (c := w64 ((rd a_1 i) + 1)) rfl rfl rfl) (by exact rfl) rfl), (by rintro H' m_ hH hm_ hu_ _ rfl _ rfl; exact depK_nil <| s_d (m_ 12) rfl (d_scut Tryz.underlying9 rfl (.inr ⟨_, _, rfl, rfl⟩) (.inr ⟨_, _, rfl, rfl⟩) c11) (by exact rfl) rfl), trivial⟩ ?_
  intro H12 e13
  rintro _ _ rfl _ _ rfl _ _ rfl _ _ rfl _ _ rfl _ _ rfl _ _ rfl _ _ rfl _ _ rfl _ _ rfl _ _ rfl _ _ rfl _ _ rfl
  obtain ⟨c14, he⟩ := rq he
  refine w_d rfl (d_cat rfl rfl c14) <| w_d rfl (d_assign (v := .string (s ++ (scut str_3 (rd a_1 i) (w64 ((rd a_1 i) + 1))))) rfl) <| w_done <| w_inBlock <| w_region rfl <| w_d rfl (d_move (v := .int .i64 i) rfl) <| w_d rfl (d_sub (c := w64 (i - 1)) rfl rfl rfl) <| w_d rfl (d_assign (v := .int .i64 (w64 (i - 1))) rfl) <| w_done <| w_inLoop <| w_sl 1 (.pointer (some ⟨b_a, 0, none⟩)) rfl <| w_sl 2 (.string t2) rfl ?_
  refine w_sl 3 (.string (s ++ (scut str_3 (rd a_1 i) (w64 ((rd a_1 i) + 1))))) rfl <| w_sl 4 (.int .i64 (w64 (i - 1))) rfl <| hh.l0 (hle.trans e13) he (h_a_1.mono e13)
 ·
  refine w_else rfl (decide_eq_false c8) <| w_exit rfl <| w_seq <| w_region rfl <| w_d rfl (d_move (v := .string s) rfl) <| w_d rfl (d_assign (v := .string s) rfl) <| w_done ?_
  obtain rfl := Option.some.inj he
  refine w_return fn_46 rs_46 (.tmp (v := .string s) rfl .nil) <| ⟨⟨[_], rfl⟩, hle, rfl⟩
theorem radomeref01_Text.ok : ∀ k, radomeref01_Text.OK (radomeref01_Text.hs k)
 | 0 => ⟨(by intros; exact nomatch (show none = some _ from by assumption))⟩
 | k + 1 => ⟨radomeref01_Text.b0_ok (k := k) (radomeref01_Text.ok k)⟩
theorem radomeref01_Text.calls (k : Nat) {H : Hp} {L : Items} {a : radomeref01_Num} {v0_a : Value} {r : ByteArray} (he : radomeref01_Text.f k a = some r) (h0_a : Ro (Kd.int .i64) H v0_a a.f_D) : Ct Tryz.prog 46 ⟨[.agg ⟨[.bool a.f_Neg, v0_a]⟩]⟩ H L (fun v H' L' => L = L' ∧ H = H' ∧ v = .string r) := by
 refine ct_outs (O := radomeref01_Text.out r) (fun _ _ h => h) ?_
 have hle : H.le H := .refl _
 have hh := radomeref01_Text.ok k
 unfold radomeref01_Text.f at he
 refine ct_enter (args := [.agg ⟨[.bool a.f_Neg, v0_a]⟩]) fn_46 rfl nt_46 rfl <| w_seq <| w_region rfl <| w_a rfl (o_box (v := .agg ⟨[.bool a.f_Neg, v0_a]⟩) rfl rfl) ?_
 rintro _ _ _ ⟨b1, rfl, rfl, rfl⟩
 refine w_d rfl (d_assign (v := .string str_0) rfl) <| w_done <| w_seq <| w_region rfl <| w_d rfl (d_assign (v := .string str_0) rfl) <| w_done <| w_seq <| w_seq <| w_region rfl <| w_d rfl (d_loado (v := .agg ⟨[.bool a.f_Neg, v0_a]⟩) ty27 rfl .here rfl rfl rfl rfl) ?_
 obtain ⟨y2, hy3, he⟩ := Option.bind_eq_some_iff.1 he
 refine w_d rfl (call_d (o_call co29 (vs := [.agg ⟨[.bool a.f_Neg, v0_a]⟩]) rfl (radomeref01_Sign.calls k (a := ⟨a.f_Neg, a.f_D⟩) hy3 h0_a))) <| w_d rfl (d_lss rfl rfl) <| w_done ?_
 rcases its he with ⟨c6, he⟩ | ⟨c6, he⟩
 ·
  refine w_then rfl (decide_eq_true c6) <| w_region rfl <| w_d rfl (d_assign (v := .string str_1) rfl) <| w_done <| w_sl 1 (.pointer (some ⟨b1, 0, none⟩)) rfl <| w_sl 2 (.string str_0) rfl <| w_sl 3 (.string str_1) rfl <| radomeref01_Text.j1_ok (k := k) hh hle he h0_a
 ·
  refine w_else rfl (decide_eq_false c6) <| w_skip <| w_sl 1 (.pointer (some ⟨b1, 0, none⟩)) rfl <| w_sl 2 (.string str_0) rfl <| w_sl 3 (.string str_0) rfl <| radomeref01_Text.j1_ok (k := k) hh hle he h0_a
/-! ### radome/wide.digits -/
noncomputable def wide_digits.C : Code := (Tryz.f85.body).getD .skip
def wide_digits.out (r : Bool) (H : Hp) (v : Value) : Prop := v = .bool r
abbrev wide_digits.R (H0 : Hp) (L : Items) (r : Bool) : Value → Hp → Items → Prop := fun v H' L' => (∃ p, L' = p ++ L) ∧ H0.le H' ∧ wide_digits.out r H' v
structure wide_digits.Hs where
 l0 : Bool → (List Int) → Int → Int → Option Bool
noncomputable def wide_digits.b0 (k : Nat) (h : wide_digits.Hs)  (t2 : Bool) (t24 : List Int) (t25 : Int) (t26 : Int) : Option Bool := if t26 < t25 then (if (0 : Int) ≤ t26 ∧ t26 < (t24.length : Int) then (if ((decide ((rd t24 t26) < 48)) || (decide (57 < (rd t24 t26)))) = true then (some (false)) else (h.l0 t2 t24 t25 (w64 (t26 + 1)))) else none) else (some (true))
noncomputable def wide_digits.hs : Nat → wide_digits.Hs
 | 0 => ⟨fun _ _ _ _ => none⟩
 | k + 1 => ⟨fun x0 x1 x2 x3 => wide_digits.b0 k (wide_digits.hs k) x0 x1 x2 x3⟩
noncomputable def wide_digits.f (k : Nat) (s : ByteArray) : Option Bool := (fun h : wide_digits.Hs => if (!((decide ((s.size : Int) = 0)) || (decide (1300 < (s.size : Int))))) = true → (0 : Int) ≤ 0 ∧ 0 < (s.size : Int) then (if (((decide ((s.size : Int) = 0)) || (decide (1300 < (s.size : Int)))) || ((decide ((bt s 0) = 48)) && (decide (1 < (s.size : Int))))) = true then (some (false)) else (h.l0 false (bytesOf s) ((bytesOf s).length : Int) 0)) else none) (wide_digits.hs k)
structure wide_digits.LE (h h' : wide_digits.Hs) : Prop where
 l0 : ∀ y0 y1 y2 y3, LeO (h.l0 y0 y1 y2 y3) (h'.l0 y0 y1 y2 y3)
theorem wide_digits.b0_mono {k : Nat} {h h' : wide_digits.Hs} (hl : wide_digits.LE h h') : ∀ y0 y1 y2 y3, LeO (wide_digits.b0 k h y0 y1 y2 y3) (wide_digits.b0 (k + 1) h' y0 y1 y2 y3) := fun _ _ _ _ => (LeO.ite (LeO.ite (LeO.ite (LeO.refl _) (hl.l0 _ _ _ _)) (LeO.refl _)) (LeO.refl _))
theorem wide_digits.hs_mono : ∀ k, wide_digits.LE (wide_digits.hs k) (wide_digits.hs (k + 1))
 | 0 => ⟨fun _ _ _ _ => LeO.none _⟩
 | k + 1 => ⟨wide_digits.b0_mono (k := k) (wide_digits.hs_mono k)⟩
theorem wide_digits.mono : ∀ k y0, LeO (wide_digits.f k y0) (wide_digits.f (k + 1) y0) := fun k _ => have hl := wide_digits.hs_mono k; by unfold wide_digits.f; exact (LeO.ite (LeO.ite (LeO.refl _) (hl.l0 _ _ _ _)) (LeO.refl _))
noncomputable def wide_digits.Kl0 : List Item := .code (lopB (blkB (seqR (seqL (seqR (seqR wide_digits.C)))))) :: .inLoop (lopB (blkB (seqR (seqL (seqR (seqR wide_digits.C)))))) :: .inBlock 0 :: .code (seqR (seqR (seqR wide_digits.C))) :: []
structure wide_digits.OK (h : wide_digits.Hs) : Prop where
 l0 : ∀ {H0 H : Hp} {L : Items} {r : Bool} {jk_ : Nat → Value} {t2 : Bool} {t24 : List Int} {t25 : Int} {t26 : Int} {v_t24 : Value} (_ : H0.le H) (_he : h.l0 t2 t24 t25 t26 = some r) (_h_t24 : Ro (Kd.int .u8) H v_t24 t24), Wp Tryz.prog 85 37 wide_digits.Kl0 (upd (upd (upd (upd jk_ 2 (.bool t2)) 24 (v_t24)) 25 (.int .i64 t25)) 26 (.int .i64 t26)) H (L) (wide_digits.R H0 L r)
theorem wide_digits.b0_ok {k : Nat} {h : wide_digits.Hs} (hh : wide_digits.OK h) {H0 H : Hp} {L : Items} {r : Bool} {jk_ : Nat → Value} {t2 : Bool} {t24 : List Int} {t25 : Int} {t26 : Int} {v_t24 : Value} (hle : H0.le H) (he : wide_digits.b0 k h t2 t24 t25 t26 = some r) (h_t24 : Ro (Kd.int .u8) H v_t24 t24) : Wp Tryz.prog 85 37 wide_digits.Kl0 (upd (upd (upd (upd jk_ 2 (.bool t2)) 24 (v_t24)) 25 (.int .i64 t25)) 26 (.int .i64 t26)) H (L) (wide_digits.R H0 L r) := by
 unfold wide_digits.b0 at he
 unfold wide_digits.Kl0
 refine w_seq <| w_region rfl <| w_d rfl (d_lss rfl rfl) <| w_done <| w_seq ?_
 rcases its he with ⟨c18, he⟩ | ⟨c18, he⟩
 ·
  refine w_then rfl (decide_eq_true c18) <| w_skip <| w_seq <| w_block <| w_seq <| w_region rfl ?_
  obtain ⟨c19, he⟩ := rq he
  refine w_d rfl (d_index (sz := 1) Tryz.underlying22 sz5 rfl h_t24.src rfl c19) <| w_d rfl (d_ldint ty5 rfl h_t24.src c19) <| w_d rfl (d_assign (v := .int .u8 (rd t24 t26)) rfl) <| w_done <| w_seq <| w_region rfl <| w_d rfl (d_move (v := .int .u8 (rd t24 t26)) rfl) <| w_d rfl (d_lss rfl rfl) <| w_d rfl (d_move (v := .bool (decide ((rd t24 t26) < 48))) rfl) <| w_g (g := !(decide ((rd t24 t26) < 48))) rfl rfl rfl wn_f (fun g20 => d_move (v := .int .u8 (rd t24 t26)) rfl) <| w_g (g := !(decide ((rd t24 t26) < 48))) rfl rfl rfl wn_f (fun g21 => d_gtr (cvt g21) rfl) <| w_d rfl (d_or' (b := (decide ((rd t24 t26) < 48))) (p := (decide (57 < (rd t24 t26)))) rfl rfl rfl) ?_
  refine w_done ?_
  rcases its he with ⟨c22, he⟩ | ⟨c22, he⟩
  ·
   refine w_then rfl c22 <| w_seq <| w_region rfl <| w_d rfl (d_assign (v := .bool false) rfl) <| w_done ?_
   obtain rfl := Option.some.inj he
   refine w_return fn_85 rs_85 (.tmp (v := .bool false) rfl .nil) <| ⟨⟨[], rfl⟩, hle, rfl⟩
  ·
   refine w_else rfl (Bool.eq_false_iff.2 c22) <| w_skip <| w_inBlock <| w_region rfl <| w_d rfl (d_add (c := w64 (t26 + 1)) rfl rfl rfl) <| w_d rfl (d_move (v := .int .i64 (w64 (t26 + 1))) rfl) <| w_done <| w_inLoop <| w_sl 2 (.bool t2) rfl <| w_sl 24 (v_t24) rfl <| w_sl 25 (.int .i64 t25) rfl <| w_sl 26 (.int .i64 (w64 (t26 + 1))) rfl <| hh.l0 hle he h_t24
 ·
  refine w_else rfl (decide_eq_false c18) <| w_exit rfl <| w_seq <| w_region rfl <| w_d rfl (d_assign (v := .bool true) rfl) <| w_done ?_
  obtain rfl := Option.some.inj he
  refine w_return fn_85 rs_85 (.tmp (v := .bool true) rfl .nil) <| ⟨⟨[], rfl⟩, hle, rfl⟩
theorem wide_digits.ok : ∀ k, wide_digits.OK (wide_digits.hs k)
 | 0 => ⟨(by intros; exact nomatch (show none = some _ from by assumption))⟩
 | k + 1 => ⟨wide_digits.b0_ok (k := k) (wide_digits.ok k)⟩
theorem wide_digits.calls (k : Nat) {H : Hp} {L : Items} {s : ByteArray} {r : Bool} (he : wide_digits.f k s = some r) : Ct Tryz.prog 85 ⟨[.string s]⟩ H L (fun v H' L' => L = L' ∧ H = H' ∧ v = .bool r) := by
 refine ct_outs (O := wide_digits.out r) (fun _ _ h => h) ?_
 have hle : H.le H := .refl _
 have hh := wide_digits.ok k
 unfold wide_digits.f at he
 refine ct_enter (args := [.string s]) fn_85 rfl nt_85 rfl <| w_seq <| w_region rfl <| w_d rfl (d_assign (v := .bool false) rfl) <| w_done <| w_seq <| w_seq <| w_region rfl <| w_d rfl (d_move (v := .string s) rfl) <| w_d rfl (d_lens Tryz.underlying9 rfl) <| w_d rfl (d_eql rfl rfl) <| w_d rfl (d_move (v := .bool (decide ((s.size : Int) = 0))) rfl) ?_
 refine w_g (g := !(decide ((s.size : Int) = 0))) rfl rfl rfl wn_f (fun g1 => d_move (v := .string s) rfl) <| w_g (g := !(decide ((s.size : Int) = 0))) rfl rfl rfl wn_f (fun g2 => d_lens Tryz.underlying9 (cvt g2)) <| w_g (g := !(decide ((s.size : Int) = 0))) rfl rfl rfl wn_f (fun g3 => d_gtr (cvt g3) rfl) <| w_d rfl (d_or' (b := (decide ((s.size : Int) = 0))) (p := (decide (1300 < (s.size : Int)))) rfl rfl rfl) <| w_d rfl (d_move (v := .bool ((decide ((s.size : Int) = 0)) || (decide (1300 < (s.size : Int))))) rfl) <| w_g (g := !((decide ((s.size : Int) = 0)) || (decide (1300 < (s.size : Int))))) rfl rfl rfl wn_f (fun g4 => d_move (v := .string s) rfl) ?_
 obtain ⟨c6, he⟩ := rq he
 refine w_g (g := !((decide ((s.size : Int) = 0)) || (decide (1300 < (s.size : Int))))) rfl rfl rfl wn_f (fun g5 => d_bt Tryz.underlying9 (cvt g5) rfl (c6 g5)) <| w_g (g := !((decide ((s.size : Int) = 0)) || (decide (1300 < (s.size : Int))))) rfl rfl rfl wn_f (fun g7 => d_eql (cvt g7) rfl) <| w_g (g := !((decide ((s.size : Int) = 0)) || (decide (1300 < (s.size : Int))))) rfl rfl rfl wn_f (fun g8 => d_move (v := .bool (decide ((bt s 0) = 48))) (cvt g8)) <| w_g (g := (!((decide ((s.size : Int) = 0)) || (decide (1300 < (s.size : Int))))) && (decide ((bt s 0) = 48))) rfl rfl rfl wn_gt (fun g9 => d_move (v := .string s) rfl) <| w_g (g := (!((decide ((s.size : Int) = 0)) || (decide (1300 < (s.size : Int))))) && (decide ((bt s 0) = 48))) rfl rfl rfl wn_gt (fun g10 => d_lens Tryz.underlying9 (cvt g10)) <| w_g (g := (!((decide ((s.size : Int) = 0)) || (decide (1300 < (s.size : Int))))) && (decide ((bt s 0) = 48))) rfl rfl rfl wn_gt (fun g11 => d_gtr (cvt g11) rfl) <| w_g (g := !((decide ((s.size : Int) = 0)) || (decide (1300 < (s.size : Int))))) rfl rfl rfl wn_f (fun g12 => d_and' (b := (decide ((bt s 0) = 48))) (p := (decide (1 < (s.size : Int)))) (cvt g12) (cva g12) rfl) <| w_d rfl (d_or' (b := ((decide ((s.size : Int) = 0)) || (decide (1300 < (s.size : Int))))) (p := ((decide ((bt s 0) = 48)) && (decide (1 < (s.size : Int))))) rfl rfl rfl) <| w_done ?_
 rcases its he with ⟨c13, he⟩ | ⟨c13, he⟩
 ·
  refine w_then rfl c13 <| w_seq <| w_region rfl <| w_d rfl (d_assign (v := .bool false) rfl) <| w_done ?_
  obtain rfl := Option.some.inj he
  refine w_return fn_85 rs_85 (.tmp (v := .bool false) rfl .nil) <| ⟨⟨[], rfl⟩, hle, rfl⟩
 ·
  refine w_else rfl (Bool.eq_false_iff.2 c13) <| w_skip <| w_seq <| w_seq <| w_region rfl <| w_d rfl (d_move (v := .string s) rfl) <| w_a rfl (o_bytes Tryz.underlying9 Tryz.underlying22 Tryz.underlying5 rfl) ?_
  rintro v14 H15 _ ⟨rfl, e16, h17⟩
  refine w_d rfl (d_len Tryz.underlying22 rfl h17.src) <| w_d rfl (d_move (v := .int .i64 0) rfl) <| w_done <| w_block <| w_loop <| w_sl 2 (.bool false) rfl <| w_sl 24 (v14) rfl <| w_sl 25 (.int .i64 ((bytesOf s).length : Int)) rfl <| w_sl 26 (.int .i64 0) rfl <| hh.l0 (hle.trans e16) he h17
/-! ### radome/wide.times -/
noncomputable def wide_times.C : Code := (Tryz.f86.body).getD .skip
abbrev wide_times.out (r : (List Int)) (H : Hp) (v : Value) : Prop := Ro (Kd.int .u32) H v r
abbrev wide_times.R (H0 : Hp) (L : Items) (r : (List Int)) : Value → Hp → Items → Prop := fun v H' L' => (∃ p, L' = p ++ L) ∧ H0.le H' ∧ wide_times.out r H' v
structure wide_times.Hs where
 l0 : (List Int) → (List Int) → (List Int) → Int → Int → Option (List Int)
 l1 : (List Int) → (List Int) → Int → Int → Int → (List Int) → Int → Int → (List Int) → Int → Int → Option (List Int)
noncomputable def wide_times.b0 (k : Nat) (h : wide_times.Hs)  (b : List Int) (out : List Int) (t18 : List Int) (t19 : Int) (t20 : Int) : Option (List Int) := if t20 < t19 then (if (0 : Int) ≤ t20 ∧ t20 < (t18.length : Int) then (h.l1 b out t20 (rd t18 t20) 0 t18 t19 t20 b (b.length : Int) 0) else none) else (some (out))
noncomputable def wide_times.b1 (k : Nat) (h : wide_times.Hs)  (b : List Int) (out : List Int) (i : Int) (x : Int) (carry : Int) (t18 : List Int) (t19 : Int) (t20 : Int) (t25 : List Int) (t26 : Int) (t27 : Int) : Option (List Int) := if t27 < t26 then (if (0 : Int) ≤ t27 ∧ t27 < (t25.length : Int) then (if (0 : Int) ≤ w64 (i + t27) ∧ w64 (i + t27) < (out.length : Int) then (if (0 : Int) ≤ w64 (i + t27) ∧ w64 (i + t27) < (out.length : Int) then (h.l1 b (out.set (w64 (i + t27) : Int).toNat (((((((((x) % 18446744073709551616) * ((rd t25 t27) % 18446744073709551616)) % 18446744073709551616) + ((rd out (w64 (i + t27))) % 18446744073709551616)) % 18446744073709551616) + carry) % 18446744073709551616) % 4294967296)) i x (((((((((x) % 18446744073709551616) * ((rd t25 t27) % 18446744073709551616)) % 18446744073709551616) + ((rd out (w64 (i + t27))) % 18446744073709551616)) % 18446744073709551616) + carry) % 18446744073709551616) / 4294967296) t18 t19 t20 t25 t26 (w64 (t27 + 1))) else none) else none) else none) else (if (0 : Int) ≤ w64 (i + (b.length : Int)) ∧ w64 (i + (b.length : Int)) < (out.length : Int) then (h.l0 b (out.set (w64 (i + (b.length : Int)) : Int).toNat ((carry) % 4294967296)) t18 t19 (w64 (t20 + 1))) else none)
noncomputable def wide_times.hs : Nat → wide_times.Hs
 | 0 => ⟨fun _ _ _ _ _ => none, fun _ _ _ _ _ _ _ _ _ _ _ => none⟩
 | k + 1 => ⟨fun x0 x1 x2 x3 x4 => wide_times.b0 k (wide_times.hs k) x0 x1 x2 x3 x4, fun x0 x1 x2 x3 x4 x5 x6 x7 x8 x9 x10 => wide_times.b1 k (wide_times.hs k) x0 x1 x2 x3 x4 x5 x6 x7 x8 x9 x10⟩
noncomputable def wide_times.f (k : Nat) (a : List Int) (b : List Int) : Option (List Int) := (fun h : wide_times.Hs => if 0 ≤ w64 ((a.length : Int) + (b.length : Int)) ∧ w64 ((a.length : Int) + (b.length : Int)) ≤ 70368744177664 then (h.l0 b (List.replicate (w64 ((a.length : Int) + (b.length : Int)) : Int).toNat (0 : Int)) a (a.length : Int) 0) else none) (wide_times.hs k)
structure wide_times.LE (h h' : wide_times.Hs) : Prop where
 l0 : ∀ y0 y1 y2 y3 y4, LeO (h.l0 y0 y1 y2 y3 y4) (h'.l0 y0 y1 y2 y3 y4)
 l1 : ∀ y0 y1 y2 y3 y4 y5 y6 y7 y8 y9 y10, LeO (h.l1 y0 y1 y2 y3 y4 y5 y6 y7 y8 y9 y10) (h'.l1 y0 y1 y2 y3 y4 y5 y6 y7 y8 y9 y10)
theorem wide_times.b0_mono {k : Nat} {h h' : wide_times.Hs} (hl : wide_times.LE h h') : ∀ y0 y1 y2 y3 y4, LeO (wide_times.b0 k h y0 y1 y2 y3 y4) (wide_times.b0 (k + 1) h' y0 y1 y2 y3 y4) := fun _ _ _ _ _ => (LeO.ite (LeO.ite (hl.l1 _ _ _ _ _ _ _ _ _ _ _) (LeO.refl _)) (LeO.refl _))
theorem wide_times.b1_mono {k : Nat} {h h' : wide_times.Hs} (hl : wide_times.LE h h') : ∀ y0 y1 y2 y3 y4 y5 y6 y7 y8 y9 y10, LeO (wide_times.b1 k h y0 y1 y2 y3 y4 y5 y6 y7 y8 y9 y10) (wide_times.b1 (k + 1) h' y0 y1 y2 y3 y4 y5 y6 y7 y8 y9 y10) := fun _ _ _ _ _ _ _ _ _ _ _ => (LeO.ite (LeO.ite (LeO.ite (LeO.ite (hl.l1 _ _ _ _ _ _ _ _ _ _ _) (LeO.refl _)) (LeO.refl _)) (LeO.refl _)) (LeO.ite (hl.l0 _ _ _ _ _) (LeO.refl _)))
theorem wide_times.hs_mono : ∀ k, wide_times.LE (wide_times.hs k) (wide_times.hs (k + 1))
 | 0 => ⟨fun _ _ _ _ _ => LeO.none _, fun _ _ _ _ _ _ _ _ _ _ _ => LeO.none _⟩
 | k + 1 => ⟨wide_times.b0_mono (k := k) (wide_times.hs_mono k), wide_times.b1_mono (k := k) (wide_times.hs_mono k)⟩
theorem wide_times.mono : ∀ k y0 y1, LeO (wide_times.f k y0 y1) (wide_times.f (k + 1) y0 y1) := fun k _ _ => have hl := wide_times.hs_mono k; by unfold wide_times.f; exact (LeO.ite (hl.l0 _ _ _ _ _) (LeO.refl _))
noncomputable def wide_times.Kl0 : List Item := .code (lopB (blkB (seqR (seqL (seqR (seqR wide_times.C)))))) :: .inLoop (lopB (blkB (seqR (seqL (seqR (seqR wide_times.C)))))) :: .inBlock 0 :: .code (seqR (seqR (seqR wide_times.C))) :: []
noncomputable def wide_times.Kl1 : List Item := .code (lopB (blkB (seqR (seqL (seqR (seqR (blkB (seqL (seqR (seqR (lopB (blkB (seqR (seqL (seqR (seqR wide_times.C)))))))))))))))) :: .inLoop (lopB (blkB (seqR (seqL (seqR (seqR (blkB (seqL (seqR (seqR (lopB (blkB (seqR (seqL (seqR (seqR wide_times.C)))))))))))))))) :: .inBlock 2 :: .code (seqR (seqR (seqR (blkB (seqL (seqR (seqR (lopB (blkB (seqR (seqL (seqR (seqR wide_times.C))))))))))))) :: .inBlock 1 :: .code (seqR (seqR (seqR (lopB (blkB (seqR (seqL (seqR (seqR wide_times.C))))))))) :: .inLoop (lopB (blkB (seqR (seqL (seqR (seqR wide_times.C)))))) :: .inBlock 0 :: .code (seqR (seqR (seqR wide_times.C))) :: []
structure wide_times.OK (h : wide_times.Hs) : Prop where
 l0 : ∀ {H0 H : Hp} {L : Items} {r : (List Int)} {jk_ : Nat → Value} {b : List Int} {out : List Int} {t18 : List Int} {t19 : Int} {t20 : Int} {v_b : Value} {v_out : Value} {v_t18 : Value} {i_out : Item'} (_ : H0.le H) (_he : h.l0 b out t18 t19 t20 = some r) (_h_b : Src (Kd.int .u32) H L v_b b) (_h_out : Sl (Kd.int .u32) H 90 i_out v_out out) (_h_t18 : Src (Kd.int .u32) H L v_t18 t18), Wp Tryz.prog 86 67 wide_times.Kl0 (upd (upd (upd (upd (upd (upd jk_ 1 (v_b)) 4 (.slice none 0 0)) 5 (v_out)) 18 (v_t18)) 19 (.int .i64 t19)) 20 (.int .i64 t20)) H (i_out :: L) (wide_times.R H0 L r)
 l1 : ∀ {H0 H : Hp} {L : Items} {r : (List Int)} {jk_ : Nat → Value} {b : List Int} {out : List Int} {i : Int} {x : Int} {carry : Int} {t18 : List Int} {t19 : Int} {t20 : Int} {t25 : List Int} {t26 : Int} {t27 : Int} {v_b : Value} {v_out : Value} {v_t18 : Value} {v_t25 : Value} {i_out : Item'} (_ : H0.le H) (_he : h.l1 b out i x carry t18 t19 t20 t25 t26 t27 = some r) (_h_b : Src (Kd.int .u32) H L v_b b) (_h_out : Sl (Kd.int .u32) H 90 i_out v_out out) (_h_t18 : Src (Kd.int .u32) H L v_t18 t18) (_h_t25 : Src (Kd.int .u32) H L v_t25 t25), Wp Tryz.prog 86 67 wide_times.Kl1 (upd (upd (upd (upd (upd (upd (upd (upd (upd (upd (upd (upd jk_ 1 (v_b)) 4 (.slice none 0 0)) 5 (v_out)) 6 (.int .i64 i)) 7 (.int .u32 x)) 8 (.int .u64 carry)) 18 (v_t18)) 19 (.int .i64 t19)) 20 (.int .i64 t20)) 25 (v_t25)) 26 (.int .i64 t26)) 27 (.int .i64 t27)) H (i_out :: L) (wide_times.R H0 L r)
theorem wide_times.b0_ok {k : Nat} {h : wide_times.Hs} (hh : wide_times.OK h) {H0 H : Hp} {L : Items} {r : (List Int)} {jk_ : Nat → Value} {b : List Int} {out : List Int} {t18 : List Int} {t19 : Int} {t20 : Int} {v_b : Value} {v_out : Value} {v_t18 : Value} {i_out : Item'} (hle : H0.le H) (he : wide_times.b0 k h b out t18 t19 t20 = some r) (h_b : Src (Kd.int .u32) H L v_b b) (h_out : Sl (Kd.int .u32) H 90 i_out v_out out) (h_t18 : Src (Kd.int .u32) H L v_t18 t18) : Wp Tryz.prog 86 67 wide_times.Kl0 (upd (upd (upd (upd (upd (upd jk_ 1 (v_b)) 4 (.slice none 0 0)) 5 (v_out)) 18 (v_t18)) 19 (.int .i64 t19)) 20 (.int .i64 t20)) H (i_out :: L) (wide_times.R H0 L r) := by
 unfold wide_times.b0 at he
 unfold wide_times.Kl0
 refine w_seq <| w_region rfl <| w_d rfl (d_lss rfl rfl) <| w_done <| w_seq ?_
 rcases its he with ⟨c5, he⟩ | ⟨c5, he⟩
 ·
  refine w_then rfl (decide_eq_true c5) <| w_skip <| w_seq <| w_block <| w_seq <| w_region rfl <| w_d rfl (d_move (v := .int .i64 t20) rfl) ?_
  obtain ⟨c6, he⟩ := rq he
  refine w_d rfl (d_index (sz := 1) Tryz.underlying34 sz90 rfl h_t18.th rfl c6) <| w_d rfl (d_ldint ty90 rfl h_t18.th c6) <| w_d rfl (d_assign (v := .int .i64 t20) rfl) <| w_d rfl (d_assign (v := .int .u32 (rd t18 t20)) rfl) <| w_done <| w_seq <| w_region rfl <| w_d rfl (d_assign (v := .int .u64 0) rfl) <| w_done <| w_seq <| w_seq <| w_region rfl ?_
  refine w_d rfl (d_move (v := v_b) rfl) <| w_d rfl (d_len Tryz.underlying34 rfl h_b.th) <| w_d rfl (d_move (v := .int .i64 0) rfl) <| w_done <| w_block <| w_loop <| w_sl 1 (v_b) rfl <| w_sl 4 (.slice none 0 0) rfl <| w_sl 5 (v_out) rfl <| w_sl 6 (.int .i64 t20) rfl <| w_sl 7 (.int .u32 (rd t18 t20)) rfl <| w_sl 8 (.int .u64 0) rfl ?_
  refine w_sl 18 (v_t18) rfl <| w_sl 19 (.int .i64 t19) rfl <| w_sl 20 (.int .i64 t20) rfl <| w_sl 25 (v_b) rfl <| w_sl 26 (.int .i64 (b.length : Int)) rfl <| w_sl 27 (.int .i64 0) rfl <| hh.l1 hle he h_b h_out h_t18 h_b
 ·
  refine w_else rfl (decide_eq_false c5) <| w_exit rfl <| w_seq <| w_region rfl <| w_d rfl (d_move (v := v_out) rfl) <| w_d rfl (d_assign (v := v_out) rfl) <| w_done <| w_freeze h_out .here ?_
  intro H7 e8 h9
  obtain rfl := Option.some.inj he
  refine w_return fn_86 rs_86 (.tmp (v := v_out) rfl .nil) <| ⟨⟨[_], rfl⟩, hle.trans e8, h9⟩
theorem wide_times.b1_ok {k : Nat} {h : wide_times.Hs} (hh : wide_times.OK h) {H0 H : Hp} {L : Items} {r : (List Int)} {jk_ : Nat → Value} {b : List Int} {out : List Int} {i : Int} {x : Int} {carry : Int} {t18 : List Int} {t19 : Int} {t20 : Int} {t25 : List Int} {t26 : Int} {t27 : Int} {v_b : Value} {v_out : Value} {v_t18 : Value} {v_t25 : Value} {i_out : Item'} (hle : H0.le H) (he : wide_times.b1 k h b out i x carry t18 t19 t20 t25 t26 t27 = some r) (h_b : Src (Kd.int .u32) H L v_b b) (h_out : Sl (Kd.int .u32) H 90 i_out v_out out) (h_t18 : Src (Kd.int .u32) H L v_t18 t18) (h_t25 : Src (Kd.int .u32) H L v_t25 t25) : Wp Tryz.prog 86 67 wide_times.Kl1 (upd (upd (upd (upd (upd (upd (upd (upd (upd (upd (upd (upd jk_ 1 (v_b)) 4 (.slice none 0 0)) 5 (v_out)) 6 (.int .i64 i)) 7 (.int .u32 x)) 8 (.int .u64 carry)) 18 (v_t18)) 19 (.int .i64 t19)) 20 (.int .i64 t20)) 25 (v_t25)) 26 (.int .i64 t26)) 27 (.int .i64 t27)) H (i_out :: L) (wide_times.R H0 L r) := by
 unfold wide_times.b1 at he
 unfold wide_times.Kl1
 refine w_seq <| w_region rfl <| w_d rfl (d_lss rfl rfl) <| w_done <| w_seq ?_
 rcases its he with ⟨c10, he⟩ | ⟨c10, he⟩
 ·
  refine w_then rfl (decide_eq_true c10) <| w_skip <| w_seq <| w_block <| w_seq <| w_region rfl <| w_d rfl (d_move (v := .int .i64 t27) rfl) ?_
  obtain ⟨c11, he⟩ := rq he
  refine w_d rfl (d_index (sz := 1) Tryz.underlying34 sz90 rfl h_t25.th rfl c11) <| w_d rfl (d_ldint ty90 rfl h_t25.th c11) <| w_d rfl (d_assign (v := .int .i64 t27) rfl) <| w_d rfl (d_assign (v := .int .u32 (rd t25 t27)) rfl) <| w_done <| w_seq <| w_region rfl <| w_d rfl (d_move (v := .int .u32 x) rfl) <| w_d rfl (d_conv (c := (x) % 18446744073709551616) Tryz.underlying90 Tryz.underlying88 rfl rfl) <| w_d rfl (d_move (v := .int .u32 (rd t25 t27)) rfl) <| w_d rfl (d_conv (c := (rd t25 t27) % 18446744073709551616) Tryz.underlying90 Tryz.underlying88 rfl rfl) <| w_d rfl (d_mul (c := (((x) % 18446744073709551616) * ((rd t25 t27) % 18446744073709551616)) % 18446744073709551616) rfl rfl rfl) ?_
  refine w_d rfl (d_move (v := v_out) rfl) <| w_d rfl (d_move (v := .int .i64 i) rfl) <| w_d rfl (d_move (v := .int .i64 t27) rfl) <| w_d rfl (d_add (c := w64 (i + t27)) rfl rfl rfl) ?_
  obtain ⟨c12, he⟩ := rq he
  refine w_d rfl (d_indexS (sz := 1) Tryz.underlying34 sz90 rfl h_out.shp rfl c12) <| w_d rfl (d_ldint ty90 rfl (h_out.src .here) c12) <| w_d rfl (d_conv (c := (rd out (w64 (i + t27))) % 18446744073709551616) Tryz.underlying90 Tryz.underlying88 rfl rfl) <| w_d rfl (d_add (c := (((((x) % 18446744073709551616) * ((rd t25 t27) % 18446744073709551616)) % 18446744073709551616) + ((rd out (w64 (i + t27))) % 18446744073709551616)) % 18446744073709551616) rfl rfl rfl) <| w_d rfl (d_move (v := .int .u64 carry) rfl) <| w_d rfl (d_add (c := (((((((x) % 18446744073709551616) * ((rd t25 t27) % 18446744073709551616)) % 18446744073709551616) + ((rd out (w64 (i + t27))) % 18446744073709551616)) % 18446744073709551616) + carry) % 18446744073709551616) rfl rfl rfl) <| w_d rfl (d_assign (v := .int .u64 ((((((((x) % 18446744073709551616) * ((rd t25 t27) % 18446744073709551616)) % 18446744073709551616) + ((rd out (w64 (i + t27))) % 18446744073709551616)) % 18446744073709551616) + carry) % 18446744073709551616)) rfl) <| w_done <| w_seq <| w_region rfl <| w_d rfl (d_move (v := v_out) rfl) <| w_d rfl (d_move (v := .int .i64 i) rfl) ?_
  refine w_d rfl (d_move (v := .int .i64 t27) rfl) <| w_d rfl (d_add (c := w64 (i + t27)) rfl rfl rfl) <| w_d rfl (d_move (v := .int .u64 ((((((((x) % 18446744073709551616) * ((rd t25 t27) % 18446744073709551616)) % 18446744073709551616) + ((rd out (w64 (i + t27))) % 18446744073709551616)) % 18446744073709551616) + carry) % 18446744073709551616)) rfl) <| w_d rfl (d_conv (c := ((((((((x) % 18446744073709551616) * ((rd t25 t27) % 18446744073709551616)) % 18446744073709551616) + ((rd out (w64 (i + t27))) % 18446744073709551616)) % 18446744073709551616) + carry) % 18446744073709551616) % 4294967296) Tryz.underlying88 Tryz.underlying90 rfl rfl) ?_
  obtain ⟨c13, he⟩ := rq he
  refine w_d rfl (d_indexS (sz := 1) Tryz.underlying34 sz90 rfl h_out.shp rfl c13) <| w_a0 rfl (o_storeEl (kd := (Kd.int .u32)) (v := .int .u32 (((((((((x) % 18446744073709551616) * ((rd t25 t27) % 18446744073709551616)) % 18446744073709551616) + ((rd out (w64 (i + t27))) % 18446744073709551616)) % 18446744073709551616) + carry) % 18446744073709551616) % 4294967296)) (F := fun z_ => z_ :: L) sz90 rfl rfl rfl rfl h_out c13 (fun _ => .here)) ?_
  rintro _ _ _ ⟨i14, rfl, rfl, rfl, h15⟩
  refine w_done <| w_region rfl <| w_d rfl (d_move (v := .int .u64 ((((((((x) % 18446744073709551616) * ((rd t25 t27) % 18446744073709551616)) % 18446744073709551616) + ((rd out (w64 (i + t27))) % 18446744073709551616)) % 18446744073709551616) + carry) % 18446744073709551616)) rfl) <| w_d rfl (d_shr (c := ((((((((x) % 18446744073709551616) * ((rd t25 t27) % 18446744073709551616)) % 18446744073709551616) + ((rd out (w64 (i + t27))) % 18446744073709551616)) % 18446744073709551616) + carry) % 18446744073709551616) / 4294967296) rfl rfl (by decide) rfl) <| w_d rfl (d_assign (v := .int .u64 (((((((((x) % 18446744073709551616) * ((rd t25 t27) % 18446744073709551616)) % 18446744073709551616) + ((rd out (w64 (i + t27))) % 18446744073709551616)) % 18446744073709551616) + carry) % 18446744073709551616) / 4294967296)) rfl) <| w_done <| w_inBlock <| w_region rfl <| w_d rfl (d_add (c := w64 (t27 + 1)) rfl rfl rfl) <| w_d rfl (d_move (v := .int .i64 (w64 (t27 + 1))) rfl) <| w_done <| w_inLoop ?_
  refine w_sl 1 (v_b) rfl <| w_sl 4 (.slice none 0 0) rfl <| w_sl 5 (v_out) rfl <| w_sl 6 (.int .i64 i) rfl <| w_sl 7 (.int .u32 x) rfl <| w_sl 8 (.int .u64 (((((((((x) % 18446744073709551616) * ((rd t25 t27) % 18446744073709551616)) % 18446744073709551616) + ((rd out (w64 (i + t27))) % 18446744073709551616)) % 18446744073709551616) + carry) % 18446744073709551616) / 4294967296)) rfl <| w_sl 18 (v_t18) rfl <| w_sl 19 (.int .i64 t19) rfl <| w_sl 20 (.int .i64 t20) rfl <| w_sl 25 (v_t25) rfl <| w_sl 26 (.int .i64 t26) rfl <| w_sl 27 (.int .i64 (w64 (t27 + 1))) rfl <| hh.l1 hle he h_b h15 h_t18 h_t25
 ·
  refine w_else rfl (decide_eq_false c10) <| w_exit rfl <| w_region rfl <| w_d rfl (d_move (v := v_out) rfl) <| w_d rfl (d_move (v := .int .i64 i) rfl) <| w_d rfl (d_move (v := v_b) rfl) <| w_d rfl (d_len Tryz.underlying34 rfl h_b.th) <| w_d rfl (d_add (c := w64 (i + (b.length : Int))) rfl rfl rfl) <| w_d rfl (d_move (v := .int .u64 carry) rfl) <| w_d rfl (d_conv (c := (carry) % 4294967296) Tryz.underlying88 Tryz.underlying90 rfl rfl) ?_
  obtain ⟨c16, he⟩ := rq he
  refine w_d rfl (d_indexS (sz := 1) Tryz.underlying34 sz90 rfl h_out.shp rfl c16) <| w_a0 rfl (o_storeEl (kd := (Kd.int .u32)) (v := .int .u32 ((carry) % 4294967296)) (F := fun z_ => z_ :: L) sz90 rfl rfl rfl rfl h_out c16 (fun _ => .here)) ?_
  rintro _ _ _ ⟨i17, rfl, rfl, rfl, h18⟩
  refine w_done <| w_inBlock <| w_region rfl <| w_d rfl (d_add (c := w64 (t20 + 1)) rfl rfl rfl) <| w_d rfl (d_move (v := .int .i64 (w64 (t20 + 1))) rfl) <| w_done <| w_inLoop <| w_sl 1 (v_b) rfl <| w_sl 4 (.slice none 0 0) rfl <| w_sl 5 (v_out) rfl <| w_sl 18 (v_t18) rfl <| w_sl 19 (.int .i64 t19) rfl ?_
  refine w_sl 20 (.int .i64 (w64 (t20 + 1))) rfl <| hh.l0 hle he h_b h18 h_t18
theorem wide_times.ok : ∀ k, wide_times.OK (wide_times.hs k)
 | 0 => ⟨(by intros; exact nomatch (show none = some _ from by assumption)), (by intros; exact nomatch (show none = some _ from by assumption))⟩
 | k + 1 => ⟨wide_times.b0_ok (k := k) (wide_times.ok k), wide_times.b1_ok (k := k) (wide_times.ok k)⟩
theorem wide_times.calls (k : Nat) {H : Hp} {L : Items} {a : List Int} {b : List Int} {v0_a : Value} {v1_b : Value} {r : (List Int)} (he : wide_times.f k a b = some r) (h0_a : Src (Kd.int .u32) H L v0_a a) (h1_b : Src (Kd.int .u32) H L v1_b b) : Ct Tryz.prog 86 ⟨[v0_a, v1_b]⟩ H L (fun v H' L' => L = L' ∧ H.le H' ∧ wide_times.out r H' v) := by
 refine ct_out (O := wide_times.out r) ?_
 have hle : H.le H := .refl _
 have hh := wide_times.ok k
 unfold wide_times.f at he
 refine ct_enter (args := [v0_a, v1_b]) fn_86 rfl nt_86 rfl <| w_seq <| w_region rfl <| w_d rfl (d_assign (v := .slice none 0 0) rfl) <| w_done <| w_seq <| w_region rfl <| w_d rfl (d_move (v := v0_a) rfl) <| w_d rfl (d_len Tryz.underlying34 rfl h0_a) <| w_d rfl (d_move (v := v1_b) rfl) <| w_d rfl (d_len Tryz.underlying34 rfl h1_b) <| w_d rfl (d_add (c := w64 ((a.length : Int) + (b.length : Int))) rfl rfl rfl) ?_
 obtain ⟨c1, he⟩ := rq he
 refine w_a rfl (o_make' (kd := (Kd.int .u32)) (z0 := 0) Tryz.underlying34 ti90 (zp90 _) rfl rfl (by omega) (by omega) (by omega)) ?_
 rintro v2 _ _ ⟨i3, rfl, rfl, h4⟩
 refine w_d rfl (d_assign (v := v2) rfl) <| w_done <| w_seq <| w_seq <| w_region rfl <| w_d rfl (d_move (v := v0_a) rfl) <| w_d rfl (d_len Tryz.underlying34 rfl h0_a.th) <| w_d rfl (d_move (v := .int .i64 0) rfl) <| w_done <| w_block <| w_loop <| w_sl 1 (v1_b) rfl ?_
 refine w_sl 4 (.slice none 0 0) rfl <| w_sl 5 (v2) rfl <| w_sl 18 (v0_a) rfl <| w_sl 19 (.int .i64 (a.length : Int)) rfl <| w_sl 20 (.int .i64 0) rfl <| hh.l0 hle he h1_b h4 h0_a
/-! ### radome/wide.trim -/
noncomputable def wide_trim.C : Code := (Tryz.f47.body).getD .skip
abbrev wide_trim.out (r : (List Int)) (H : Hp) (v : Value) : Prop := Ro (Kd.int .u32) H v r
abbrev wide_trim.R (H0 : Hp) (L : Items) (r : (List Int)) : Value → Hp → Items → Prop := fun v H' L' => (∃ p, L' = p ++ L) ∧ H0.le H' ∧ wide_trim.out r H' v
structure wide_trim.Hs where
 l0 : (List Int) → Option (List Int)
noncomputable def wide_trim.b0 (k : Nat) (h : wide_trim.Hs)  (w : List Int) : Option (List Int) := if (decide (0 < (w.length : Int))) = true → (0 : Int) ≤ w64 ((w.length : Int) - 1) ∧ w64 ((w.length : Int) - 1) < (w.length : Int) then (if ((decide (0 < (w.length : Int))) && (decide ((rd w (w64 ((w.length : Int) - 1))) = 0))) = true then (if (0 : Int) ≤ 0 ∧ (0 : Int) ≤ w64 ((w.length : Int) - 1) ∧ w64 ((w.length : Int) - 1) ≤ (w.length : Int) then (h.l0 (cut w 0 (w64 ((w.length : Int) - 1)))) else none) else (some (w))) else none
noncomputable def wide_trim.hs : Nat → wide_trim.Hs
 | 0 => ⟨fun _ => none⟩
 | k + 1 => ⟨fun x0 => wide_trim.b0 k (wide_trim.hs k) x0⟩
noncomputable def wide_trim.f (k : Nat) (w : List Int) : Option (List Int) := (fun h : wide_trim.Hs => h.l0 w) (wide_trim.hs k)
structure wide_trim.LE (h h' : wide_trim.Hs) : Prop where
 l0 : ∀ y0, LeO (h.l0 y0) (h'.l0 y0)
theorem wide_trim.b0_mono {k : Nat} {h h' : wide_trim.Hs} (hl : wide_trim.LE h h') : ∀ y0, LeO (wide_trim.b0 k h y0) (wide_trim.b0 (k + 1) h' y0) := fun _ => (LeO.ite (LeO.ite (LeO.ite (hl.l0 _) (LeO.refl _)) (LeO.refl _)) (LeO.refl _))
theorem wide_trim.hs_mono : ∀ k, wide_trim.LE (wide_trim.hs k) (wide_trim.hs (k + 1))
 | 0 => ⟨fun _ => LeO.none _⟩
 | k + 1 => ⟨wide_trim.b0_mono (k := k) (wide_trim.hs_mono k)⟩
theorem wide_trim.mono : ∀ k y0, LeO (wide_trim.f k y0) (wide_trim.f (k + 1) y0) := fun k _ => have hl := wide_trim.hs_mono k; by unfold wide_trim.f; exact (hl.l0 _)
noncomputable def wide_trim.Kl0 : List Item := .code (lopB (blkB (seqL (seqR wide_trim.C)))) :: .inLoop (lopB (blkB (seqL (seqR wide_trim.C)))) :: .inBlock 0 :: .code (seqR (seqR wide_trim.C)) :: []
structure wide_trim.OK (h : wide_trim.Hs) : Prop where
 l0 : ∀ {H0 H : Hp} {L : Items} {r : (List Int)} {jk_ : Nat → Value} {w : List Int} {v_w : Value} (_ : H0.le H) (_he : h.l0 w = some r) (_h_w : Ro (Kd.int .u32) H v_w w), Wp Tryz.prog 47 21 wide_trim.Kl0 (upd (upd jk_ 0 (v_w)) 2 (.slice none 0 0)) H (L) (wide_trim.R H0 L r)
theorem wide_trim.b0_ok {k : Nat} {h : wide_trim.Hs} (hh : wide_trim.OK h) {H0 H : Hp} {L : Items} {r : (List Int)} {jk_ : Nat → Value} {w : List Int} {v_w : Value} (hle : H0.le H) (he : wide_trim.b0 k h w = some r) (h_w : Ro (Kd.int .u32) H v_w w) : Wp Tryz.prog 47 21 wide_trim.Kl0 (upd (upd jk_ 0 (v_w)) 2 (.slice none 0 0)) H (L) (wide_trim.R H0 L r) := by
 unfold wide_trim.b0 at he
 unfold wide_trim.Kl0
 refine w_seq <| w_seq <| w_region rfl <| w_d rfl (d_move (v := v_w) rfl) <| w_d rfl (d_len Tryz.underlying34 rfl h_w.src) <| w_d rfl (d_gtr rfl rfl) <| w_d rfl (d_move (v := .bool (decide (0 < (w.length : Int)))) rfl) <| w_g (g := decide (0 < (w.length : Int))) rfl rfl rfl wn_t (fun g1 => d_move (v := v_w) rfl) <| w_g (g := decide (0 < (w.length : Int))) rfl rfl rfl wn_t (fun g2 => d_move (v := v_w) rfl) <| w_g (g := decide (0 < (w.length : Int))) rfl rfl rfl wn_t (fun g3 => d_len Tryz.underlying34 (cvt g3) h_w.src) <| w_g (g := decide (0 < (w.length : Int))) rfl rfl rfl wn_t (fun g4 => d_sub (c := w64 ((w.length : Int) - 1)) (cvt g4) rfl rfl) ?_
 obtain ⟨c6, he⟩ := rq he
 refine w_g (g := decide (0 < (w.length : Int))) rfl rfl rfl wn_t (fun g5 => d_index (sz := 1) Tryz.underlying34 sz90 (cvt g5) h_w.src (cvt g5) (c6 g5)) <| w_g (g := decide (0 < (w.length : Int))) rfl rfl rfl wn_t (fun g7 => d_ldint ty90 (cvt g7) h_w.src (c6 g7)) <| w_g (g := decide (0 < (w.length : Int))) rfl rfl rfl wn_t (fun g8 => d_eql (cvt g8) rfl) <| w_d rfl (d_and' (b := (decide (0 < (w.length : Int)))) (p := (decide ((rd w (w64 ((w.length : Int) - 1))) = 0))) rfl rfl rfl) <| w_done ?_
 rcases its he with ⟨c9, he⟩ | ⟨c9, he⟩
 ·
  refine w_then rfl c9 <| w_skip <| w_block <| w_region rfl <| w_d rfl (d_move (v := v_w) rfl) <| w_d rfl (d_move (v := v_w) rfl) <| w_d rfl (d_len Tryz.underlying34 rfl h_w.src) <| w_d rfl (d_sub (c := w64 ((w.length : Int) - 1)) rfl rfl rfl) ?_
  obtain ⟨c10, he⟩ := rq he
  refine w_a rfl (o_cut (kd := (Kd.int .u32)) Tryz.underlying34 sz90 rfl h_w (.inl ⟨rfl, rfl⟩) (.inr ⟨_, _, rfl, rfl⟩) c10) ?_
  rintro v11 _ _ ⟨h12, rfl, rfl⟩
  refine w_d rfl (d_assign (v := v11) rfl) <| w_done <| w_inBlock <| w_inLoop <| w_sl 0 (v11) rfl <| w_sl 2 (.slice none 0 0) rfl <| hh.l0 hle he h12
 ·
  refine w_else rfl (Bool.eq_false_iff.2 c9) <| w_exit rfl <| w_seq <| w_region rfl <| w_d rfl (d_move (v := v_w) rfl) <| w_d rfl (d_assign (v := v_w) rfl) <| w_done ?_
  obtain rfl := Option.some.inj he
  refine w_return fn_47 rs_47 (.tmp (v := v_w) rfl .nil) <| ⟨⟨[], rfl⟩, hle, h_w⟩
theorem wide_trim.ok : ∀ k, wide_trim.OK (wide_trim.hs k)
 | 0 => ⟨(by intros; exact nomatch (show none = some _ from by assumption))⟩
 | k + 1 => ⟨wide_trim.b0_ok (k := k) (wide_trim.ok k)⟩
theorem wide_trim.calls (k : Nat) {H : Hp} {L : Items} {w : List Int} {v0_w : Value} {r : (List Int)} (he : wide_trim.f k w = some r) (h0_w : Ro (Kd.int .u32) H v0_w w) : Ct Tryz.prog 47 ⟨[v0_w]⟩ H L (fun v H' L' => L = L' ∧ H.le H' ∧ wide_trim.out r H' v) := by
 refine ct_out (O := wide_trim.out r) ?_
 have hle : H.le H := .refl _
 have hh := wide_trim.ok k
 unfold wide_trim.f at he
 refine ct_enter (args := [v0_w]) fn_47 rfl nt_47 rfl <| w_seq <| w_region rfl <| w_d rfl (d_assign (v := .slice none 0 0) rfl) <| w_done <| w_seq <| w_block <| w_loop <| w_sl 0 (v0_w) rfl <| w_sl 2 (.slice none 0 0) rfl <| hh.l0 hle he h0_w
/-! ### radome/wide.plus -/
noncomputable def wide_plus.C : Code := (Tryz.f71.body).getD .skip
abbrev wide_plus.out (r : (List Int)) (H : Hp) (v : Value) : Prop := Ro (Kd.int .u32) H v r
abbrev wide_plus.R (H0 : Hp) (L : Items) (r : (List Int)) : Value → Hp → Items → Prop := fun v H' L' => (∃ p, L' = p ++ L) ∧ H0.le H' ∧ wide_plus.out r H' v
structure wide_plus.Hs where
 l0 : (List Int) → (List Int) → Int → (List Int) → Int → Int → Option (List Int)
noncomputable def wide_plus.j1 (k : Nat) (h : wide_plus.Hs)  (a : List Int) (b : List Int) : Option (List Int) := if 0 ≤ 0 ∧ 0 ≤ w64 ((a.length : Int) + 1) ∧ w64 ((a.length : Int) + 1) ≤ 70368744177664 then (h.l0 b (List.replicate (0 : Int).toNat (0 : Int)) 0 a (a.length : Int) 0) else none
noncomputable def wide_plus.j3 (k : Nat) (h : wide_plus.Hs)  (b : List Int) (out : List Int) (carry : Int) (s : Int) (t21 : List Int) (t22 : Int) (t23 : Int) : Option (List Int) := if out.length + 1 ≤ 35184372088704 then (h.l0 b (out ++ [(s) % 4294967296]) (s / 4294967296) t21 t22 (w64 (t23 + 1))) else none
noncomputable def wide_plus.b0 (k : Nat) (h : wide_plus.Hs)  (b : List Int) (out : List Int) (carry : Int) (t21 : List Int) (t22 : Int) (t23 : Int) : Option (List Int) := if t23 < t22 then (if (0 : Int) ≤ t23 ∧ t23 < (t21.length : Int) then (if t23 < (b.length : Int) then (if (0 : Int) ≤ t23 ∧ t23 < (b.length : Int) then (wide_plus.j3 k h b out carry ((((((rd t21 t23) % 18446744073709551616) + carry) % 18446744073709551616) + ((rd b t23) % 18446744073709551616)) % 18446744073709551616) t21 t22 t23) else none) else (wide_plus.j3 k h b out carry ((((rd t21 t23) % 18446744073709551616) + carry) % 18446744073709551616) t21 t22 t23)) else none) else (if out.length + 1 ≤ 35184372088704 then (some (out ++ [(carry) % 4294967296])) else none)
noncomputable def wide_plus.hs : Nat → wide_plus.Hs
 | 0 => ⟨fun _ _ _ _ _ _ => none⟩
 | k + 1 => ⟨fun x0 x1 x2 x3 x4 x5 => wide_plus.b0 k (wide_plus.hs k) x0 x1 x2 x3 x4 x5⟩
noncomputable def wide_plus.f (k : Nat) (a : List Int) (b : List Int) : Option (List Int) := (fun h : wide_plus.Hs => if (a.length : Int) < (b.length : Int) then (wide_plus.j1 k h b a) else (wide_plus.j1 k h a b)) (wide_plus.hs k)
structure wide_plus.LE (h h' : wide_plus.Hs) : Prop where
 l0 : ∀ y0 y1 y2 y3 y4 y5, LeO (h.l0 y0 y1 y2 y3 y4 y5) (h'.l0 y0 y1 y2 y3 y4 y5)
theorem wide_plus.j1_mono {k : Nat} {h h' : wide_plus.Hs} (hl : wide_plus.LE h h') : ∀ y0 y1, LeO (wide_plus.j1 k h y0 y1) (wide_plus.j1 (k + 1) h' y0 y1) := fun _ _ => (LeO.ite (hl.l0 _ _ _ _ _ _) (LeO.refl _))
theorem wide_plus.j3_mono {k : Nat} {h h' : wide_plus.Hs} (hl : wide_plus.LE h h') : ∀ y0 y1 y2 y3 y4 y5 y6, LeO (wide_plus.j3 k h y0 y1 y2 y3 y4 y5 y6) (wide_plus.j3 (k + 1) h' y0 y1 y2 y3 y4 y5 y6) := fun _ _ _ _ _ _ _ => (LeO.ite (hl.l0 _ _ _ _ _ _) (LeO.refl _))
theorem wide_plus.b0_mono {k : Nat} {h h' : wide_plus.Hs} (hl : wide_plus.LE h h') : ∀ y0 y1 y2 y3 y4 y5, LeO (wide_plus.b0 k h y0 y1 y2 y3 y4 y5) (wide_plus.b0 (k + 1) h' y0 y1 y2 y3 y4 y5) := fun _ _ _ _ _ _ => (LeO.ite (LeO.ite (LeO.ite (LeO.ite (wide_plus.j3_mono (k := k) hl _ _ _ _ _ _ _) (LeO.refl _)) (wide_plus.j3_mono (k := k) hl _ _ _ _ _ _ _)) (LeO.refl _)) (LeO.ite (LeO.refl _) (LeO.refl _)))
theorem wide_plus.hs_mono : ∀ k, wide_plus.LE (wide_plus.hs k) (wide_plus.hs (k + 1))
 | 0 => ⟨fun _ _ _ _ _ _ => LeO.none _⟩
 | k + 1 => ⟨wide_plus.b0_mono (k := k) (wide_plus.hs_mono k)⟩
theorem wide_plus.mono : ∀ k y0 y1, LeO (wide_plus.f k y0 y1) (wide_plus.f (k + 1) y0 y1) := fun k _ _ => have hl := wide_plus.hs_mono k; by unfold wide_plus.f; exact (LeO.ite (wide_plus.j1_mono (k := k) hl _ _) (wide_plus.j1_mono (k := k) hl _ _))
noncomputable def wide_plus.Kj1 : List Item := .code (seqR (seqR wide_plus.C)) :: []
noncomputable def wide_plus.Kl0 : List Item := .code (lopB (blkB (seqR (seqL (seqR (seqR (seqR (seqR wide_plus.C)))))))) :: .inLoop (lopB (blkB (seqR (seqL (seqR (seqR (seqR (seqR wide_plus.C)))))))) :: .inBlock 0 :: .code (seqR (seqR (seqR (seqR (seqR wide_plus.C))))) :: []
noncomputable def wide_plus.Kj3 : List Item := .code (seqR (seqR (seqR (blkB (seqL (seqR (seqR (lopB (blkB (seqR (seqL (seqR (seqR (seqR (seqR wide_plus.C))))))))))))))) :: .inBlock 1 :: .code (seqR (seqR (seqR (lopB (blkB (seqR (seqL (seqR (seqR (seqR (seqR wide_plus.C))))))))))) :: .inLoop (lopB (blkB (seqR (seqL (seqR (seqR (seqR (seqR wide_plus.C)))))))) :: .inBlock 0 :: .code (seqR (seqR (seqR (seqR (seqR wide_plus.C))))) :: []
structure wide_plus.OK (h : wide_plus.Hs) : Prop where
 l0 : ∀ {H0 H : Hp} {L : Items} {r : (List Int)} {jk_ : Nat → Value} {b : List Int} {out : List Int} {carry : Int} {t21 : List Int} {t22 : Int} {t23 : Int} {v_b : Value} {v_out : Value} {v_t21 : Value} {i_out : Item'} (_ : H0.le H) (_he : h.l0 b out carry t21 t22 t23 = some r) (_h_b : Src (Kd.int .u32) H L v_b b) (_h_out : Sl (Kd.int .u32) H 90 i_out v_out out) (_h_t21 : Src (Kd.int .u32) H L v_t21 t21), Wp Tryz.prog 71 56 wide_plus.Kl0 (upd (upd (upd (upd (upd (upd (upd jk_ 1 (v_b)) 4 (.slice none 0 0)) 5 (v_out)) 6 (.int .u64 carry)) 21 (v_t21)) 22 (.int .i64 t22)) 23 (.int .i64 t23)) H (i_out :: L) (wide_plus.R H0 L r)
theorem wide_plus.j1_ok {k : Nat} {h : wide_plus.Hs} (hh : wide_plus.OK h) {H0 H : Hp} {L : Items} {r : (List Int)} {jk_ : Nat → Value} {a : List Int} {b : List Int} {v_a : Value} {v_b : Value} (hle : H0.le H) (he : wide_plus.j1 k h a b = some r) (h_a : Src (Kd.int .u32) H L v_a a) (h_b : Src (Kd.int .u32) H L v_b b) : Wp Tryz.prog 71 56 wide_plus.Kj1 (upd (upd (upd jk_ 0 (v_a)) 1 (v_b)) 4 (.slice none 0 0)) H (L) (wide_plus.R H0 L r) := by
 unfold wide_plus.j1 at he
 unfold wide_plus.Kj1
 refine w_seq <| w_region rfl <| w_d rfl (d_move (v := v_a) rfl) <| w_d rfl (d_len Tryz.underlying34 rfl h_a) <| w_d rfl (d_add (c := w64 ((a.length : Int) + 1)) rfl rfl rfl) ?_
 obtain ⟨c2, he⟩ := rq he
 refine w_a rfl (o_make' (kd := (Kd.int .u32)) (z0 := 0) Tryz.underlying34 ti90 (zp90 _) rfl rfl (by omega) (by omega) (by omega)) ?_
 rintro v3 _ _ ⟨i4, rfl, rfl, h5⟩
 refine w_d rfl (d_assign (v := v3) rfl) <| w_done <| w_seq <| w_region rfl <| w_d rfl (d_assign (v := .int .u64 0) rfl) <| w_done <| w_seq <| w_seq <| w_region rfl <| w_d rfl (d_move (v := v_a) rfl) <| w_d rfl (d_len Tryz.underlying34 rfl h_a.th) <| w_d rfl (d_move (v := .int .i64 0) rfl) ?_
 refine w_done <| w_block <| w_loop <| w_sl 1 (v_b) rfl <| w_sl 4 (.slice none 0 0) rfl <| w_sl 5 (v3) rfl <| w_sl 6 (.int .u64 0) rfl <| w_sl 21 (v_a) rfl <| w_sl 22 (.int .i64 (a.length : Int)) rfl <| w_sl 23 (.int .i64 0) rfl <| hh.l0 hle he h_b h5 h_a
theorem wide_plus.j3_ok {k : Nat} {h : wide_plus.Hs} (hh : wide_plus.OK h) {H0 H : Hp} {L : Items} {r : (List Int)} {jk_ : Nat → Value} {b : List Int} {out : List Int} {carry : Int} {s : Int} {t21 : List Int} {t22 : Int} {t23 : Int} {v_b : Value} {v_out : Value} {v_t21 : Value} {i_out : Item'} (hle : H0.le H) (he : wide_plus.j3 k h b out carry s t21 t22 t23 = some r) (h_b : Src (Kd.int .u32) H L v_b b) (h_out : Sl (Kd.int .u32) H 90 i_out v_out out) (h_t21 : Src (Kd.int .u32) H L v_t21 t21) : Wp Tryz.prog 71 56 wide_plus.Kj3 (upd (upd (upd (upd (upd (upd (upd (upd jk_ 1 (v_b)) 4 (.slice none 0 0)) 5 (v_out)) 6 (.int .u64 carry)) 9 (.int .u64 s)) 21 (v_t21)) 22 (.int .i64 t22)) 23 (.int .i64 t23)) H (i_out :: L) (wide_plus.R H0 L r) := by
 unfold wide_plus.j3 at he
 unfold wide_plus.Kj3
 refine w_seq <| w_region rfl <| w_d rfl (d_move (v := v_out) rfl) <| w_d rfl (d_move (v := .int .u64 s) rfl) <| w_d rfl (d_conv (c := (s) % 4294967296) Tryz.underlying88 Tryz.underlying90 rfl rfl) <| w_a rfl (o_buildSlice' (kd := (Kd.int .u32)) (css := [[.int .u32 ((s) % 4294967296)]]) (xs := [(s) % 4294967296]) (parts := [(0, .int .u32 ((s) % 4294967296))]) Tryz.underlying34 ti90 rfl ⟨_, _, rfl, rfl, rfl⟩ ⟨rfl, trivial⟩ rfl (by decide)) ?_
 rintro v20 _ _ ⟨i21, rfl, rfl, h22⟩
 obtain ⟨c23, he⟩ := rq he
 refine w_a rfl (o_append' (kd := (Kd.int .u32)) (F := fun z_ => i21 :: z_ :: L) Tryz.underlying34 Tryz.underlying34 ti90 rfl (by first | omega | (simp only [List.nil_append, List.length_cons, List.length_nil]; omega)) rfl rfl h_out (h22.src .here) (fun _ => (.there .here))) ?_
 rintro v24 _ _ ⟨i25, rfl, rfl, h26⟩
 refine w_d rfl (d_assign (v := v24) rfl) <| w_done <| w_region rfl <| w_d rfl (d_move (v := .int .u64 s) rfl) <| w_d rfl (d_shr (c := s / 4294967296) rfl rfl (by decide) rfl) <| w_d rfl (d_assign (v := .int .u64 (s / 4294967296)) rfl) <| w_done <| w_inBlock <| w_region rfl <| w_d rfl (d_add (c := w64 (t23 + 1)) rfl rfl rfl) <| w_d rfl (d_move (v := .int .i64 (w64 (t23 + 1))) rfl) <| w_done ?_
 refine w_inLoop <| w_del .here <| w_sl 1 (v_b) rfl <| w_sl 4 (.slice none 0 0) rfl <| w_sl 5 (v24) rfl <| w_sl 6 (.int .u64 (s / 4294967296)) rfl <| w_sl 21 (v_t21) rfl <| w_sl 22 (.int .i64 t22) rfl <| w_sl 23 (.int .i64 (w64 (t23 + 1))) rfl <| hh.l0 hle he h_b h26 h_t21
theorem wide_plus.b0_ok {k : Nat} {h : wide_plus.Hs} (hh : wide_plus.OK h) {H0 H : Hp} {L : Items} {r : (List Int)} {jk_ : Nat → Value} {b : List Int} {out : List Int} {carry : Int} {t21 : List Int} {t22 : Int} {t23 : Int} {v_b : Value} {v_out : Value} {v_t21 : Value} {i_out : Item'} (hle : H0.le H) (he : wide_plus.b0 k h b out carry t21 t22 t23 = some r) (h_b : Src (Kd.int .u32) H L v_b b) (h_out : Sl (Kd.int .u32) H 90 i_out v_out out) (h_t21 : Src (Kd.int .u32) H L v_t21 t21) : Wp Tryz.prog 71 56 wide_plus.Kl0 (upd (upd (upd (upd (upd (upd (upd jk_ 1 (v_b)) 4 (.slice none 0 0)) 5 (v_out)) 6 (.int .u64 carry)) 21 (v_t21)) 22 (.int .i64 t22)) 23 (.int .i64 t23)) H (i_out :: L) (wide_plus.R H0 L r) := by
 unfold wide_plus.b0 at he
 unfold wide_plus.Kl0
 refine w_seq <| w_region rfl <| w_d rfl (d_lss rfl rfl) <| w_done <| w_seq ?_
 rcases its he with ⟨c6, he⟩ | ⟨c6, he⟩
 ·
  refine w_then rfl (decide_eq_true c6) <| w_skip <| w_seq <| w_block <| w_seq <| w_region rfl <| w_d rfl (d_move (v := .int .i64 t23) rfl) ?_
  obtain ⟨c7, he⟩ := rq he
  refine w_d rfl (d_index (sz := 1) Tryz.underlying34 sz90 rfl h_t21.th rfl c7) <| w_d rfl (d_ldint ty90 rfl h_t21.th c7) <| w_d rfl (d_assign (v := .int .i64 t23) rfl) <| w_d rfl (d_assign (v := .int .u32 (rd t21 t23)) rfl) <| w_done <| w_seq <| w_region rfl <| w_d rfl (d_move (v := .int .u32 (rd t21 t23)) rfl) <| w_d rfl (d_conv (c := (rd t21 t23) % 18446744073709551616) Tryz.underlying90 Tryz.underlying88 rfl rfl) <| w_d rfl (d_move (v := .int .u64 carry) rfl) <| w_d rfl (d_add (c := (((rd t21 t23) % 18446744073709551616) + carry) % 18446744073709551616) rfl rfl rfl) <| w_d rfl (d_assign (v := .int .u64 ((((rd t21 t23) % 18446744073709551616) + carry) % 18446744073709551616)) rfl) ?_
  refine w_done <| w_seq <| w_seq <| w_region rfl <| w_d rfl (d_move (v := .int .i64 t23) rfl) <| w_d rfl (d_move (v := v_b) rfl) <| w_d rfl (d_len Tryz.underlying34 rfl h_b.th) <| w_d rfl (d_lss rfl rfl) <| w_done ?_
  rcases its he with ⟨c8, he⟩ | ⟨c8, he⟩
  ·
   refine w_then rfl (decide_eq_true c8) <| w_region rfl <| w_d rfl (d_move (v := .int .u64 ((((rd t21 t23) % 18446744073709551616) + carry) % 18446744073709551616)) rfl) <| w_d rfl (d_move (v := v_b) rfl) <| w_d rfl (d_move (v := .int .i64 t23) rfl) ?_
   obtain ⟨c9, he⟩ := rq he
   refine w_d rfl (d_index (sz := 1) Tryz.underlying34 sz90 rfl h_b.th rfl c9) <| w_d rfl (d_ldint ty90 rfl h_b.th c9) <| w_d rfl (d_conv (c := (rd b t23) % 18446744073709551616) Tryz.underlying90 Tryz.underlying88 rfl rfl) <| w_d rfl (d_add (c := (((((rd t21 t23) % 18446744073709551616) + carry) % 18446744073709551616) + ((rd b t23) % 18446744073709551616)) % 18446744073709551616) rfl rfl rfl) <| w_d rfl (d_assign (v := .int .u64 ((((((rd t21 t23) % 18446744073709551616) + carry) % 18446744073709551616) + ((rd b t23) % 18446744073709551616)) % 18446744073709551616)) rfl) <| w_done <| w_sl 1 (v_b) rfl <| w_sl 4 (.slice none 0 0) rfl <| w_sl 5 (v_out) rfl <| w_sl 6 (.int .u64 carry) rfl <| w_sl 9 (.int .u64 ((((((rd t21 t23) % 18446744073709551616) + carry) % 18446744073709551616) + ((rd b t23) % 18446744073709551616)) % 18446744073709551616)) rfl <| w_sl 21 (v_t21) rfl ?_
   refine w_sl 22 (.int .i64 t22) rfl <| w_sl 23 (.int .i64 t23) rfl <| wide_plus.j3_ok (k := k) hh hle he h_b h_out h_t21
  ·
   refine w_else rfl (decide_eq_false c8) <| w_skip <| w_sl 1 (v_b) rfl <| w_sl 4 (.slice none 0 0) rfl <| w_sl 5 (v_out) rfl <| w_sl 6 (.int .u64 carry) rfl <| w_sl 9 (.int .u64 ((((rd t21 t23) % 18446744073709551616) + carry) % 18446744073709551616)) rfl <| w_sl 21 (v_t21) rfl <| w_sl 22 (.int .i64 t22) rfl <| w_sl 23 (.int .i64 t23) rfl <| wide_plus.j3_ok (k := k) hh hle he h_b h_out h_t21
 ·
  refine w_else rfl (decide_eq_false c6) <| w_exit rfl <| w_seq <| w_region rfl <| w_d rfl (d_move (v := v_out) rfl) <| w_d rfl (d_move (v := .int .u64 carry) rfl) <| w_d rfl (d_conv (c := (carry) % 4294967296) Tryz.underlying88 Tryz.underlying90 rfl rfl) <| w_a rfl (o_buildSlice' (kd := (Kd.int .u32)) (css := [[.int .u32 ((carry) % 4294967296)]]) (xs := [(carry) % 4294967296]) (parts := [(0, .int .u32 ((carry) % 4294967296))]) Tryz.underlying34 ti90 rfl ⟨_, _, rfl, rfl, rfl⟩ ⟨rfl, trivial⟩ rfl (by decide)) ?_
  rintro v10 _ _ ⟨i11, rfl, rfl, h12⟩
  obtain ⟨c13, he⟩ := rq he
  refine w_a rfl (o_append' (kd := (Kd.int .u32)) (F := fun z_ => i11 :: z_ :: L) Tryz.underlying34 Tryz.underlying34 ti90 rfl (by first | omega | (simp only [List.nil_append, List.length_cons, List.length_nil]; omega)) rfl rfl h_out (h12.src .here) (fun _ => (.there .here))) ?_
  rintro v14 _ _ ⟨i15, rfl, rfl, h16⟩
  refine w_d rfl (d_assign (v := v14) rfl) <| w_done <| w_freeze h16 (.there .here) ?_
  intro H17 e18 h19
  obtain rfl := Option.some.inj he
  refine w_return fn_71 rs_71 (.tmp (v := v14) rfl .nil) <| ⟨⟨[_, _], rfl⟩, hle.trans e18, h19⟩
theorem wide_plus.ok : ∀ k, wide_plus.OK (wide_plus.hs k)
 | 0 => ⟨(by intros; exact nomatch (show none = some _ from by assumption))⟩
 | k + 1 => ⟨wide_plus.b0_ok (k := k) (wide_plus.ok k)⟩
theorem wide_plus.calls (k : Nat) {H : Hp} {L : Items} {a : List Int} {b : List Int} {v0_a : Value} {v1_b : Value} {r : (List Int)} (he : wide_plus.f k a b = some r) (h0_a : Src (Kd.int .u32) H L v0_a a) (h1_b : Src (Kd.int .u32) H L v1_b b) : Ct Tryz.prog 71 ⟨[v0_a, v1_b]⟩ H L (fun v H' L' => L = L' ∧ H.le H' ∧ wide_plus.out r H' v) := by
 refine ct_out (O := wide_plus.out r) ?_
 have hle : H.le H := .refl _
 have hh := wide_plus.ok k
 unfold wide_plus.f at he
 refine ct_enter (args := [v0_a, v1_b]) fn_71 rfl nt_71 rfl <| w_seq <| w_region rfl <| w_d rfl (d_assign (v := .slice none 0 0) rfl) <| w_done <| w_seq <| w_seq <| w_region rfl <| w_d rfl (d_move (v := v0_a) rfl) <| w_d rfl (d_len Tryz.underlying34 rfl h0_a) <| w_d rfl (d_move (v := v1_b) rfl) <| w_d rfl (d_len Tryz.underlying34 rfl h1_b) ?_
 refine w_d rfl (d_lss rfl rfl) <| w_done ?_
 rcases its he with ⟨c1, he⟩ | ⟨c1, he⟩
 ·
  refine w_then rfl (decide_eq_true c1) <| w_region rfl <| w_d rfl (d_move (v := v1_b) rfl) <| w_d rfl (d_move (v := v0_a) rfl) <| w_d rfl (d_assign (v := v1_b) rfl) <| w_d rfl (d_assign (v := v0_a) rfl) <| w_done <| w_sl 0 (v1_b) rfl <| w_sl 1 (v0_a) rfl <| w_sl 4 (.slice none 0 0) rfl <| wide_plus.j1_ok (k := k) hh hle he h1_b h0_a
 ·
  refine w_else rfl (decide_eq_false c1) <| w_skip <| w_sl 0 (v0_a) rfl <| w_sl 1 (v1_b) rfl <| w_sl 4 (.slice none 0 0) rfl <| wide_plus.j1_ok (k := k) hh hle he h0_a h1_b
/-! ### radome/wide.made -/
noncomputable def wide_made.C : Code := (Tryz.f61.body).getD .skip
def wide_made.out (r : wide_Int × (Option Int)) (H : Hp) (v : Value) : Prop := ∃ v0, v = .tuple ⟨[.agg ⟨[.bool r.1.f_neg, v0]⟩, errV 71 r.2]⟩ ∧ Ro (Kd.int .u32) H v0 r.1.f_w
theorem wide_made.out_mono (r : wide_Int × (Option Int)) {H H' : Hp} {v : Value} (hle : H.le H') (h : wide_made.out r H v) : wide_made.out r H' v := by
 obtain ⟨v0, rfl, h0⟩ := h; exact ⟨v0, rfl, h0.mono hle⟩
abbrev wide_made.R (H0 : Hp) (L : Items) (r : wide_Int × (Option Int)) : Value → Hp → Items → Prop := fun v H' L' => (∃ p, L' = p ++ L) ∧ H0.le H' ∧ wide_made.out r H' v
noncomputable def wide_made.f (k : Nat) (neg : Bool) (w : List Int) : Option (wide_Int × (Option Int)) := (wide_trim.f k w).bind fun y2 => if 128 < (y2.length : Int) then (some ((⟨false, []⟩ : wide_Int), some 12)) else (some ((⟨neg && (decide (0 < (y2.length : Int))), y2⟩ : wide_Int), none))
theorem wide_made.mono : ∀ k y0 y1, LeO (wide_made.f k y0 y1) (wide_made.f (k + 1) y0 y1) := fun k _ _ => by unfold wide_made.f; exact (LeO.bind (wide_trim.mono k _) fun _ => LeO.ite (LeO.refl _) (LeO.refl _))
theorem wide_made.calls (k : Nat) {H : Hp} {L : Items} {neg : Bool} {w : List Int} {v0_w : Value} {r : wide_Int × (Option Int)} (he : wide_made.f k neg w = some r) (h0_w : Ro (Kd.int .u32) H v0_w w) : Ct Tryz.prog 61 ⟨[.bool neg, v0_w]⟩ H L (fun v H' L' => L = L' ∧ H.le H' ∧ wide_made.out r H' v) := by
 refine ct_out (O := wide_made.out r) ?_
 have hle : H.le H := .refl _
 unfold wide_made.f at he
 refine ct_enter (args := [.bool neg, v0_w]) fn_61 rfl nt_61 rfl <| w_seq <| w_region rfl <| w_a rfl (o_alloc zr36 rfl) ?_
 rintro _ _ _ ⟨b1, rfl, rfl, rfl⟩
 refine w_d rfl (d_assign (v := errV 71 none) rfl) <| w_done <| w_seq <| w_region rfl <| w_d rfl (d_move (v := v0_w) rfl) ?_
 obtain ⟨y2, hy3, he⟩ := Option.bind_eq_some_iff.1 he
 refine w_a rfl (o_call co47 (vs := [v0_w]) rfl (wide_trim.calls k hy3 h0_w)) ?_
 rintro v6 H4 _ ⟨rfl, e5, h7⟩
 refine w_d rfl (d_assign (v := v6) rfl) <| w_done <| w_seq <| w_seq <| w_region rfl <| w_d rfl (d_move (v := v6) rfl) <| w_d rfl (d_len Tryz.underlying34 rfl h7.src) <| w_d rfl (d_gtr rfl rfl) <| w_done ?_
 rcases its he with ⟨c8, he⟩ | ⟨c8, he⟩
 ·
  refine w_then rfl (decide_eq_true c8) <| w_seq <| w_region rfl <| w_d rfl (d_build (cs' := [.bool false, .slice none 0 0]) Tryz.underlying36 zr36 rfl (by kernel_rfl) (parts := []) rfl .nil) <| w_d rfl (d_iface (v := .int .i64 12) Tryz.underlying71 rfl rfl) <| w_a0 rfl (o_store (v := .agg ⟨[.bool false, .slice none 0 0]⟩) sz36 rfl rfl rfl rfl (one_cons rfl (one_cons rfl one_nil)) .here (.here (.here .done))) ?_
  rintro _ _ _ ⟨rfl, rfl, rfl⟩
  refine w_d rfl (d_assign (v := errV 71 (some 12)) rfl) <| w_done ?_
  obtain rfl := Option.some.inj he
  refine w_return fn_61 rs_61 (.box (v := .agg ⟨[.bool false, .slice none 0 0]⟩) rfl ty36 rfl rfl .here rfl (.tmp (v := errV 71 (some 12)) rfl .nil)) <| ⟨⟨[_], rfl⟩, hle.trans e5, ⟨.slice none 0 0, rfl, (ro_nil _ _)⟩⟩
 ·
  refine w_else rfl (decide_eq_false c8) <| w_skip <| w_seq <| w_region rfl <| w_d rfl (d_move (v := .bool neg) rfl) <| w_d rfl (d_move (v := .bool neg) rfl) <| w_g (g := neg) rfl rfl rfl wn_t (fun g9 => d_move (v := v6) rfl) <| w_g (g := neg) rfl rfl rfl wn_t (fun g10 => d_len Tryz.underlying34 (cvt g10) h7.src) <| w_g (g := neg) rfl rfl rfl wn_t (fun g11 => d_gtr (cvt g11) rfl) <| w_d rfl (d_and' (b := neg) (p := (decide (0 < (y2.length : Int)))) rfl rfl rfl) <| w_d rfl (d_move (v := v6) rfl) <| w_d rfl (d_build (cs' := [.bool (neg && (decide (0 < (y2.length : Int)))), v6]) Tryz.underlying36 zr36 rfl (by kernel_rfl) (parts := [(0, .bool (neg && (decide (0 < (y2.length : Int))))), (1, v6)]) rfl (.cons (place_of rfl sz4 rfl) rfl rfl (.here .done) (.cons (place_of rfl sz34 rfl) h7.cells rfl (.there (.here .done)) .nil))) ?_
  refine w_a0 rfl (o_store (v := .agg ⟨[.bool (neg && (decide (0 < (y2.length : Int)))), v6]⟩) sz36 rfl rfl rfl rfl (one_cons rfl (one_cons (h7.one) one_nil)) .here (.here (.here .done))) ?_
  rintro _ _ _ ⟨rfl, rfl, rfl⟩
  refine w_d rfl (d_assign (v := errV 71 none) rfl) <| w_done ?_
  obtain rfl := Option.some.inj he
  refine w_return fn_61 rs_61 (.box (v := .agg ⟨[.bool (neg && (decide (0 < (y2.length : Int)))), v6]⟩) rfl ty36 rfl rfl .here rfl (.tmp (v := errV 71 none) rfl .nil)) <| ⟨⟨[_], rfl⟩, hle.trans e5, ⟨v6, rfl, h7⟩⟩
end Go.Proofs.YtmnhbbckndlnkaaGreatDoor.GRN

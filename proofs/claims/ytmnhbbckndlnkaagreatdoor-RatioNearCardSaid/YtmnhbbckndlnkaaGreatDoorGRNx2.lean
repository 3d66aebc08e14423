/- A text of this session, written by a program (wip/k/gen.py): Go functions as Lean functions, and proofs that the code comes to them. -/
import Derived.Test.YtmnhbbckndlnkaaGreatDoorGRNx1
namespace Go.Proofs.YtmnhbbckndlnkaaGreatDoor.GRN
open Go Go.RowKit Go.Proofs.YtmnhbbckndlnkaaGreatDoorK Go.Proofs.YtmnhbbckndlnkaaGreatDoor
set_option maxRecDepth 100000
set_option maxHeartbeats 2000000
set_option linter.unusedVariables false
set_option linter.unusedSimpArgs false
/-! ### radome/wide.Parse -/
noncomputable def wide_Parse.C : Code := (Tryz.f59.body).getD .skip
def wide_Parse.out (r : wide_Int × (Option Int)) (H : Hp) (v : Value) : Prop := ∃ v0, v = .tuple ⟨[.agg ⟨[.bool r.1.f_neg, v0]⟩, errV 71 r.2]⟩ ∧ Ro (Kd.int .u32) H v0 r.1.f_w
theorem wide_Parse.out_mono (r : wide_Int × (Option Int)) {H H' : Hp} {v : Value} (hle : H.le H') (h : wide_Parse.out r H v) : wide_Parse.out r H' v := by
 obtain ⟨v0, rfl, h0⟩ := h; exact ⟨v0, rfl, h0.mono hle⟩
abbrev wide_Parse.R (H0 : Hp) (L : Items) (r : wide_Int × (Option Int)) : Value → Hp → Items → Prop := fun v H' L' => (∃ p, L' = p ++ L) ∧ H0.le H' ∧ wide_Parse.out r H' v
structure wide_Parse.Hs where
 l0 : Bool → (List Int) → (List Int) → Int → Int → Option (wide_Int × (Option Int))
noncomputable def wide_Parse.j1 (k : Nat) (h : wide_Parse.Hs)  (t : ByteArray) (neg : Bool) : Option (wide_Int × (Option Int)) := (wide_digits.f k t).bind fun y8 => if ((!y8) || (neg && (decide (t = str_2)))) = true then (some ((⟨false, []⟩ : wide_Int), some 3)) else (h.l0 neg [] (bytesOf t) ((bytesOf t).length : Int) 0)
noncomputable def wide_Parse.b0 (k : Nat) (h : wide_Parse.Hs)  (neg : Bool) (w : List Int) (t34 : List Int) (t35 : Int) (t36 : Int) : Option (wide_Int × (Option Int)) := if t36 < t35 then (if (0 : Int) ≤ t36 ∧ t36 < (t34.length : Int) then ((wide_times.f k w [10]).bind fun y27 => (wide_trim.f k [(((rd t34 t36) - 48) % 256) % 4294967296]).bind fun y39 => (wide_plus.f k y27 y39).bind fun y45 => (wide_trim.f k y45).bind fun y51 => h.l0 neg y51 t34 t35 (w64 (t36 + 1))) else none) else ((wide_made.f k neg w).bind fun y57 => some ((⟨y57.1.f_neg, y57.1.f_w⟩ : wide_Int), y57.2))
noncomputable def wide_Parse.hs : Nat → wide_Parse.Hs
 | 0 => ⟨fun _ _ _ _ _ => none⟩
 | k + 1 => ⟨fun x0 x1 x2 x3 x4 => wide_Parse.b0 k (wide_Parse.hs k) x0 x1 x2 x3 x4⟩
noncomputable def wide_Parse.f (k : Nat) (s : ByteArray) : Option (wide_Int × (Option Int)) := (fun h : wide_Parse.Hs => if (decide (1 < (s.size : Int))) = true → (0 : Int) ≤ 0 ∧ 0 < (s.size : Int) then (if ((decide (1 < (s.size : Int))) && (decide ((bt s 0) = 45))) = true then (if (0 : Int) ≤ 1 ∧ (1 : Int) ≤ (s.size : Int) ∧ (s.size : Int) ≤ (s.size : Int) then (wide_Parse.j1 k h (scut s 1 (s.size : Int)) ((decide (1 < (s.size : Int))) && (decide ((bt s 0) = 45)))) else none) else (wide_Parse.j1 k h s ((decide (1 < (s.size : Int))) && (decide ((bt s 0) = 45))))) else none) (wide_Parse.hs k)
structure wide_Parse.LE (h h' : wide_Parse.Hs) : Prop where
 l0 : ∀ y0 y1 y2 y3 y4, LeO (h.l0 y0 y1 y2 y3 y4) (h'.l0 y0 y1 y2 y3 y4)
theorem wide_Parse.j1_mono {k : Nat} {h h' : wide_Parse.Hs} (hl : wide_Parse.LE h h') : ∀ y0 y1, LeO (wide_Parse.j1 k h y0 y1) (wide_Parse.j1 (k + 1) h' y0 y1) := fun _ _ => (LeO.bind (wide_digits.mono k _) fun _ => LeO.ite (LeO.refl _) (hl.l0 _ _ _ _ _))
theorem wide_Parse.b0_mono {k : Nat} {h h' : wide_Parse.Hs} (hl : wide_Parse.LE h h') : ∀ y0 y1 y2 y3 y4, LeO (wide_Parse.b0 k h y0 y1 y2 y3 y4) (wide_Parse.b0 (k + 1) h' y0 y1 y2 y3 y4) := fun _ _ _ _ _ => (LeO.ite (LeO.ite (LeO.bind (wide_times.mono k _ _) fun _ => LeO.bind (wide_trim.mono k _) fun _ => LeO.bind (wide_plus.mono k _ _) fun _ => LeO.bind (wide_trim.mono k _) fun _ => hl.l0 _ _ _ _ _) (LeO.refl _)) (LeO.bind (wide_made.mono k _ _) fun _ => LeO.refl _))
theorem wide_Parse.hs_mono : ∀ k, wide_Parse.LE (wide_Parse.hs k) (wide_Parse.hs (k + 1))
 | 0 => ⟨fun _ _ _ _ _ => LeO.none _⟩
 | k + 1 => ⟨wide_Parse.b0_mono (k := k) (wide_Parse.hs_mono k)⟩
theorem wide_Parse.mono : ∀ k y0, LeO (wide_Parse.f k y0) (wide_Parse.f (k + 1) y0) := fun k _ => have hl := wide_Parse.hs_mono k; by unfold wide_Parse.f; exact (LeO.ite (LeO.ite (LeO.ite (wide_Parse.j1_mono (k := k) hl _ _) (LeO.refl _)) (wide_Parse.j1_mono (k := k) hl _ _)) (LeO.refl _))
noncomputable def wide_Parse.Kj1 : List Item := .code (seqR (seqR (seqR (seqR wide_Parse.C)))) :: []
noncomputable def wide_Parse.Kl0 : List Item := .code (lopB (blkB (seqR (seqL (seqR (seqR (seqR (seqR (seqR (seqR wide_Parse.C)))))))))) :: .inLoop (lopB (blkB (seqR (seqL (seqR (seqR (seqR (seqR (seqR (seqR wide_Parse.C)))))))))) :: .inBlock 0 :: .code (seqR (seqR (seqR (seqR (seqR (seqR (seqR wide_Parse.C))))))) :: []
structure wide_Parse.OK (h : wide_Parse.Hs) : Prop where
 l0 : ∀ {H0 H : Hp} {L : Items} {r : wide_Int × (Option Int)} {jk_ : Nat → Value} {neg : Bool} {w : List Int} {t34 : List Int} {t35 : Int} {t36 : Int} {v_w : Value} {v_t34 : Value} {b_t2 : Nat} (_ : H0.le H) (_he : h.l0 neg w t34 t35 t36 = some r) (_h_w : Ro (Kd.int .u32) H v_w w) (_h_t34 : Ro (Kd.int .u8) H v_t34 t34), Wp Tryz.prog 59 56 wide_Parse.Kl0 (upd (upd (upd (upd (upd (upd (upd jk_ 2 (.pointer (some ⟨b_t2, 0, none⟩))) 3 (errV 71 none)) 5 (.bool neg)) 6 (v_w)) 34 (v_t34)) 35 (.int .i64 t35)) 36 (.int .i64 t36)) H (some (b_t2, .cells ⟨[.bool false, .slice none 0 0]⟩ 36 (0, 0)) :: L) (wide_Parse.R H0 L r)
theorem wide_Parse.j1_ok {k : Nat} {h : wide_Parse.Hs} (hh : wide_Parse.OK h) {H0 H : Hp} {L : Items} {r : wide_Int × (Option Int)} {jk_ : Nat → Value} {t : ByteArray} {neg : Bool} {b_t2 : Nat} (hle : H0.le H) (he : wide_Parse.j1 k h t neg = some r) : Wp Tryz.prog 59 56 wide_Parse.Kj1 (upd (upd (upd (upd jk_ 2 (.pointer (some ⟨b_t2, 0, none⟩))) 3 (errV 71 none)) 4 (.string t)) 5 (.bool neg)) H (some (b_t2, .cells ⟨[.bool false, .slice none 0 0]⟩ 36 (0, 0)) :: L) (wide_Parse.R H0 L r) := by
 unfold wide_Parse.j1 at he
 unfold wide_Parse.Kj1
 refine w_seq <| w_seq <| w_region rfl <| w_d rfl (d_move (v := .string t) rfl) ?_
 obtain ⟨y8, hy9, he⟩ := Option.bind_eq_some_iff.1 he
 refine w_d rfl (call_d (o_call co85 (vs := [.string t]) rfl (wide_digits.calls k hy9))) <| w_d rfl (d_not (b := y8) rfl) <| w_d rfl (d_move (v := .bool (!y8)) rfl) <| w_g (g := !(!y8)) rfl rfl rfl wn_f (fun g12 => d_move (v := .bool neg) rfl) <| w_g (g := !(!y8)) rfl rfl rfl wn_f (fun g13 => d_move (v := .bool neg) (cvt g13)) <| w_g (g := (!(!y8)) && neg) rfl rfl rfl wn_gt (fun g14 => d_move (v := .string t) rfl) <| w_g (g := (!(!y8)) && neg) rfl rfl rfl wn_gt (fun g15 => d_eqs (cvt g15) rfl) <| w_g (g := !(!y8)) rfl rfl rfl wn_f (fun g16 => d_and' (b := neg) (p := (decide (t = str_2))) (cvt g16) (cva g16) rfl) <| w_d rfl (d_or' (b := (!y8)) (p := (neg && (decide (t = str_2)))) rfl rfl rfl) <| w_done ?_
 rcases its he with ⟨c17, he⟩ | ⟨c17, he⟩
 ·
  refine w_then rfl c17 <| w_seq <| w_region rfl <| w_d rfl (d_build (cs' := [.bool false, .slice none 0 0]) Tryz.underlying36 zr36 rfl (by kernel_rfl) (parts := []) rfl .nil) <| w_d rfl (d_iface (v := .int .i64 3) Tryz.underlying71 rfl rfl) <| w_a0 rfl (o_store (v := .agg ⟨[.bool false, .slice none 0 0]⟩) sz36 rfl rfl rfl rfl (one_cons rfl (one_cons rfl one_nil)) .here (.here (.here .done))) ?_
  rintro _ _ _ ⟨rfl, rfl, rfl⟩
  refine w_d rfl (d_assign (v := errV 71 (some 3)) rfl) <| w_done ?_
  obtain rfl := Option.some.inj he
  refine w_return fn_59 rs_59 (.box (v := .agg ⟨[.bool false, .slice none 0 0]⟩) rfl ty36 rfl rfl .here rfl (.tmp (v := errV 71 (some 3)) rfl .nil)) <| ⟨⟨[_], rfl⟩, hle, ⟨.slice none 0 0, rfl, (ro_nil _ _)⟩⟩
 ·
  refine w_else rfl (Bool.eq_false_iff.2 c17) <| w_skip <| w_seq <| w_region rfl <| w_d rfl (d_assign (v := .slice none 0 0) rfl) <| w_done <| w_seq <| w_seq <| w_region rfl <| w_d rfl (d_move (v := .string t) rfl) <| w_a rfl (o_bytes Tryz.underlying9 Tryz.underlying22 Tryz.underlying5 rfl) ?_
  rintro v18 H19 _ ⟨rfl, e20, h21⟩
  refine w_d rfl (d_len Tryz.underlying22 rfl h21.src) <| w_d rfl (d_move (v := .int .i64 0) rfl) <| w_done <| w_block <| w_loop <| w_sl 2 (.pointer (some ⟨b_t2, 0, none⟩)) rfl <| w_sl 3 (errV 71 none) rfl <| w_sl 5 (.bool neg) rfl <| w_sl 6 (.slice none 0 0) rfl <| w_sl 34 (v18) rfl <| w_sl 35 (.int .i64 ((bytesOf t).length : Int)) rfl <| w_sl 36 (.int .i64 0) rfl <| hh.l0 (hle.trans e20) he (ro_nil _ _) h21
theorem wide_Parse.b0_ok {k : Nat} {h : wide_Parse.Hs} (hh : wide_Parse.OK h) {H0 H : Hp} {L : Items} {r : wide_Int × (Option Int)} {jk_ : Nat → Value} {neg : Bool} {w : List Int} {t34 : List Int} {t35 : Int} {t36 : Int} {v_w : Value} {v_t34 : Value} {b_t2 : Nat} (hle : H0.le H) (he : wide_Parse.b0 k h neg w t34 t35 t36 = some r) (h_w : Ro (Kd.int .u32) H v_w w) (h_t34 : Ro (Kd.int .u8) H v_t34 t34) : Wp Tryz.prog 59 56 wide_Parse.Kl0 (upd (upd (upd (upd (upd (upd (upd jk_ 2 (.pointer (some ⟨b_t2, 0, none⟩))) 3 (errV 71 none)) 5 (.bool neg)) 6 (v_w)) 34 (v_t34)) 35 (.int .i64 t35)) 36 (.int .i64 t36)) H (some (b_t2, .cells ⟨[.bool false, .slice none 0 0]⟩ 36 (0, 0)) :: L) (wide_Parse.R H0 L r) := by
 unfold wide_Parse.b0 at he
 unfold wide_Parse.Kl0
 refine w_seq <| w_region rfl <| w_d rfl (d_lss rfl rfl) <| w_done <| w_seq ?_
 rcases its he with ⟨c22, he⟩ | ⟨c22, he⟩
 ·
  refine w_then rfl (decide_eq_true c22) <| w_skip <| w_seq <| w_block <| w_seq <| w_region rfl ?_
  obtain ⟨c23, he⟩ := rq he
  refine w_d rfl (d_index (sz := 1) Tryz.underlying22 sz5 rfl h_t34.src rfl c23) <| w_d rfl (d_ldint ty5 rfl h_t34.src c23) <| w_d rfl (d_assign (v := .int .u8 (rd t34 t36)) rfl) <| w_done <| w_region rfl <| w_d rfl (d_move (v := v_w) rfl) <| w_a rfl (o_buildSlice' (kd := (Kd.int .u32)) (css := [[.int .u32 10]]) (xs := [10]) (parts := [(0, .int .u32 10)]) Tryz.underlying34 ti90 rfl ⟨_, _, rfl, rfl, rfl⟩ ⟨rfl, trivial⟩ rfl (by decide)) ?_
  rintro v24 _ _ ⟨i25, rfl, rfl, h26⟩
  obtain ⟨y27, hy28, he⟩ := Option.bind_eq_some_iff.1 he
  refine w_a rfl (o_call co86 (vs := [v_w, v24]) rfl (wide_times.calls k hy28 h_w.src (h26.src .here))) ?_
  rintro v31 H29 _ ⟨rfl, e30, h32⟩
  refine w_d rfl (d_move (v := .int .u8 (rd t34 t36)) rfl) <| w_d rfl (d_sub (c := ((rd t34 t36) - 48) % 256) rfl rfl rfl) <| w_d rfl (d_conv (c := (((rd t34 t36) - 48) % 256) % 4294967296) Tryz.underlying5 Tryz.underlying90 rfl rfl) <| w_a rfl (o_buildSlice' (kd := (Kd.int .u32)) (css := [[.int .u32 ((((rd t34 t36) - 48) % 256) % 4294967296)]]) (xs := [(((rd t34 t36) - 48) % 256) % 4294967296]) (parts := [(0, .int .u32 ((((rd t34 t36) - 48) % 256) % 4294967296))]) Tryz.underlying34 ti90 rfl ⟨_, _, rfl, rfl, rfl⟩ ⟨rfl, trivial⟩ rfl (by decide)) ?_
  rintro v33 _ _ ⟨i34, rfl, rfl, h35⟩
  refine w_freeze h35 .here ?_
  intro H36 e37 h38
  obtain ⟨y39, hy40, he⟩ := Option.bind_eq_some_iff.1 he
  refine w_a rfl (o_call co47 (vs := [v33]) rfl (wide_trim.calls k hy40 h38)) ?_
  rintro v43 H41 _ ⟨rfl, e42, h44⟩
  obtain ⟨y45, hy46, he⟩ := Option.bind_eq_some_iff.1 he
  refine w_a rfl (o_call co71 (vs := [v31, v43]) rfl (wide_plus.calls k hy46 ((h32.mono (e37.trans e42)).src) h44.src)) ?_
  rintro v49 H47 _ ⟨rfl, e48, h50⟩
  obtain ⟨y51, hy52, he⟩ := Option.bind_eq_some_iff.1 he
  refine w_a rfl (o_call co47 (vs := [v49]) rfl (wide_trim.calls k hy52 h50)) ?_
  rintro v55 H53 _ ⟨rfl, e54, h56⟩
  refine w_d rfl (d_assign (v := v55) rfl) <| w_done <| w_inBlock <| w_region rfl <| w_d rfl (d_add (c := w64 (t36 + 1)) rfl rfl rfl) <| w_d rfl (d_move (v := .int .i64 (w64 (t36 + 1))) rfl) <| w_done <| w_inLoop <| w_del (.there .here) <| w_del .here <| w_sl 2 (.pointer (some ⟨b_t2, 0, none⟩)) rfl <| w_sl 3 (errV 71 none) rfl ?_
  refine w_sl 5 (.bool neg) rfl <| w_sl 6 (v55) rfl <| w_sl 34 (v_t34) rfl <| w_sl 35 (.int .i64 t35) rfl <| w_sl 36 (.int .i64 (w64 (t36 + 1))) rfl <| hh.l0 (hle.trans ((((e30.trans e37).trans e42).trans e48).trans e54)) he h56 (h_t34.mono ((((e30.trans e37).trans e42).trans e48).trans e54))
 ·
  refine w_else rfl (decide_eq_false c22) <| w_exit rfl <| w_seq <| w_region rfl <| w_d rfl (d_move (v := .bool neg) rfl) <| w_d rfl (d_move (v := v_w) rfl) ?_
  obtain ⟨y57, hy58, he⟩ := Option.bind_eq_some_iff.1 he
  refine w_a rfl (o_call co61 (vs := [.bool neg, v_w]) rfl (wide_made.calls k hy58 h_w)) ?_
  rintro _ H59 _ ⟨rfl, e60, ⟨v61, rfl, h62⟩⟩
  refine w_d rfl (d_ext (vs := [.agg ⟨[.bool y57.1.f_neg, v61]⟩, errV 71 y57.2]) rfl rfl) <| w_d rfl (d_ext (vs := [.agg ⟨[.bool y57.1.f_neg, v61]⟩, errV 71 y57.2]) rfl rfl) <| w_a0 rfl (o_store (v := .agg ⟨[.bool y57.1.f_neg, v61]⟩) sz36 rfl rfl rfl rfl (one_cons rfl (one_cons (h62.one) one_nil)) .here (.here (.here .done))) ?_
  rintro _ _ _ ⟨rfl, rfl, rfl⟩
  refine w_d rfl (d_assign (v := errV 71 y57.2) rfl) <| w_done ?_
  obtain rfl := Option.some.inj he
  refine w_return fn_59 rs_59 (.box (v := .agg ⟨[.bool y57.1.f_neg, v61]⟩) rfl ty36 rfl rfl .here rfl (.tmp (v := errV 71 y57.2) rfl .nil)) <| ⟨⟨[_], rfl⟩, hle.trans e60, ⟨v61, rfl, h62⟩⟩
theorem wide_Parse.ok : ∀ k, wide_Parse.OK (wide_Parse.hs k)
 | 0 => ⟨(by intros; exact nomatch (show none = some _ from by assumption))⟩
 | k + 1 => ⟨wide_Parse.b0_ok (k := k) (wide_Parse.ok k)⟩
theorem wide_Parse.calls (k : Nat) {H : Hp} {L : Items} {s : ByteArray} {r : wide_Int × (Option Int)} (he : wide_Parse.f k s = some r) : Ct Tryz.prog 59 ⟨[.string s]⟩ H L (fun v H' L' => L = L' ∧ H.le H' ∧ wide_Parse.out r H' v) := by
 refine ct_out (O := wide_Parse.out r) ?_
 have hle : H.le H := .refl _
 have hh := wide_Parse.ok k
 unfold wide_Parse.f at he
 refine ct_enter (args := [.string s]) fn_59 rfl nt_59 rfl <| w_seq <| w_region rfl <| w_a rfl (o_alloc zr36 rfl) ?_
 rintro _ _ _ ⟨b1, rfl, rfl, rfl⟩
 refine w_d rfl (d_assign (v := errV 71 none) rfl) <| w_done <| w_seq <| w_region rfl <| w_d rfl (d_move (v := .string s) rfl) <| w_d rfl (d_assign (v := .string s) rfl) <| w_done <| w_seq <| w_region rfl <| w_d rfl (d_move (v := .string s) rfl) <| w_d rfl (d_lens Tryz.underlying9 rfl) <| w_d rfl (d_gtr rfl rfl) ?_
 refine w_d rfl (d_move (v := .bool (decide (1 < (s.size : Int)))) rfl) <| w_g (g := decide (1 < (s.size : Int))) rfl rfl rfl wn_t (fun g2 => d_move (v := .string s) rfl) ?_
 obtain ⟨c4, he⟩ := rq he
 refine w_g (g := decide (1 < (s.size : Int))) rfl rfl rfl wn_t (fun g3 => d_bt Tryz.underlying9 (cvt g3) rfl (c4 g3)) <| w_g (g := decide (1 < (s.size : Int))) rfl rfl rfl wn_t (fun g5 => d_eql (cvt g5) rfl) <| w_d rfl (d_and' (b := (decide (1 < (s.size : Int)))) (p := (decide ((bt s 0) = 45))) rfl rfl rfl) <| w_d rfl (d_assign (v := .bool ((decide (1 < (s.size : Int))) && (decide ((bt s 0) = 45)))) rfl) <| w_done <| w_seq <| w_seq <| w_region rfl <| w_d rfl (d_move (v := .bool ((decide (1 < (s.size : Int))) && (decide ((bt s 0) = 45)))) rfl) <| w_done ?_
 rcases its he with ⟨c6, he⟩ | ⟨c6, he⟩
 ·
  refine w_then rfl c6 <| w_region rfl <| w_d rfl (d_move (v := .string s) rfl) ?_
  obtain ⟨c7, he⟩ := rq he
  refine w_d rfl (d_scut Tryz.underlying9 rfl (.inr ⟨_, _, rfl, rfl⟩) (.inl ⟨rfl, rfl⟩) c7) <| w_d rfl (d_assign (v := .string (scut s 1 (s.size : Int))) rfl) <| w_done <| w_sl 2 (.pointer (some ⟨b1, 0, none⟩)) rfl <| w_sl 3 (errV 71 none) rfl <| w_sl 4 (.string (scut s 1 (s.size : Int))) rfl <| w_sl 5 (.bool ((decide (1 < (s.size : Int))) && (decide ((bt s 0) = 45)))) rfl <| wide_Parse.j1_ok (k := k) hh hle he
 ·
  refine w_else rfl (Bool.eq_false_iff.2 c6) <| w_skip <| w_sl 2 (.pointer (some ⟨b1, 0, none⟩)) rfl <| w_sl 3 (errV 71 none) rfl <| w_sl 4 (.string s) rfl <| w_sl 5 (.bool ((decide (1 < (s.size : Int))) && (decide ((bt s 0) = 45)))) rfl <| wide_Parse.j1_ok (k := k) hh hle he
/-! ### radome/radomelaw02.giveInt -/
noncomputable def radomelaw02_giveInt.C : Code := (Tryz.f31.body).getD .skip
def radomelaw02_giveInt.out (r : wide_Int) (H : Hp) (v : Value) : Prop := ∃ v0, v = .agg ⟨[.bool r.f_neg, v0]⟩ ∧ Ro (Kd.int .u32) H v0 r.f_w
theorem radomelaw02_giveInt.out_mono (r : wide_Int) {H H' : Hp} {v : Value} (hle : H.le H') (h : radomelaw02_giveInt.out r H v) : radomelaw02_giveInt.out r H' v := by
 obtain ⟨v0, rfl, h0⟩ := h; exact ⟨v0, rfl, h0.mono hle⟩
abbrev radomelaw02_giveInt.R (H0 : Hp) (L : Items) (r : wide_Int) : Value → Hp → Items → Prop := fun v H' L' => (∃ p, L' = p ++ L) ∧ H0.le H' ∧ radomelaw02_giveInt.out r H' v
noncomputable def radomelaw02_giveInt.f (k : Nat) (a : radomeref01_Num) : Option wide_Int := (radomeref01_Text.f k (⟨a.f_Neg, a.f_D⟩ : radomeref01_Num)).bind fun y3 => (wide_Parse.f k y3).bind fun y7 => some ((⟨y7.1.f_neg, y7.1.f_w⟩ : wide_Int))
theorem radomelaw02_giveInt.mono : ∀ k y0, LeO (radomelaw02_giveInt.f k y0) (radomelaw02_giveInt.f (k + 1) y0) := fun k _ => by unfold radomelaw02_giveInt.f; exact (LeO.bind (radomeref01_Text.mono k _) fun _ => LeO.bind (wide_Parse.mono k _) fun _ => LeO.refl _)
theorem radomelaw02_giveInt.calls (k : Nat) {H : Hp} {L : Items} {a : radomeref01_Num} {v0_a : Value} {r : wide_Int} (he : radomelaw02_giveInt.f k a = some r) (h0_a : Ro (Kd.int .i64) H v0_a a.f_D) : Ct Tryz.prog 31 ⟨[.agg ⟨[.bool a.f_Neg, v0_a]⟩]⟩ H L (fun v H' L' => L = L' ∧ H.le H' ∧ radomelaw02_giveInt.out r H' v) := by
 refine ct_out (O := radomelaw02_giveInt.out r) ?_
 have hle : H.le H := .refl _
 unfold radomelaw02_giveInt.f at he
 refine ct_enter (args := [.agg ⟨[.bool a.f_Neg, v0_a]⟩]) fn_31 rfl nt_31 rfl <| w_seq <| w_region rfl <| w_a rfl (o_box (v := .agg ⟨[.bool a.f_Neg, v0_a]⟩) rfl rfl) ?_
 rintro _ _ _ ⟨b1, rfl, rfl, rfl⟩
 refine w_a rfl (o_alloc zr36 rfl) ?_
 rintro _ _ _ ⟨b2, rfl, rfl, rfl⟩
 refine w_done <| w_seq <| w_region rfl <| w_d rfl (d_loado (v := .agg ⟨[.bool a.f_Neg, v0_a]⟩) ty27 rfl (.there .here) rfl rfl rfl rfl) ?_
 obtain ⟨y3, hy4, he⟩ := Option.bind_eq_some_iff.1 he
 refine w_d rfl (call_d (o_call co46 (vs := [.agg ⟨[.bool a.f_Neg, v0_a]⟩]) rfl (radomeref01_Text.calls k (a := ⟨a.f_Neg, a.f_D⟩) hy4 h0_a))) ?_
 obtain ⟨y7, hy8, he⟩ := Option.bind_eq_some_iff.1 he
 refine w_a rfl (o_call co59 (vs := [.string y3]) rfl (wide_Parse.calls k hy8)) ?_
 rintro _ H9 _ ⟨rfl, e10, ⟨v11, rfl, h12⟩⟩
 refine w_d rfl (d_move (v := .tuple ⟨[.agg ⟨[.bool y7.1.f_neg, v11]⟩, errV 71 y7.2]⟩) rfl) <| w_d rfl (d_ext (vs := [.agg ⟨[.bool y7.1.f_neg, v11]⟩, errV 71 y7.2]) rfl rfl) <| w_d rfl (d_ext (vs := [.agg ⟨[.bool y7.1.f_neg, v11]⟩, errV 71 y7.2]) rfl rfl) <| w_a rfl (o_alloc zr36 rfl) ?_
 rintro _ _ _ ⟨b13, rfl, rfl, rfl⟩
 refine w_a0 rfl (o_store (v := .agg ⟨[.bool y7.1.f_neg, v11]⟩) sz36 rfl rfl rfl rfl (one_cons rfl (one_cons (h12.one) one_nil)) .here (.here (.here .done))) ?_
 rintro _ _ _ ⟨rfl, rfl, rfl⟩
 refine w_d rfl (d_assign (v := errV 71 y7.2) rfl) <| w_done <| w_seq <| w_region rfl <| w_d rfl (d_loado (v := .agg ⟨[.bool y7.1.f_neg, v11]⟩) ty36 rfl .here rfl rfl rfl rfl) <| w_a0 rfl (o_store (v := .agg ⟨[.bool y7.1.f_neg, v11]⟩) sz36 rfl rfl rfl rfl (one_cons rfl (one_cons (h12.one) one_nil)) (.there .here) (.here (.here .done))) ?_
 rintro _ _ _ ⟨rfl, rfl, rfl⟩
 refine w_done ?_
 obtain rfl := Option.some.inj he
 refine w_return fn_31 rs_31 (.box (v := .agg ⟨[.bool y7.1.f_neg, v11]⟩) rfl ty36 rfl rfl (.there .here) rfl .nil) <| ⟨⟨[_, _, _], rfl⟩, hle.trans e10, ⟨v11, rfl, h12⟩⟩
/-! ### (radome/wide.Int).Sign -/
noncomputable def wide_Int_Sign.C : Code := (Tryz.f37.body).getD .skip
def wide_Int_Sign.out (r : Int) (H : Hp) (v : Value) : Prop := v = .int .i64 r
abbrev wide_Int_Sign.R (H0 : Hp) (L : Items) (r : Int) : Value → Hp → Items → Prop := fun v H' L' => (∃ p, L' = p ++ L) ∧ H0.le H' ∧ wide_Int_Sign.out r H' v
noncomputable def wide_Int_Sign.f (k : Nat) (a : wide_Int) : Option Int := if (a.f_w.length : Int) = 0 then (some (0)) else (if a.f_neg = true then (some ((-1))) else (some (1)))
theorem wide_Int_Sign.mono : ∀ k y0, LeO (wide_Int_Sign.f k y0) (wide_Int_Sign.f (k + 1) y0) := fun k _ => by unfold wide_Int_Sign.f; exact (LeO.ite (LeO.refl _) (LeO.ite (LeO.refl _) (LeO.refl _)))
theorem wide_Int_Sign.calls (k : Nat) {H : Hp} {L : Items} {a : wide_Int} {v0_a : Value} {r : Int} (he : wide_Int_Sign.f k a = some r) (h0_a : Ro (Kd.int .u32) H v0_a a.f_w) : Ct Tryz.prog 37 ⟨[.agg ⟨[.bool a.f_neg, v0_a]⟩]⟩ H L (fun v H' L' => L = L' ∧ H = H' ∧ v = .int .i64 r) := by
 refine ct_outs (O := wide_Int_Sign.out r) (fun _ _ h => h) ?_
 have hle : H.le H := .refl _
 unfold wide_Int_Sign.f at he
 refine ct_enter (args := [.agg ⟨[.bool a.f_neg, v0_a]⟩]) fn_37 rfl nt_37 rfl <| w_seq <| w_region rfl <| w_a rfl (o_box (v := .agg ⟨[.bool a.f_neg, v0_a]⟩) rfl rfl) ?_
 rintro _ _ _ ⟨b1, rfl, rfl, rfl⟩
 refine w_d rfl (d_assign (v := .int .i64 0) rfl) <| w_done <| w_seq <| w_block <| w_seq <| w_region rfl <| w_d rfl (d_fld (o' := 1) Tryz.underlying36 rfl sz34 rfl rfl rfl) <| w_d rfl (d_loado (v := v0_a) ty34 rfl .here rfl rfl rfl rfl) <| w_d rfl (d_len Tryz.underlying34 rfl h0_a.src) <| w_d rfl (d_eql rfl rfl) <| w_d rfl (d_assign (v := .bool (decide ((a.f_w.length : Int) = 0))) rfl) <| w_done ?_
 rcases its he with ⟨c2, he⟩ | ⟨c2, he⟩
 ·
  refine w_then rfl (decide_eq_true c2) <| w_seq <| w_region rfl <| w_d rfl (d_assign (v := .int .i64 0) rfl) <| w_done ?_
  obtain rfl := Option.some.inj he
  refine w_return fn_37 rs_37 (.tmp (v := .int .i64 0) rfl .nil) <| ⟨⟨[_], rfl⟩, hle, rfl⟩
 ·
  refine w_else rfl (decide_eq_false c2) <| w_seq <| w_region rfl <| w_d rfl (d_fld (o' := 0) Tryz.underlying36 rfl sz4 rfl rfl rfl) <| w_d rfl (d_loado (v := .bool a.f_neg) ty4 rfl .here rfl rfl rfl rfl) <| w_d rfl (d_assign (v := .bool a.f_neg) rfl) <| w_done ?_
  rcases its he with ⟨c3, he⟩ | ⟨c3, he⟩
  ·
   refine w_then rfl c3 <| w_seq <| w_region rfl <| w_d rfl (d_assign (v := .int .i64 (-1)) rfl) <| w_done ?_
   obtain rfl := Option.some.inj he
   refine w_return fn_37 rs_37 (.tmp (v := .int .i64 (-1)) rfl .nil) <| ⟨⟨[_], rfl⟩, hle, rfl⟩
  ·
   refine w_else rfl (Bool.eq_false_iff.2 c3) <| w_skip <| w_inBlock <| w_seq <| w_region rfl <| w_d rfl (d_assign (v := .int .i64 1) rfl) <| w_done ?_
   obtain rfl := Option.some.inj he
   refine w_return fn_37 rs_37 (.tmp (v := .int .i64 1) rfl .nil) <| ⟨⟨[_], rfl⟩, hle, rfl⟩
/-! ### (radome/wide.Int).Neg -/
noncomputable def wide_Int_Neg.C : Code := (Tryz.f56.body).getD .skip
def wide_Int_Neg.out (r : wide_Int) (H : Hp) (v : Value) : Prop := ∃ v0, v = .agg ⟨[.bool r.f_neg, v0]⟩ ∧ Ro (Kd.int .u32) H v0 r.f_w
theorem wide_Int_Neg.out_mono (r : wide_Int) {H H' : Hp} {v : Value} (hle : H.le H') (h : wide_Int_Neg.out r H v) : wide_Int_Neg.out r H' v := by
 obtain ⟨v0, rfl, h0⟩ := h; exact ⟨v0, rfl, h0.mono hle⟩
abbrev wide_Int_Neg.R (H0 : Hp) (L : Items) (r : wide_Int) : Value → Hp → Items → Prop := fun v H' L' => (∃ p, L' = p ++ L) ∧ H0.le H' ∧ wide_Int_Neg.out r H' v
noncomputable def wide_Int_Neg.f (k : Nat) (a : wide_Int) : Option wide_Int := some ((⟨(!a.f_neg) && (decide (0 < (a.f_w.length : Int))), a.f_w⟩ : wide_Int))
theorem wide_Int_Neg.mono : ∀ k y0, LeO (wide_Int_Neg.f k y0) (wide_Int_Neg.f (k + 1) y0) := fun k _ => by unfold wide_Int_Neg.f; exact (LeO.refl _)
theorem wide_Int_Neg.calls (k : Nat) {H : Hp} {L : Items} {a : wide_Int} {v0_a : Value} {r : wide_Int} (he : wide_Int_Neg.f k a = some r) (h0_a : Ro (Kd.int .u32) H v0_a a.f_w) : Ct Tryz.prog 56 ⟨[.agg ⟨[.bool a.f_neg, v0_a]⟩]⟩ H L (fun v H' L' => L = L' ∧ H.le H' ∧ wide_Int_Neg.out r H' v) := by
 refine ct_out (O := wide_Int_Neg.out r) ?_
 have hle : H.le H := .refl _
 unfold wide_Int_Neg.f at he
 refine ct_enter (args := [.agg ⟨[.bool a.f_neg, v0_a]⟩]) fn_56 rfl nt_56 rfl <| w_seq <| w_region rfl <| w_a rfl (o_box (v := .agg ⟨[.bool a.f_neg, v0_a]⟩) rfl rfl) ?_
 rintro _ _ _ ⟨b1, rfl, rfl, rfl⟩
 refine w_a rfl (o_alloc zr36 rfl) ?_
 rintro _ _ _ ⟨b2, rfl, rfl, rfl⟩
 refine w_done <| w_seq <| w_region rfl <| w_d rfl (d_fld (o' := 0) Tryz.underlying36 rfl sz4 rfl rfl rfl) <| w_d rfl (d_loado (v := .bool a.f_neg) ty4 rfl (.there .here) rfl rfl rfl rfl) <| w_d rfl (d_not (b := a.f_neg) rfl) <| w_d rfl (d_move (v := .bool (!a.f_neg)) rfl) <| w_g (g := !a.f_neg) rfl rfl rfl wn_t (fun g3 => d_fld (o' := 1) Tryz.underlying36 rfl sz34 rfl rfl rfl) <| w_g (g := !a.f_neg) rfl rfl rfl wn_t (fun g4 => d_loado (v := v0_a) ty34 (cvt g4) (.there .here) rfl rfl rfl rfl) <| w_g (g := !a.f_neg) rfl rfl rfl wn_t (fun g5 => d_len Tryz.underlying34 (cvt g5) h0_a.src) <| w_g (g := !a.f_neg) rfl rfl rfl wn_t (fun g6 => d_gtr (cvt g6) rfl) <| w_d rfl (d_and' (b := (!a.f_neg)) (p := (decide (0 < (a.f_w.length : Int)))) rfl rfl rfl) ?_
 refine w_d rfl (d_fld (o' := 1) Tryz.underlying36 rfl sz34 rfl rfl rfl) <| w_d rfl (d_loado (v := v0_a) ty34 rfl (.there .here) rfl rfl rfl rfl) <| w_d rfl (d_build (cs' := [.bool ((!a.f_neg) && (decide (0 < (a.f_w.length : Int)))), v0_a]) Tryz.underlying36 zr36 rfl (by kernel_rfl) (parts := [(0, .bool ((!a.f_neg) && (decide (0 < (a.f_w.length : Int))))), (1, v0_a)]) rfl (.cons (place_of rfl sz4 rfl) rfl rfl (.here .done) (.cons (place_of rfl sz34 rfl) h0_a.cells rfl (.there (.here .done)) .nil))) <| w_a0 rfl (o_store (v := .agg ⟨[.bool ((!a.f_neg) && (decide (0 < (a.f_w.length : Int)))), v0_a]⟩) sz36 rfl rfl rfl rfl (one_cons rfl (one_cons (h0_a.one) one_nil)) .here (.here (.here .done))) ?_
 rintro _ _ _ ⟨rfl, rfl, rfl⟩
 refine w_done ?_
 obtain rfl := Option.some.inj he
 refine w_return fn_56 rs_56 (.box (v := .agg ⟨[.bool ((!a.f_neg) && (decide (0 < (a.f_w.length : Int)))), v0_a]⟩) rfl ty36 rfl rfl .here rfl .nil) <| ⟨⟨[_, _], rfl⟩, hle, ⟨v0_a, rfl, h0_a⟩⟩
/-! ### radome/ratio.abs -/
noncomputable def ratio_abs.C : Code := (Tryz.f58.body).getD .skip
def ratio_abs.out (r : wide_Int) (H : Hp) (v : Value) : Prop := ∃ v0, v = .agg ⟨[.bool r.f_neg, v0]⟩ ∧ Ro (Kd.int .u32) H v0 r.f_w
theorem ratio_abs.out_mono (r : wide_Int) {H H' : Hp} {v : Value} (hle : H.le H') (h : ratio_abs.out r H v) : ratio_abs.out r H' v := by
 obtain ⟨v0, rfl, h0⟩ := h; exact ⟨v0, rfl, h0.mono hle⟩
abbrev ratio_abs.R (H0 : Hp) (L : Items) (r : wide_Int) : Value → Hp → Items → Prop := fun v H' L' => (∃ p, L' = p ++ L) ∧ H0.le H' ∧ ratio_abs.out r H' v
noncomputable def ratio_abs.f (k : Nat) (a : wide_Int) : Option wide_Int := (wide_Int_Sign.f k (⟨a.f_neg, a.f_w⟩ : wide_Int)).bind fun y3 => if y3 < 0 then ((wide_Int_Neg.f k (⟨a.f_neg, a.f_w⟩ : wide_Int)).bind fun y8 => some ((⟨y8.f_neg, y8.f_w⟩ : wide_Int))) else (some ((⟨a.f_neg, a.f_w⟩ : wide_Int)))
theorem ratio_abs.mono : ∀ k y0, LeO (ratio_abs.f k y0) (ratio_abs.f (k + 1) y0) := fun k _ => by unfold ratio_abs.f; exact (LeO.bind (wide_Int_Sign.mono k _) fun _ => LeO.ite (LeO.bind (wide_Int_Neg.mono k _) fun _ => LeO.refl _) (LeO.refl _))
theorem ratio_abs.calls (k : Nat) {H : Hp} {L : Items} {a : wide_Int} {v0_a : Value} {r : wide_Int} (he : ratio_abs.f k a = some r) (h0_a : Ro (Kd.int .u32) H v0_a a.f_w) : Ct Tryz.prog 58 ⟨[.agg ⟨[.bool a.f_neg, v0_a]⟩]⟩ H L (fun v H' L' => L = L' ∧ H.le H' ∧ ratio_abs.out r H' v) := by
 refine ct_out (O := ratio_abs.out r) ?_
 have hle : H.le H := .refl _
 unfold ratio_abs.f at he
 refine ct_enter (args := [.agg ⟨[.bool a.f_neg, v0_a]⟩]) fn_58 rfl nt_58 rfl <| w_seq <| w_region rfl <| w_a rfl (o_box (v := .agg ⟨[.bool a.f_neg, v0_a]⟩) rfl rfl) ?_
 rintro _ _ _ ⟨b1, rfl, rfl, rfl⟩
 refine w_a rfl (o_alloc zr36 rfl) ?_
 rintro _ _ _ ⟨b2, rfl, rfl, rfl⟩
 refine w_done <| w_seq <| w_seq <| w_region rfl <| w_d rfl (d_loado (v := .agg ⟨[.bool a.f_neg, v0_a]⟩) ty36 rfl (.there .here) rfl rfl rfl rfl) ?_
 obtain ⟨y3, hy4, he⟩ := Option.bind_eq_some_iff.1 he
 refine w_d rfl (call_d (o_call co37 (vs := [.agg ⟨[.bool a.f_neg, v0_a]⟩]) rfl (wide_Int_Sign.calls k (a := ⟨a.f_neg, a.f_w⟩) hy4 h0_a))) <| w_d rfl (d_lss rfl rfl) <| w_done ?_
 rcases its he with ⟨c7, he⟩ | ⟨c7, he⟩
 ·
  refine w_then rfl (decide_eq_true c7) <| w_seq <| w_region rfl <| w_d rfl (d_loado (v := .agg ⟨[.bool a.f_neg, v0_a]⟩) ty36 rfl (.there .here) rfl rfl rfl rfl) ?_
  obtain ⟨y8, hy9, he⟩ := Option.bind_eq_some_iff.1 he
  refine w_a rfl (o_call co56 (vs := [.agg ⟨[.bool a.f_neg, v0_a]⟩]) rfl (wide_Int_Neg.calls k (a := ⟨a.f_neg, a.f_w⟩) hy9 h0_a)) ?_
  rintro _ H10 _ ⟨rfl, e11, ⟨v12, rfl, h13⟩⟩
  refine w_a0 rfl (o_store (v := .agg ⟨[.bool y8.f_neg, v12]⟩) sz36 rfl rfl rfl rfl (one_cons rfl (one_cons (h13.one) one_nil)) .here (.here (.here .done))) ?_
  rintro _ _ _ ⟨rfl, rfl, rfl⟩
  refine w_done ?_
  obtain rfl := Option.some.inj he
  refine w_return fn_58 rs_58 (.box (v := .agg ⟨[.bool y8.f_neg, v12]⟩) rfl ty36 rfl rfl .here rfl .nil) <| ⟨⟨[_, _], rfl⟩, hle.trans e11, ⟨v12, rfl, h13⟩⟩
 ·
  refine w_else rfl (decide_eq_false c7) <| w_skip <| w_seq <| w_region rfl <| w_d rfl (d_loado (v := .agg ⟨[.bool a.f_neg, v0_a]⟩) ty36 rfl (.there .here) rfl rfl rfl rfl) <| w_a0 rfl (o_store (v := .agg ⟨[.bool a.f_neg, v0_a]⟩) sz36 rfl rfl rfl rfl (one_cons rfl (one_cons (h0_a.one) one_nil)) .here (.here (.here .done))) ?_
  rintro _ _ _ ⟨rfl, rfl, rfl⟩
  refine w_done ?_
  obtain rfl := Option.some.inj he
  refine w_return fn_58 rs_58 (.box (v := .agg ⟨[.bool a.f_neg, v0_a]⟩) rfl ty36 rfl rfl .here rfl .nil) <| ⟨⟨[_, _], rfl⟩, hle, ⟨v0_a, rfl, h0_a⟩⟩
/-! ### cmp.isNaN[int] -/
noncomputable def cmp_isNaN_int.C : Code := (Tryz.f93.body).getD .skip
def cmp_isNaN_int.out (r : Bool) (H : Hp) (v : Value) : Prop := v = .bool r
abbrev cmp_isNaN_int.R (H0 : Hp) (L : Items) (r : Bool) : Value → Hp → Items → Prop := fun v H' L' => (∃ p, L' = p ++ L) ∧ H0.le H' ∧ cmp_isNaN_int.out r H' v
noncomputable def cmp_isNaN_int.f (k : Nat) (x : Int) : Option Bool := some (!decide (x = x))
theorem cmp_isNaN_int.mono : ∀ k y0, LeO (cmp_isNaN_int.f k y0) (cmp_isNaN_int.f (k + 1) y0) := fun k _ => by unfold cmp_isNaN_int.f; exact (LeO.refl _)
theorem cmp_isNaN_int.calls (k : Nat) {H : Hp} {L : Items} {x : Int} {r : Bool} (he : cmp_isNaN_int.f k x = some r) : Ct Tryz.prog 93 ⟨[.int .i64 x]⟩ H L (fun v H' L' => L = L' ∧ H = H' ∧ v = .bool r) := by
 refine ct_outs (O := cmp_isNaN_int.out r) (fun _ _ h => h) ?_
 have hle : H.le H := .refl _
 unfold cmp_isNaN_int.f at he
 refine ct_enter (args := [.int .i64 x]) fn_93 rfl nt_93 rfl <| w_seq <| w_region rfl <| w_d rfl (d_assign (v := .bool false) rfl) <| w_done <| w_seq <| w_region rfl <| w_d rfl (d_move (v := .int .i64 x) rfl) <| w_d rfl (d_move (v := .int .i64 x) rfl) <| w_d rfl (d_neq rfl rfl) <| w_d rfl (d_assign (v := .bool (!decide (x = x))) rfl) <| w_done ?_
 obtain rfl := Option.some.inj he
 refine w_return fn_93 rs_93 (.tmp (v := .bool (!decide (x = x))) rfl .nil) <| ⟨⟨[], rfl⟩, hle, rfl⟩
/-! ### cmp.Compare[int] -/
noncomputable def cmp_Compare_int.C : Code := (Tryz.f69.body).getD .skip
def cmp_Compare_int.out (r : Int) (H : Hp) (v : Value) : Prop := v = .int .i64 r
abbrev cmp_Compare_int.R (H0 : Hp) (L : Items) (r : Int) : Value → Hp → Items → Prop := fun v H' L' => (∃ p, L' = p ++ L) ∧ H0.le H' ∧ cmp_Compare_int.out r H' v
noncomputable def cmp_Compare_int.f (k : Nat) (x : Int) (y : Int) : Option Int := (cmp_isNaN_int.f k x).bind fun y1 => (cmp_isNaN_int.f k y).bind fun y5 => if y1 = true then (if y5 = true then (some (0)) else (some ((-1)))) else (if y5 = true then (some (1)) else (if x < y then (some ((-1))) else (if y < x then (some (1)) else (some (0)))))
theorem cmp_Compare_int.mono : ∀ k y0 y1, LeO (cmp_Compare_int.f k y0 y1) (cmp_Compare_int.f (k + 1) y0 y1) := fun k _ _ => by unfold cmp_Compare_int.f; exact (LeO.bind (cmp_isNaN_int.mono k _) fun _ => LeO.bind (cmp_isNaN_int.mono k _) fun _ => LeO.ite (LeO.ite (LeO.refl _) (LeO.refl _)) (LeO.ite (LeO.refl _) (LeO.ite (LeO.refl _) (LeO.ite (LeO.refl _) (LeO.refl _)))))
theorem cmp_Compare_int.calls (k : Nat) {H : Hp} {L : Items} {x : Int} {y : Int} {r : Int} (he : cmp_Compare_int.f k x y = some r) : Ct Tryz.prog 69 ⟨[.int .i64 x, .int .i64 y]⟩ H L (fun v H' L' => L = L' ∧ H = H' ∧ v = .int .i64 r) := by
 refine ct_outs (O := cmp_Compare_int.out r) (fun _ _ h => h) ?_
 have hle : H.le H := .refl _
 unfold cmp_Compare_int.f at he
 refine ct_enter (args := [.int .i64 x, .int .i64 y]) fn_69 rfl nt_69 rfl <| w_seq <| w_region rfl <| w_d rfl (d_assign (v := .int .i64 0) rfl) <| w_done <| w_seq <| w_region rfl <| w_d rfl (d_move (v := .int .i64 x) rfl) ?_
 obtain ⟨y1, hy2, he⟩ := Option.bind_eq_some_iff.1 he
 refine w_d rfl (call_d (o_call co93 (vs := [.int .i64 x]) rfl (cmp_isNaN_int.calls k hy2))) <| w_d rfl (d_assign (v := .bool y1) rfl) <| w_done <| w_seq <| w_region rfl <| w_d rfl (d_move (v := .int .i64 y) rfl) ?_
 obtain ⟨y5, hy6, he⟩ := Option.bind_eq_some_iff.1 he
 refine w_d rfl (call_d (o_call co93 (vs := [.int .i64 y]) rfl (cmp_isNaN_int.calls k hy6))) <| w_d rfl (d_assign (v := .bool y5) rfl) <| w_done <| w_seq <| w_seq <| w_region rfl <| w_d rfl (d_move (v := .bool y1) rfl) <| w_done ?_
 rcases its he with ⟨c9, he⟩ | ⟨c9, he⟩
 ·
  refine w_then rfl c9 <| w_seq <| w_seq <| w_region rfl <| w_d rfl (d_move (v := .bool y5) rfl) <| w_done ?_
  rcases its he with ⟨c10, he⟩ | ⟨c10, he⟩
  ·
   refine w_then rfl c10 <| w_seq <| w_region rfl <| w_d rfl (d_assign (v := .int .i64 0) rfl) <| w_done ?_
   obtain rfl := Option.some.inj he
   refine w_return fn_69 rs_69 (.tmp (v := .int .i64 0) rfl .nil) <| ⟨⟨[], rfl⟩, hle, rfl⟩
  ·
   refine w_else rfl (Bool.eq_false_iff.2 c10) <| w_skip <| w_seq <| w_region rfl <| w_d rfl (d_assign (v := .int .i64 (-1)) rfl) <| w_done ?_
   obtain rfl := Option.some.inj he
   refine w_return fn_69 rs_69 (.tmp (v := .int .i64 (-1)) rfl .nil) <| ⟨⟨[], rfl⟩, hle, rfl⟩
 ·
  refine w_else rfl (Bool.eq_false_iff.2 c9) <| w_skip <| w_seq <| w_seq <| w_region rfl <| w_d rfl (d_move (v := .bool y5) rfl) <| w_done ?_
  rcases its he with ⟨c11, he⟩ | ⟨c11, he⟩
  ·
   refine w_then rfl c11 <| w_seq <| w_region rfl <| w_d rfl (d_assign (v := .int .i64 1) rfl) <| w_done ?_
   obtain rfl := Option.some.inj he
   refine w_return fn_69 rs_69 (.tmp (v := .int .i64 1) rfl .nil) <| ⟨⟨[], rfl⟩, hle, rfl⟩
  ·
   refine w_else rfl (Bool.eq_false_iff.2 c11) <| w_skip <| w_seq <| w_seq <| w_region rfl <| w_d rfl (d_move (v := .int .i64 x) rfl) <| w_d rfl (d_move (v := .int .i64 y) rfl) <| w_d rfl (d_lss rfl rfl) <| w_done ?_
   rcases its he with ⟨c12, he⟩ | ⟨c12, he⟩
   ·
    refine w_then rfl (decide_eq_true c12) <| w_seq <| w_region rfl <| w_d rfl (d_assign (v := .int .i64 (-1)) rfl) <| w_done ?_
    obtain rfl := Option.some.inj he
    refine w_return fn_69 rs_69 (.tmp (v := .int .i64 (-1)) rfl .nil) <| ⟨⟨[], rfl⟩, hle, rfl⟩
   ·
    refine w_else rfl (decide_eq_false c12) <| w_skip <| w_seq <| w_seq <| w_region rfl <| w_d rfl (d_move (v := .int .i64 x) rfl) <| w_d rfl (d_move (v := .int .i64 y) rfl) <| w_d rfl (d_gtr rfl rfl) <| w_done ?_
    rcases its he with ⟨c13, he⟩ | ⟨c13, he⟩
    ·
     refine w_then rfl (decide_eq_true c13) <| w_seq <| w_region rfl <| w_d rfl (d_assign (v := .int .i64 1) rfl) <| w_done ?_
     obtain rfl := Option.some.inj he
     refine w_return fn_69 rs_69 (.tmp (v := .int .i64 1) rfl .nil) <| ⟨⟨[], rfl⟩, hle, rfl⟩
    ·
     refine w_else rfl (decide_eq_false c13) <| w_skip <| w_seq <| w_region rfl <| w_d rfl (d_assign (v := .int .i64 0) rfl) <| w_done ?_
     obtain rfl := Option.some.inj he
     refine w_return fn_69 rs_69 (.tmp (v := .int .i64 0) rfl .nil) <| ⟨⟨[], rfl⟩, hle, rfl⟩
/-! ### cmp.isNaN[uint32] -/
noncomputable def cmp_isNaN_uint32.C : Code := (Tryz.f99.body).getD .skip
def cmp_isNaN_uint32.out (r : Bool) (H : Hp) (v : Value) : Prop := v = .bool r
abbrev cmp_isNaN_uint32.R (H0 : Hp) (L : Items) (r : Bool) : Value → Hp → Items → Prop := fun v H' L' => (∃ p, L' = p ++ L) ∧ H0.le H' ∧ cmp_isNaN_uint32.out r H' v
noncomputable def cmp_isNaN_uint32.f (k : Nat) (x : Int) : Option Bool := some (!decide (x = x))
theorem cmp_isNaN_uint32.mono : ∀ k y0, LeO (cmp_isNaN_uint32.f k y0) (cmp_isNaN_uint32.f (k + 1) y0) := fun k _ => by unfold cmp_isNaN_uint32.f; exact (LeO.refl _)
theorem cmp_isNaN_uint32.calls (k : Nat) {H : Hp} {L : Items} {x : Int} {r : Bool} (he : cmp_isNaN_uint32.f k x = some r) : Ct Tryz.prog 99 ⟨[.int .u32 x]⟩ H L (fun v H' L' => L = L' ∧ H = H' ∧ v = .bool r) := by
 refine ct_outs (O := cmp_isNaN_uint32.out r) (fun _ _ h => h) ?_
 have hle : H.le H := .refl _
 unfold cmp_isNaN_uint32.f at he
 refine ct_enter (args := [.int .u32 x]) fn_99 rfl nt_99 rfl <| w_seq <| w_region rfl <| w_d rfl (d_assign (v := .bool false) rfl) <| w_done <| w_seq <| w_region rfl <| w_d rfl (d_move (v := .int .u32 x) rfl) <| w_d rfl (d_move (v := .int .u32 x) rfl) <| w_d rfl (d_neq rfl rfl) <| w_d rfl (d_assign (v := .bool (!decide (x = x))) rfl) <| w_done ?_
 obtain rfl := Option.some.inj he
 refine w_return fn_99 rs_99 (.tmp (v := .bool (!decide (x = x))) rfl .nil) <| ⟨⟨[], rfl⟩, hle, rfl⟩
/-! ### cmp.Compare[uint32] -/
noncomputable def cmp_Compare_uint32.C : Code := (Tryz.f94.body).getD .skip
def cmp_Compare_uint32.out (r : Int) (H : Hp) (v : Value) : Prop := v = .int .i64 r
abbrev cmp_Compare_uint32.R (H0 : Hp) (L : Items) (r : Int) : Value → Hp → Items → Prop := fun v H' L' => (∃ p, L' = p ++ L) ∧ H0.le H' ∧ cmp_Compare_uint32.out r H' v
noncomputable def cmp_Compare_uint32.f (k : Nat) (x : Int) (y : Int) : Option Int := (cmp_isNaN_uint32.f k x).bind fun y1 => (cmp_isNaN_uint32.f k y).bind fun y5 => if y1 = true then (if y5 = true then (some (0)) else (some ((-1)))) else (if y5 = true then (some (1)) else (if x < y then (some ((-1))) else (if y < x then (some (1)) else (some (0)))))
theorem cmp_Compare_uint32.mono : ∀ k y0 y1, LeO (cmp_Compare_uint32.f k y0 y1) (cmp_Compare_uint32.f (k + 1) y0 y1) := fun k _ _ => by unfold cmp_Compare_uint32.f; exact (LeO.bind (cmp_isNaN_uint32.mono k _) fun _ => LeO.bind (cmp_isNaN_uint32.mono k _) fun _ => LeO.ite (LeO.ite (LeO.refl _) (LeO.refl _)) (LeO.ite (LeO.refl _) (LeO.ite (LeO.refl _) (LeO.ite (LeO.refl _) (LeO.refl _)))))
theorem cmp_Compare_uint32.calls (k : Nat) {H : Hp} {L : Items} {x : Int} {y : Int} {r : Int} (he : cmp_Compare_uint32.f k x y = some r) : Ct Tryz.prog 94 ⟨[.int .u32 x, .int .u32 y]⟩ H L (fun v H' L' => L = L' ∧ H = H' ∧ v = .int .i64 r) := by
 refine ct_outs (O := cmp_Compare_uint32.out r) (fun _ _ h => h) ?_
 have hle : H.le H := .refl _
 unfold cmp_Compare_uint32.f at he
 refine ct_enter (args := [.int .u32 x, .int .u32 y]) fn_94 rfl nt_94 rfl <| w_seq <| w_region rfl <| w_d rfl (d_assign (v := .int .i64 0) rfl) <| w_done <| w_seq <| w_region rfl <| w_d rfl (d_move (v := .int .u32 x) rfl) ?_
 obtain ⟨y1, hy2, he⟩ := Option.bind_eq_some_iff.1 he
 refine w_d rfl (call_d (o_call co99 (vs := [.int .u32 x]) rfl (cmp_isNaN_uint32.calls k hy2))) <| w_d rfl (d_assign (v := .bool y1) rfl) <| w_done <| w_seq <| w_region rfl <| w_d rfl (d_move (v := .int .u32 y) rfl) ?_
 obtain ⟨y5, hy6, he⟩ := Option.bind_eq_some_iff.1 he
 refine w_d rfl (call_d (o_call co99 (vs := [.int .u32 y]) rfl (cmp_isNaN_uint32.calls k hy6))) <| w_d rfl (d_assign (v := .bool y5) rfl) <| w_done <| w_seq <| w_seq <| w_region rfl <| w_d rfl (d_move (v := .bool y1) rfl) <| w_done ?_
 rcases its he with ⟨c9, he⟩ | ⟨c9, he⟩
 ·
  refine w_then rfl c9 <| w_seq <| w_seq <| w_region rfl <| w_d rfl (d_move (v := .bool y5) rfl) <| w_done ?_
  rcases its he with ⟨c10, he⟩ | ⟨c10, he⟩
  ·
   refine w_then rfl c10 <| w_seq <| w_region rfl <| w_d rfl (d_assign (v := .int .i64 0) rfl) <| w_done ?_
   obtain rfl := Option.some.inj he
   refine w_return fn_94 rs_94 (.tmp (v := .int .i64 0) rfl .nil) <| ⟨⟨[], rfl⟩, hle, rfl⟩
  ·
   refine w_else rfl (Bool.eq_false_iff.2 c10) <| w_skip <| w_seq <| w_region rfl <| w_d rfl (d_assign (v := .int .i64 (-1)) rfl) <| w_done ?_
   obtain rfl := Option.some.inj he
   refine w_return fn_94 rs_94 (.tmp (v := .int .i64 (-1)) rfl .nil) <| ⟨⟨[], rfl⟩, hle, rfl⟩
 ·
  refine w_else rfl (Bool.eq_false_iff.2 c9) <| w_skip <| w_seq <| w_seq <| w_region rfl <| w_d rfl (d_move (v := .bool y5) rfl) <| w_done ?_
  rcases its he with ⟨c11, he⟩ | ⟨c11, he⟩
  ·
   refine w_then rfl c11 <| w_seq <| w_region rfl <| w_d rfl (d_assign (v := .int .i64 1) rfl) <| w_done ?_
   obtain rfl := Option.some.inj he
   refine w_return fn_94 rs_94 (.tmp (v := .int .i64 1) rfl .nil) <| ⟨⟨[], rfl⟩, hle, rfl⟩
  ·
   refine w_else rfl (Bool.eq_false_iff.2 c11) <| w_skip <| w_seq <| w_seq <| w_region rfl <| w_d rfl (d_move (v := .int .u32 x) rfl) <| w_d rfl (d_move (v := .int .u32 y) rfl) <| w_d rfl (d_lss rfl rfl) <| w_done ?_
   rcases its he with ⟨c12, he⟩ | ⟨c12, he⟩
   ·
    refine w_then rfl (decide_eq_true c12) <| w_seq <| w_region rfl <| w_d rfl (d_assign (v := .int .i64 (-1)) rfl) <| w_done ?_
    obtain rfl := Option.some.inj he
    refine w_return fn_94 rs_94 (.tmp (v := .int .i64 (-1)) rfl .nil) <| ⟨⟨[], rfl⟩, hle, rfl⟩
   ·
    refine w_else rfl (decide_eq_false c12) <| w_skip <| w_seq <| w_seq <| w_region rfl <| w_d rfl (d_move (v := .int .u32 x) rfl) <| w_d rfl (d_move (v := .int .u32 y) rfl) <| w_d rfl (d_gtr rfl rfl) <| w_done ?_
    rcases its he with ⟨c13, he⟩ | ⟨c13, he⟩
    ·
     refine w_then rfl (decide_eq_true c13) <| w_seq <| w_region rfl <| w_d rfl (d_assign (v := .int .i64 1) rfl) <| w_done ?_
     obtain rfl := Option.some.inj he
     refine w_return fn_94 rs_94 (.tmp (v := .int .i64 1) rfl .nil) <| ⟨⟨[], rfl⟩, hle, rfl⟩
    ·
     refine w_else rfl (decide_eq_false c13) <| w_skip <| w_seq <| w_region rfl <| w_d rfl (d_assign (v := .int .i64 0) rfl) <| w_done ?_
     obtain rfl := Option.some.inj he
     refine w_return fn_94 rs_94 (.tmp (v := .int .i64 0) rfl .nil) <| ⟨⟨[], rfl⟩, hle, rfl⟩
/-! ### radome/wide.less -/
noncomputable def wide_less.C : Code := (Tryz.f70.body).getD .skip
def wide_less.out (r : Int) (H : Hp) (v : Value) : Prop := v = .int .i64 r
abbrev wide_less.R (H0 : Hp) (L : Items) (r : Int) : Value → Hp → Items → Prop := fun v H' L' => (∃ p, L' = p ++ L) ∧ H0.le H' ∧ wide_less.out r H' v
structure wide_less.Hs where
 l0 : (List Int) → (List Int) → Int → Int → Option Int
noncomputable def wide_less.b0 (k : Nat) (h : wide_less.Hs)  (a : List Int) (b : List Int) (t4 : Int) (i : Int) : Option Int := if 0 ≤ i then (if (0 : Int) ≤ i ∧ i < (a.length : Int) then (if (0 : Int) ≤ i ∧ i < (b.length : Int) then ((cmp_Compare_uint32.f k (rd a i) (rd b i)).bind fun y11 => if y11 = 0 then (h.l0 a b t4 (w64 (i - 1))) else (some (y11))) else none) else none) else (some (0))
noncomputable def wide_less.hs : Nat → wide_less.Hs
 | 0 => ⟨fun _ _ _ _ => none⟩
 | k + 1 => ⟨fun x0 x1 x2 x3 => wide_less.b0 k (wide_less.hs k) x0 x1 x2 x3⟩
noncomputable def wide_less.f (k : Nat) (a : List Int) (b : List Int) : Option Int := (fun h : wide_less.Hs => (cmp_Compare_int.f k (a.length : Int) (b.length : Int)).bind fun y1 => if y1 = 0 then (h.l0 a b 0 (w64 ((a.length : Int) - 1))) else (some (y1))) (wide_less.hs k)
structure wide_less.LE (h h' : wide_less.Hs) : Prop where
 l0 : ∀ y0 y1 y2 y3, LeO (h.l0 y0 y1 y2 y3) (h'.l0 y0 y1 y2 y3)
theorem wide_less.b0_mono {k : Nat} {h h' : wide_less.Hs} (hl : wide_less.LE h h') : ∀ y0 y1 y2 y3, LeO (wide_less.b0 k h y0 y1 y2 y3) (wide_less.b0 (k + 1) h' y0 y1 y2 y3) := fun _ _ _ _ => (LeO.ite (LeO.ite (LeO.ite (LeO.bind (cmp_Compare_uint32.mono k _ _) fun _ => LeO.ite (hl.l0 _ _ _ _) (LeO.refl _)) (LeO.refl _)) (LeO.refl _)) (LeO.refl _))
theorem wide_less.hs_mono : ∀ k, wide_less.LE (wide_less.hs k) (wide_less.hs (k + 1))
 | 0 => ⟨fun _ _ _ _ => LeO.none _⟩
 | k + 1 => ⟨wide_less.b0_mono (k := k) (wide_less.hs_mono k)⟩
theorem wide_less.mono : ∀ k y0 y1, LeO (wide_less.f k y0 y1) (wide_less.f (k + 1) y0 y1) := fun k _ _ => have hl := wide_less.hs_mono k; by unfold wide_less.f; exact (LeO.bind (cmp_Compare_int.mono k _ _) fun _ => LeO.ite (hl.l0 _ _ _ _) (LeO.refl _))
noncomputable def wide_less.Kl0 : List Item := .code (lopB (blkB (seqR (seqL (seqR (seqR wide_less.C)))))) :: .inLoop (lopB (blkB (seqR (seqL (seqR (seqR wide_less.C)))))) :: .inBlock 0 :: .code (seqR (seqR (seqR wide_less.C))) :: []
structure wide_less.OK (h : wide_less.Hs) : Prop where
 l0 : ∀ {H0 H : Hp} {L : Items} {r : Int} {jk_ : Nat → Value} {a : List Int} {b : List Int} {t4 : Int} {i : Int} {v_a : Value} {v_b : Value} (_ : H0.le H) (_he : h.l0 a b t4 i = some r) (_h_a : Src (Kd.int .u32) H L v_a a) (_h_b : Src (Kd.int .u32) H L v_b b), Wp Tryz.prog 70 35 wide_less.Kl0 (upd (upd (upd (upd jk_ 0 (v_a)) 1 (v_b)) 4 (.int .i64 t4)) 6 (.int .i64 i)) H (L) (wide_less.R H0 L r)
theorem wide_less.b0_ok {k : Nat} {h : wide_less.Hs} (hh : wide_less.OK h) {H0 H : Hp} {L : Items} {r : Int} {jk_ : Nat → Value} {a : List Int} {b : List Int} {t4 : Int} {i : Int} {v_a : Value} {v_b : Value} (hle : H0.le H) (he : wide_less.b0 k h a b t4 i = some r) (h_a : Src (Kd.int .u32) H L v_a a) (h_b : Src (Kd.int .u32) H L v_b b) : Wp Tryz.prog 70 35 wide_less.Kl0 (upd (upd (upd (upd jk_ 0 (v_a)) 1 (v_b)) 4 (.int .i64 t4)) 6 (.int .i64 i)) H (L) (wide_less.R H0 L r) := by
 unfold wide_less.b0 at he
 unfold wide_less.Kl0
 refine w_seq <| w_seq <| w_region rfl <| w_d rfl (d_move (v := .int .i64 i) rfl) <| w_d rfl (d_geq rfl rfl) <| w_done ?_
 rcases its he with ⟨c6, he⟩ | ⟨c6, he⟩
 ·
  refine w_then rfl (decide_eq_true c6) <| w_skip <| w_seq <| w_block <| w_seq ?_
  obtain ⟨c7, he⟩ := rq he
  obtain ⟨c8, he⟩ := rq he
  refine w_drawn (p := 8) (tl := [8, 9]) [[], [], [(0, some 23), (1, some 24)], [(2, some 25)], [], [], [(4, some 27), (5, some 28)], [(6, some 29)]] [some 23, some 24, some 25, some 26, some 27, some 28, some 29, some 30] (fctF (.is (v_a) :: .is (.int .i64 i) :: .is (.pointer (some (pel v_a i 1))) :: .is (.int .u32 (rd a i)) :: .is (v_b) :: .is (.int .i64 i) :: .is (.pointer (some (pel v_b i 1))) :: .is (.int .u32 (rd b i)) :: [])) (fun m_ => L) (fun _ => none) mixed (by kernel_rfl) (by kernel_rfl) rfl (fct_mono (by kernel_rfl)) ⟨(fun H' m_ hH hm_ hu_ => depK_nil <| s_d (m_ 0) rfl (d_move (v := v_a) rfl) (by exact rfl) rfl), (fun H' m_ hH hm_ hu_ => depK_nil <| s_d (m_ 1) rfl (d_move (v := .int .i64 i) rfl) (by exact rfl) rfl), (by rintro H' m_ hH hm_ hu_ _ rfl _ rfl; exact depK_nil <| s_d (m_ 2) rfl (d_index (sz := 1) Tryz.underlying34 sz90 rfl (h_a.mono hH) rfl c7) (by exact rfl) rfl), (by rintro H' m_ hH hm_ hu_ _ rfl; exact depK_nil <| s_d (m_ 3) rfl (d_ldint ty90 rfl (h_a.mono hH) c7) (by exact rfl) rfl), (fun H' m_ hH hm_ hu_ => depK_nil <| s_d (m_ 4) rfl (d_move (v := v_b) rfl) (by exact rfl) rfl), (fun H' m_ hH hm_ hu_ => depK_nil <| s_d (m_ 5) rfl (d_move (v := .int .i64 i) rfl) (by exact rfl) rfl), (by rintro H' m_ hH hm_ hu_ _ rfl _ rfl; exact depK_nil <| s_d (m_ 6) rfl (d_index (sz := 1) Tryz.underlying34 sz90 rfl (h_b.mono hH) rfl c8) (by exact rfl) rfl), (by rintro H' m_ hH hm_ hu_ _ rfl; exact depK_nil <| s_d (m_ 7) rfl (d_ldint ty90 rfl (h_b.mono hH) c8) (by exact rfl) rfl), trivial⟩ ?_
  intro H9 e10
  rintro _ _ rfl _ _ rfl _ _ rfl _ _ rfl _ _ rfl _ _ rfl _ _ rfl _ _ rfl
  obtain ⟨y11, hy12, he⟩ := Option.bind_eq_some_iff.1 he
  refine w_d rfl (call_d (o_call co94 (vs := [.int .u32 (rd a i), .int .u32 (rd b i)]) rfl (cmp_Compare_uint32.calls k hy12))) <| w_d rfl (d_assign (v := .int .i64 y11) rfl) <| w_done <| w_seq <| w_region rfl <| w_d rfl (d_move (v := .int .i64 y11) rfl) <| w_d rfl (d_neq rfl rfl) <| w_done ?_
  rcases its he with ⟨c15, he⟩ | ⟨c15, he⟩
  ·
   refine w_else rfl (nd_t c15) <| w_skip <| w_inBlock <| w_region rfl <| w_d rfl (d_move (v := .int .i64 i) rfl) <| w_d rfl (d_sub (c := w64 (i - 1)) rfl rfl rfl) <| w_d rfl (d_assign (v := .int .i64 (w64 (i - 1))) rfl) <| w_done <| w_inLoop <| w_sl 0 (v_a) rfl <| w_sl 1 (v_b) rfl <| w_sl 4 (.int .i64 t4) rfl ?_
   refine w_sl 6 (.int .i64 (w64 (i - 1))) rfl <| hh.l0 (hle.trans e10) he (h_a.mono e10) (h_b.mono e10)
  ·
   refine w_then rfl (nd_f c15) <| w_seq <| w_region rfl <| w_d rfl (d_move (v := .int .i64 y11) rfl) <| w_d rfl (d_assign (v := .int .i64 y11) rfl) <| w_done ?_
   obtain rfl := Option.some.inj he
   refine w_return fn_70 rs_70 (.tmp (v := .int .i64 y11) rfl .nil) <| ⟨⟨[], rfl⟩, hle.trans e10, rfl⟩
 ·
  refine w_else rfl (decide_eq_false c6) <| w_exit rfl <| w_seq <| w_region rfl <| w_d rfl (d_assign (v := .int .i64 0) rfl) <| w_done ?_
  obtain rfl := Option.some.inj he
  refine w_return fn_70 rs_70 (.tmp (v := .int .i64 0) rfl .nil) <| ⟨⟨[], rfl⟩, hle, rfl⟩
theorem wide_less.ok : ∀ k, wide_less.OK (wide_less.hs k)
 | 0 => ⟨(by intros; exact nomatch (show none = some _ from by assumption))⟩
 | k + 1 => ⟨wide_less.b0_ok (k := k) (wide_less.ok k)⟩
theorem wide_less.calls (k : Nat) {H : Hp} {L : Items} {a : List Int} {b : List Int} {v0_a : Value} {v1_b : Value} {r : Int} (he : wide_less.f k a b = some r) (h0_a : Src (Kd.int .u32) H L v0_a a) (h1_b : Src (Kd.int .u32) H L v1_b b) : Ct Tryz.prog 70 ⟨[v0_a, v1_b]⟩ H L (fun v H' L' => L = L' ∧ H = H' ∧ v = .int .i64 r) := by
 refine ct_outs (O := wide_less.out r) (fun _ _ h => h) ?_
 have hle : H.le H := .refl _
 have hh := wide_less.ok k
 unfold wide_less.f at he
 refine ct_enter (args := [v0_a, v1_b]) fn_70 rfl nt_70 rfl <| w_seq <| w_region rfl <| w_d rfl (d_assign (v := .int .i64 0) rfl) <| w_done <| w_seq <| w_seq <| w_region rfl <| w_d rfl (d_move (v := v0_a) rfl) <| w_d rfl (d_len Tryz.underlying34 rfl h0_a) <| w_d rfl (d_move (v := v1_b) rfl) <| w_d rfl (d_len Tryz.underlying34 rfl h1_b) ?_
 obtain ⟨y1, hy2, he⟩ := Option.bind_eq_some_iff.1 he
 refine w_d rfl (call_d (o_call co69 (vs := [.int .i64 (a.length : Int), .int .i64 (b.length : Int)]) rfl (cmp_Compare_int.calls k hy2))) <| w_d rfl (d_assign (v := .int .i64 y1) rfl) <| w_done <| w_seq <| w_region rfl <| w_d rfl (d_move (v := .int .i64 y1) rfl) <| w_d rfl (d_neq rfl rfl) <| w_done ?_
 rcases its he with ⟨c5, he⟩ | ⟨c5, he⟩
 ·
  refine w_else rfl (nd_t c5) <| w_skip <| w_seq <| w_seq <| w_region rfl <| w_d rfl (d_move (v := v0_a) rfl) <| w_d rfl (d_len Tryz.underlying34 rfl h0_a) <| w_d rfl (d_sub (c := w64 ((a.length : Int) - 1)) rfl rfl rfl) <| w_d rfl (d_assign (v := .int .i64 (w64 ((a.length : Int) - 1))) rfl) <| w_done <| w_block <| w_loop ?_
  refine w_sl 0 (v0_a) rfl <| w_sl 1 (v1_b) rfl <| w_sl 4 (.int .i64 0) rfl <| w_sl 6 (.int .i64 (w64 ((a.length : Int) - 1))) rfl <| hh.l0 hle he h0_a h1_b
 ·
  refine w_then rfl (nd_f c5) <| w_seq <| w_region rfl <| w_d rfl (d_move (v := .int .i64 y1) rfl) <| w_d rfl (d_assign (v := .int .i64 y1) rfl) <| w_done ?_
  obtain rfl := Option.some.inj he
  refine w_return fn_70 rs_70 (.tmp (v := .int .i64 y1) rfl .nil) <| ⟨⟨[], rfl⟩, hle, rfl⟩
/-! ### radome/wide.short -/
noncomputable def wide_short.C : Code := (Tryz.f76.body).getD .skip
def wide_short.out (r : (List Int) × Int) (H : Hp) (v : Value) : Prop := ∃ v0, v = .tuple ⟨[v0, .int .u32 r.2]⟩ ∧ Ro (Kd.int .u32) H v0 r.1
theorem wide_short.out_mono (r : (List Int) × Int) {H H' : Hp} {v : Value} (hle : H.le H') (h : wide_short.out r H v) : wide_short.out r H' v := by
 obtain ⟨v0, rfl, h0⟩ := h; exact ⟨v0, rfl, h0.mono hle⟩
abbrev wide_short.R (H0 : Hp) (L : Items) (r : (List Int) × Int) : Value → Hp → Items → Prop := fun v H' L' => (∃ p, L' = p ++ L) ∧ H0.le H' ∧ wide_short.out r H' v
structure wide_short.Hs where
 l0 : (List Int) → Int → (List Int) → Int → Int → Option ((List Int) × Int)
noncomputable def wide_short.b0 (k : Nat) (h : wide_short.Hs)  (a : List Int) (b : Int) (out : List Int) (rest : Int) (i : Int) : Option ((List Int) × Int) := if 0 ≤ i then (if (0 : Int) ≤ i ∧ i < (a.length : Int) then (if ((b) % 18446744073709551616) ≠ 0 then (if (0 : Int) ≤ i ∧ i < (out.length : Int) then (if ((b) % 18446744073709551616) ≠ 0 then (h.l0 a b (out.set (i : Int).toNat (((Int.tdiv (ior .u64 ((rest * 4294967296) % 18446744073709551616) ((rd a i) % 18446744073709551616)) ((b) % 18446744073709551616)) % 18446744073709551616) % 4294967296)) (Int.tmod (ior .u64 ((rest * 4294967296) % 18446744073709551616) ((rd a i) % 18446744073709551616)) ((b) % 18446744073709551616)) (w64 (i - 1))) else none) else none) else none) else none) else ((wide_trim.f k out).bind fun y15 => some (y15, (rest) % 4294967296))
noncomputable def wide_short.hs : Nat → wide_short.Hs
 | 0 => ⟨fun _ _ _ _ _ => none⟩
 | k + 1 => ⟨fun x0 x1 x2 x3 x4 => wide_short.b0 k (wide_short.hs k) x0 x1 x2 x3 x4⟩
noncomputable def wide_short.f (k : Nat) (a : List Int) (b : Int) : Option ((List Int) × Int) := (fun h : wide_short.Hs => if 0 ≤ (a.length : Int) ∧ (a.length : Int) ≤ 70368744177664 then (h.l0 a b (List.replicate ((a.length : Int) : Int).toNat (0 : Int)) 0 (w64 ((a.length : Int) - 1))) else none) (wide_short.hs k)
structure wide_short.LE (h h' : wide_short.Hs) : Prop where
 l0 : ∀ y0 y1 y2 y3 y4, LeO (h.l0 y0 y1 y2 y3 y4) (h'.l0 y0 y1 y2 y3 y4)
theorem wide_short.b0_mono {k : Nat} {h h' : wide_short.Hs} (hl : wide_short.LE h h') : ∀ y0 y1 y2 y3 y4, LeO (wide_short.b0 k h y0 y1 y2 y3 y4) (wide_short.b0 (k + 1) h' y0 y1 y2 y3 y4) := fun _ _ _ _ _ => (LeO.ite (LeO.ite (LeO.ite (LeO.ite (LeO.ite (hl.l0 _ _ _ _ _) (LeO.refl _)) (LeO.refl _)) (LeO.refl _)) (LeO.refl _)) (LeO.bind (wide_trim.mono k _) fun _ => LeO.refl _))
theorem wide_short.hs_mono : ∀ k, wide_short.LE (wide_short.hs k) (wide_short.hs (k + 1))
 | 0 => ⟨fun _ _ _ _ _ => LeO.none _⟩
 | k + 1 => ⟨wide_short.b0_mono (k := k) (wide_short.hs_mono k)⟩
theorem wide_short.mono : ∀ k y0 y1, LeO (wide_short.f k y0 y1) (wide_short.f (k + 1) y0 y1) := fun k _ _ => have hl := wide_short.hs_mono k; by unfold wide_short.f; exact (LeO.ite (hl.l0 _ _ _ _ _) (LeO.refl _))
noncomputable def wide_short.Kl0 : List Item := .code (lopB (blkB (seqR (seqL (seqR (seqR (seqR wide_short.C))))))) :: .inLoop (lopB (blkB (seqR (seqL (seqR (seqR (seqR wide_short.C))))))) :: .inBlock 0 :: .code (seqR (seqR (seqR (seqR wide_short.C)))) :: []
structure wide_short.OK (h : wide_short.Hs) : Prop where
 l0 : ∀ {H0 H : Hp} {L : Items} {r : (List Int) × Int} {jk_ : Nat → Value} {a : List Int} {b : Int} {out : List Int} {rest : Int} {i : Int} {v_a : Value} {v_out : Value} {i_out : Item'} (_ : H0.le H) (_he : h.l0 a b out rest i = some r) (_h_a : Src (Kd.int .u32) H L v_a a) (_h_out : Sl (Kd.int .u32) H 90 i_out v_out out), Wp Tryz.prog 76 44 wide_short.Kl0 (upd (upd (upd (upd (upd (upd (upd jk_ 0 (v_a)) 1 (.int .u32 b)) 4 (.slice none 0 0)) 5 (.int .u32 0)) 6 (v_out)) 7 (.int .u64 rest)) 8 (.int .i64 i)) H (i_out :: L) (wide_short.R H0 L r)
theorem wide_short.b0_ok {k : Nat} {h : wide_short.Hs} (hh : wide_short.OK h) {H0 H : Hp} {L : Items} {r : (List Int) × Int} {jk_ : Nat → Value} {a : List Int} {b : Int} {out : List Int} {rest : Int} {i : Int} {v_a : Value} {v_out : Value} {i_out : Item'} (hle : H0.le H) (he : wide_short.b0 k h a b out rest i = some r) (h_a : Src (Kd.int .u32) H L v_a a) (h_out : Sl (Kd.int .u32) H 90 i_out v_out out) : Wp Tryz.prog 76 44 wide_short.Kl0 (upd (upd (upd (upd (upd (upd (upd jk_ 0 (v_a)) 1 (.int .u32 b)) 4 (.slice none 0 0)) 5 (.int .u32 0)) 6 (v_out)) 7 (.int .u64 rest)) 8 (.int .i64 i)) H (i_out :: L) (wide_short.R H0 L r) := by
 unfold wide_short.b0 at he
 unfold wide_short.Kl0
 refine w_seq <| w_seq <| w_region rfl <| w_d rfl (d_move (v := .int .i64 i) rfl) <| w_d rfl (d_geq rfl rfl) <| w_done ?_
 rcases its he with ⟨c5, he⟩ | ⟨c5, he⟩
 ·
  refine w_then rfl (decide_eq_true c5) <| w_skip <| w_seq <| w_block <| w_seq <| w_region rfl <| w_d rfl (d_move (v := .int .u64 rest) rfl) <| w_d rfl (d_shl (c := (rest * 4294967296) % 18446744073709551616) rfl rfl (by decide) rfl) <| w_d rfl (d_move (v := v_a) rfl) <| w_d rfl (d_move (v := .int .i64 i) rfl) ?_
  obtain ⟨c6, he⟩ := rq he
  refine w_d rfl (d_index (sz := 1) Tryz.underlying34 sz90 rfl h_a.th rfl c6) <| w_d rfl (d_ldint ty90 rfl h_a.th c6) <| w_d rfl (d_conv (c := (rd a i) % 18446744073709551616) Tryz.underlying90 Tryz.underlying88 rfl rfl) <| w_d rfl (d_bor rfl rfl) <| w_d rfl (d_assign (v := .int .u64 (ior .u64 ((rest * 4294967296) % 18446744073709551616) ((rd a i) % 18446744073709551616))) rfl) <| w_done <| w_seq <| w_region rfl <| w_d rfl (d_move (v := v_out) rfl) <| w_d rfl (d_move (v := .int .i64 i) rfl) <| w_d rfl (d_move (v := .int .u64 (ior .u64 ((rest * 4294967296) % 18446744073709551616) ((rd a i) % 18446744073709551616))) rfl) <| w_d rfl (d_move (v := .int .u32 b) rfl) ?_
  refine w_d rfl (d_conv (c := (b) % 18446744073709551616) Tryz.underlying90 Tryz.underlying88 rfl rfl) ?_
  obtain ⟨c7, he⟩ := rq he
  refine w_d rfl (d_quo (c := (Int.tdiv (ior .u64 ((rest * 4294967296) % 18446744073709551616) ((rd a i) % 18446744073709551616)) ((b) % 18446744073709551616)) % 18446744073709551616) rfl rfl c7 rfl) <| w_d rfl (d_conv (c := ((Int.tdiv (ior .u64 ((rest * 4294967296) % 18446744073709551616) ((rd a i) % 18446744073709551616)) ((b) % 18446744073709551616)) % 18446744073709551616) % 4294967296) Tryz.underlying88 Tryz.underlying90 rfl rfl) ?_
  obtain ⟨c8, he⟩ := rq he
  refine w_d rfl (d_indexS (sz := 1) Tryz.underlying34 sz90 rfl h_out.shp rfl c8) <| w_a0 rfl (o_storeEl (kd := (Kd.int .u32)) (v := .int .u32 (((Int.tdiv (ior .u64 ((rest * 4294967296) % 18446744073709551616) ((rd a i) % 18446744073709551616)) ((b) % 18446744073709551616)) % 18446744073709551616) % 4294967296)) (F := fun z_ => z_ :: L) sz90 rfl rfl rfl rfl h_out c8 (fun _ => .here)) ?_
  rintro _ _ _ ⟨i9, rfl, rfl, rfl, h10⟩
  refine w_done <| w_region rfl <| w_d rfl (d_move (v := .int .u64 (ior .u64 ((rest * 4294967296) % 18446744073709551616) ((rd a i) % 18446744073709551616))) rfl) <| w_d rfl (d_move (v := .int .u32 b) rfl) <| w_d rfl (d_conv (c := (b) % 18446744073709551616) Tryz.underlying90 Tryz.underlying88 rfl rfl) ?_
  obtain ⟨c11, he⟩ := rq he
  refine w_d rfl (d_rem rfl rfl c11) <| w_d rfl (d_assign (v := .int .u64 (Int.tmod (ior .u64 ((rest * 4294967296) % 18446744073709551616) ((rd a i) % 18446744073709551616)) ((b) % 18446744073709551616))) rfl) <| w_done <| w_inBlock <| w_region rfl <| w_d rfl (d_move (v := .int .i64 i) rfl) <| w_d rfl (d_sub (c := w64 (i - 1)) rfl rfl rfl) <| w_d rfl (d_assign (v := .int .i64 (w64 (i - 1))) rfl) <| w_done <| w_inLoop <| w_sl 0 (v_a) rfl <| w_sl 1 (.int .u32 b) rfl ?_
  refine w_sl 4 (.slice none 0 0) rfl <| w_sl 5 (.int .u32 0) rfl <| w_sl 6 (v_out) rfl <| w_sl 7 (.int .u64 (Int.tmod (ior .u64 ((rest * 4294967296) % 18446744073709551616) ((rd a i) % 18446744073709551616)) ((b) % 18446744073709551616))) rfl <| w_sl 8 (.int .i64 (w64 (i - 1))) rfl <| hh.l0 hle he h_a h10
 ·
  refine w_else rfl (decide_eq_false c5) <| w_exit rfl <| w_seq <| w_region rfl <| w_d rfl (d_move (v := v_out) rfl) <| w_freeze h_out .here ?_
  intro H12 e13 h14
  obtain ⟨y15, hy16, he⟩ := Option.bind_eq_some_iff.1 he
  refine w_a rfl (o_call co47 (vs := [v_out]) rfl (wide_trim.calls k hy16 h14)) ?_
  rintro v19 H17 _ ⟨rfl, e18, h20⟩
  refine w_d rfl (d_move (v := .int .u64 rest) rfl) <| w_d rfl (d_conv (c := (rest) % 4294967296) Tryz.underlying88 Tryz.underlying90 rfl rfl) <| w_d rfl (d_assign (v := v19) rfl) <| w_d rfl (d_assign (v := .int .u32 ((rest) % 4294967296)) rfl) <| w_done ?_
  obtain rfl := Option.some.inj he
  refine w_return fn_76 rs_76 (.tmp (v := v19) rfl (.tmp (v := .int .u32 ((rest) % 4294967296)) rfl .nil)) <| ⟨⟨[_], rfl⟩, hle.trans (e13.trans e18), ⟨v19, rfl, h20⟩⟩
theorem wide_short.ok : ∀ k, wide_short.OK (wide_short.hs k)
 | 0 => ⟨(by intros; exact nomatch (show none = some _ from by assumption))⟩
 | k + 1 => ⟨wide_short.b0_ok (k := k) (wide_short.ok k)⟩
theorem wide_short.calls (k : Nat) {H : Hp} {L : Items} {a : List Int} {b : Int} {v0_a : Value} {r : (List Int) × Int} (he : wide_short.f k a b = some r) (h0_a : Src (Kd.int .u32) H L v0_a a) : Ct Tryz.prog 76 ⟨[v0_a, .int .u32 b]⟩ H L (fun v H' L' => L = L' ∧ H.le H' ∧ wide_short.out r H' v) := by
 refine ct_out (O := wide_short.out r) ?_
 have hle : H.le H := .refl _
 have hh := wide_short.ok k
 unfold wide_short.f at he
 refine ct_enter (args := [v0_a, .int .u32 b]) fn_76 rfl nt_76 rfl <| w_seq <| w_region rfl <| w_d rfl (d_assign (v := .slice none 0 0) rfl) <| w_d rfl (d_assign (v := .int .u32 0) rfl) <| w_done <| w_seq <| w_region rfl <| w_d rfl (d_move (v := v0_a) rfl) <| w_d rfl (d_len Tryz.underlying34 rfl h0_a) ?_
 obtain ⟨c1, he⟩ := rq he
 refine w_a rfl (o_make' (kd := (Kd.int .u32)) (z0 := 0) Tryz.underlying34 ti90 (zp90 _) rfl rfl (by omega) (by omega) (by omega)) ?_
 rintro v2 _ _ ⟨i3, rfl, rfl, h4⟩
 refine w_d rfl (d_assign (v := v2) rfl) <| w_done <| w_seq <| w_region rfl <| w_d rfl (d_assign (v := .int .u64 0) rfl) <| w_done <| w_seq <| w_seq <| w_region rfl <| w_d rfl (d_move (v := v0_a) rfl) <| w_d rfl (d_len Tryz.underlying34 rfl h0_a.th) <| w_d rfl (d_sub (c := w64 ((a.length : Int) - 1)) rfl rfl rfl) ?_
 refine w_d rfl (d_assign (v := .int .i64 (w64 ((a.length : Int) - 1))) rfl) <| w_done <| w_block <| w_loop <| w_sl 0 (v0_a) rfl <| w_sl 1 (.int .u32 b) rfl <| w_sl 4 (.slice none 0 0) rfl <| w_sl 5 (.int .u32 0) rfl <| w_sl 6 (v2) rfl <| w_sl 7 (.int .u64 0) rfl <| w_sl 8 (.int .i64 (w64 ((a.length : Int) - 1))) rfl <| hh.l0 hle he h0_a h4
/-! ### math/bits.Len32 -/
noncomputable def bits_Len32.C : Code := (Tryz.f98.body).getD .skip
def bits_Len32.out (r : Int) (H : Hp) (v : Value) : Prop := v = .int .i64 r
abbrev bits_Len32.R (H0 : Hp) (L : Items) (r : Int) : Value → Hp → Items → Prop := fun v H' L' => (∃ p, L' = p ++ L) ∧ H0.le H' ∧ bits_Len32.out r H' v
noncomputable def bits_Len32.j2 (k : Nat)  (x : Int) (n : Int) : Option Int := if (0 : Int) ≤ (x) % 256 ∧ (x) % 256 < (str_4.size : Int) then (some (w64 (n + (w64 (bt str_4 ((x) % 256)))))) else none
noncomputable def bits_Len32.j1 (k : Nat)  (x : Int) (n : Int) : Option Int := if 256 ≤ x then (bits_Len32.j2 k (x / 256) (w64 (n + 8))) else (bits_Len32.j2 k x n)
noncomputable def bits_Len32.f (k : Nat) (x : Int) : Option Int := if 65536 ≤ x then (bits_Len32.j1 k (x / 65536) 16) else (bits_Len32.j1 k x 0)
theorem bits_Len32.j2_mono {k : Nat} : ∀ y0 y1, LeO (bits_Len32.j2 k y0 y1) (bits_Len32.j2 (k + 1) y0 y1) := fun _ _ => (LeO.ite (LeO.refl _) (LeO.refl _))
theorem bits_Len32.j1_mono {k : Nat} : ∀ y0 y1, LeO (bits_Len32.j1 k y0 y1) (bits_Len32.j1 (k + 1) y0 y1) := fun _ _ => (LeO.ite (bits_Len32.j2_mono (k := k)  _ _) (bits_Len32.j2_mono (k := k)  _ _))
theorem bits_Len32.mono : ∀ k y0, LeO (bits_Len32.f k y0) (bits_Len32.f (k + 1) y0) := fun k _ => by unfold bits_Len32.f; exact (LeO.ite (bits_Len32.j1_mono (k := k)  _ _) (bits_Len32.j1_mono (k := k)  _ _))
noncomputable def bits_Len32.Kj1 : List Item := .code (seqR (seqR bits_Len32.C)) :: []
noncomputable def bits_Len32.Kj2 : List Item := .code (seqR (seqR (seqR bits_Len32.C))) :: []
theorem bits_Len32.j2_ok {k : Nat} {H0 H : Hp} {L : Items} {r : Int} {jk_ : Nat → Value} {x : Int} {n : Int} (hle : H0.le H) (he : bits_Len32.j2 k x n = some r) : Wp Tryz.prog 98 19 bits_Len32.Kj2 (upd (upd jk_ 0 (.int .u32 x)) 2 (.int .i64 n)) H (L) (bits_Len32.R H0 L r) := by
 unfold bits_Len32.j2 at he
 unfold bits_Len32.Kj2
 refine w_seq <| w_region rfl <| w_d rfl (d_move (v := .int .i64 n) rfl) <| w_d rfl (d_move (v := .int .u32 x) rfl) <| w_d rfl (d_conv (c := (x) % 256) Tryz.underlying90 Tryz.underlying5 rfl rfl) ?_
 obtain ⟨c3, he⟩ := rq he
 refine w_d rfl (d_bt Tryz.underlying9 rfl rfl c3) <| w_d rfl (d_conv (c := w64 (bt str_4 ((x) % 256))) Tryz.underlying5 Tryz.underlying3 rfl rfl) <| w_d rfl (d_add (c := w64 (n + (w64 (bt str_4 ((x) % 256))))) rfl rfl rfl) <| w_d rfl (d_assign (v := .int .i64 (w64 (n + (w64 (bt str_4 ((x) % 256)))))) rfl) <| w_done ?_
 obtain rfl := Option.some.inj he
 refine w_return fn_98 rs_98 (.tmp (v := .int .i64 (w64 (n + (w64 (bt str_4 ((x) % 256)))))) rfl .nil) <| ⟨⟨[], rfl⟩, hle, rfl⟩
theorem bits_Len32.j1_ok {k : Nat} {H0 H : Hp} {L : Items} {r : Int} {jk_ : Nat → Value} {x : Int} {n : Int} (hle : H0.le H) (he : bits_Len32.j1 k x n = some r) : Wp Tryz.prog 98 19 bits_Len32.Kj1 (upd (upd jk_ 0 (.int .u32 x)) 2 (.int .i64 n)) H (L) (bits_Len32.R H0 L r) := by
 unfold bits_Len32.j1 at he
 unfold bits_Len32.Kj1
 refine w_seq <| w_seq <| w_region rfl <| w_d rfl (d_move (v := .int .u32 x) rfl) <| w_d rfl (d_geq rfl rfl) <| w_done ?_
 rcases its he with ⟨c2, he⟩ | ⟨c2, he⟩
 ·
  refine w_then rfl (decide_eq_true c2) <| w_seq <| w_region rfl <| w_d rfl (d_move (v := .int .u32 x) rfl) <| w_d rfl (d_shr (c := x / 256) rfl rfl (by decide) rfl) <| w_d rfl (d_assign (v := .int .u32 (x / 256)) rfl) <| w_done <| w_region rfl <| w_d rfl (d_move (v := .int .i64 n) rfl) <| w_d rfl (d_add (c := w64 (n + 8)) rfl rfl rfl) <| w_d rfl (d_assign (v := .int .i64 (w64 (n + 8))) rfl) <| w_done ?_
  refine w_sl 0 (.int .u32 (x / 256)) rfl <| w_sl 2 (.int .i64 (w64 (n + 8))) rfl <| bits_Len32.j2_ok (k := k) hle he
 ·
  refine w_else rfl (decide_eq_false c2) <| w_skip <| w_sl 0 (.int .u32 x) rfl <| w_sl 2 (.int .i64 n) rfl <| bits_Len32.j2_ok (k := k) hle he
theorem bits_Len32.calls (k : Nat) {H : Hp} {L : Items} {x : Int} {r : Int} (he : bits_Len32.f k x = some r) : Ct Tryz.prog 98 ⟨[.int .u32 x]⟩ H L (fun v H' L' => L = L' ∧ H = H' ∧ v = .int .i64 r) := by
 refine ct_outs (O := bits_Len32.out r) (fun _ _ h => h) ?_
 have hle : H.le H := .refl _
 unfold bits_Len32.f at he
 refine ct_enter (args := [.int .u32 x]) fn_98 rfl nt_98 rfl <| w_seq <| w_region rfl <| w_d rfl (d_assign (v := .int .i64 0) rfl) <| w_done <| w_seq <| w_seq <| w_region rfl <| w_d rfl (d_move (v := .int .u32 x) rfl) <| w_d rfl (d_geq rfl rfl) <| w_done ?_
 rcases its he with ⟨c1, he⟩ | ⟨c1, he⟩
 ·
  refine w_then rfl (decide_eq_true c1) <| w_seq <| w_region rfl <| w_d rfl (d_move (v := .int .u32 x) rfl) <| w_d rfl (d_shr (c := x / 65536) rfl rfl (by decide) rfl) <| w_d rfl (d_assign (v := .int .u32 (x / 65536)) rfl) <| w_done <| w_region rfl <| w_d rfl (d_assign (v := .int .i64 16) rfl) <| w_done <| w_sl 0 (.int .u32 (x / 65536)) rfl <| w_sl 2 (.int .i64 16) rfl <| bits_Len32.j1_ok (k := k) hle he
 ·
  refine w_else rfl (decide_eq_false c1) <| w_skip <| w_sl 0 (.int .u32 x) rfl <| w_sl 2 (.int .i64 0) rfl <| bits_Len32.j1_ok (k := k) hle he
/-! ### math/bits.LeadingZeros32 -/
noncomputable def bits_LeadingZeros32.C : Code := (Tryz.f88.body).getD .skip
def bits_LeadingZeros32.out (r : Int) (H : Hp) (v : Value) : Prop := v = .int .i64 r
abbrev bits_LeadingZeros32.R (H0 : Hp) (L : Items) (r : Int) : Value → Hp → Items → Prop := fun v H' L' => (∃ p, L' = p ++ L) ∧ H0.le H' ∧ bits_LeadingZeros32.out r H' v
noncomputable def bits_LeadingZeros32.f (k : Nat) (x : Int) : Option Int := (bits_Len32.f k x).bind fun y1 => some (w64 (32 - y1))
theorem bits_LeadingZeros32.mono : ∀ k y0, LeO (bits_LeadingZeros32.f k y0) (bits_LeadingZeros32.f (k + 1) y0) := fun k _ => by unfold bits_LeadingZeros32.f; exact (LeO.bind (bits_Len32.mono k _) fun _ => LeO.refl _)
theorem bits_LeadingZeros32.calls (k : Nat) {H : Hp} {L : Items} {x : Int} {r : Int} (he : bits_LeadingZeros32.f k x = some r) : Ct Tryz.prog 88 ⟨[.int .u32 x]⟩ H L (fun v H' L' => L = L' ∧ H = H' ∧ v = .int .i64 r) := by
 refine ct_outs (O := bits_LeadingZeros32.out r) (fun _ _ h => h) ?_
 have hle : H.le H := .refl _
 unfold bits_LeadingZeros32.f at he
 refine ct_enter (args := [.int .u32 x]) fn_88 rfl nt_88 rfl <| w_seq <| w_region rfl <| w_d rfl (d_assign (v := .int .i64 0) rfl) <| w_done <| w_seq <| w_region rfl <| w_d rfl (d_move (v := .int .u32 x) rfl) ?_
 obtain ⟨y1, hy2, he⟩ := Option.bind_eq_some_iff.1 he
 refine w_d rfl (call_d (o_call co98 (vs := [.int .u32 x]) rfl (bits_Len32.calls k hy2))) <| w_d rfl (d_sub (c := w64 (32 - y1)) rfl rfl rfl) <| w_d rfl (d_assign (v := .int .i64 (w64 (32 - y1))) rfl) <| w_done ?_
 obtain rfl := Option.some.inj he
 refine w_return fn_88 rs_88 (.tmp (v := .int .i64 (w64 (32 - y1))) rfl .nil) <| ⟨⟨[], rfl⟩, hle, rfl⟩
/-! ### radome/wide.up -/
noncomputable def wide_up.C : Code := (Tryz.f60.body).getD .skip
abbrev wide_up.out (r : (List Int)) (H : Hp) (v : Value) : Prop := Ro (Kd.int .u32) H v r
abbrev wide_up.R (H0 : Hp) (L : Items) (r : (List Int)) : Value → Hp → Items → Prop := fun v H' L' => (∃ p it, L' = p ++ it :: L ∧ Sl (Kd.int .u32) H' 90 it v r) ∧ H0.le H'
structure wide_up.Hs where
 l0 : Int → (List Int) → Int → (List Int) → Int → Int → Option (List Int)
noncomputable def wide_up.b0 (k : Nat) (h : wide_up.Hs)  (n : Int) (out : List Int) (carry : Int) (t14 : List Int) (t15 : Int) (t16 : Int) : Option (List Int) := if t16 < t15 then (if (0 : Int) ≤ t16 ∧ t16 < (t14.length : Int) then (if 0 ≤ n then (if out.length + 1 ≤ 35184372088704 then (h.l0 n (out ++ [(ior .u64 ((((rd t14 t16) % 18446744073709551616) * 2 ^ shn .u64 n) % 18446744073709551616) ((carry) % 18446744073709551616)) % 4294967296]) (((ior .u64 ((((rd t14 t16) % 18446744073709551616) * 2 ^ shn .u64 n) % 18446744073709551616) ((carry) % 18446744073709551616)) / 4294967296) % 4294967296) t14 t15 (w64 (t16 + 1))) else none) else none) else none) else (if out.length + 1 ≤ 35184372088704 then (some (out ++ [carry])) else none)
noncomputable def wide_up.hs : Nat → wide_up.Hs
 | 0 => ⟨fun _ _ _ _ _ _ => none⟩
 | k + 1 => ⟨fun x0 x1 x2 x3 x4 x5 => wide_up.b0 k (wide_up.hs k) x0 x1 x2 x3 x4 x5⟩
noncomputable def wide_up.f (k : Nat) (w : List Int) (n : Int) : Option (List Int) := (fun h : wide_up.Hs => if 0 ≤ 0 ∧ 0 ≤ w64 ((w.length : Int) + 1) ∧ w64 ((w.length : Int) + 1) ≤ 70368744177664 then (h.l0 n (List.replicate (0 : Int).toNat (0 : Int)) 0 w (w.length : Int) 0) else none) (wide_up.hs k)
structure wide_up.LE (h h' : wide_up.Hs) : Prop where
 l0 : ∀ y0 y1 y2 y3 y4 y5, LeO (h.l0 y0 y1 y2 y3 y4 y5) (h'.l0 y0 y1 y2 y3 y4 y5)
theorem wide_up.b0_mono {k : Nat} {h h' : wide_up.Hs} (hl : wide_up.LE h h') : ∀ y0 y1 y2 y3 y4 y5, LeO (wide_up.b0 k h y0 y1 y2 y3 y4 y5) (wide_up.b0 (k + 1) h' y0 y1 y2 y3 y4 y5) := fun _ _ _ _ _ _ => (LeO.ite (LeO.ite (LeO.ite (LeO.ite (hl.l0 _ _ _ _ _ _) (LeO.refl _)) (LeO.refl _)) (LeO.refl _)) (LeO.ite (LeO.refl _) (LeO.refl _)))
theorem wide_up.hs_mono : ∀ k, wide_up.LE (wide_up.hs k) (wide_up.hs (k + 1))
 | 0 => ⟨fun _ _ _ _ _ _ => LeO.none _⟩
 | k + 1 => ⟨wide_up.b0_mono (k := k) (wide_up.hs_mono k)⟩
theorem wide_up.mono : ∀ k y0 y1, LeO (wide_up.f k y0 y1) (wide_up.f (k + 1) y0 y1) := fun k _ _ => have hl := wide_up.hs_mono k; by unfold wide_up.f; exact (LeO.ite (hl.l0 _ _ _ _ _ _) (LeO.refl _))
noncomputable def wide_up.Kl0 : List Item := .code (lopB (blkB (seqR (seqL (seqR (seqR (seqR wide_up.C))))))) :: .inLoop (lopB (blkB (seqR (seqL (seqR (seqR (seqR wide_up.C))))))) :: .inBlock 0 :: .code (seqR (seqR (seqR (seqR wide_up.C)))) :: []
structure wide_up.OK (h : wide_up.Hs) : Prop where
 l0 : ∀ {H0 H : Hp} {L : Items} {r : (List Int)} {jk_ : Nat → Value} {n : Int} {out : List Int} {carry : Int} {t14 : List Int} {t15 : Int} {t16 : Int} {v_out : Value} {v_t14 : Value} {i_out : Item'} (_ : H0.le H) (_he : h.l0 n out carry t14 t15 t16 = some r) (_h_out : Sl (Kd.int .u32) H 90 i_out v_out out) (_h_t14 : Src (Kd.int .u32) H L v_t14 t14), Wp Tryz.prog 60 40 wide_up.Kl0 (upd (upd (upd (upd (upd (upd (upd jk_ 1 (.int .i64 n)) 4 (.slice none 0 0)) 5 (v_out)) 6 (.int .u32 carry)) 14 (v_t14)) 15 (.int .i64 t15)) 16 (.int .i64 t16)) H (i_out :: L) (wide_up.R H0 L r)
theorem wide_up.b0_ok {k : Nat} {h : wide_up.Hs} (hh : wide_up.OK h) {H0 H : Hp} {L : Items} {r : (List Int)} {jk_ : Nat → Value} {n : Int} {out : List Int} {carry : Int} {t14 : List Int} {t15 : Int} {t16 : Int} {v_out : Value} {v_t14 : Value} {i_out : Item'} (hle : H0.le H) (he : wide_up.b0 k h n out carry t14 t15 t16 = some r) (h_out : Sl (Kd.int .u32) H 90 i_out v_out out) (h_t14 : Src (Kd.int .u32) H L v_t14 t14) : Wp Tryz.prog 60 40 wide_up.Kl0 (upd (upd (upd (upd (upd (upd (upd jk_ 1 (.int .i64 n)) 4 (.slice none 0 0)) 5 (v_out)) 6 (.int .u32 carry)) 14 (v_t14)) 15 (.int .i64 t15)) 16 (.int .i64 t16)) H (i_out :: L) (wide_up.R H0 L r) := by
 unfold wide_up.b0 at he
 unfold wide_up.Kl0
 refine w_seq <| w_region rfl <| w_d rfl (d_lss rfl rfl) <| w_done <| w_seq ?_
 rcases its he with ⟨c5, he⟩ | ⟨c5, he⟩
 ·
  refine w_then rfl (decide_eq_true c5) <| w_skip <| w_seq <| w_block <| w_seq <| w_region rfl ?_
  obtain ⟨c6, he⟩ := rq he
  refine w_d rfl (d_index (sz := 1) Tryz.underlying34 sz90 rfl h_t14.th rfl c6) <| w_d rfl (d_ldint ty90 rfl h_t14.th c6) <| w_d rfl (d_assign (v := .int .u32 (rd t14 t16)) rfl) <| w_done <| w_seq <| w_region rfl <| w_d rfl (d_move (v := .int .u32 (rd t14 t16)) rfl) <| w_d rfl (d_conv (c := (rd t14 t16) % 18446744073709551616) Tryz.underlying90 Tryz.underlying88 rfl rfl) <| w_d rfl (d_move (v := .int .i64 n) rfl) ?_
  obtain ⟨c7, he⟩ := rq he
  refine w_d rfl (d_shl (c := (((rd t14 t16) % 18446744073709551616) * 2 ^ shn .u64 n) % 18446744073709551616) rfl rfl c7 rfl) <| w_d rfl (d_move (v := .int .u32 carry) rfl) <| w_d rfl (d_conv (c := (carry) % 18446744073709551616) Tryz.underlying90 Tryz.underlying88 rfl rfl) <| w_d rfl (d_bor rfl rfl) <| w_d rfl (d_assign (v := .int .u64 (ior .u64 ((((rd t14 t16) % 18446744073709551616) * 2 ^ shn .u64 n) % 18446744073709551616) ((carry) % 18446744073709551616))) rfl) <| w_done <| w_seq <| w_region rfl <| w_d rfl (d_move (v := v_out) rfl) <| w_d rfl (d_move (v := .int .u64 (ior .u64 ((((rd t14 t16) % 18446744073709551616) * 2 ^ shn .u64 n) % 18446744073709551616) ((carry) % 18446744073709551616))) rfl) <| w_d rfl (d_conv (c := (ior .u64 ((((rd t14 t16) % 18446744073709551616) * 2 ^ shn .u64 n) % 18446744073709551616) ((carry) % 18446744073709551616)) % 4294967296) Tryz.underlying88 Tryz.underlying90 rfl rfl) <| w_a rfl (o_buildSlice' (kd := (Kd.int .u32)) (css := [[.int .u32 ((ior .u64 ((((rd t14 t16) % 18446744073709551616) * 2 ^ shn .u64 n) % 18446744073709551616) ((carry) % 18446744073709551616)) % 4294967296)]]) (xs := [(ior .u64 ((((rd t14 t16) % 18446744073709551616) * 2 ^ shn .u64 n) % 18446744073709551616) ((carry) % 18446744073709551616)) % 4294967296]) (parts := [(0, .int .u32 ((ior .u64 ((((rd t14 t16) % 18446744073709551616) * 2 ^ shn .u64 n) % 18446744073709551616) ((carry) % 18446744073709551616)) % 4294967296))]) Tryz.underlying34 ti90 rfl ⟨_, _, rfl, rfl, rfl⟩ ⟨rfl, trivial⟩ rfl (by decide)) ?_
  rintro v8 _ _ ⟨i9, rfl, rfl, h10⟩
  obtain ⟨c11, he⟩ := rq he
  refine w_a rfl (o_append' (kd := (Kd.int .u32)) (F := fun z_ => i9 :: z_ :: L) Tryz.underlying34 Tryz.underlying34 ti90 rfl (by first | omega | (simp only [List.nil_append, List.length_cons, List.length_nil]; omega)) rfl rfl h_out (h10.src .here) (fun _ => (.there .here))) ?_
  rintro v12 _ _ ⟨i13, rfl, rfl, h14⟩
  refine w_d rfl (d_assign (v := v12) rfl) <| w_done <| w_region rfl <| w_d rfl (d_move (v := .int .u64 (ior .u64 ((((rd t14 t16) % 18446744073709551616) * 2 ^ shn .u64 n) % 18446744073709551616) ((carry) % 18446744073709551616))) rfl) <| w_d rfl (d_shr (c := (ior .u64 ((((rd t14 t16) % 18446744073709551616) * 2 ^ shn .u64 n) % 18446744073709551616) ((carry) % 18446744073709551616)) / 4294967296) rfl rfl (by decide) rfl) <| w_d rfl (d_conv (c := ((ior .u64 ((((rd t14 t16) % 18446744073709551616) * 2 ^ shn .u64 n) % 18446744073709551616) ((carry) % 18446744073709551616)) / 4294967296) % 4294967296) Tryz.underlying88 Tryz.underlying90 rfl rfl) <| w_d rfl (d_assign (v := .int .u32 (((ior .u64 ((((rd t14 t16) % 18446744073709551616) * 2 ^ shn .u64 n) % 18446744073709551616) ((carry) % 18446744073709551616)) / 4294967296) % 4294967296)) rfl) <| w_done <| w_inBlock <| w_region rfl <| w_d rfl (d_add (c := w64 (t16 + 1)) rfl rfl rfl) <| w_d rfl (d_move (v := .int .i64 (w64 (t16 + 1))) rfl) ?_
  refine w_done <| w_inLoop <| w_del .here <| w_sl 1 (.int .i64 n) rfl <| w_sl 4 (.slice none 0 0) rfl <| w_sl 5 (v12) rfl <| w_sl 6 (.int .u32 (((ior .u64 ((((rd t14 t16) % 18446744073709551616) * 2 ^ shn .u64 n) % 18446744073709551616) ((carry) % 18446744073709551616)) / 4294967296) % 4294967296)) rfl <| w_sl 14 (v_t14) rfl <| w_sl 15 (.int .i64 t15) rfl <| w_sl 16 (.int .i64 (w64 (t16 + 1))) rfl <| hh.l0 hle he h14 h_t14
 ·
  refine w_else rfl (decide_eq_false c5) <| w_exit rfl <| w_seq <| w_region rfl <| w_d rfl (d_move (v := v_out) rfl) <| w_d rfl (d_move (v := .int .u32 carry) rfl) <| w_a rfl (o_buildSlice' (kd := (Kd.int .u32)) (css := [[.int .u32 carry]]) (xs := [carry]) (parts := [(0, .int .u32 carry)]) Tryz.underlying34 ti90 rfl ⟨_, _, rfl, rfl, rfl⟩ ⟨rfl, trivial⟩ rfl (by decide)) ?_
  rintro v15 _ _ ⟨i16, rfl, rfl, h17⟩
  obtain ⟨c18, he⟩ := rq he
  refine w_a rfl (o_append' (kd := (Kd.int .u32)) (F := fun z_ => i16 :: z_ :: L) Tryz.underlying34 Tryz.underlying34 ti90 rfl (by first | omega | (simp only [List.nil_append, List.length_cons, List.length_nil]; omega)) rfl rfl h_out (h17.src .here) (fun _ => (.there .here))) ?_
  rintro v19 _ _ ⟨i20, rfl, rfl, h21⟩
  refine w_d rfl (d_assign (v := v19) rfl) <| w_done ?_
  obtain rfl := Option.some.inj he
  refine w_del .here <| w_return fn_60 rs_60 (.tmp (v := v19) rfl .nil) <| ⟨⟨[], _, rfl, h21⟩, hle⟩
theorem wide_up.ok : ∀ k, wide_up.OK (wide_up.hs k)
 | 0 => ⟨(by intros; exact nomatch (show none = some _ from by assumption))⟩
 | k + 1 => ⟨wide_up.b0_ok (k := k) (wide_up.ok k)⟩
theorem wide_up.calls (k : Nat) {H : Hp} {L : Items} {w : List Int} {n : Int} {v0_w : Value} {r : (List Int)} (he : wide_up.f k w n = some r) (h0_w : Src (Kd.int .u32) H L v0_w w) : Ct Tryz.prog 60 ⟨[v0_w, .int .i64 n]⟩ H L (fun v H' L' => ∃ it, L' = it :: L ∧ H.le H' ∧ Sl (Kd.int .u32) H' 90 it v r) := by
 refine ct_own ?_
 have hle : H.le H := .refl _
 have hh := wide_up.ok k
 unfold wide_up.f at he
 refine ct_enter (args := [v0_w, .int .i64 n]) fn_60 rfl nt_60 rfl <| w_seq <| w_region rfl <| w_d rfl (d_assign (v := .slice none 0 0) rfl) <| w_done <| w_seq <| w_region rfl <| w_d rfl (d_move (v := v0_w) rfl) <| w_d rfl (d_len Tryz.underlying34 rfl h0_w) <| w_d rfl (d_add (c := w64 ((w.length : Int) + 1)) rfl rfl rfl) ?_
 obtain ⟨c1, he⟩ := rq he
 refine w_a rfl (o_make' (kd := (Kd.int .u32)) (z0 := 0) Tryz.underlying34 ti90 (zp90 _) rfl rfl (by omega) (by omega) (by omega)) ?_
 rintro v2 _ _ ⟨i3, rfl, rfl, h4⟩
 refine w_d rfl (d_assign (v := v2) rfl) <| w_done <| w_seq <| w_region rfl <| w_d rfl (d_assign (v := .int .u32 0) rfl) <| w_done <| w_seq <| w_seq <| w_region rfl <| w_d rfl (d_move (v := v0_w) rfl) <| w_d rfl (d_len Tryz.underlying34 rfl h0_w.th) <| w_d rfl (d_move (v := .int .i64 0) rfl) ?_
 refine w_done <| w_block <| w_loop <| w_sl 1 (.int .i64 n) rfl <| w_sl 4 (.slice none 0 0) rfl <| w_sl 5 (v2) rfl <| w_sl 6 (.int .u32 0) rfl <| w_sl 14 (v0_w) rfl <| w_sl 15 (.int .i64 (w.length : Int)) rfl <| w_sl 16 (.int .i64 0) rfl <| hh.l0 hle he h4 h0_w
theorem wide_up.callsR (k : Nat) {H : Hp} {L : Items} {w : List Int} {n : Int} {v0_w : Value} {r : (List Int)} (he : wide_up.f k w n = some r) (h0_w : Src (Kd.int .u32) H L v0_w w) : Ct Tryz.prog 60 ⟨[v0_w, .int .i64 n]⟩ H L (fun v H' L' => L = L' ∧ H.le H' ∧ wide_up.out r H' v) := ct_ro (wide_up.calls k he h0_w)
/-! ### radome/wide.guess -/
noncomputable def wide_guess.C : Code := (Tryz.f89.body).getD .skip
def wide_guess.out (r : Int) (H : Hp) (v : Value) : Prop := v = .int .u64 r
abbrev wide_guess.R (H0 : Hp) (L : Items) (r : Int) : Value → Hp → Items → Prop := fun v H' L' => (∃ p, L' = p ++ L) ∧ H0.le H' ∧ wide_guess.out r H' v
structure wide_guess.Hs where
 l0 : (List Int) → (List Int) → Int → Int → Int → Int → Option Int
noncomputable def wide_guess.b0 (k : Nat) (h : wide_guess.Hs)  (r_ : List Int) (d : List Int) (i : Int) (n : Int) (q : Int) (left : Int) : Option Int := if (!(decide (4294967296 ≤ q))) = true → (0 : Int) ≤ w64 (n - 2) ∧ w64 (n - 2) < (d.length : Int) then (if (!(decide (4294967296 ≤ q))) = true → (0 : Int) ≤ w64 ((w64 (i + n)) - 2) ∧ w64 ((w64 (i + n)) - 2) < (r_.length : Int) then (if ((decide (4294967296 ≤ q)) || (decide ((ior .u64 ((left * 4294967296) % 18446744073709551616) ((rd r_ (w64 ((w64 (i + n)) - 2))) % 18446744073709551616)) < ((q * ((rd d (w64 (n - 2))) % 18446744073709551616)) % 18446744073709551616)))) = true then (if (0 : Int) ≤ w64 (n - 1) ∧ w64 (n - 1) < (d.length : Int) then (if 4294967296 ≤ ((left + ((rd d (w64 (n - 1))) % 18446744073709551616)) % 18446744073709551616) then (some ((q - 1) % 18446744073709551616)) else (h.l0 r_ d i n ((q - 1) % 18446744073709551616) ((left + ((rd d (w64 (n - 1))) % 18446744073709551616)) % 18446744073709551616))) else none) else (some (q))) else none) else none
noncomputable def wide_guess.hs : Nat → wide_guess.Hs
 | 0 => ⟨fun _ _ _ _ _ _ => none⟩
 | k + 1 => ⟨fun x0 x1 x2 x3 x4 x5 => wide_guess.b0 k (wide_guess.hs k) x0 x1 x2 x3 x4 x5⟩
noncomputable def wide_guess.f (k : Nat) (r_ : List Int) (d : List Int) (i : Int) : Option Int := (fun h : wide_guess.Hs => if (0 : Int) ≤ w64 (i + (d.length : Int)) ∧ w64 (i + (d.length : Int)) < (r_.length : Int) then (if (0 : Int) ≤ w64 ((w64 (i + (d.length : Int))) - 1) ∧ w64 ((w64 (i + (d.length : Int))) - 1) < (r_.length : Int) then (if (0 : Int) ≤ w64 ((d.length : Int) - 1) ∧ w64 ((d.length : Int) - 1) < (d.length : Int) then (if ((rd d (w64 ((d.length : Int) - 1))) % 18446744073709551616) ≠ 0 then (if (0 : Int) ≤ w64 ((d.length : Int) - 1) ∧ w64 ((d.length : Int) - 1) < (d.length : Int) then (if ((rd d (w64 ((d.length : Int) - 1))) % 18446744073709551616) ≠ 0 then (h.l0 r_ d i (d.length : Int) ((Int.tdiv (ior .u64 ((((rd r_ (w64 (i + (d.length : Int)))) % 18446744073709551616) * 4294967296) % 18446744073709551616) ((rd r_ (w64 ((w64 (i + (d.length : Int))) - 1))) % 18446744073709551616)) ((rd d (w64 ((d.length : Int) - 1))) % 18446744073709551616)) % 18446744073709551616) (Int.tmod (ior .u64 ((((rd r_ (w64 (i + (d.length : Int)))) % 18446744073709551616) * 4294967296) % 18446744073709551616) ((rd r_ (w64 ((w64 (i + (d.length : Int))) - 1))) % 18446744073709551616)) ((rd d (w64 ((d.length : Int) - 1))) % 18446744073709551616))) else none) else none) else none) else none) else none) else none) (wide_guess.hs k)
structure wide_guess.LE (h h' : wide_guess.Hs) : Prop where
 l0 : ∀ y0 y1 y2 y3 y4 y5, LeO (h.l0 y0 y1 y2 y3 y4 y5) (h'.l0 y0 y1 y2 y3 y4 y5)
theorem wide_guess.b0_mono {k : Nat} {h h' : wide_guess.Hs} (hl : wide_guess.LE h h') : ∀ y0 y1 y2 y3 y4 y5, LeO (wide_guess.b0 k h y0 y1 y2 y3 y4 y5) (wide_guess.b0 (k + 1) h' y0 y1 y2 y3 y4 y5) := fun _ _ _ _ _ _ => (LeO.ite (LeO.ite (LeO.ite (LeO.ite (LeO.ite (LeO.refl _) (hl.l0 _ _ _ _ _ _)) (LeO.refl _)) (LeO.refl _)) (LeO.refl _)) (LeO.refl _))
theorem wide_guess.hs_mono : ∀ k, wide_guess.LE (wide_guess.hs k) (wide_guess.hs (k + 1))
 | 0 => ⟨fun _ _ _ _ _ _ => LeO.none _⟩
 | k + 1 => ⟨wide_guess.b0_mono (k := k) (wide_guess.hs_mono k)⟩
theorem wide_guess.mono : ∀ k y0 y1 y2, LeO (wide_guess.f k y0 y1 y2) (wide_guess.f (k + 1) y0 y1 y2) := fun k _ _ _ => have hl := wide_guess.hs_mono k; by unfold wide_guess.f; exact (LeO.ite (LeO.ite (LeO.ite (LeO.ite (LeO.ite (LeO.ite (hl.l0 _ _ _ _ _ _) (LeO.refl _)) (LeO.refl _)) (LeO.refl _)) (LeO.refl _)) (LeO.refl _)) (LeO.refl _))
noncomputable def wide_guess.Kl0 : List Item := .code (lopB (blkB (seqL (seqR (seqR (seqR (seqR wide_guess.C))))))) :: .inLoop (lopB (blkB (seqL (seqR (seqR (seqR (seqR wide_guess.C))))))) :: .inBlock 0 :: .code (seqR (seqR (seqR (seqR (seqR wide_guess.C))))) :: []
structure wide_guess.OK (h : wide_guess.Hs) : Prop where
 l0 : ∀ {H0 H : Hp} {L : Items} {r : Int} {jk_ : Nat → Value} {r_ : List Int} {d : List Int} {i : Int} {n : Int} {q : Int} {left : Int} {v_r_ : Value} {v_d : Value} (_ : H0.le H) (_he : h.l0 r_ d i n q left = some r) (_h_r_ : Src (Kd.int .u32) H L v_r_ r_) (_h_d : Src (Kd.int .u32) H L v_d d), Wp Tryz.prog 89 83 wide_guess.Kl0 (upd (upd (upd (upd (upd (upd (upd jk_ 0 (v_r_)) 1 (v_d)) 2 (.int .i64 i)) 6 (.int .u64 0)) 7 (.int .i64 n)) 9 (.int .u64 q)) 10 (.int .u64 left)) H (L) (wide_guess.R H0 L r)
theorem wide_guess.b0_ok {k : Nat} {h : wide_guess.Hs} (hh : wide_guess.OK h) {H0 H : Hp} {L : Items} {r : Int} {jk_ : Nat → Value} {r_ : List Int} {d : List Int} {i : Int} {n : Int} {q : Int} {left : Int} {v_r_ : Value} {v_d : Value} (hle : H0.le H) (he : wide_guess.b0 k h r_ d i n q left = some r) (h_r_ : Src (Kd.int .u32) H L v_r_ r_) (h_d : Src (Kd.int .u32) H L v_d d) : Wp Tryz.prog 89 83 wide_guess.Kl0 (upd (upd (upd (upd (upd (upd (upd jk_ 0 (v_r_)) 1 (v_d)) 2 (.int .i64 i)) 6 (.int .u64 0)) 7 (.int .i64 n)) 9 (.int .u64 q)) 10 (.int .u64 left)) H (L) (wide_guess.R H0 L r) := by
 unfold wide_guess.b0 at he
 unfold wide_guess.Kl0
 refine w_seq <| w_seq ?_
 obtain ⟨c16, he⟩ := rq he
 obtain ⟨c28, he⟩ := rq he
 refine w_drawn (p := 22) (tl := [22, 23]) [[], [(0, some 46)], [(1, some 47)], [(2, some 48)], [(2, some 48)], [(2, some 48)], [(2, some 48), (5, some 51)], [(2, some 48), (4, some 50), (6, some 52)], [(2, some 48), (7, some 53)], [(2, some 48), (8, some 54)], [(2, some 48), (3, some 49), (9, some 55)], [(2, some 48)], [(2, some 48), (11, some 57)], [(2, some 48)], [(2, some 48)], [(2, some 48)], [(2, some 48), (14, some 60), (15, some 61)], [(2, some 48), (16, some 62)], [(2, some 48), (13, some 59), (17, some 63)], [(2, some 48), (18, some 64)], [(2, some 48), (19, some 65)], [(2, some 48), (12, some 58), (20, some 66)]] [some 46, some 47, some 48, some 49, some 50, some 51, some 52, some 53, some 54, some 55, some 56, some 57, some 58, some 59, some 60, some 61, some 62, some 63, some 64, some 65, some 66, some 67] (fctF (.is (.int .u64 q) :: .is (.bool (decide (4294967296 ≤ q))) :: .is (.bool (decide (4294967296 ≤ q))) :: .is (cond (!(decide (4294967296 ≤ q))) (.int .u64 q) undef) :: .is (cond (!(decide (4294967296 ≤ q))) v_d undef) :: .is (cond (!(decide (4294967296 ≤ q))) (.int .i64 n) undef) :: .is (cond (!(decide (4294967296 ≤ q))) (.int .i64 (w64 (n - 2))) undef) :: .is (cond (!(decide (4294967296 ≤ q))) (.pointer (some (pel v_d (w64 (n - 2)) 1))) undef) :: .is (cond (!(decide (4294967296 ≤ q))) (.int .u32 (rd d (w64 (n - 2)))) undef) :: .is (cond (!(decide (4294967296 ≤ q))) (.int .u64 ((rd d (w64 (n - 2))) % 18446744073709551616)) undef) :: .is (cond (!(decide (4294967296 ≤ q))) (.int .u64 ((q * ((rd d (w64 (n - 2))) % 18446744073709551616)) % 18446744073709551616)) undef) :: .is (cond (!(decide (4294967296 ≤ q))) (.int .u64 left) undef) :: .is (cond (!(decide (4294967296 ≤ q))) (.int .u64 ((left * 4294967296) % 18446744073709551616)) undef) :: .is (cond (!(decide (4294967296 ≤ q))) v_r_ undef) :: .is (cond (!(decide (4294967296 ≤ q))) (.int .i64 i) undef) :: .is (cond (!(decide (4294967296 ≤ q))) (.int .i64 n) undef) :: .is (cond (!(decide (4294967296 ≤ q))) (.int .i64 (w64 (i + n))) undef) :: .is (cond (!(decide (4294967296 ≤ q))) (.int .i64 (w64 ((w64 (i + n)) - 2))) undef) :: .is (cond (!(decide (4294967296 ≤ q))) (.pointer (some (pel v_r_ (w64 ((w64 (i + n)) - 2)) 1))) undef) :: .is (cond (!(decide (4294967296 ≤ q))) (.int .u32 (rd r_ (w64 ((w64 (i + n)) - 2)))) undef) :: .is (cond (!(decide (4294967296 ≤ q))) (.int .u64 ((rd r_ (w64 ((w64 (i + n)) - 2))) % 18446744073709551616)) undef) :: .is (cond (!(decide (4294967296 ≤ q))) (.int .u64 (ior .u64 ((left * 4294967296) % 18446744073709551616) ((rd r_ (w64 ((w64 (i + n)) - 2))) % 18446744073709551616))) undef) :: [])) (fun m_ => L) (fun _ => none) mixed (by kernel_rfl) (by kernel_rfl) rfl (fct_mono (by kernel_rfl)) ⟨(fun H' m_ hH hm_ hu_ => depK_nil <| s_d (m_ 0) rfl (d_move (v := .int .u64 q) rfl) (by exact rfl) rfl), (by rintro H' m_ hH hm_ hu_ _ rfl; exact depK_nil <| s_d (m_ 1) rfl (d_geq rfl rfl) (by exact rfl) rfl), (by rintro H' m_ hH hm_ hu_ _ rfl; exact depK_nil <| s_d (m_ 2) rfl (d_move (v := .bool (decide (4294967296 ≤ q))) rfl) (by exact rfl) rfl), (by rintro H' m_ hH hm_ hu_ _ rfl; exact depK_nil <| s_g (g := !(decide (4294967296 ≤ q))) (m_ 3) rfl rfl rfl wn_f (fun g11 => d_move (v := .int .u64 q) rfl) rfl (by exact fun g_ => cvt g_) (by exact fun g_ => cnt g_)), (by rintro H' m_ hH hm_ hu_ _ rfl; exact depK_nil <| s_g (g := !(decide (4294967296 ≤ q))) (m_ 4) rfl rfl rfl wn_f (fun g12 => d_move (v := v_d) rfl) rfl (by exact fun g_ => cvt g_) (by exact fun g_ => cnt g_)), (by rintro H' m_ hH hm_ hu_ _ rfl; exact depK_nil <| s_g (g := !(decide (4294967296 ≤ q))) (m_ 5) rfl rfl rfl wn_f (fun g13 => d_move (v := .int .i64 n) rfl) rfl (by exact fun g_ => cvt g_) (by exact fun g_ => cnt g_)), (by rintro H' m_ hH hm_ hu_ _ rfl _ rfl; exact depK_nil <| s_g (g := !(decide (4294967296 ≤ q))) (m_ 6) rfl rfl rfl wn_f (fun g14 => d_sub (c := w64 (n - 2)) (cvt g14) rfl rfl) rfl (by exact fun g_ => cvt g_) (by exact fun g_ => cnt g_)), (by rintro H' m_ hH hm_ hu_ _ rfl _ rfl _ rfl; exact depK_nil <| s_g (g := !(decide (4294967296 ≤ q))) (m_ 7) rfl rfl rfl wn_f (fun g15 => d_index (sz := 1) Tryz.underlying34 sz90 (cvt g15) (h_d.mono hH) (cvt g15) (c16 g15)) rfl (by exact fun g_ => cvt g_) (by exact fun g_ => cnt g_)), (by rintro H' m_ hH hm_ hu_ _ rfl _ rfl; exact depK_nil <| s_g (g := !(decide (4294967296 ≤ q))) (m_ 8) rfl rfl rfl wn_f (fun g17 => d_ldint ty90 (cvt g17) (h_d.mono hH) (c16 g17)) rfl (by exact fun g_ => cvt g_) (by exact fun g_ => cnt g_)), (by rintro H' m_ hH hm_ hu_ _ rfl _ rfl; exact depK_nil <| s_g (g := !(decide (4294967296 ≤ q))) (m_ 9) rfl rfl rfl wn_f (fun g18 => d_conv (c := (rd d (w64 (n - 2))) % 18446744073709551616) Tryz.underlying90 Tryz.underlying88 (cvt g18) rfl) rfl (by exact fun g_ => cvt g_) (by exact fun g_ => cnt g_)), (by rintro H' m_ hH hm_ hu_ _ rfl _ rfl _ rfl; exact depK_nil <| s_g (g := !(decide (4294967296 ≤ q))) (m_ 10) rfl rfl rfl wn_f (fun g19 => d_mul (c := (q * ((rd d (w64 (n - 2))) % 18446744073709551616)) % 18446744073709551616) (cvt g19) (cvt g19) rfl) rfl (by exact fun g_ => cvt g_) (by exact fun g_ => cnt g_)), (by rintro H' m_ hH hm_ hu_ _ rfl; exact depK_nil <| s_g (g := !(decide (4294967296 ≤ q))) (m_ 11) rfl rfl rfl wn_f (fun g20 => d_move (v := .int .u64 left) rfl) rfl (by exact fun g_ => cvt g_) (by exact fun g_ => cnt g_)), (by rintro H' m_ hH hm_ hu_ _ rfl _ rfl; exact depK_nil <| s_g (g := !(decide (4294967296 ≤ q))) (m_ 12) rfl rfl rfl wn_f (fun g21 => d_shl (c := (left * 4294967296) % 18446744073709551616) (cvt g21) rfl (by decide) rfl) rfl (by exact fun g_ => cvt g_) (by exact fun g_ => cnt g_)), (by rintro H' m_ hH hm_ hu_ _ rfl; exact depK_nil <| s_g (g := !(decide (4294967296 ≤ q))) (m_ 13) rfl rfl rfl wn_f (fun g22 => d_move (v := v_r_) rfl) rfl (by exact fun g_ => cvt g_) (by exact fun g_ => cnt g_)), (by rintro H' m_ hH hm_ hu_ _ rfl; exact depK_nil <| s_g (g := !(decide (4294967296 ≤ q))) (m_ 14) rfl rfl rfl wn_f (fun g23 => d_move (v := .int .i64 i) rfl) rfl (by exact fun g_ => cvt g_) (by exact fun g_ => cnt g_)), (by rintro H' m_ hH hm_ hu_ _ rfl; exact depK_nil <| s_g (g := !(decide (4294967296 ≤ q))) (m_ 15) rfl rfl rfl wn_f (fun g24 => d_move (v := .int .i64 n) rfl) rfl (by exact fun g_ => cvt g_) (by exact fun g_ => cnt g_)), (by rintro H' m_ hH hm_ hu_ _ rfl _ rfl _ rfl; exact depK_nil <| s_g (g := !(decide (4294967296 ≤ q))) (m_ 16) rfl rfl rfl wn_f (fun g25 => d_add (c := w64 (i + n)) (cvt g25) (cvt g25) rfl) rfl (by exact fun g_ => cvt g_) (by exact fun g_ => cnt g_)), (by rintro H' m_ hH hm_ hu_ _ rfl _ rfl; exact depK_nil <| s_g (g := !(decide (4294967296 ≤ q))) (m_ 17) rfl rfl rfl wn_f (fun g26 => d_sub (c := w64 ((w64 (i + n)) - 2)) (cvt g26) rfl rfl) rfl (by exact fun g_ => cvt g_) (by exact fun g_ => cnt g_)), (by rintro H' m_ hH hm_ hu_ _ rfl _ rfl _ rfl; exact depK_nil <| s_g (g := !(decide (4294967296 ≤ q))) (m_ 18) rfl rfl rfl wn_f (fun g27 => d_index (sz := 1) Tryz.underlying34 sz90 (cvt g27) (h_r_.mono hH) (cvt g27) (c28 g27)) rfl (by exact fun g_ => cvt g_) (by exact fun g_ => cnt g_)), (by rintro H' m_ hH hm_ hu_ _ rfl _ rfl; exact depK_nil <| s_g (g := !(decide (4294967296 ≤ q))) (m_ 19) rfl rfl rfl wn_f (fun g29 => d_ldint ty90 (cvt g29) (h_r_.mono hH) (c28 g29)) rfl (by exact fun g_ => cvt g_) (by exact fun g_ => cnt g_)), (by rintro H' m_ hH hm_ hu_ _ rfl _ rfl; exact depK_nil <| s_g (g := !(decide (4294967296 ≤ q))) (m_ 20) rfl rfl rfl wn_f (fun g30 => d_conv (c := (rd r_ (w64 ((w64 (i + n)) - 2))) % 18446744073709551616) Tryz.underlying90 Tryz.underlying88 (cvt g30) rfl) rfl (by exact fun g_ => cvt g_) (by exact fun g_ => cnt g_)), (by rintro H' m_ hH hm_ hu_ _ rfl _ rfl _ rfl; exact depK_nil <| s_g (g := !(decide (4294967296 ≤ q))) (m_ 21) rfl rfl rfl wn_f (fun g31 => d_bor (cvt g31) (cvt g31)) rfl (by exact fun g_ => cvt g_) (by exact fun g_ => cnt g_)), trivial⟩ ?_
 intro H32 e33
 rintro _ _ rfl _ _ rfl _ _ rfl _ _ rfl _ _ rfl _ _ rfl _ _ rfl _ _ rfl _ _ rfl _ _ rfl _ _ rfl _ _ rfl _ _ rfl _ _ rfl _ _ rfl _ _ rfl _ _ rfl _ _ rfl _ _ rfl _ _ rfl _ _ rfl _ _ rfl
 refine w_g (g := !(decide (4294967296 ≤ q))) rfl rfl rfl wn_f (fun g34 => d_gtr (cvt g34) (cvt g34)) <| w_d rfl (d_or' (b := (decide (4294967296 ≤ q))) (p := (decide ((ior .u64 ((left * 4294967296) % 18446744073709551616) ((rd r_ (w64 ((w64 (i + n)) - 2))) % 18446744073709551616)) < ((q * ((rd d (w64 (n - 2))) % 18446744073709551616)) % 18446744073709551616)))) rfl rfl rfl) <| w_done ?_
 rcases its he with ⟨c35, he⟩ | ⟨c35, he⟩
 ·
  refine w_then rfl c35 <| w_skip <| w_block <| w_seq <| w_region rfl <| w_d rfl (d_move (v := .int .u64 q) rfl) <| w_d rfl (d_sub (c := (q - 1) % 18446744073709551616) rfl rfl rfl) <| w_d rfl (d_assign (v := .int .u64 ((q - 1) % 18446744073709551616)) rfl) <| w_done <| w_seq <| w_region rfl <| w_d rfl (d_move (v := .int .u64 left) rfl) ?_
  refine w_d rfl (d_move (v := v_d) rfl) <| w_d rfl (d_move (v := .int .i64 n) rfl) <| w_d rfl (d_sub (c := w64 (n - 1)) rfl rfl rfl) ?_
  obtain ⟨c36, he⟩ := rq he
  refine w_d rfl (d_index (sz := 1) Tryz.underlying34 sz90 rfl (h_d.mono e33) rfl c36) <| w_d rfl (d_ldint ty90 rfl (h_d.mono e33) c36) <| w_d rfl (d_conv (c := (rd d (w64 (n - 1))) % 18446744073709551616) Tryz.underlying90 Tryz.underlying88 rfl rfl) <| w_d rfl (d_add (c := (left + ((rd d (w64 (n - 1))) % 18446744073709551616)) % 18446744073709551616) rfl rfl rfl) <| w_d rfl (d_assign (v := .int .u64 ((left + ((rd d (w64 (n - 1))) % 18446744073709551616)) % 18446744073709551616)) rfl) <| w_done <| w_seq <| w_region rfl <| w_d rfl (d_move (v := .int .u64 ((left + ((rd d (w64 (n - 1))) % 18446744073709551616)) % 18446744073709551616)) rfl) <| w_d rfl (d_geq rfl rfl) <| w_done ?_
  rcases its he with ⟨c37, he⟩ | ⟨c37, he⟩
  ·
   refine w_then rfl (decide_eq_true c37) <| w_exit rfl <| w_seq <| w_region rfl <| w_d rfl (d_move (v := .int .u64 ((q - 1) % 18446744073709551616)) rfl) <| w_d rfl (d_assign (v := .int .u64 ((q - 1) % 18446744073709551616)) rfl) <| w_done ?_
   obtain rfl := Option.some.inj he
   refine w_return fn_89 rs_89 (.tmp (v := .int .u64 ((q - 1) % 18446744073709551616)) rfl .nil) <| ⟨⟨[], rfl⟩, hle.trans e33, rfl⟩
  ·
   refine w_else rfl (decide_eq_false c37) <| w_skip <| w_inBlock <| w_inLoop <| w_sl 0 (v_r_) rfl <| w_sl 1 (v_d) rfl <| w_sl 2 (.int .i64 i) rfl <| w_sl 6 (.int .u64 0) rfl <| w_sl 7 (.int .i64 n) rfl <| w_sl 9 (.int .u64 ((q - 1) % 18446744073709551616)) rfl <| w_sl 10 (.int .u64 ((left + ((rd d (w64 (n - 1))) % 18446744073709551616)) % 18446744073709551616)) rfl <| hh.l0 (hle.trans e33) he (h_r_.mono e33) (h_d.mono e33)
 ·
  refine w_else rfl (Bool.eq_false_iff.2 c35) <| w_exit rfl <| w_seq <| w_region rfl <| w_d rfl (d_move (v := .int .u64 q) rfl) <| w_d rfl (d_assign (v := .int .u64 q) rfl) <| w_done ?_
  obtain rfl := Option.some.inj he
  refine w_return fn_89 rs_89 (.tmp (v := .int .u64 q) rfl .nil) <| ⟨⟨[], rfl⟩, hle.trans e33, rfl⟩
theorem wide_guess.ok : ∀ k, wide_guess.OK (wide_guess.hs k)
 | 0 => ⟨(by intros; exact nomatch (show none = some _ from by assumption))⟩
 | k + 1 => ⟨wide_guess.b0_ok (k := k) (wide_guess.ok k)⟩
theorem wide_guess.calls (k : Nat) {H : Hp} {L : Items} {r_ : List Int} {d : List Int} {i : Int} {v0_r_ : Value} {v1_d : Value} {r : Int} (he : wide_guess.f k r_ d i = some r) (h0_r_ : Src (Kd.int .u32) H L v0_r_ r_) (h1_d : Src (Kd.int .u32) H L v1_d d) : Ct Tryz.prog 89 ⟨[v0_r_, v1_d, .int .i64 i]⟩ H L (fun v H' L' => L = L' ∧ H = H' ∧ v = .int .u64 r) := by
 refine ct_outs (O := wide_guess.out r) (fun _ _ h => h) ?_
 have hle : H.le H := .refl _
 have hh := wide_guess.ok k
 unfold wide_guess.f at he
 refine ct_enter (args := [v0_r_, v1_d, .int .i64 i]) fn_89 rfl nt_89 rfl <| w_seq <| w_region rfl <| w_d rfl (d_assign (v := .int .u64 0) rfl) <| w_done <| w_seq <| w_region rfl <| w_d rfl (d_move (v := v1_d) rfl) <| w_d rfl (d_len Tryz.underlying34 rfl h1_d) <| w_d rfl (d_assign (v := .int .i64 (d.length : Int)) rfl) <| w_done <| w_seq ?_
 obtain ⟨c1, he⟩ := rq he
 obtain ⟨c2, he⟩ := rq he
 refine w_drawn (p := 16) (tl := [16, 17]) [[], [], [], [(1, some 14), (2, some 15)], [(0, some 13), (3, some 16)], [(4, some 17)], [(5, some 18)], [(6, some 19)], [], [], [], [(9, some 22), (10, some 23)], [(11, some 24)], [(8, some 21), (12, some 25)], [(13, some 26)], [(14, some 27)]] [some 13, some 14, some 15, some 16, some 17, some 18, some 19, some 20, some 21, some 22, some 23, some 24, some 25, some 26, some 27, some 28] (fctF (.is (v0_r_) :: .is (.int .i64 i) :: .is (.int .i64 (d.length : Int)) :: .is (.int .i64 (w64 (i + (d.length : Int)))) :: .is (.pointer (some (pel v0_r_ (w64 (i + (d.length : Int))) 1))) :: .is (.int .u32 (rd r_ (w64 (i + (d.length : Int))))) :: .is (.int .u64 ((rd r_ (w64 (i + (d.length : Int)))) % 18446744073709551616)) :: .is (.int .u64 ((((rd r_ (w64 (i + (d.length : Int)))) % 18446744073709551616) * 4294967296) % 18446744073709551616)) :: .is (v0_r_) :: .is (.int .i64 i) :: .is (.int .i64 (d.length : Int)) :: .is (.int .i64 (w64 (i + (d.length : Int)))) :: .is (.int .i64 (w64 ((w64 (i + (d.length : Int))) - 1))) :: .is (.pointer (some (pel v0_r_ (w64 ((w64 (i + (d.length : Int))) - 1)) 1))) :: .is (.int .u32 (rd r_ (w64 ((w64 (i + (d.length : Int))) - 1)))) :: .is (.int .u64 ((rd r_ (w64 ((w64 (i + (d.length : Int))) - 1))) % 18446744073709551616)) :: [])) (fun m_ => L) (fun _ => none) mixed (by kernel_rfl) (by kernel_rfl) rfl (fct_mono (by kernel_rfl)) ⟨(fun H' m_ hH hm_ hu_ => depK_nil <| s_d (m_ 0) rfl (d_move (v := v0_r_) rfl) (by exact rfl) rfl), (fun H' m_ hH hm_ hu_ => depK_nil <| s_d (m_ 1) rfl (d_move (v := .int .i64 i) rfl) (by exact rfl) rfl), (fun H' m_ hH hm_ hu_ => depK_nil <| s_d (m_ 2) rfl (d_move (v := .int .i64 (d.length : Int)) rfl) (by exact rfl) rfl), (by rintro H' m_ hH hm_ hu_ _ rfl _ rfl; exact depK_nil <| s_d (m_ 3) rfl (d_add (c := w64 (i + (d.length : Int))) rfl rfl rfl) (by exact rfl) rfl), (by rintro H' m_ hH hm_ hu_ _ rfl _ rfl; exact depK_nil <| s_d (m_ 4) rfl (d_index (sz := 1) Tryz.underlying34 sz90 rfl (h0_r_.mono hH) rfl c1) (by exact rfl) rfl), (by rintro H' m_ hH hm_ hu_ _ rfl; exact depK_nil <| s_d (m_ 5) rfl (d_ldint ty90 rfl (h0_r_.mono hH) c1) (by exact rfl) rfl), (by rintro H' m_ hH hm_ hu_ _ rfl; exact depK_nil <| s_d (m_ 6) rfl (d_conv (c := (rd r_ (w64 (i + (d.length : Int)))) % 18446744073709551616) Tryz.underlying90 Tryz.underlying88 rfl rfl) (by exact rfl) rfl), (by rintro H' m_ hH hm_ hu_ _ rfl; exact depK_nil <| s_d (m_ 7) rfl (d_shl (c := (((rd r_ (w64 (i + (d.length : Int)))) % 18446744073709551616) * 4294967296) % 18446744073709551616) rfl rfl (by decide) rfl) (by exact rfl) rfl), (fun H' m_ hH hm_ hu_ => depK_nil <| s_d (m_ 8) rfl (d_move (v := v0_r_) rfl) (by exact rfl) rfl), (fun H' m_ hH hm_ hu_ => depK_nil <| s_d (m_ 9) rfl (d_move (v := .int .i64 i) rfl) (by exact rfl) rfl), (fun H' m_ hH hm_ hu_ => depK_nil <| s_d (m_ 10) rfl (d_move (v := .int .i64 (d.length : Int)) rfl) (by exact rfl) rfl), (by rintro H' m_ hH hm_ hu_ _ rfl _ rfl; exact depK_nil <| s_d (m_ 11) rfl (d_add (c := w64 (i + (d.length : Int))) rfl rfl rfl) (by exact rfl) rfl), (by rintro H' m_ hH hm_ hu_ _ rfl; exact depK_nil <| s_d (m_ 12) rfl (d_sub (c := w64 ((w64 (i + (d.length : Int))) - 1)) rfl rfl rfl) (by exact rfl) rfl), (by rintro H' m_ hH hm_ hu_ _ rfl _ rfl; exact depK_nil <| s_d (m_ 13) rfl (d_index (sz := 1) Tryz.underlying34 sz90 rfl (h0_r_.mono hH) rfl c2) (by exact rfl) rfl), (by rintro H' m_ hH hm_ hu_ _ rfl; exact depK_nil <| s_d (m_ 14) rfl (d_ldint ty90 rfl (h0_r_.mono hH) c2) (by exact rfl) rfl), (by rintro H' m_ hH hm_ hu_ _ rfl; exact depK_nil <| s_d (m_ 15) rfl (d_conv (c := (rd r_ (w64 ((w64 (i + (d.length : Int))) - 1))) % 18446744073709551616) Tryz.underlying90 Tryz.underlying88 rfl rfl) (by exact rfl) rfl), trivial⟩ ?_
 intro H3 e4
 rintro _ _ rfl _ _ rfl _ _ rfl _ _ rfl _ _ rfl _ _ rfl _ _ rfl _ _ rfl _ _ rfl _ _ rfl _ _ rfl _ _ rfl _ _ rfl _ _ rfl _ _ rfl _ _ rfl
 refine w_d rfl (d_bor rfl rfl) <| w_d rfl (d_assign (v := .int .u64 (ior .u64 ((((rd r_ (w64 (i + (d.length : Int)))) % 18446744073709551616) * 4294967296) % 18446744073709551616) ((rd r_ (w64 ((w64 (i + (d.length : Int))) - 1))) % 18446744073709551616))) rfl) <| w_done <| w_seq ?_
 obtain ⟨c5, he⟩ := rq he
 obtain ⟨c6, he⟩ := rq he
 obtain ⟨c7, he⟩ := rq he
 obtain ⟨c8, he⟩ := rq he
 refine w_drawn (p := 17) (tl := [17]) [[], [], [], [(2, some 32)], [(1, some 31), (3, some 33)], [(4, some 34)], [(5, some 35)], [(0, some 30), (6, some 36)], [], [], [], [(10, some 40)], [(9, some 39), (11, some 41)], [(12, some 42)], [(13, some 43)], [(8, some 38), (14, some 44)], [(7, some 37)]] [some 30, some 31, some 32, some 33, some 34, some 35, some 36, some 37, some 38, some 39, some 40, some 41, some 42, some 43, some 44, some 45, some 9] (fctF (.is (.int .u64 (ior .u64 ((((rd r_ (w64 (i + (d.length : Int)))) % 18446744073709551616) * 4294967296) % 18446744073709551616) ((rd r_ (w64 ((w64 (i + (d.length : Int))) - 1))) % 18446744073709551616))) :: .is (v1_d) :: .is (.int .i64 (d.length : Int)) :: .is (.int .i64 (w64 ((d.length : Int) - 1))) :: .is (.pointer (some (pel v1_d (w64 ((d.length : Int) - 1)) 1))) :: .is (.int .u32 (rd d (w64 ((d.length : Int) - 1)))) :: .is (.int .u64 ((rd d (w64 ((d.length : Int) - 1))) % 18446744073709551616)) :: .is (.int .u64 ((Int.tdiv (ior .u64 ((((rd r_ (w64 (i + (d.length : Int)))) % 18446744073709551616) * 4294967296) % 18446744073709551616) ((rd r_ (w64 ((w64 (i + (d.length : Int))) - 1))) % 18446744073709551616)) ((rd d (w64 ((d.length : Int) - 1))) % 18446744073709551616)) % 18446744073709551616)) :: .is (.int .u64 (ior .u64 ((((rd r_ (w64 (i + (d.length : Int)))) % 18446744073709551616) * 4294967296) % 18446744073709551616) ((rd r_ (w64 ((w64 (i + (d.length : Int))) - 1))) % 18446744073709551616))) :: .is (v1_d) :: .is (.int .i64 (d.length : Int)) :: .is (.int .i64 (w64 ((d.length : Int) - 1))) :: .is (.pointer (some (pel v1_d (w64 ((d.length : Int) - 1)) 1))) :: .is (.int .u32 (rd d (w64 ((d.length : Int) - 1)))) :: .is (.int .u64 ((rd d (w64 ((d.length : Int) - 1))) % 18446744073709551616)) :: .is (.int .u64 (Int.tmod (ior .u64 ((((rd r_ (w64 (i + (d.length : Int)))) % 18446744073709551616) * 4294967296) % 18446744073709551616) ((rd r_ (w64 ((w64 (i + (d.length : Int))) - 1))) % 18446744073709551616)) ((rd d (w64 ((d.length : Int) - 1))) % 18446744073709551616))) :: .is (.int .u64 ((Int.tdiv (ior .u64 ((((rd r_ (w64 (i + (d.length : Int)))) % 18446744073709551616) * 4294967296) % 18446744073709551616) ((rd r_ (w64 ((w64 (i + (d.length : Int))) - 1))) % 18446744073709551616)) ((rd d (w64 ((d.length : Int) - 1))) % 18446744073709551616)) % 18446744073709551616)) :: [])) (fun m_ => L) (fun _ => none) mixed (by kernel_rfl) (by kernel_rfl) rfl (fct_mono (by kernel_rfl)) ⟨(fun H' m_ hH hm_ hu_ => depK_nil <| s_d (m_ 0) rfl (d_move (v := .int .u64 (ior .u64 ((((rd r_ (w64 (i + (d.length : Int)))) % 18446744073709551616) * 4294967296) % 18446744073709551616) ((rd r_ (w64 ((w64 (i + (d.length : Int))) - 1))) % 18446744073709551616))) rfl) (by exact rfl) rfl), (fun H' m_ hH hm_ hu_ => depK_nil <| s_d (m_ 1) rfl (d_move (v := v1_d) rfl) (by exact rfl) rfl), (fun H' m_ hH hm_ hu_ => depK_nil <| s_d (m_ 2) rfl (d_move (v := .int .i64 (d.length : Int)) rfl) (by exact rfl) rfl), (by rintro H' m_ hH hm_ hu_ _ rfl; exact depK_nil <| s_d (m_ 3) rfl (d_sub (c := w64 ((d.length : Int) - 1)) rfl rfl rfl) (by exact rfl) rfl), (by rintro H' m_ hH hm_ hu_ _ rfl _ rfl; exact depK_nil <| s_d (m_ 4) rfl (d_index (sz := 1) Tryz.underlying34 sz90 rfl (h1_d.mono (e4.trans hH)) rfl c5) (by exact rfl) rfl), (by rintro H' m_ hH hm_ hu_ _ rfl; exact depK_nil <| s_d (m_ 5) rfl (d_ldint ty90 rfl (h1_d.mono (e4.trans hH)) c5) (by exact rfl) rfl), (by rintro H' m_ hH hm_ hu_ _ rfl; exact depK_nil <| s_d (m_ 6) rfl (d_conv (c := (rd d (w64 ((d.length : Int) - 1))) % 18446744073709551616) Tryz.underlying90 Tryz.underlying88 rfl rfl) (by exact rfl) rfl), (by rintro H' m_ hH hm_ hu_ _ rfl _ rfl; exact depK_nil <| s_d (m_ 7) rfl (d_quo (c := (Int.tdiv (ior .u64 ((((rd r_ (w64 (i + (d.length : Int)))) % 18446744073709551616) * 4294967296) % 18446744073709551616) ((rd r_ (w64 ((w64 (i + (d.length : Int))) - 1))) % 18446744073709551616)) ((rd d (w64 ((d.length : Int) - 1))) % 18446744073709551616)) % 18446744073709551616) rfl rfl c6 rfl) (by exact rfl) rfl), (fun H' m_ hH hm_ hu_ => depK_nil <| s_d (m_ 8) rfl (d_move (v := .int .u64 (ior .u64 ((((rd r_ (w64 (i + (d.length : Int)))) % 18446744073709551616) * 4294967296) % 18446744073709551616) ((rd r_ (w64 ((w64 (i + (d.length : Int))) - 1))) % 18446744073709551616))) rfl) (by exact rfl) rfl), (fun H' m_ hH hm_ hu_ => depK_nil <| s_d (m_ 9) rfl (d_move (v := v1_d) rfl) (by exact rfl) rfl), (fun H' m_ hH hm_ hu_ => depK_nil <| s_d (m_ 10) rfl (d_move (v := .int .i64 (d.length : Int)) rfl) (by exact rfl) rfl), (by rintro H' m_ hH hm_ hu_ _ rfl; exact depK_nil <| s_d (m_ 11) rfl (d_sub (c := w64 ((d.length : Int) - 1)) rfl rfl rfl) (by exact rfl) rfl), (by rintro H' m_ hH hm_ hu_ _ rfl _ rfl; exact depK_nil <| s_d (m_ 12) rfl (d_index (sz := 1) Tryz.underlying34 sz90 rfl (h1_d.mono (e4.trans hH)) rfl c7) (by exact rfl) rfl), (by rintro H' m_ hH hm_ hu_ _ rfl; exact depK_nil <| s_d (m_ 13) rfl (d_ldint ty90 rfl (h1_d.mono (e4.trans hH)) c7) (by exact rfl) rfl), (by rintro H' m_ hH hm_ hu_ _ rfl; exact depK_nil <| s_d (m_ 14) rfl (d_conv (c := (rd d (w64 ((d.length : Int) - 1))) % 18446744073709551616) Tryz.underlying90 Tryz.underlying88 rfl rfl) (by exact rfl) rfl), (by rintro H' m_ hH hm_ hu_ _ rfl _ rfl; exact depK_nil <| s_d (m_ 15) rfl (d_rem rfl rfl c8) (by exact rfl) rfl), (by rintro H' m_ hH hm_ hu_ _ rfl; exact depK_nil <| s_d (m_ 16) rfl (d_assign (v := .int .u64 ((Int.tdiv (ior .u64 ((((rd r_ (w64 (i + (d.length : Int)))) % 18446744073709551616) * 4294967296) % 18446744073709551616) ((rd r_ (w64 ((w64 (i + (d.length : Int))) - 1))) % 18446744073709551616)) ((rd d (w64 ((d.length : Int) - 1))) % 18446744073709551616)) % 18446744073709551616)) rfl) (by exact rfl) rfl), trivial⟩ ?_
 intro H9 e10
 rintro _ _ rfl _ _ rfl _ _ rfl _ _ rfl _ _ rfl _ _ rfl _ _ rfl _ _ rfl _ _ rfl _ _ rfl _ _ rfl _ _ rfl _ _ rfl _ _ rfl _ _ rfl _ _ rfl _ _ rfl
 refine w_d rfl (d_assign (v := .int .u64 (Int.tmod (ior .u64 ((((rd r_ (w64 (i + (d.length : Int)))) % 18446744073709551616) * 4294967296) % 18446744073709551616) ((rd r_ (w64 ((w64 (i + (d.length : Int))) - 1))) % 18446744073709551616)) ((rd d (w64 ((d.length : Int) - 1))) % 18446744073709551616))) rfl) <| w_done <| w_seq <| w_block <| w_loop <| w_sl 0 (v0_r_) rfl <| w_sl 1 (v1_d) rfl <| w_sl 2 (.int .i64 i) rfl <| w_sl 6 (.int .u64 0) rfl <| w_sl 7 (.int .i64 (d.length : Int)) rfl <| w_sl 9 (.int .u64 ((Int.tdiv (ior .u64 ((((rd r_ (w64 (i + (d.length : Int)))) % 18446744073709551616) * 4294967296) % 18446744073709551616) ((rd r_ (w64 ((w64 (i + (d.length : Int))) - 1))) % 18446744073709551616)) ((rd d (w64 ((d.length : Int) - 1))) % 18446744073709551616)) % 18446744073709551616)) rfl <| w_sl 10 (.int .u64 (Int.tmod (ior .u64 ((((rd r_ (w64 (i + (d.length : Int)))) % 18446744073709551616) * 4294967296) % 18446744073709551616) ((rd r_ (w64 ((w64 (i + (d.length : Int))) - 1))) % 18446744073709551616)) ((rd d (w64 ((d.length : Int) - 1))) % 18446744073709551616))) rfl <| hh.l0 (hle.trans (e4.trans e10)) he (h0_r_.mono (e4.trans e10)) (h1_d.mono (e4.trans e10))
/-! ### radome/wide.takeOff -/
noncomputable def wide_takeOff.C : Code := (Tryz.f90.body).getD .skip
def wide_takeOff.out (r : Bool × (List Int)) (H : Hp) (v : Value) : Prop := v = .bool r.1
abbrev wide_takeOff.R (vr_ : Value) (H0 : Hp) (L : Items) (r : Bool × (List Int)) : Value → Hp → Items → Prop := fun v H' L' => (∃ p it', L' = p ++ it' :: L ∧ Sl (Kd.int .u32) H' 90 it' vr_ r.2) ∧ H0.le H' ∧ v = .bool r.1
structure wide_takeOff.Hs where
 l0 : (List Int) → (List Int) → Int → Int → Int → Int → Int → Option (Bool × (List Int))
noncomputable def wide_takeOff.j2 (k : Nat) (h : wide_takeOff.Hs)  (r_ : List Int) (d : List Int) (i : Int) (q : Int) (borrow : Int) (carry : Int) (j_ : Int) (p : Int) : Option (Bool × (List Int)) := if (0 : Int) ≤ w64 (i + j_) ∧ w64 (i + j_) < (r_.length : Int) then (if (0 : Int) ≤ w64 (i + j_) ∧ w64 (i + j_) < (r_.length : Int) then (h.l0 (r_.set (w64 (i + j_) : Int).toNat ((w64 ((w64 ((w64 (rd r_ (w64 (i + j_)))) - (w64 ((p) % 4294967296)))) + borrow)) % 4294967296)) d i q ((w64 ((w64 ((w64 (rd r_ (w64 (i + j_)))) - (w64 ((p) % 4294967296)))) + borrow)) / 4294967296) (p / 4294967296) (w64 (j_ + 1))) else none) else none
noncomputable def wide_takeOff.b0 (k : Nat) (h : wide_takeOff.Hs)  (r_ : List Int) (d : List Int) (i : Int) (q : Int) (borrow : Int) (carry : Int) (j_ : Int) : Option (Bool × (List Int)) := if j_ ≤ (d.length : Int) then (if j_ < (d.length : Int) then (if (0 : Int) ≤ j_ ∧ j_ < (d.length : Int) then (wide_takeOff.j2 k h r_ d i q borrow carry j_ ((carry + ((q * ((rd d j_) % 18446744073709551616)) % 18446744073709551616)) % 18446744073709551616)) else none) else (wide_takeOff.j2 k h r_ d i q borrow carry j_ carry)) else (some (decide (borrow < 0), r_))
noncomputable def wide_takeOff.hs : Nat → wide_takeOff.Hs
 | 0 => ⟨fun _ _ _ _ _ _ _ => none⟩
 | k + 1 => ⟨fun x0 x1 x2 x3 x4 x5 x6 => wide_takeOff.b0 k (wide_takeOff.hs k) x0 x1 x2 x3 x4 x5 x6⟩
noncomputable def wide_takeOff.f (k : Nat) (r_ : List Int) (d : List Int) (i : Int) (q : Int) : Option (Bool × (List Int)) := (fun h : wide_takeOff.Hs => h.l0 r_ d i q 0 0 0) (wide_takeOff.hs k)
structure wide_takeOff.LE (h h' : wide_takeOff.Hs) : Prop where
 l0 : ∀ y0 y1 y2 y3 y4 y5 y6, LeO (h.l0 y0 y1 y2 y3 y4 y5 y6) (h'.l0 y0 y1 y2 y3 y4 y5 y6)
theorem wide_takeOff.j2_mono {k : Nat} {h h' : wide_takeOff.Hs} (hl : wide_takeOff.LE h h') : ∀ y0 y1 y2 y3 y4 y5 y6 y7, LeO (wide_takeOff.j2 k h y0 y1 y2 y3 y4 y5 y6 y7) (wide_takeOff.j2 (k + 1) h' y0 y1 y2 y3 y4 y5 y6 y7) := fun _ _ _ _ _ _ _ _ => (LeO.ite (LeO.ite (hl.l0 _ _ _ _ _ _ _) (LeO.refl _)) (LeO.refl _))
theorem wide_takeOff.b0_mono {k : Nat} {h h' : wide_takeOff.Hs} (hl : wide_takeOff.LE h h') : ∀ y0 y1 y2 y3 y4 y5 y6, LeO (wide_takeOff.b0 k h y0 y1 y2 y3 y4 y5 y6) (wide_takeOff.b0 (k + 1) h' y0 y1 y2 y3 y4 y5 y6) := fun _ _ _ _ _ _ _ => (LeO.ite (LeO.ite (LeO.ite (wide_takeOff.j2_mono (k := k) hl _ _ _ _ _ _ _ _) (LeO.refl _)) (wide_takeOff.j2_mono (k := k) hl _ _ _ _ _ _ _ _)) (LeO.refl _))
theorem wide_takeOff.hs_mono : ∀ k, wide_takeOff.LE (wide_takeOff.hs k) (wide_takeOff.hs (k + 1))
 | 0 => ⟨fun _ _ _ _ _ _ _ => LeO.none _⟩
 | k + 1 => ⟨wide_takeOff.b0_mono (k := k) (wide_takeOff.hs_mono k)⟩
theorem wide_takeOff.mono : ∀ k y0 y1 y2 y3, LeO (wide_takeOff.f k y0 y1 y2 y3) (wide_takeOff.f (k + 1) y0 y1 y2 y3) := fun k _ _ _ _ => have hl := wide_takeOff.hs_mono k; by unfold wide_takeOff.f; exact (hl.l0 _ _ _ _ _ _ _)
noncomputable def wide_takeOff.Kl0 : List Item := .code (lopB (blkB (seqR (seqL (seqR (seqR (seqR wide_takeOff.C))))))) :: .inLoop (lopB (blkB (seqR (seqL (seqR (seqR (seqR wide_takeOff.C))))))) :: .inBlock 0 :: .code (seqR (seqR (seqR (seqR wide_takeOff.C)))) :: []
noncomputable def wide_takeOff.Kj2 : List Item := .code (seqR (seqR (blkB (seqL (seqR (lopB (blkB (seqR (seqL (seqR (seqR (seqR wide_takeOff.C)))))))))))) :: .inBlock 1 :: .code (seqR (seqR (lopB (blkB (seqR (seqL (seqR (seqR (seqR wide_takeOff.C))))))))) :: .inLoop (lopB (blkB (seqR (seqL (seqR (seqR (seqR wide_takeOff.C))))))) :: .inBlock 0 :: .code (seqR (seqR (seqR (seqR wide_takeOff.C)))) :: []
structure wide_takeOff.OK (h : wide_takeOff.Hs) : Prop where
 l0 : ∀ {H0 H : Hp} {L : Items} {r : Bool × (List Int)} {jk_ : Nat → Value} {r_ : List Int} {d : List Int} {i : Int} {q : Int} {borrow : Int} {carry : Int} {j_ : Int} {vr_ : Value} {v_d : Value} {i_r_ : Item'} (_ : H0.le H) (_he : h.l0 r_ d i q borrow carry j_ = some r) (_h_r_ : Sl (Kd.int .u32) H 90 i_r_ vr_ r_) (_h_d : Src (Kd.int .u32) H L v_d d), Wp Tryz.prog 90 60 wide_takeOff.Kl0 (upd (upd (upd (upd (upd (upd (upd (upd jk_ 0 (vr_)) 1 (v_d)) 2 (.int .i64 i)) 3 (.int .u64 q)) 8 (.bool false)) 9 (.int .i64 borrow)) 10 (.int .u64 carry)) 11 (.int .i64 j_)) H (i_r_ :: L) (wide_takeOff.R vr_ H0 L r)
theorem wide_takeOff.j2_ok {k : Nat} {h : wide_takeOff.Hs} (hh : wide_takeOff.OK h) {H0 H : Hp} {L : Items} {r : Bool × (List Int)} {jk_ : Nat → Value} {r_ : List Int} {d : List Int} {i : Int} {q : Int} {borrow : Int} {carry : Int} {j_ : Int} {p : Int} {vr_ : Value} {v_d : Value} {i_r_ : Item'} (hle : H0.le H) (he : wide_takeOff.j2 k h r_ d i q borrow carry j_ p = some r) (h_r_ : Sl (Kd.int .u32) H 90 i_r_ vr_ r_) (h_d : Src (Kd.int .u32) H L v_d d) : Wp Tryz.prog 90 60 wide_takeOff.Kj2 (upd (upd (upd (upd (upd (upd (upd (upd (upd jk_ 0 (vr_)) 1 (v_d)) 2 (.int .i64 i)) 3 (.int .u64 q)) 8 (.bool false)) 9 (.int .i64 borrow)) 10 (.int .u64 carry)) 11 (.int .i64 j_)) 12 (.int .u64 p)) H (i_r_ :: L) (wide_takeOff.R vr_ H0 L r) := by
 unfold wide_takeOff.j2 at he
 unfold wide_takeOff.Kj2
 refine w_seq <| w_region rfl <| w_d rfl (d_move (v := .int .u64 p) rfl) <| w_d rfl (d_shr (c := p / 4294967296) rfl rfl (by decide) rfl) <| w_d rfl (d_assign (v := .int .u64 (p / 4294967296)) rfl) <| w_done <| w_seq <| w_region rfl <| w_d rfl (d_move (v := vr_) rfl) <| w_d rfl (d_move (v := .int .i64 i) rfl) <| w_d rfl (d_move (v := .int .i64 j_) rfl) <| w_d rfl (d_add (c := w64 (i + j_)) rfl rfl rfl) ?_
 obtain ⟨c4, he⟩ := rq he
 refine w_d rfl (d_indexS (sz := 1) Tryz.underlying34 sz90 rfl h_r_.shp rfl c4) <| w_d rfl (d_ldint ty90 rfl (h_r_.src .here) c4) <| w_d rfl (d_conv (c := w64 (rd r_ (w64 (i + j_)))) Tryz.underlying90 Tryz.underlying2 rfl rfl) <| w_d rfl (d_move (v := .int .u64 p) rfl) <| w_d rfl (d_conv (c := (p) % 4294967296) Tryz.underlying88 Tryz.underlying90 rfl rfl) <| w_d rfl (d_conv (c := w64 ((p) % 4294967296)) Tryz.underlying90 Tryz.underlying2 rfl rfl) <| w_d rfl (d_sub (c := w64 ((w64 (rd r_ (w64 (i + j_)))) - (w64 ((p) % 4294967296)))) rfl rfl rfl) <| w_d rfl (d_move (v := .int .i64 borrow) rfl) <| w_d rfl (d_add (c := w64 ((w64 ((w64 (rd r_ (w64 (i + j_)))) - (w64 ((p) % 4294967296)))) + borrow)) rfl rfl rfl) <| w_d rfl (d_assign (v := .int .i64 (w64 ((w64 ((w64 (rd r_ (w64 (i + j_)))) - (w64 ((p) % 4294967296)))) + borrow))) rfl) <| w_done <| w_seq ?_
 refine w_region rfl <| w_d rfl (d_move (v := vr_) rfl) <| w_d rfl (d_move (v := .int .i64 i) rfl) <| w_d rfl (d_move (v := .int .i64 j_) rfl) <| w_d rfl (d_add (c := w64 (i + j_)) rfl rfl rfl) <| w_d rfl (d_move (v := .int .i64 (w64 ((w64 ((w64 (rd r_ (w64 (i + j_)))) - (w64 ((p) % 4294967296)))) + borrow))) rfl) <| w_d rfl (d_conv (c := (w64 ((w64 ((w64 (rd r_ (w64 (i + j_)))) - (w64 ((p) % 4294967296)))) + borrow)) % 4294967296) Tryz.underlying2 Tryz.underlying90 rfl rfl) ?_
 obtain ⟨c5, he⟩ := rq he
 refine w_d rfl (d_indexS (sz := 1) Tryz.underlying34 sz90 rfl h_r_.shp rfl c5) <| w_a0 rfl (o_storeEl (kd := (Kd.int .u32)) (v := .int .u32 ((w64 ((w64 ((w64 (rd r_ (w64 (i + j_)))) - (w64 ((p) % 4294967296)))) + borrow)) % 4294967296)) (F := fun z_ => z_ :: L) sz90 rfl rfl rfl rfl h_r_ c5 (fun _ => .here)) ?_
 rintro _ _ _ ⟨i6, rfl, rfl, rfl, h7⟩
 refine w_done <| w_region rfl <| w_d rfl (d_move (v := .int .i64 (w64 ((w64 ((w64 (rd r_ (w64 (i + j_)))) - (w64 ((p) % 4294967296)))) + borrow))) rfl) <| w_d rfl (d_shr (c := (w64 ((w64 ((w64 (rd r_ (w64 (i + j_)))) - (w64 ((p) % 4294967296)))) + borrow)) / 4294967296) rfl rfl (by decide) rfl) <| w_d rfl (d_assign (v := .int .i64 ((w64 ((w64 ((w64 (rd r_ (w64 (i + j_)))) - (w64 ((p) % 4294967296)))) + borrow)) / 4294967296)) rfl) <| w_done <| w_inBlock <| w_region rfl <| w_d rfl (d_move (v := .int .i64 j_) rfl) <| w_d rfl (d_add (c := w64 (j_ + 1)) rfl rfl rfl) <| w_d rfl (d_assign (v := .int .i64 (w64 (j_ + 1))) rfl) <| w_done ?_
 refine w_inLoop <| w_sl 0 (vr_) rfl <| w_sl 1 (v_d) rfl <| w_sl 2 (.int .i64 i) rfl <| w_sl 3 (.int .u64 q) rfl <| w_sl 8 (.bool false) rfl <| w_sl 9 (.int .i64 ((w64 ((w64 ((w64 (rd r_ (w64 (i + j_)))) - (w64 ((p) % 4294967296)))) + borrow)) / 4294967296)) rfl <| w_sl 10 (.int .u64 (p / 4294967296)) rfl <| w_sl 11 (.int .i64 (w64 (j_ + 1))) rfl <| hh.l0 hle he h7 h_d
theorem wide_takeOff.b0_ok {k : Nat} {h : wide_takeOff.Hs} (hh : wide_takeOff.OK h) {H0 H : Hp} {L : Items} {r : Bool × (List Int)} {jk_ : Nat → Value} {r_ : List Int} {d : List Int} {i : Int} {q : Int} {borrow : Int} {carry : Int} {j_ : Int} {vr_ : Value} {v_d : Value} {i_r_ : Item'} (hle : H0.le H) (he : wide_takeOff.b0 k h r_ d i q borrow carry j_ = some r) (h_r_ : Sl (Kd.int .u32) H 90 i_r_ vr_ r_) (h_d : Src (Kd.int .u32) H L v_d d) : Wp Tryz.prog 90 60 wide_takeOff.Kl0 (upd (upd (upd (upd (upd (upd (upd (upd jk_ 0 (vr_)) 1 (v_d)) 2 (.int .i64 i)) 3 (.int .u64 q)) 8 (.bool false)) 9 (.int .i64 borrow)) 10 (.int .u64 carry)) 11 (.int .i64 j_)) H (i_r_ :: L) (wide_takeOff.R vr_ H0 L r) := by
 unfold wide_takeOff.b0 at he
 unfold wide_takeOff.Kl0
 refine w_seq <| w_seq <| w_region rfl <| w_d rfl (d_move (v := .int .i64 j_) rfl) <| w_d rfl (d_move (v := v_d) rfl) <| w_d rfl (d_len Tryz.underlying34 rfl h_d.th) <| w_d rfl (d_leq rfl rfl) <| w_done ?_
 rcases its he with ⟨c1, he⟩ | ⟨c1, he⟩
 ·
  refine w_then rfl (decide_eq_true c1) <| w_skip <| w_seq <| w_block <| w_seq <| w_region rfl <| w_d rfl (d_move (v := .int .u64 carry) rfl) <| w_d rfl (d_assign (v := .int .u64 carry) rfl) <| w_done <| w_seq <| w_seq <| w_region rfl ?_
  refine w_d rfl (d_move (v := .int .i64 j_) rfl) <| w_d rfl (d_move (v := v_d) rfl) <| w_d rfl (d_len Tryz.underlying34 rfl h_d.th) <| w_d rfl (d_lss rfl rfl) <| w_done ?_
  rcases its he with ⟨c2, he⟩ | ⟨c2, he⟩
  ·
   refine w_then rfl (decide_eq_true c2) <| w_region rfl <| w_d rfl (d_move (v := .int .u64 carry) rfl) <| w_d rfl (d_move (v := .int .u64 q) rfl) <| w_d rfl (d_move (v := v_d) rfl) <| w_d rfl (d_move (v := .int .i64 j_) rfl) ?_
   obtain ⟨c3, he⟩ := rq he
   refine w_d rfl (d_index (sz := 1) Tryz.underlying34 sz90 rfl h_d.th rfl c3) <| w_d rfl (d_ldint ty90 rfl h_d.th c3) <| w_d rfl (d_conv (c := (rd d j_) % 18446744073709551616) Tryz.underlying90 Tryz.underlying88 rfl rfl) <| w_d rfl (d_mul (c := (q * ((rd d j_) % 18446744073709551616)) % 18446744073709551616) rfl rfl rfl) <| w_d rfl (d_add (c := (carry + ((q * ((rd d j_) % 18446744073709551616)) % 18446744073709551616)) % 18446744073709551616) rfl rfl rfl) <| w_d rfl (d_assign (v := .int .u64 ((carry + ((q * ((rd d j_) % 18446744073709551616)) % 18446744073709551616)) % 18446744073709551616)) rfl) <| w_done <| w_sl 0 (vr_) rfl <| w_sl 1 (v_d) rfl <| w_sl 2 (.int .i64 i) rfl <| w_sl 3 (.int .u64 q) rfl <| w_sl 8 (.bool false) rfl ?_
   refine w_sl 9 (.int .i64 borrow) rfl <| w_sl 10 (.int .u64 carry) rfl <| w_sl 11 (.int .i64 j_) rfl <| w_sl 12 (.int .u64 ((carry + ((q * ((rd d j_) % 18446744073709551616)) % 18446744073709551616)) % 18446744073709551616)) rfl <| wide_takeOff.j2_ok (k := k) hh hle he h_r_ h_d
  ·
   refine w_else rfl (decide_eq_false c2) <| w_skip <| w_sl 0 (vr_) rfl <| w_sl 1 (v_d) rfl <| w_sl 2 (.int .i64 i) rfl <| w_sl 3 (.int .u64 q) rfl <| w_sl 8 (.bool false) rfl <| w_sl 9 (.int .i64 borrow) rfl <| w_sl 10 (.int .u64 carry) rfl <| w_sl 11 (.int .i64 j_) rfl <| w_sl 12 (.int .u64 carry) rfl <| wide_takeOff.j2_ok (k := k) hh hle he h_r_ h_d
 ·
  refine w_else rfl (decide_eq_false c1) <| w_exit rfl <| w_seq <| w_region rfl <| w_d rfl (d_move (v := .int .i64 borrow) rfl) <| w_d rfl (d_lss rfl rfl) <| w_d rfl (d_assign (v := .bool (decide (borrow < 0))) rfl) <| w_done ?_
  obtain rfl := Option.some.inj he
  refine w_return fn_90 rs_90 (.tmp (v := .bool (decide (borrow < 0))) rfl .nil) <| ⟨⟨[], _, rfl, h_r_⟩, hle, rfl⟩
theorem wide_takeOff.ok : ∀ k, wide_takeOff.OK (wide_takeOff.hs k)
 | 0 => ⟨(by intros; exact nomatch (show none = some _ from by assumption))⟩
 | k + 1 => ⟨wide_takeOff.b0_ok (k := k) (wide_takeOff.ok k)⟩
theorem wide_takeOff.calls (k : Nat) {H : Hp} {L : Items} {r_ : List Int} {d : List Int} {i : Int} {q : Int} {vr_ : Value} {it_ : Item'} {v0_d : Value} {r : Bool × (List Int)} (he : wide_takeOff.f k r_ d i q = some r) (hr_ : Sl (Kd.int .u32) H 90 it_ vr_ r_) (h0_d : Src (Kd.int .u32) H L v0_d d) : Ct Tryz.prog 90 ⟨[vr_, v0_d, .int .i64 i, .int .u64 q]⟩ H (it_ :: L) (fun v H' L' => ∃ it', L' = it' :: L ∧ H.le H' ∧ Sl (Kd.int .u32) H' 90 it' vr_ r.2 ∧ v = .bool r.1) := by
 refine ct_mut (Q := fun v => v = .bool r.1) ?_
 have hle : H.le H := .refl _
 have hh := wide_takeOff.ok k
 unfold wide_takeOff.f at he
 refine ct_enter (args := [vr_, v0_d, .int .i64 i, .int .u64 q]) fn_90 rfl nt_90 rfl <| w_seq <| w_region rfl <| w_d rfl (d_assign (v := .bool false) rfl) <| w_done <| w_seq <| w_region rfl <| w_d rfl (d_assign (v := .int .i64 0) rfl) <| w_done <| w_seq <| w_region rfl <| w_d rfl (d_assign (v := .int .u64 0) rfl) ?_
 refine w_done <| w_seq <| w_seq <| w_region rfl <| w_d rfl (d_assign (v := .int .i64 0) rfl) <| w_done <| w_block <| w_loop <| w_sl 0 (vr_) rfl <| w_sl 1 (v0_d) rfl <| w_sl 2 (.int .i64 i) rfl <| w_sl 3 (.int .u64 q) rfl ?_
 refine w_sl 8 (.bool false) rfl <| w_sl 9 (.int .i64 0) rfl <| w_sl 10 (.int .u64 0) rfl <| w_sl 11 (.int .i64 0) rfl <| hh.l0 hle he hr_ h0_d
/-! ### radome/wide.giveBack -/
noncomputable def wide_giveBack.C : Code := (Tryz.f91.body).getD .skip
def wide_giveBack.out (r : (List Int)) (H : Hp) (v : Value) : Prop := v = .tuple ⟨[]⟩
abbrev wide_giveBack.R (vr_ : Value) (H0 : Hp) (L : Items) (r : (List Int)) : Value → Hp → Items → Prop := fun v H' L' => (∃ p it', L' = p ++ it' :: L ∧ Sl (Kd.int .u32) H' 90 it' vr_ r) ∧ H0.le H' ∧ v = .tuple ⟨[]⟩
structure wide_giveBack.Hs where
 l0 : (List Int) → (List Int) → Int → Int → Int → Option (List Int)
noncomputable def wide_giveBack.j2 (k : Nat) (h : wide_giveBack.Hs)  (r_ : List Int) (d : List Int) (i : Int) (carry : Int) (j_ : Int) (s : Int) : Option (List Int) := if (0 : Int) ≤ w64 (i + j_) ∧ w64 (i + j_) < (r_.length : Int) then (h.l0 (r_.set (w64 (i + j_) : Int).toNat ((s) % 4294967296)) d i (s / 4294967296) (w64 (j_ + 1))) else none
noncomputable def wide_giveBack.b0 (k : Nat) (h : wide_giveBack.Hs)  (r_ : List Int) (d : List Int) (i : Int) (carry : Int) (j_ : Int) : Option (List Int) := if j_ ≤ (d.length : Int) then (if (0 : Int) ≤ w64 (i + j_) ∧ w64 (i + j_) < (r_.length : Int) then (if j_ < (d.length : Int) then (if (0 : Int) ≤ j_ ∧ j_ < (d.length : Int) then (wide_giveBack.j2 k h r_ d i carry j_ ((((((rd r_ (w64 (i + j_))) % 18446744073709551616) + carry) % 18446744073709551616) + ((rd d j_) % 18446744073709551616)) % 18446744073709551616)) else none) else (wide_giveBack.j2 k h r_ d i carry j_ ((((rd r_ (w64 (i + j_))) % 18446744073709551616) + carry) % 18446744073709551616))) else none) else (some (r_))
noncomputable def wide_giveBack.hs : Nat → wide_giveBack.Hs
 | 0 => ⟨fun _ _ _ _ _ => none⟩
 | k + 1 => ⟨fun x0 x1 x2 x3 x4 => wide_giveBack.b0 k (wide_giveBack.hs k) x0 x1 x2 x3 x4⟩
noncomputable def wide_giveBack.f (k : Nat) (r_ : List Int) (d : List Int) (i : Int) : Option (List Int) := (fun h : wide_giveBack.Hs => h.l0 r_ d i 0 0) (wide_giveBack.hs k)
structure wide_giveBack.LE (h h' : wide_giveBack.Hs) : Prop where
 l0 : ∀ y0 y1 y2 y3 y4, LeO (h.l0 y0 y1 y2 y3 y4) (h'.l0 y0 y1 y2 y3 y4)
theorem wide_giveBack.j2_mono {k : Nat} {h h' : wide_giveBack.Hs} (hl : wide_giveBack.LE h h') : ∀ y0 y1 y2 y3 y4 y5, LeO (wide_giveBack.j2 k h y0 y1 y2 y3 y4 y5) (wide_giveBack.j2 (k + 1) h' y0 y1 y2 y3 y4 y5) := fun _ _ _ _ _ _ => (LeO.ite (hl.l0 _ _ _ _ _) (LeO.refl _))
theorem wide_giveBack.b0_mono {k : Nat} {h h' : wide_giveBack.Hs} (hl : wide_giveBack.LE h h') : ∀ y0 y1 y2 y3 y4, LeO (wide_giveBack.b0 k h y0 y1 y2 y3 y4) (wide_giveBack.b0 (k + 1) h' y0 y1 y2 y3 y4) := fun _ _ _ _ _ => (LeO.ite (LeO.ite (LeO.ite (LeO.ite (wide_giveBack.j2_mono (k := k) hl _ _ _ _ _ _) (LeO.refl _)) (wide_giveBack.j2_mono (k := k) hl _ _ _ _ _ _)) (LeO.refl _)) (LeO.refl _))
theorem wide_giveBack.hs_mono : ∀ k, wide_giveBack.LE (wide_giveBack.hs k) (wide_giveBack.hs (k + 1))
 | 0 => ⟨fun _ _ _ _ _ => LeO.none _⟩
 | k + 1 => ⟨wide_giveBack.b0_mono (k := k) (wide_giveBack.hs_mono k)⟩
theorem wide_giveBack.mono : ∀ k y0 y1 y2, LeO (wide_giveBack.f k y0 y1 y2) (wide_giveBack.f (k + 1) y0 y1 y2) := fun k _ _ _ => have hl := wide_giveBack.hs_mono k; by unfold wide_giveBack.f; exact (hl.l0 _ _ _ _ _)
noncomputable def wide_giveBack.Kl0 : List Item := .code (lopB (blkB (seqR (seqR wide_giveBack.C)))) :: .inLoop (lopB (blkB (seqR (seqR wide_giveBack.C)))) :: .inBlock 0 :: []
noncomputable def wide_giveBack.Kj2 : List Item := .code (seqR (seqR (blkB (seqL (seqR (lopB (blkB (seqR (seqR wide_giveBack.C))))))))) :: .inBlock 1 :: .code (seqR (seqR (lopB (blkB (seqR (seqR wide_giveBack.C)))))) :: .inLoop (lopB (blkB (seqR (seqR wide_giveBack.C)))) :: .inBlock 0 :: []
structure wide_giveBack.OK (h : wide_giveBack.Hs) : Prop where
 l0 : ∀ {H0 H : Hp} {L : Items} {r : (List Int)} {jk_ : Nat → Value} {r_ : List Int} {d : List Int} {i : Int} {carry : Int} {j_ : Int} {vr_ : Value} {v_d : Value} {i_r_ : Item'} (_ : H0.le H) (_he : h.l0 r_ d i carry j_ = some r) (_h_r_ : Sl (Kd.int .u32) H 90 i_r_ vr_ r_) (_h_d : Src (Kd.int .u32) H L v_d d), Wp Tryz.prog 91 44 wide_giveBack.Kl0 (upd (upd (upd (upd (upd jk_ 0 (vr_)) 1 (v_d)) 2 (.int .i64 i)) 6 (.int .u64 carry)) 7 (.int .i64 j_)) H (i_r_ :: L) (wide_giveBack.R vr_ H0 L r)
theorem wide_giveBack.j2_ok {k : Nat} {h : wide_giveBack.Hs} (hh : wide_giveBack.OK h) {H0 H : Hp} {L : Items} {r : (List Int)} {jk_ : Nat → Value} {r_ : List Int} {d : List Int} {i : Int} {carry : Int} {j_ : Int} {s : Int} {vr_ : Value} {v_d : Value} {i_r_ : Item'} (hle : H0.le H) (he : wide_giveBack.j2 k h r_ d i carry j_ s = some r) (h_r_ : Sl (Kd.int .u32) H 90 i_r_ vr_ r_) (h_d : Src (Kd.int .u32) H L v_d d) : Wp Tryz.prog 91 44 wide_giveBack.Kj2 (upd (upd (upd (upd (upd (upd jk_ 0 (vr_)) 1 (v_d)) 2 (.int .i64 i)) 6 (.int .u64 carry)) 7 (.int .i64 j_)) 8 (.int .u64 s)) H (i_r_ :: L) (wide_giveBack.R vr_ H0 L r) := by
 unfold wide_giveBack.j2 at he
 unfold wide_giveBack.Kj2
 refine w_seq <| w_region rfl <| w_d rfl (d_move (v := vr_) rfl) <| w_d rfl (d_move (v := .int .i64 i) rfl) <| w_d rfl (d_move (v := .int .i64 j_) rfl) <| w_d rfl (d_add (c := w64 (i + j_)) rfl rfl rfl) <| w_d rfl (d_move (v := .int .u64 s) rfl) <| w_d rfl (d_conv (c := (s) % 4294967296) Tryz.underlying88 Tryz.underlying90 rfl rfl) ?_
 obtain ⟨c5, he⟩ := rq he
 refine w_d rfl (d_indexS (sz := 1) Tryz.underlying34 sz90 rfl h_r_.shp rfl c5) <| w_a0 rfl (o_storeEl (kd := (Kd.int .u32)) (v := .int .u32 ((s) % 4294967296)) (F := fun z_ => z_ :: L) sz90 rfl rfl rfl rfl h_r_ c5 (fun _ => .here)) ?_
 rintro _ _ _ ⟨i6, rfl, rfl, rfl, h7⟩
 refine w_done <| w_region rfl <| w_d rfl (d_move (v := .int .u64 s) rfl) <| w_d rfl (d_shr (c := s / 4294967296) rfl rfl (by decide) rfl) <| w_d rfl (d_assign (v := .int .u64 (s / 4294967296)) rfl) <| w_done <| w_inBlock <| w_region rfl <| w_d rfl (d_move (v := .int .i64 j_) rfl) <| w_d rfl (d_add (c := w64 (j_ + 1)) rfl rfl rfl) <| w_d rfl (d_assign (v := .int .i64 (w64 (j_ + 1))) rfl) <| w_done ?_
 refine w_inLoop <| w_sl 0 (vr_) rfl <| w_sl 1 (v_d) rfl <| w_sl 2 (.int .i64 i) rfl <| w_sl 6 (.int .u64 (s / 4294967296)) rfl <| w_sl 7 (.int .i64 (w64 (j_ + 1))) rfl <| hh.l0 hle he h7 h_d
theorem wide_giveBack.b0_ok {k : Nat} {h : wide_giveBack.Hs} (hh : wide_giveBack.OK h) {H0 H : Hp} {L : Items} {r : (List Int)} {jk_ : Nat → Value} {r_ : List Int} {d : List Int} {i : Int} {carry : Int} {j_ : Int} {vr_ : Value} {v_d : Value} {i_r_ : Item'} (hle : H0.le H) (he : wide_giveBack.b0 k h r_ d i carry j_ = some r) (h_r_ : Sl (Kd.int .u32) H 90 i_r_ vr_ r_) (h_d : Src (Kd.int .u32) H L v_d d) : Wp Tryz.prog 91 44 wide_giveBack.Kl0 (upd (upd (upd (upd (upd jk_ 0 (vr_)) 1 (v_d)) 2 (.int .i64 i)) 6 (.int .u64 carry)) 7 (.int .i64 j_)) H (i_r_ :: L) (wide_giveBack.R vr_ H0 L r) := by
 unfold wide_giveBack.b0 at he
 unfold wide_giveBack.Kl0
 refine w_seq <| w_seq <| w_region rfl <| w_d rfl (d_move (v := .int .i64 j_) rfl) <| w_d rfl (d_move (v := v_d) rfl) <| w_d rfl (d_len Tryz.underlying34 rfl h_d.th) <| w_d rfl (d_leq rfl rfl) <| w_done ?_
 rcases its he with ⟨c1, he⟩ | ⟨c1, he⟩
 ·
  refine w_then rfl (decide_eq_true c1) <| w_skip <| w_seq <| w_block <| w_seq <| w_region rfl <| w_d rfl (d_move (v := vr_) rfl) <| w_d rfl (d_move (v := .int .i64 i) rfl) <| w_d rfl (d_move (v := .int .i64 j_) rfl) <| w_d rfl (d_add (c := w64 (i + j_)) rfl rfl rfl) ?_
  obtain ⟨c2, he⟩ := rq he
  refine w_d rfl (d_indexS (sz := 1) Tryz.underlying34 sz90 rfl h_r_.shp rfl c2) <| w_d rfl (d_ldint ty90 rfl (h_r_.src .here) c2) <| w_d rfl (d_conv (c := (rd r_ (w64 (i + j_))) % 18446744073709551616) Tryz.underlying90 Tryz.underlying88 rfl rfl) <| w_d rfl (d_move (v := .int .u64 carry) rfl) <| w_d rfl (d_add (c := (((rd r_ (w64 (i + j_))) % 18446744073709551616) + carry) % 18446744073709551616) rfl rfl rfl) <| w_d rfl (d_assign (v := .int .u64 ((((rd r_ (w64 (i + j_))) % 18446744073709551616) + carry) % 18446744073709551616)) rfl) <| w_done <| w_seq <| w_seq <| w_region rfl <| w_d rfl (d_move (v := .int .i64 j_) rfl) <| w_d rfl (d_move (v := v_d) rfl) ?_
  refine w_d rfl (d_len Tryz.underlying34 rfl h_d.th) <| w_d rfl (d_lss rfl rfl) <| w_done ?_
  rcases its he with ⟨c3, he⟩ | ⟨c3, he⟩
  ·
   refine w_then rfl (decide_eq_true c3) <| w_region rfl <| w_d rfl (d_move (v := .int .u64 ((((rd r_ (w64 (i + j_))) % 18446744073709551616) + carry) % 18446744073709551616)) rfl) <| w_d rfl (d_move (v := v_d) rfl) <| w_d rfl (d_move (v := .int .i64 j_) rfl) ?_
   obtain ⟨c4, he⟩ := rq he
   refine w_d rfl (d_index (sz := 1) Tryz.underlying34 sz90 rfl h_d.th rfl c4) <| w_d rfl (d_ldint ty90 rfl h_d.th c4) <| w_d rfl (d_conv (c := (rd d j_) % 18446744073709551616) Tryz.underlying90 Tryz.underlying88 rfl rfl) <| w_d rfl (d_add (c := (((((rd r_ (w64 (i + j_))) % 18446744073709551616) + carry) % 18446744073709551616) + ((rd d j_) % 18446744073709551616)) % 18446744073709551616) rfl rfl rfl) <| w_d rfl (d_assign (v := .int .u64 ((((((rd r_ (w64 (i + j_))) % 18446744073709551616) + carry) % 18446744073709551616) + ((rd d j_) % 18446744073709551616)) % 18446744073709551616)) rfl) <| w_done <| w_sl 0 (vr_) rfl <| w_sl 1 (v_d) rfl <| w_sl 2 (.int .i64 i) rfl <| w_sl 6 (.int .u64 carry) rfl <| w_sl 7 (.int .i64 j_) rfl <| w_sl 8 (.int .u64 ((((((rd r_ (w64 (i + j_))) % 18446744073709551616) + carry) % 18446744073709551616) + ((rd d j_) % 18446744073709551616)) % 18446744073709551616)) rfl <| wide_giveBack.j2_ok (k := k) hh hle he h_r_ h_d
  ·
   refine w_else rfl (decide_eq_false c3) <| w_skip <| w_sl 0 (vr_) rfl <| w_sl 1 (v_d) rfl <| w_sl 2 (.int .i64 i) rfl <| w_sl 6 (.int .u64 carry) rfl <| w_sl 7 (.int .i64 j_) rfl <| w_sl 8 (.int .u64 ((((rd r_ (w64 (i + j_))) % 18446744073709551616) + carry) % 18446744073709551616)) rfl <| wide_giveBack.j2_ok (k := k) hh hle he h_r_ h_d
 ·
  refine w_else rfl (decide_eq_false c1) <| w_exit rfl ?_
  obtain rfl := Option.some.inj he
  refine w_finish fn_91 rs_91 .nil <| ⟨⟨[], _, rfl, h_r_⟩, hle, rfl⟩
theorem wide_giveBack.ok : ∀ k, wide_giveBack.OK (wide_giveBack.hs k)
 | 0 => ⟨(by intros; exact nomatch (show none = some _ from by assumption))⟩
 | k + 1 => ⟨wide_giveBack.b0_ok (k := k) (wide_giveBack.ok k)⟩
theorem wide_giveBack.calls (k : Nat) {H : Hp} {L : Items} {r_ : List Int} {d : List Int} {i : Int} {vr_ : Value} {it_ : Item'} {v0_d : Value} {r : (List Int)} (he : wide_giveBack.f k r_ d i = some r) (hr_ : Sl (Kd.int .u32) H 90 it_ vr_ r_) (h0_d : Src (Kd.int .u32) H L v0_d d) : Ct Tryz.prog 91 ⟨[vr_, v0_d, .int .i64 i]⟩ H (it_ :: L) (fun v H' L' => ∃ it', L' = it' :: L ∧ H.le H' ∧ Sl (Kd.int .u32) H' 90 it' vr_ r ∧ v = .tuple ⟨[]⟩) := by
 refine ct_mut (Q := fun v => v = .tuple ⟨[]⟩) ?_
 have hle : H.le H := .refl _
 have hh := wide_giveBack.ok k
 unfold wide_giveBack.f at he
 refine ct_enter (args := [vr_, v0_d, .int .i64 i]) fn_91 rfl nt_91 rfl <| w_seq <| w_region rfl <| w_d rfl (d_assign (v := .int .u64 0) rfl) <| w_done <| w_seq <| w_region rfl <| w_d rfl (d_assign (v := .int .i64 0) rfl) <| w_done <| w_block <| w_loop <| w_sl 0 (vr_) rfl ?_
 refine w_sl 1 (v0_d) rfl <| w_sl 2 (.int .i64 i) rfl <| w_sl 6 (.int .u64 0) rfl <| w_sl 7 (.int .i64 0) rfl <| hh.l0 hle he hr_ h0_d
/-! ### slices.Clone[[]uint32,uint32] -/
noncomputable def slices_Clone_uint32_uint32.C : Code := (Tryz.f65.body).getD .skip
abbrev slices_Clone_uint32_uint32.out (r : (List Int)) (H : Hp) (v : Value) : Prop := Ro (Kd.int .u32) H v r
abbrev slices_Clone_uint32_uint32.R (H0 : Hp) (L : Items) (r : (List Int)) : Value → Hp → Items → Prop := fun v H' L' => (∃ p it, L' = p ++ it :: L ∧ Sl (Kd.int .u32) H' 90 it v r) ∧ H0.le H'
noncomputable def slices_Clone_uint32_uint32.f (k : Nat) (s : List Int) : Option (List Int) := if 0 + s.length ≤ 35184372088704 then (some (s)) else none
theorem slices_Clone_uint32_uint32.mono : ∀ k y0, LeO (slices_Clone_uint32_uint32.f k y0) (slices_Clone_uint32_uint32.f (k + 1) y0) := fun k _ => by unfold slices_Clone_uint32_uint32.f; exact (LeO.ite (LeO.refl _) (LeO.refl _))
theorem slices_Clone_uint32_uint32.calls (k : Nat) {H : Hp} {L : Items} {s : List Int} {v0_s : Value} {r : (List Int)} (he : slices_Clone_uint32_uint32.f k s = some r) (h0_s : Ro (Kd.int .u32) H v0_s s) : Ct Tryz.prog 65 ⟨[v0_s]⟩ H L (fun v H' L' => ∃ it, L' = it :: L ∧ H.le H' ∧ Sl (Kd.int .u32) H' 90 it v r) := by
 refine ct_own ?_
 have hle : H.le H := .refl _
 unfold slices_Clone_uint32_uint32.f at he
 obtain ⟨A_, n_, rfl, hc_, h1_⟩ := h0_s
 cases A_ with
 | none =>
  have e_ : s = [] := h1_.elim id fun h => (by obtain ⟨_, _, h, _⟩ := h; cases h)
  subst e_
  obtain ⟨_, he⟩ := rq he
  refine ct_enter (args := [.slice none 0 n_]) fn_65 rfl nt_65 rfl <| w_seq <| w_region rfl <| w_d rfl (d_assign (v := .slice none 0 0) rfl) <| w_done <| w_seq <| w_seq <| w_region rfl <| w_d rfl (d_move (v := .slice none 0 n_) rfl) <| w_d rfl (d_eqnil_n Tryz.underlying34 rfl) <| w_done <| w_then rfl rfl ?_
  refine w_seq <| w_region rfl <| w_d rfl (d_assign (v := .slice none 0 0) rfl) <| w_done <| w_none ?_
  obtain rfl := Option.some.inj he
  refine w_return fn_65 rs_65 (.tmp (v := .slice none 0 0) rfl .nil) <| ⟨⟨[], _, rfl, (sl_nil _ _ _)⟩, hle⟩
 | some a_ =>
  have h0_s : Ro (Kd.int .u32) H (.slice (some a_) s.length n_) s := ⟨some a_, n_, rfl, hc_, h1_⟩
  refine ct_enter (args := [.slice (some a_) s.length n_]) fn_65 rfl nt_65 rfl <| w_seq <| w_region rfl <| w_d rfl (d_assign (v := .slice none 0 0) rfl) <| w_done <| w_seq <| w_seq <| w_region rfl <| w_d rfl (d_move (v := .slice (some a_) s.length n_) rfl) <| w_d rfl (d_eqnil_sl Tryz.underlying34 rfl rfl) <| w_done <| w_else rfl rfl ?_
  refine w_skip <| w_seq <| w_region rfl <| w_a rfl (o_buildSlice' (kd := (Kd.int .u32)) (css := []) (xs := []) (parts := []) Tryz.underlying34 ti90 rfl rfl trivial rfl (by decide)) ?_
  rintro v1 _ _ ⟨i2, rfl, rfl, h3⟩
  refine w_d rfl (d_move (v := .slice (some a_) s.length n_) rfl) ?_
  obtain ⟨c4, he⟩ := rq he
  refine w_a rfl (o_append' (kd := (Kd.int .u32)) (F := fun z_ => z_ :: L) Tryz.underlying34 Tryz.underlying34 ti90 rfl (by first | omega | (simp only [List.nil_append, List.length_cons, List.length_nil]; omega)) rfl rfl h3 h0_s.src (fun _ => .here)) ?_
  rintro v5 _ _ ⟨i6, rfl, rfl, h7⟩
  refine w_d rfl (d_assign (v := v5) rfl) <| w_done ?_
  obtain rfl := Option.some.inj he
  refine w_return fn_65 rs_65 (.tmp (v := v5) rfl .nil) <| ⟨⟨[], _, rfl, h7⟩, hle⟩
theorem slices_Clone_uint32_uint32.callsR (k : Nat) {H : Hp} {L : Items} {s : List Int} {v0_s : Value} {r : (List Int)} (he : slices_Clone_uint32_uint32.f k s = some r) (h0_s : Ro (Kd.int .u32) H v0_s s) : Ct Tryz.prog 65 ⟨[v0_s]⟩ H L (fun v H' L' => L = L' ∧ H.le H' ∧ slices_Clone_uint32_uint32.out r H' v) := ct_ro (slices_Clone_uint32_uint32.calls k he h0_s)
end Go.Proofs.YtmnhbbckndlnkaaGreatDoor.GRN

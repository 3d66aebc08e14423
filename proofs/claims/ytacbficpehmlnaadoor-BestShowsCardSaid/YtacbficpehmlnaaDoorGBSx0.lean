/- printed by gen.py -/
import Derived.Test.YtacbficpehmlnaaDoorGBSt
namespace Go.Proofs.YtacbficpehmlnaaDoor.GBS
open Go Go.RowKit Go.Proofs.YtacbficpehmlnaaDoorK Go.Proofs.YtacbficpehmlnaaDoor
set_option maxRecDepth 100000
set_option maxHeartbeats 2000000
set_option linter.unusedVariables false
set_option linter.unusedSimpArgs false
noncomputable def cost_Check.C : Code := (Tryd.f21.body).getD .skip
def cost_Check.out (r : (Option Int)) (H : Hp) (v : Value) : Prop := v = errV 51 r
abbrev cost_Check.R (H0 : Hp) (L : Items) (r : (Option Int)) := fR H0 L (cost_Check.out r)
structure cost_Check.Hs where
 l0 : (List (List Int)) → Int → (Option Int) → (List (List Int)) → Int → Int → Option (Option Int)
 l1 : (List (List Int)) → Int → (Option Int) → (List (List Int)) → Int → Int → (List Int) → Int → Int → Option (Option Int)
noncomputable def cost_Check.b0 (k : Nat) (h : cost_Check.Hs)  (c_0 : List (List Int)) (c_1 : Int) (t2 : Option Int) (t23 : List (List Int)) (t24 : Int) (t25 : Int) : Option (Option Int) := if t25 < t24 then (if (0 : Int) ≤ t25 ∧ t25 < (t23.length : Int) then (if (0 : Int) ≤ 0 ∧ 0 < (c_0.length : Int) then (if ((!decide (((rd t23 t25).length : Int) = ((rd c_0 0).length : Int))) || (decide (64 < ((rd t23 t25).length : Int)))) = true then (some (some 1)) else (h.l1 c_0 c_1 t2 t23 t24 t25 (rd t23 t25) ((rd t23 t25).length : Int) 0)) else none) else none) else (some (none))
noncomputable def cost_Check.b1 (k : Nat) (h : cost_Check.Hs)  (c_0 : List (List Int)) (c_1 : Int) (t2 : Option Int) (t23 : List (List Int)) (t24 : Int) (t25 : Int) (t43 : List Int) (t44 : Int) (t45 : Int) : Option (Option Int) := if t45 < t44 then (if (0 : Int) ≤ t45 ∧ t45 < (t43.length : Int) then (if ((decide ((rd t43 t45) < (-1))) || (decide (4096 < (rd t43 t45)))) = true then (some (some 1)) else (h.l1 c_0 c_1 t2 t23 t24 t25 t43 t44 (w64 (t45 + 1)))) else none) else (h.l0 c_0 c_1 t2 t23 t24 (w64 (t25 + 1)))
noncomputable def cost_Check.hs : Nat → cost_Check.Hs
 | 0 => ⟨fun _ _ _ _ _ _ => none, fun _ _ _ _ _ _ _ _ _ => none⟩
 | k + 1 => ⟨fun x0 x1 x2 x3 x4 x5 => cost_Check.b0 k (cost_Check.hs k) x0 x1 x2 x3 x4 x5, fun x0 x1 x2 x3 x4 x5 x6 x7 x8 => cost_Check.b1 k (cost_Check.hs k) x0 x1 x2 x3 x4 x5 x6 x7 x8⟩
noncomputable def cost_Check.f (k : Nat) (c_ : cost_Costs) : Option (Option Int) := (fun h : cost_Check.Hs => if (((decide (64 < (c_.f_Rows.length : Int))) || (decide (c_.f_Miss < 0))) || (decide (4096 < c_.f_Miss))) = true then (some (some 1)) else (h.l0 c_.f_Rows c_.f_Miss none c_.f_Rows (c_.f_Rows.length : Int) 0)) (cost_Check.hs k)
structure cost_Check.LE (h h' : cost_Check.Hs) : Prop where
 l0 : ∀ y0 y1 y2 y3 y4 y5, LeO (h.l0 y0 y1 y2 y3 y4 y5) (h'.l0 y0 y1 y2 y3 y4 y5)
 l1 : ∀ y0 y1 y2 y3 y4 y5 y6 y7 y8, LeO (h.l1 y0 y1 y2 y3 y4 y5 y6 y7 y8) (h'.l1 y0 y1 y2 y3 y4 y5 y6 y7 y8)
theorem cost_Check.b0_mono {k : Nat} {h h' : cost_Check.Hs} (hl : cost_Check.LE h h') : ∀ y0 y1 y2 y3 y4 y5, LeO (cost_Check.b0 k h y0 y1 y2 y3 y4 y5) (cost_Check.b0 (k + 1) h' y0 y1 y2 y3 y4 y5) := fun _ _ _ _ _ _ => (LeO.ite (LeO.ite (LeO.ite (LeO.ite (LeO.refl _) (hl.l1 _ _ _ _ _ _ _ _ _)) (LeO.refl _)) (LeO.refl _)) (LeO.refl _))
theorem cost_Check.b1_mono {k : Nat} {h h' : cost_Check.Hs} (hl : cost_Check.LE h h') : ∀ y0 y1 y2 y3 y4 y5 y6 y7 y8, LeO (cost_Check.b1 k h y0 y1 y2 y3 y4 y5 y6 y7 y8) (cost_Check.b1 (k + 1) h' y0 y1 y2 y3 y4 y5 y6 y7 y8) := fun _ _ _ _ _ _ _ _ _ => (LeO.ite (LeO.ite (LeO.ite (LeO.refl _) (hl.l1 _ _ _ _ _ _ _ _ _)) (LeO.refl _)) (hl.l0 _ _ _ _ _ _))
theorem cost_Check.hs_mono : ∀ k, cost_Check.LE (cost_Check.hs k) (cost_Check.hs (k + 1))
 | 0 => ⟨fun _ _ _ _ _ _ => LeO.none _, fun _ _ _ _ _ _ _ _ _ => LeO.none _⟩
 | k + 1 => ⟨cost_Check.b0_mono (k := k) (cost_Check.hs_mono k), cost_Check.b1_mono (k := k) (cost_Check.hs_mono k)⟩
theorem cost_Check.mono : ∀ k y0, LeO (cost_Check.f k y0) (cost_Check.f (k + 1) y0) := fun k _ => have hl := cost_Check.hs_mono k; by unfold cost_Check.f; exact (LeO.ite (LeO.refl _) (hl.l0 _ _ _ _ _ _))
noncomputable def cost_Check.Kl0 : List Item := .code (lopB (blkB (seqR (seqL (seqR (seqR cost_Check.C)))))) :: .inLoop (lopB (blkB (seqR (seqL (seqR (seqR cost_Check.C)))))) :: .inBlock 0 :: .code (seqR (seqR (seqR cost_Check.C))) :: []
noncomputable def cost_Check.Kl1 : List Item := .code (lopB (blkB (seqR (seqR (seqR (blkB (seqL (seqR (seqR (lopB (blkB (seqR (seqL (seqR (seqR cost_Check.C))))))))))))))) :: .inLoop (lopB (blkB (seqR (seqR (seqR (blkB (seqL (seqR (seqR (lopB (blkB (seqR (seqL (seqR (seqR cost_Check.C))))))))))))))) :: .inBlock 2 :: .inBlock 1 :: .code (seqR (seqR (seqR (lopB (blkB (seqR (seqL (seqR (seqR cost_Check.C))))))))) :: .inLoop (lopB (blkB (seqR (seqL (seqR (seqR cost_Check.C)))))) :: .inBlock 0 :: .code (seqR (seqR (seqR cost_Check.C))) :: []
structure cost_Check.OK (h : cost_Check.Hs) : Prop where
 l0 : ∀ {H0 H : Hp} {L : Items} {r : (Option Int)} {jk_ : Nat → Value} {c_0 : List (List Int)} {c_1 : Int} {t2 : Option Int} {t23 : List (List Int)} {t24 : Int} {t25 : Int} {v_c_0 : Value} {v_t23 : Value} {b_c_ : Nat} (_ : H0.le H) (_he : h.l0 c_0 c_1 t2 t23 t24 t25 = some r) (_h_c_0 : Ro (Kd.slice kI64) H v_c_0 c_0) (_h_t23 : Ro (Kd.slice kI64) H v_t23 t23), Wp Tryd.prog 21 58 cost_Check.Kl0 (upd (upd (upd (upd (upd jk_ 1 (.pointer (some ⟨b_c_, 0, none⟩))) 2 (errV 51 t2)) 23 (v_t23)) 24 (.int .i64 t24)) 25 (.int .i64 t25)) H (some (b_c_, .cells ⟨[v_c_0, .int .i64 c_1]⟩ 37 (0, 0)) :: L) (cost_Check.R H0 L r)
 l1 : ∀ {H0 H : Hp} {L : Items} {r : (Option Int)} {jk_ : Nat → Value} {c_0 : List (List Int)} {c_1 : Int} {t2 : Option Int} {t23 : List (List Int)} {t24 : Int} {t25 : Int} {t43 : List Int} {t44 : Int} {t45 : Int} {v_c_0 : Value} {v_t23 : Value} {v_t43 : Value} {b_c_ : Nat} (_ : H0.le H) (_he : h.l1 c_0 c_1 t2 t23 t24 t25 t43 t44 t45 = some r) (_h_c_0 : Ro (Kd.slice kI64) H v_c_0 c_0) (_h_t23 : Ro (Kd.slice kI64) H v_t23 t23) (_h_t43 : Ro kI64 H v_t43 t43), Wp Tryd.prog 21 58 cost_Check.Kl1 (upd (upd (upd (upd (upd (upd (upd (upd jk_ 1 (.pointer (some ⟨b_c_, 0, none⟩))) 2 (errV 51 t2)) 23 (v_t23)) 24 (.int .i64 t24)) 25 (.int .i64 t25)) 43 (v_t43)) 44 (.int .i64 t44)) 45 (.int .i64 t45)) H (some (b_c_, .cells ⟨[v_c_0, .int .i64 c_1]⟩ 37 (0, 0)) :: L) (cost_Check.R H0 L r)
theorem cost_Check.b0_ok {k : Nat} {h : cost_Check.Hs} (hh : cost_Check.OK h) {H0 H : Hp} {L : Items} {r : (Option Int)} {jk_ : Nat → Value} {c_0 : List (List Int)} {c_1 : Int} {t2 : Option Int} {t23 : List (List Int)} {t24 : Int} {t25 : Int} {v_c_0 : Value} {v_t23 : Value} {b_c_ : Nat} (hle : H0.le H) (he : cost_Check.b0 k h c_0 c_1 t2 t23 t24 t25 = some r) (h_c_0 : Ro (Kd.slice kI64) H v_c_0 c_0) (h_t23 : Ro (Kd.slice kI64) H v_t23 t23) : Wp Tryd.prog 21 58 cost_Check.Kl0 (upd (upd (upd (upd (upd jk_ 1 (.pointer (some ⟨b_c_, 0, none⟩))) 2 (errV 51 t2)) 23 (v_t23)) 24 (.int .i64 t24)) 25 (.int .i64 t25)) H (some (b_c_, .cells ⟨[v_c_0, .int .i64 c_1]⟩ 37 (0, 0)) :: L) (cost_Check.R H0 L r) := by
 unfold cost_Check.b0 at he
 unfold cost_Check.Kl0
 refine wR rfl <| w_d rfl (d_lss rfl rfl) <| wE ?_
 rcases its he with ⟨c9, he⟩ | ⟨c9, he⟩
 ·
  refine w_then rfl (dt c9) <| w_skip <| w_seq <| w_block <| wR rfl ?_
  obtain ⟨c10, he⟩ := rq he
  refine w_d rfl (d_index (sz := 1) Tryd.underlying22 sz32 rfl h_t23.src rfl c10) ?_
  obtain ⟨_, l11, r12⟩ := el_ro (kd := (Kd.slice kI64)) h_t23 c10
  obtain ⟨v13, rfl, h14⟩ := r12
  refine w_d rfl (d_load (v := v13) (cs := [v13]) ty32 rfl rfl (by decide) (l11).lies rfl) <| wA v13 rfl rfl <| wE <| wR rfl <| wM v13 rfl rfl <| w_d rfl (d_len Tryd.underlying32 rfl h14.src) <| w_d rfl (d_fld (o' := 0) Tryd.underlying37 rfl sz22 rfl rfl rfl) <| wL v_c_0 ty22 rfl rfl .here rfl rfl ?_
  obtain ⟨c15, he⟩ := rq he
  refine w_d rfl (d_index (sz := 1) Tryd.underlying22 sz32 rfl h_c_0.src rfl c15) ?_
  obtain ⟨_, l16, r17⟩ := el_ro (kd := (Kd.slice kI64)) h_c_0 c15
  obtain ⟨v18, rfl, h19⟩ := r17
  refine w_d rfl (d_load (v := v18) (cs := [v18]) ty32 rfl rfl (by decide) (l16).lies rfl) <| w_d rfl (d_len Tryd.underlying32 rfl h19.src) <| w_d rfl (d_neq rfl rfl) <| wM (.bool (!decide (((rd t23 t25).length : Int) = ((rd c_0 0).length : Int)))) rfl rfl <| w_g (g := !(!decide (((rd t23 t25).length : Int) = ((rd c_0 0).length : Int)))) rfl rfl rfl wn_f (fun g20 => d_move (v := v13) rfl) <| w_g (g := !(!decide (((rd t23 t25).length : Int) = ((rd c_0 0).length : Int)))) rfl rfl rfl wn_f (fun g21 => d_len Tryd.underlying32 (cvt g21) h14.src) <| w_g (g := !(!decide (((rd t23 t25).length : Int) = ((rd c_0 0).length : Int)))) rfl rfl rfl wn_f (fun g22 => d_gtr (cvt g22) rfl) <| w_d rfl (d_or' (b := (!decide (((rd t23 t25).length : Int) = ((rd c_0 0).length : Int)))) (p := (decide (64 < ((rd t23 t25).length : Int)))) rfl rfl rfl) <| w_done ?_
  rcases its he with ⟨c23, he⟩ | ⟨c23, he⟩
  ·
   refine w_then rfl c23 <| wR rfl <| w_d rfl (d_iface (v := .int .i64 1) Tryd.underlying51 rfl rfl) <| wA (errV 51 (some 1)) rfl rfl <| w_done ?_
   obtain rfl := sj he
   refine w_return fn_21 rs_21 (.tmp (v := errV 51 (some 1)) rfl .nil) <| ⟨⟨[_], rfl⟩, hle, rfl⟩
  ·
   refine w_else rfl (Bool.eq_false_iff.2 c23) <| w_skip <| wR rfl <| wM v13 rfl rfl <| w_d rfl (d_len Tryd.underlying32 rfl h14.src) <| wM (.int .i64 0) rfl rfl <| w_done <| w_block <| w_loop <| w_sl 1 (.pointer (some ⟨b_c_, 0, none⟩)) rfl <| w_sl 2 (errV 51 t2) rfl ?_
   refine w_sl 23 (v_t23) rfl <| w_sl 24 (.int .i64 t24) rfl <| w_sl 25 (.int .i64 t25) rfl <| w_sl 43 (v13) rfl <| w_sl 44 (.int .i64 ((rd t23 t25).length : Int)) rfl <| w_sl 45 (.int .i64 0) rfl <| hh.l1 hle he h_c_0 h_t23 h14
 ·
  refine w_else rfl (df c9) <| w_exit rfl <| wR rfl <| wA (errV 51 none) rfl rfl <| w_done ?_
  obtain rfl := sj he
  refine w_return fn_21 rs_21 (.tmp (v := errV 51 none) rfl .nil) <| ⟨⟨[_], rfl⟩, hle, rfl⟩
theorem cost_Check.b1_ok {k : Nat} {h : cost_Check.Hs} (hh : cost_Check.OK h) {H0 H : Hp} {L : Items} {r : (Option Int)} {jk_ : Nat → Value} {c_0 : List (List Int)} {c_1 : Int} {t2 : Option Int} {t23 : List (List Int)} {t24 : Int} {t25 : Int} {t43 : List Int} {t44 : Int} {t45 : Int} {v_c_0 : Value} {v_t23 : Value} {v_t43 : Value} {b_c_ : Nat} (hle : H0.le H) (he : cost_Check.b1 k h c_0 c_1 t2 t23 t24 t25 t43 t44 t45 = some r) (h_c_0 : Ro (Kd.slice kI64) H v_c_0 c_0) (h_t23 : Ro (Kd.slice kI64) H v_t23 t23) (h_t43 : Ro kI64 H v_t43 t43) : Wp Tryd.prog 21 58 cost_Check.Kl1 (upd (upd (upd (upd (upd (upd (upd (upd jk_ 1 (.pointer (some ⟨b_c_, 0, none⟩))) 2 (errV 51 t2)) 23 (v_t23)) 24 (.int .i64 t24)) 25 (.int .i64 t25)) 43 (v_t43)) 44 (.int .i64 t44)) 45 (.int .i64 t45)) H (some (b_c_, .cells ⟨[v_c_0, .int .i64 c_1]⟩ 37 (0, 0)) :: L) (cost_Check.R H0 L r) := by
 unfold cost_Check.b1 at he
 unfold cost_Check.Kl1
 refine wR rfl <| w_d rfl (d_lss rfl rfl) <| wE ?_
 rcases its he with ⟨c24, he⟩ | ⟨c24, he⟩
 ·
  refine w_then rfl (dt c24) <| w_skip <| w_seq <| w_block <| wR rfl ?_
  obtain ⟨c25, he⟩ := rq he
  refine w_d rfl (d_index (sz := 1) Tryd.underlying32 sz2 rfl h_t43.src rfl c25) <| w_d rfl (d_ldint ty2 rfl h_t43.src c25) <| wA (.int .i64 (rd t43 t45)) rfl rfl <| wQ rfl <| wM (.int .i64 (rd t43 t45)) rfl rfl <| w_d rfl (d_lss rfl rfl) <| wM (.bool (decide ((rd t43 t45) < (-1)))) rfl rfl <| w_g (g := !(decide ((rd t43 t45) < (-1)))) rfl rfl rfl wn_f (fun g26 => d_move (v := .int .i64 (rd t43 t45)) rfl) <| w_g (g := !(decide ((rd t43 t45) < (-1)))) rfl rfl rfl wn_f (fun g27 => d_gtr (cvt g27) rfl) <| w_d rfl (d_or' (b := (decide ((rd t43 t45) < (-1)))) (p := (decide (4096 < (rd t43 t45)))) rfl rfl rfl) ?_
  refine w_done ?_
  rcases its he with ⟨c28, he⟩ | ⟨c28, he⟩
  ·
   refine w_then rfl c28 <| wR rfl <| w_d rfl (d_iface (v := .int .i64 1) Tryd.underlying51 rfl rfl) <| wA (errV 51 (some 1)) rfl rfl <| w_done ?_
   obtain rfl := sj he
   refine w_return fn_21 rs_21 (.tmp (v := errV 51 (some 1)) rfl .nil) <| ⟨⟨[_], rfl⟩, hle, rfl⟩
  ·
   refine w_else rfl (Bool.eq_false_iff.2 c28) <| w_skip <| w_inBlock <| w_region rfl <| w_d rfl (d_add (c := w64 (t45 + 1)) rfl rfl rfl) <| wM (.int .i64 (w64 (t45 + 1))) rfl rfl <| w_done <| w_inLoop <| w_sl 1 (.pointer (some ⟨b_c_, 0, none⟩)) rfl <| w_sl 2 (errV 51 t2) rfl <| w_sl 23 (v_t23) rfl <| w_sl 24 (.int .i64 t24) rfl ?_
   refine w_sl 25 (.int .i64 t25) rfl <| w_sl 43 (v_t43) rfl <| w_sl 44 (.int .i64 t44) rfl <| w_sl 45 (.int .i64 (w64 (t45 + 1))) rfl <| hh.l1 hle he h_c_0 h_t23 h_t43
 ·
  refine w_else rfl (df c24) <| w_exit rfl <| w_inBlock <| w_region rfl <| w_d rfl (d_add (c := w64 (t25 + 1)) rfl rfl rfl) <| wM (.int .i64 (w64 (t25 + 1))) rfl rfl <| w_done <| w_inLoop <| w_sl 1 (.pointer (some ⟨b_c_, 0, none⟩)) rfl <| w_sl 2 (errV 51 t2) rfl <| w_sl 23 (v_t23) rfl <| w_sl 24 (.int .i64 t24) rfl ?_
  refine w_sl 25 (.int .i64 (w64 (t25 + 1))) rfl <| hh.l0 hle he h_c_0 h_t23
theorem cost_Check.ok : ∀ k, cost_Check.OK (cost_Check.hs k)
 | 0 => ⟨(by intros; exact nomatch (show none = some _ from by assumption)), (by intros; exact nomatch (show none = some _ from by assumption))⟩
 | k + 1 => ⟨cost_Check.b0_ok (k := k) (cost_Check.ok k), cost_Check.b1_ok (k := k) (cost_Check.ok k)⟩
theorem cost_Check.calls (k : Nat) {H : Hp} {L : Items} {c_ : cost_Costs} {v0_c_ : Value} {r : (Option Int)} (he : cost_Check.f k c_ = some r) (h0_c_ : Ro (Kd.slice kI64) H v0_c_ c_.f_Rows) : Ct Tryd.prog 21 ⟨[.agg ⟨[v0_c_, .int .i64 c_.f_Miss]⟩]⟩ H L (fun v H' L' => L = L' ∧ H = H' ∧ v = errV 51 r) := by
 refine ct_outs (O := cost_Check.out r) (fun _ _ h => h) ?_
 have hle : H.le H := .refl _
 have hh := cost_Check.ok k
 unfold cost_Check.f at he
 refine ct_enter (args := [.agg ⟨[v0_c_, .int .i64 c_.f_Miss]⟩]) fn_21 rfl nt_21 rfl <| wR rfl <| w_a rfl (o_box (v := .agg ⟨[v0_c_, .int .i64 c_.f_Miss]⟩) rfl rfl) ?_
 rintro _ _ _ ⟨b1, rfl, rfl, rfl⟩
 refine wA (errV 51 none) rfl rfl <| wE <| wR rfl <| w_d rfl (d_fld (o' := 0) Tryd.underlying37 rfl sz22 rfl rfl rfl) <| wL v0_c_ ty22 rfl rfl .here rfl rfl <| w_d rfl (d_len Tryd.underlying22 rfl h0_c_.src) <| w_d rfl (d_gtr rfl rfl) <| wM (.bool (decide (64 < (c_.f_Rows.length : Int)))) rfl rfl <| w_g (g := !(decide (64 < (c_.f_Rows.length : Int)))) rfl rfl rfl wn_f (fun g2 => d_fld (o' := 1) Tryd.underlying37 rfl sz2 rfl rfl rfl) <| w_g (g := !(decide (64 < (c_.f_Rows.length : Int)))) rfl rfl rfl wn_f (fun g3 => d_loado (v := .int .i64 c_.f_Miss) ty2 (cvt g3) .here rfl rfl rfl rfl) ?_
 refine w_g (g := !(decide (64 < (c_.f_Rows.length : Int)))) rfl rfl rfl wn_f (fun g4 => d_lss (cvt g4) rfl) <| w_d rfl (d_or' (b := (decide (64 < (c_.f_Rows.length : Int)))) (p := (decide (c_.f_Miss < 0))) rfl rfl rfl) <| wM (.bool ((decide (64 < (c_.f_Rows.length : Int))) || (decide (c_.f_Miss < 0)))) rfl rfl <| w_g (g := !((decide (64 < (c_.f_Rows.length : Int))) || (decide (c_.f_Miss < 0)))) rfl rfl rfl wn_f (fun g5 => d_fld (o' := 1) Tryd.underlying37 rfl sz2 rfl rfl rfl) <| w_g (g := !((decide (64 < (c_.f_Rows.length : Int))) || (decide (c_.f_Miss < 0)))) rfl rfl rfl wn_f (fun g6 => d_loado (v := .int .i64 c_.f_Miss) ty2 (cvt g6) .here rfl rfl rfl rfl) <| w_g (g := !((decide (64 < (c_.f_Rows.length : Int))) || (decide (c_.f_Miss < 0)))) rfl rfl rfl wn_f (fun g7 => d_gtr (cvt g7) rfl) <| w_d rfl (d_or' (b := ((decide (64 < (c_.f_Rows.length : Int))) || (decide (c_.f_Miss < 0)))) (p := (decide (4096 < c_.f_Miss))) rfl rfl rfl) <| w_done ?_
 rcases its he with ⟨c8, he⟩ | ⟨c8, he⟩
 ·
  refine w_then rfl c8 <| wR rfl <| w_d rfl (d_iface (v := .int .i64 1) Tryd.underlying51 rfl rfl) <| wA (errV 51 (some 1)) rfl rfl <| w_done ?_
  obtain rfl := sj he
  refine w_return fn_21 rs_21 (.tmp (v := errV 51 (some 1)) rfl .nil) <| ⟨⟨[_], rfl⟩, hle, rfl⟩
 ·
  refine w_else rfl (Bool.eq_false_iff.2 c8) <| w_skip <| w_seq <| wR rfl <| w_d rfl (d_fld (o' := 0) Tryd.underlying37 rfl sz22 rfl rfl rfl) <| wL v0_c_ ty22 rfl rfl .here rfl rfl <| w_d rfl (d_len Tryd.underlying22 rfl h0_c_.src) <| wM (.int .i64 0) rfl rfl <| w_done <| w_block <| w_loop ?_
  refine w_sl 1 (.pointer (some ⟨b1, 0, none⟩)) rfl <| w_sl 2 (errV 51 none) rfl <| w_sl 23 (v0_c_) rfl <| w_sl 24 (.int .i64 (c_.f_Rows.length : Int)) rfl <| w_sl 25 (.int .i64 0) rfl <| hh.l0 hle he h0_c_ h0_c_
noncomputable def bits_Mul32.C : Code := (Tryd.f58.body).getD .skip
def bits_Mul32.out (r : Int × Int) (H : Hp) (v : Value) : Prop := v = .tuple ⟨[.int .u32 r.1, .int .u32 r.2]⟩
noncomputable def bits_Mul32.f (k : Nat) (x : Int) (y : Int) : Option (Int × Int) := some ((((((x) % 18446744073709551616) * ((y) % 18446744073709551616)) % 18446744073709551616) / 4294967296) % 4294967296, ((((x) % 18446744073709551616) * ((y) % 18446744073709551616)) % 18446744073709551616) % 4294967296)
theorem bits_Mul32.calls (k : Nat) {H : Hp} {L : Items} {x : Int} {y : Int} {r : Int × Int} (he : bits_Mul32.f k x y = some r) : Ct Tryd.prog 58 ⟨[.int .u32 x, .int .u32 y]⟩ H L (fun v H' L' => L = L' ∧ H = H' ∧ v = .tuple ⟨[.int .u32 r.1, .int .u32 r.2]⟩) := by
 refine ct_outs (O := bits_Mul32.out r) (fun _ _ h => h) ?_
 have hle : H.le H := .refl _
 unfold bits_Mul32.f at he
 refine ct_enter (args := [.int .u32 x, .int .u32 y]) fn_58 rfl nt_58 rfl <| wR rfl <| wA (.int .u32 0) rfl rfl <| wA (.int .u32 0) rfl rfl <| wQ rfl <| wM (.int .u32 x) rfl rfl <| w_d rfl (d_conv (c := (x) % 18446744073709551616) Tryd.underlying125 Tryd.underlying102 rfl rfl) <| wM (.int .u32 y) rfl rfl <| w_d rfl (d_conv (c := (y) % 18446744073709551616) Tryd.underlying125 Tryd.underlying102 rfl rfl) ?_
 refine w_d rfl (d_mul (c := (((x) % 18446744073709551616) * ((y) % 18446744073709551616)) % 18446744073709551616) rfl rfl rfl) <| wA (.int .u64 ((((x) % 18446744073709551616) * ((y) % 18446744073709551616)) % 18446744073709551616)) rfl rfl <| wQ rfl <| wM (.int .u64 ((((x) % 18446744073709551616) * ((y) % 18446744073709551616)) % 18446744073709551616)) rfl rfl <| w_d rfl (d_shr (c := ((((x) % 18446744073709551616) * ((y) % 18446744073709551616)) % 18446744073709551616) / 4294967296) rfl rfl (by decide) rfl) <| w_d rfl (d_conv (c := (((((x) % 18446744073709551616) * ((y) % 18446744073709551616)) % 18446744073709551616) / 4294967296) % 4294967296) Tryd.underlying102 Tryd.underlying125 rfl rfl) <| wM (.int .u64 ((((x) % 18446744073709551616) * ((y) % 18446744073709551616)) % 18446744073709551616)) rfl rfl <| w_d rfl (d_conv (c := ((((x) % 18446744073709551616) * ((y) % 18446744073709551616)) % 18446744073709551616) % 4294967296) Tryd.underlying102 Tryd.underlying125 rfl rfl) <| wA (.int .u32 ((((((x) % 18446744073709551616) * ((y) % 18446744073709551616)) % 18446744073709551616) / 4294967296) % 4294967296)) rfl rfl <| wA (.int .u32 (((((x) % 18446744073709551616) * ((y) % 18446744073709551616)) % 18446744073709551616) % 4294967296)) rfl rfl ?_
 refine w_done ?_
 obtain rfl := sj he
 refine w_return fn_58 rs_58 (.tmp (v := .int .u32 ((((((x) % 18446744073709551616) * ((y) % 18446744073709551616)) % 18446744073709551616) / 4294967296) % 4294967296)) rfl (.tmp (v := .int .u32 (((((x) % 18446744073709551616) * ((y) % 18446744073709551616)) % 18446744073709551616) % 4294967296)) rfl .nil)) <| ⟨⟨[], rfl⟩, hle, rfl⟩
noncomputable def bits_Mul64.C : Code := (Tryd.f59.body).getD .skip
def bits_Mul64.out (r : Int × Int) (H : Hp) (v : Value) : Prop := v = .tuple ⟨[.int .u64 r.1, .int .u64 r.2]⟩
noncomputable def bits_Mul64.f (k : Nat) (x : Int) (y : Int) : Option (Int × Int) := some (((((((x / 4294967296) * (y / 4294967296)) % 18446744073709551616) + ((((((x / 4294967296) * (iand .u64 y 4294967295)) % 18446744073709551616) + ((((iand .u64 x 4294967295) * (iand .u64 y 4294967295)) % 18446744073709551616) / 4294967296)) % 18446744073709551616) / 4294967296)) % 18446744073709551616) + ((((iand .u64 (((((x / 4294967296) * (iand .u64 y 4294967295)) % 18446744073709551616) + ((((iand .u64 x 4294967295) * (iand .u64 y 4294967295)) % 18446744073709551616) / 4294967296)) % 18446744073709551616) 4294967295) + (((iand .u64 x 4294967295) * (y / 4294967296)) % 18446744073709551616)) % 18446744073709551616) / 4294967296)) % 18446744073709551616, (x * y) % 18446744073709551616)
theorem bits_Mul64.mono : ∀ k y0 y1, LeO (bits_Mul64.f k y0 y1) (bits_Mul64.f (k + 1) y0 y1) := fun k _ _ => by unfold bits_Mul64.f; exact (LeO.refl _)
theorem bits_Mul64.calls (k : Nat) {H : Hp} {L : Items} {x : Int} {y : Int} {r : Int × Int} (he : bits_Mul64.f k x y = some r) : Ct Tryd.prog 59 ⟨[.int .u64 x, .int .u64 y]⟩ H L (fun v H' L' => L = L' ∧ H = H' ∧ v = .tuple ⟨[.int .u64 r.1, .int .u64 r.2]⟩) := by
 refine ct_outs (O := bits_Mul64.out r) (fun _ _ h => h) ?_
 have hle : H.le H := .refl _
 unfold bits_Mul64.f at he
 refine ct_enter (args := [.int .u64 x, .int .u64 y]) fn_59 rfl nt_59 rfl <| wR rfl <| wA (.int .u64 0) rfl rfl <| wA (.int .u64 0) rfl rfl <| wQ rfl <| wM (.int .u64 x) rfl rfl <| w_d rfl (d_band rfl rfl) <| wA (.int .u64 (iand .u64 x 4294967295)) rfl rfl <| w_done ?_
 refine wR rfl <| wM (.int .u64 x) rfl rfl <| w_d rfl (d_shr (c := x / 4294967296) rfl rfl (by decide) rfl) <| wA (.int .u64 (x / 4294967296)) rfl rfl <| wQ rfl <| wM (.int .u64 y) rfl rfl <| w_d rfl (d_band rfl rfl) <| wA (.int .u64 (iand .u64 y 4294967295)) rfl rfl <| w_done ?_
 refine wR rfl <| wM (.int .u64 y) rfl rfl <| w_d rfl (d_shr (c := y / 4294967296) rfl rfl (by decide) rfl) <| wA (.int .u64 (y / 4294967296)) rfl rfl <| wQ rfl <| wM (.int .u64 (iand .u64 x 4294967295)) rfl rfl <| wM (.int .u64 (iand .u64 y 4294967295)) rfl rfl <| w_d rfl (d_mul (c := ((iand .u64 x 4294967295) * (iand .u64 y 4294967295)) % 18446744073709551616) rfl rfl rfl) <| wA (.int .u64 (((iand .u64 x 4294967295) * (iand .u64 y 4294967295)) % 18446744073709551616)) rfl rfl ?_
 refine wQ rfl <| wM (.int .u64 (x / 4294967296)) rfl rfl <| wM (.int .u64 (iand .u64 y 4294967295)) rfl rfl <| w_d rfl (d_mul (c := ((x / 4294967296) * (iand .u64 y 4294967295)) % 18446744073709551616) rfl rfl rfl) <| wM (.int .u64 (((iand .u64 x 4294967295) * (iand .u64 y 4294967295)) % 18446744073709551616)) rfl rfl <| w_d rfl (d_shr (c := (((iand .u64 x 4294967295) * (iand .u64 y 4294967295)) % 18446744073709551616) / 4294967296) rfl rfl (by decide) rfl) <| w_d rfl (d_add (c := ((((x / 4294967296) * (iand .u64 y 4294967295)) % 18446744073709551616) + ((((iand .u64 x 4294967295) * (iand .u64 y 4294967295)) % 18446744073709551616) / 4294967296)) % 18446744073709551616) rfl rfl rfl) <| wA (.int .u64 (((((x / 4294967296) * (iand .u64 y 4294967295)) % 18446744073709551616) + ((((iand .u64 x 4294967295) * (iand .u64 y 4294967295)) % 18446744073709551616) / 4294967296)) % 18446744073709551616)) rfl rfl <| wE ?_
 refine w_region rfl <| wM (.int .u64 (((((x / 4294967296) * (iand .u64 y 4294967295)) % 18446744073709551616) + ((((iand .u64 x 4294967295) * (iand .u64 y 4294967295)) % 18446744073709551616) / 4294967296)) % 18446744073709551616)) rfl rfl <| w_d rfl (d_band rfl rfl) <| wA (.int .u64 (iand .u64 (((((x / 4294967296) * (iand .u64 y 4294967295)) % 18446744073709551616) + ((((iand .u64 x 4294967295) * (iand .u64 y 4294967295)) % 18446744073709551616) / 4294967296)) % 18446744073709551616) 4294967295)) rfl rfl <| wQ rfl <| wM (.int .u64 (((((x / 4294967296) * (iand .u64 y 4294967295)) % 18446744073709551616) + ((((iand .u64 x 4294967295) * (iand .u64 y 4294967295)) % 18446744073709551616) / 4294967296)) % 18446744073709551616)) rfl rfl <| w_d rfl (d_shr (c := (((((x / 4294967296) * (iand .u64 y 4294967295)) % 18446744073709551616) + ((((iand .u64 x 4294967295) * (iand .u64 y 4294967295)) % 18446744073709551616) / 4294967296)) % 18446744073709551616) / 4294967296) rfl rfl (by decide) rfl) <| wA (.int .u64 ((((((x / 4294967296) * (iand .u64 y 4294967295)) % 18446744073709551616) + ((((iand .u64 x 4294967295) * (iand .u64 y 4294967295)) % 18446744073709551616) / 4294967296)) % 18446744073709551616) / 4294967296)) rfl rfl <| wE ?_
 refine w_region rfl <| wM (.int .u64 (iand .u64 (((((x / 4294967296) * (iand .u64 y 4294967295)) % 18446744073709551616) + ((((iand .u64 x 4294967295) * (iand .u64 y 4294967295)) % 18446744073709551616) / 4294967296)) % 18446744073709551616) 4294967295)) rfl rfl <| wM (.int .u64 (iand .u64 x 4294967295)) rfl rfl <| wM (.int .u64 (y / 4294967296)) rfl rfl <| w_d rfl (d_mul (c := ((iand .u64 x 4294967295) * (y / 4294967296)) % 18446744073709551616) rfl rfl rfl) <| w_d rfl (d_add (c := ((iand .u64 (((((x / 4294967296) * (iand .u64 y 4294967295)) % 18446744073709551616) + ((((iand .u64 x 4294967295) * (iand .u64 y 4294967295)) % 18446744073709551616) / 4294967296)) % 18446744073709551616) 4294967295) + (((iand .u64 x 4294967295) * (y / 4294967296)) % 18446744073709551616)) % 18446744073709551616) rfl rfl rfl) <| wA (.int .u64 (((iand .u64 (((((x / 4294967296) * (iand .u64 y 4294967295)) % 18446744073709551616) + ((((iand .u64 x 4294967295) * (iand .u64 y 4294967295)) % 18446744073709551616) / 4294967296)) % 18446744073709551616) 4294967295) + (((iand .u64 x 4294967295) * (y / 4294967296)) % 18446744073709551616)) % 18446744073709551616)) rfl rfl <| wQ rfl <| wM (.int .u64 (x / 4294967296)) rfl rfl <| wM (.int .u64 (y / 4294967296)) rfl rfl ?_
 refine w_d rfl (d_mul (c := ((x / 4294967296) * (y / 4294967296)) % 18446744073709551616) rfl rfl rfl) <| wM (.int .u64 ((((((x / 4294967296) * (iand .u64 y 4294967295)) % 18446744073709551616) + ((((iand .u64 x 4294967295) * (iand .u64 y 4294967295)) % 18446744073709551616) / 4294967296)) % 18446744073709551616) / 4294967296)) rfl rfl <| w_d rfl (d_add (c := ((((x / 4294967296) * (y / 4294967296)) % 18446744073709551616) + ((((((x / 4294967296) * (iand .u64 y 4294967295)) % 18446744073709551616) + ((((iand .u64 x 4294967295) * (iand .u64 y 4294967295)) % 18446744073709551616) / 4294967296)) % 18446744073709551616) / 4294967296)) % 18446744073709551616) rfl rfl rfl) <| wM (.int .u64 (((iand .u64 (((((x / 4294967296) * (iand .u64 y 4294967295)) % 18446744073709551616) + ((((iand .u64 x 4294967295) * (iand .u64 y 4294967295)) % 18446744073709551616) / 4294967296)) % 18446744073709551616) 4294967295) + (((iand .u64 x 4294967295) * (y / 4294967296)) % 18446744073709551616)) % 18446744073709551616)) rfl rfl <| w_d rfl (d_shr (c := (((iand .u64 (((((x / 4294967296) * (iand .u64 y 4294967295)) % 18446744073709551616) + ((((iand .u64 x 4294967295) * (iand .u64 y 4294967295)) % 18446744073709551616) / 4294967296)) % 18446744073709551616) 4294967295) + (((iand .u64 x 4294967295) * (y / 4294967296)) % 18446744073709551616)) % 18446744073709551616) / 4294967296) rfl rfl (by decide) rfl) <| w_d rfl (d_add (c := ((((((x / 4294967296) * (y / 4294967296)) % 18446744073709551616) + ((((((x / 4294967296) * (iand .u64 y 4294967295)) % 18446744073709551616) + ((((iand .u64 x 4294967295) * (iand .u64 y 4294967295)) % 18446744073709551616) / 4294967296)) % 18446744073709551616) / 4294967296)) % 18446744073709551616) + ((((iand .u64 (((((x / 4294967296) * (iand .u64 y 4294967295)) % 18446744073709551616) + ((((iand .u64 x 4294967295) * (iand .u64 y 4294967295)) % 18446744073709551616) / 4294967296)) % 18446744073709551616) 4294967295) + (((iand .u64 x 4294967295) * (y / 4294967296)) % 18446744073709551616)) % 18446744073709551616) / 4294967296)) % 18446744073709551616) rfl rfl rfl) <| wA (.int .u64 (((((((x / 4294967296) * (y / 4294967296)) % 18446744073709551616) + ((((((x / 4294967296) * (iand .u64 y 4294967295)) % 18446744073709551616) + ((((iand .u64 x 4294967295) * (iand .u64 y 4294967295)) % 18446744073709551616) / 4294967296)) % 18446744073709551616) / 4294967296)) % 18446744073709551616) + ((((iand .u64 (((((x / 4294967296) * (iand .u64 y 4294967295)) % 18446744073709551616) + ((((iand .u64 x 4294967295) * (iand .u64 y 4294967295)) % 18446744073709551616) / 4294967296)) % 18446744073709551616) 4294967295) + (((iand .u64 x 4294967295) * (y / 4294967296)) % 18446744073709551616)) % 18446744073709551616) / 4294967296)) % 18446744073709551616)) rfl rfl <| wQ rfl <| wM (.int .u64 x) rfl rfl <| wM (.int .u64 y) rfl rfl ?_
 refine w_d rfl (d_mul (c := (x * y) % 18446744073709551616) rfl rfl rfl) <| wA (.int .u64 ((x * y) % 18446744073709551616)) rfl rfl <| w_done ?_
 obtain rfl := sj he
 refine w_return fn_59 rs_59 (.tmp (v := .int .u64 (((((((x / 4294967296) * (y / 4294967296)) % 18446744073709551616) + ((((((x / 4294967296) * (iand .u64 y 4294967295)) % 18446744073709551616) + ((((iand .u64 x 4294967295) * (iand .u64 y 4294967295)) % 18446744073709551616) / 4294967296)) % 18446744073709551616) / 4294967296)) % 18446744073709551616) + ((((iand .u64 (((((x / 4294967296) * (iand .u64 y 4294967295)) % 18446744073709551616) + ((((iand .u64 x 4294967295) * (iand .u64 y 4294967295)) % 18446744073709551616) / 4294967296)) % 18446744073709551616) 4294967295) + (((iand .u64 x 4294967295) * (y / 4294967296)) % 18446744073709551616)) % 18446744073709551616) / 4294967296)) % 18446744073709551616)) rfl (.tmp (v := .int .u64 ((x * y) % 18446744073709551616)) rfl .nil)) <| ⟨⟨[], rfl⟩, hle, rfl⟩
noncomputable def bits_Mul.C : Code := (Tryd.f42.body).getD .skip
def bits_Mul.out (r : Int × Int) (H : Hp) (v : Value) : Prop := v = .tuple ⟨[.int .u64 r.1, .int .u64 r.2]⟩
noncomputable def bits_Mul.f (k : Nat) (x : Int) (y : Int) : Option (Int × Int) := (bits_Mul64.f k x y).bind fun y1 => some (y1.1, y1.2)
theorem bits_Mul.mono : ∀ k y0 y1, LeO (bits_Mul.f k y0 y1) (bits_Mul.f (k + 1) y0 y1) := fun k _ _ => by unfold bits_Mul.f; exact (LeO.bind (bits_Mul64.mono k _ _) fun _ => LeO.refl _)
theorem bits_Mul.calls (k : Nat) {H : Hp} {L : Items} {x : Int} {y : Int} {r : Int × Int} (he : bits_Mul.f k x y = some r) : Ct Tryd.prog 42 ⟨[.int .u64 x, .int .u64 y]⟩ H L (fun v H' L' => L = L' ∧ H = H' ∧ v = .tuple ⟨[.int .u64 r.1, .int .u64 r.2]⟩) := by
 refine ct_outs (O := bits_Mul.out r) (fun _ _ h => h) ?_
 have hle : H.le H := .refl _
 unfold bits_Mul.f at he
 refine ct_enter (args := [.int .u64 x, .int .u64 y]) fn_42 rfl nt_42 rfl <| wR rfl <| wA (.int .u64 0) rfl rfl <| wA (.int .u64 0) rfl rfl <| wE <| w_else rfl rfl <| w_skip <| wR rfl <| wM (.int .u64 x) rfl rfl ?_
 refine wM (.int .u64 y) rfl rfl ?_
 obtain ⟨y1, hy2, he⟩ := bs he
 refine w_d rfl (call_d (o_call co59 (vs := [.int .u64 x, .int .u64 y]) rfl (bits_Mul64.calls k hy2))) <| wM (.tuple ⟨[.int .u64 y1.1, .int .u64 y1.2]⟩) rfl rfl <| w_d rfl (d_ext (vs := [.int .u64 y1.1, .int .u64 y1.2]) rfl rfl) <| w_d rfl (d_ext (vs := [.int .u64 y1.1, .int .u64 y1.2]) rfl rfl) <| wA (.int .u64 y1.1) rfl rfl <| wA (.int .u64 y1.2) rfl rfl <| wQ rfl <| wM (.int .u64 y1.1) rfl rfl <| wM (.int .u64 y1.2) rfl rfl <| wA (.int .u64 y1.1) rfl rfl ?_
 refine wA (.int .u64 y1.2) rfl rfl <| w_done ?_
 obtain rfl := sj he
 refine w_return fn_42 rs_42 (.tmp (v := .int .u64 y1.1) rfl (.tmp (v := .int .u64 y1.2) rfl .nil)) <| ⟨⟨[], rfl⟩, hle, rfl⟩
noncomputable def slices_Repeat_int_int.C : Code := (Tryd.f26.body).getD .skip
abbrev slices_Repeat_int_int.out (r : (List Int)) (H : Hp) (v : Value) : Prop := Ro kI64 H v r
abbrev slices_Repeat_int_int.R (H0 : Hp) (L : Items) (r : (List Int)) : Value → Hp → Items → Prop := fun v H' L' => (∃ p it, L' = p ++ it :: L ∧ Sl kI64 H' 3 it v r) ∧ H0.le H'
structure slices_Repeat_int_int.Hs where
 l0 : (List Int) → Int → Option (List Int)
noncomputable def slices_Repeat_int_int.j2 (k : Nat) (h : slices_Repeat_int_int.Hs)  (x : List Int) (lo : Int) : Option (List Int) := if 0 ≤ w64 (lo) ∧ w64 (lo) ≤ 35184372088832 then (h.l0 (cpy (List.replicate (w64 (lo) : Int).toNat (0 : Int)) 0 x) (min (x.length : Int) (((List.replicate (w64 (lo) : Int).toNat (0 : Int)).length : Int) - 0))) else none
noncomputable def slices_Repeat_int_int.j1 (k : Nat) (h : slices_Repeat_int_int.Hs)  (x : List Int) (count : Int) : Option (List Int) := (bits_Mul.f k (((x.length : Int)) % 18446744073709551616) ((count) % 18446744073709551616)).bind fun y2 => if ((decide (0 < y2.1)) || (decide (9223372036854775807 < y2.2))) = true then (none) else (slices_Repeat_int_int.j2 k h x y2.2)
noncomputable def slices_Repeat_int_int.b0 (k : Nat) (h : slices_Repeat_int_int.Hs)  (newslice : List Int) (n : Int) : Option (List Int) := if n < (newslice.length : Int) then (if (0 : Int) ≤ n ∧ (n : Int) ≤ (newslice.length : Int) ∧ (newslice.length : Int) ≤ (newslice.length : Int) then (if (0 : Int) ≤ 0 ∧ (0 : Int) ≤ n ∧ n ≤ (newslice.length : Int) then (h.l0 (cpy newslice n (cut newslice 0 n)) (w64 (n + (min ((cut newslice 0 n).length : Int) ((newslice.length : Int) - n))))) else none) else none) else (some (newslice))
noncomputable def slices_Repeat_int_int.hs : Nat → slices_Repeat_int_int.Hs
 | 0 => ⟨fun _ _ => none⟩
 | k + 1 => ⟨fun x0 x1 => slices_Repeat_int_int.b0 k (slices_Repeat_int_int.hs k) x0 x1⟩
noncomputable def slices_Repeat_int_int.f (k : Nat) (x : List Int) (count : Int) : Option (List Int) := (fun h : slices_Repeat_int_int.Hs => if count < 0 then (none) else (slices_Repeat_int_int.j1 k h x count)) (slices_Repeat_int_int.hs k)
structure slices_Repeat_int_int.LE (h h' : slices_Repeat_int_int.Hs) : Prop where
 l0 : ∀ y0 y1, LeO (h.l0 y0 y1) (h'.l0 y0 y1)
theorem slices_Repeat_int_int.j2_mono {k : Nat} {h h' : slices_Repeat_int_int.Hs} (hl : slices_Repeat_int_int.LE h h') : ∀ y0 y1, LeO (slices_Repeat_int_int.j2 k h y0 y1) (slices_Repeat_int_int.j2 (k + 1) h' y0 y1) := fun _ _ => (LeO.ite (hl.l0 _ _) (LeO.refl _))
theorem slices_Repeat_int_int.j1_mono {k : Nat} {h h' : slices_Repeat_int_int.Hs} (hl : slices_Repeat_int_int.LE h h') : ∀ y0 y1, LeO (slices_Repeat_int_int.j1 k h y0 y1) (slices_Repeat_int_int.j1 (k + 1) h' y0 y1) := fun _ _ => (LeO.bind (bits_Mul.mono k _ _) fun _ => LeO.ite (LeO.refl _) (slices_Repeat_int_int.j2_mono (k := k) hl _ _))
theorem slices_Repeat_int_int.b0_mono {k : Nat} {h h' : slices_Repeat_int_int.Hs} (hl : slices_Repeat_int_int.LE h h') : ∀ y0 y1, LeO (slices_Repeat_int_int.b0 k h y0 y1) (slices_Repeat_int_int.b0 (k + 1) h' y0 y1) := fun _ _ => (LeO.ite (LeO.ite (LeO.ite (hl.l0 _ _) (LeO.refl _)) (LeO.refl _)) (LeO.refl _))
theorem slices_Repeat_int_int.hs_mono : ∀ k, slices_Repeat_int_int.LE (slices_Repeat_int_int.hs k) (slices_Repeat_int_int.hs (k + 1))
 | 0 => ⟨fun _ _ => LeO.none _⟩
 | k + 1 => ⟨slices_Repeat_int_int.b0_mono (k := k) (slices_Repeat_int_int.hs_mono k)⟩
theorem slices_Repeat_int_int.mono : ∀ k y0 y1, LeO (slices_Repeat_int_int.f k y0 y1) (slices_Repeat_int_int.f (k + 1) y0 y1) := fun k _ _ => have hl := slices_Repeat_int_int.hs_mono k; by unfold slices_Repeat_int_int.f; exact (LeO.ite (LeO.refl _) (slices_Repeat_int_int.j1_mono (k := k) hl _ _))
noncomputable def slices_Repeat_int_int.Kj1 : List Item := .code (seqR (seqR slices_Repeat_int_int.C)) :: []
noncomputable def slices_Repeat_int_int.Kj2 : List Item := .code (seqR (seqR (seqR (seqR slices_Repeat_int_int.C)))) :: []
noncomputable def slices_Repeat_int_int.Kl0 : List Item := .code (lopB (blkB (seqL (seqR (seqR (seqR (seqR (seqR (seqR slices_Repeat_int_int.C))))))))) :: .inLoop (lopB (blkB (seqL (seqR (seqR (seqR (seqR (seqR (seqR slices_Repeat_int_int.C))))))))) :: .inBlock 0 :: .code (seqR (seqR (seqR (seqR (seqR (seqR (seqR slices_Repeat_int_int.C))))))) :: []
structure slices_Repeat_int_int.OK (h : slices_Repeat_int_int.Hs) : Prop where
 l0 : ∀ {H0 H : Hp} {L : Items} {r : (List Int)} {jk_ : Nat → Value} {newslice : List Int} {n : Int} {v_newslice : Value} {i_newslice : Item'} (_ : H0.le H) (_he : h.l0 newslice n = some r) (_h_newslice : Sl kI64 H 3 i_newslice v_newslice newslice), Wp Tryd.prog 26 48 slices_Repeat_int_int.Kl0 (upd (upd (upd jk_ 4 (.slice none 0 0)) 7 (v_newslice)) 8 (.int .i64 n)) H (i_newslice :: L) (slices_Repeat_int_int.R H0 L r)
theorem slices_Repeat_int_int.j2_ok {k : Nat} {h : slices_Repeat_int_int.Hs} (hh : slices_Repeat_int_int.OK h) {H0 H : Hp} {L : Items} {r : (List Int)} {jk_ : Nat → Value} {x : List Int} {lo : Int} {v_x : Value} (hle : H0.le H) (he : slices_Repeat_int_int.j2 k h x lo = some r) (h_x : Src kI64 H L v_x x) : Wp Tryd.prog 26 48 slices_Repeat_int_int.Kj2 (upd (upd (upd jk_ 0 (v_x)) 4 (.slice none 0 0)) 6 (.int .u64 lo)) H (L) (slices_Repeat_int_int.R H0 L r) := by
 unfold slices_Repeat_int_int.j2 at he
 unfold slices_Repeat_int_int.Kj2
 refine wR rfl <| wM (.int .u64 lo) rfl rfl <| w_d rfl (d_conv (c := w64 (lo)) Tryd.underlying95 Tryd.underlying3 rfl rfl) ?_
 obtain ⟨c9, he⟩ := rq he
 refine w_a rfl (o_make' (kd := kI64) (z0 := 0) Tryd.underlying34 ti3 (zp3 _) rfl rfl (by omega) (by omega) (by omega)) ?_
 rintro v10 _ _ ⟨i11, rfl, rfl, h12⟩
 refine wA v10 rfl rfl <| wQ rfl <| wM v10 rfl rfl <| wM v_x rfl rfl <| w_a rfl (o_copy (kd := kI64) (a := 0) (F := fun z_ => z_ :: L) Tryd.underlying34 sz3 ((show _ = v10 from rfl).trans (cutv_all h12).symm) rfl h12 h_x.th ⟨by decide, by omega⟩ (fun _ => .here)) ?_
 rintro _ _ _ ⟨i13, rfl, rfl, rfl, h14⟩
 refine wA (.int .i64 (min (x.length : Int) (((List.replicate (w64 (lo) : Int).toNat (0 : Int)).length : Int) - 0))) rfl rfl <| wE <| w_block <| w_loop <| w_sl 4 (.slice none 0 0) rfl <| w_sl 7 (v10) rfl <| w_sl 8 (.int .i64 (min (x.length : Int) (((List.replicate (w64 (lo) : Int).toNat (0 : Int)).length : Int) - 0))) rfl <| hh.l0 hle he h14
theorem slices_Repeat_int_int.j1_ok {k : Nat} {h : slices_Repeat_int_int.Hs} (hh : slices_Repeat_int_int.OK h) {H0 H : Hp} {L : Items} {r : (List Int)} {jk_ : Nat → Value} {x : List Int} {count : Int} {v_x : Value} (hle : H0.le H) (he : slices_Repeat_int_int.j1 k h x count = some r) (h_x : Src kI64 H L v_x x) : Wp Tryd.prog 26 48 slices_Repeat_int_int.Kj1 (upd (upd (upd jk_ 0 (v_x)) 1 (.int .i64 count)) 4 (.slice none 0 0)) H (L) (slices_Repeat_int_int.R H0 L r) := by
 unfold slices_Repeat_int_int.j1 at he
 unfold slices_Repeat_int_int.Kj1
 refine wR rfl <| wM v_x rfl rfl <| w_d rfl (d_len Tryd.underlying34 rfl h_x) <| w_d rfl (d_conv (c := ((x.length : Int)) % 18446744073709551616) Tryd.underlying3 Tryd.underlying95 rfl rfl) <| wM (.int .i64 count) rfl rfl <| w_d rfl (d_conv (c := (count) % 18446744073709551616) Tryd.underlying3 Tryd.underlying95 rfl rfl) ?_
 obtain ⟨y2, hy3, he⟩ := bs he
 refine w_d rfl (call_d (o_call co42 (vs := [.int .u64 (((x.length : Int)) % 18446744073709551616), .int .u64 ((count) % 18446744073709551616)]) rfl (bits_Mul.calls k hy3))) <| wM (.tuple ⟨[.int .u64 y2.1, .int .u64 y2.2]⟩) rfl rfl <| w_d rfl (d_ext (vs := [.int .u64 y2.1, .int .u64 y2.2]) rfl rfl) <| w_d rfl (d_ext (vs := [.int .u64 y2.1, .int .u64 y2.2]) rfl rfl) <| wA (.int .u64 y2.1) rfl rfl <| wA (.int .u64 y2.2) rfl rfl <| wE <| wR rfl <| wM (.int .u64 y2.1) rfl rfl <| w_d rfl (d_gtr rfl rfl) ?_
 refine wM (.bool (decide (0 < y2.1))) rfl rfl <| w_g (g := !(decide (0 < y2.1))) rfl rfl rfl wn_f (fun g6 => d_move (v := .int .u64 y2.2) rfl) <| w_g (g := !(decide (0 < y2.1))) rfl rfl rfl wn_f (fun g7 => d_gtr (cvt g7) rfl) <| w_d rfl (d_or' (b := (decide (0 < y2.1))) (p := (decide (9223372036854775807 < y2.2))) rfl rfl rfl) <| w_done ?_
 rcases its he with ⟨c8, he⟩ | ⟨c8, he⟩
 ·
  refine w_then rfl c8 <| absurd he (by simp)
 ·
  refine w_else rfl (Bool.eq_false_iff.2 c8) <| w_skip <| w_sl 0 (v_x) rfl <| w_sl 4 (.slice none 0 0) rfl <| w_sl 6 (.int .u64 y2.2) rfl <| slices_Repeat_int_int.j2_ok (k := k) hh hle he h_x
theorem slices_Repeat_int_int.b0_ok {k : Nat} {h : slices_Repeat_int_int.Hs} (hh : slices_Repeat_int_int.OK h) {H0 H : Hp} {L : Items} {r : (List Int)} {jk_ : Nat → Value} {newslice : List Int} {n : Int} {v_newslice : Value} {i_newslice : Item'} (hle : H0.le H) (he : slices_Repeat_int_int.b0 k h newslice n = some r) (h_newslice : Sl kI64 H 3 i_newslice v_newslice newslice) : Wp Tryd.prog 26 48 slices_Repeat_int_int.Kl0 (upd (upd (upd jk_ 4 (.slice none 0 0)) 7 (v_newslice)) 8 (.int .i64 n)) H (i_newslice :: L) (slices_Repeat_int_int.R H0 L r) := by
 unfold slices_Repeat_int_int.b0 at he
 unfold slices_Repeat_int_int.Kl0
 refine w_seq <| wR rfl <| wM (.int .i64 n) rfl rfl <| wM v_newslice rfl rfl <| w_d rfl (d_lenS Tryd.underlying34 rfl h_newslice.shp) <| w_d rfl (d_lss rfl rfl) <| w_done ?_
 rcases its he with ⟨c15, he⟩ | ⟨c15, he⟩
 ·
  refine w_then rfl (dt c15) <| w_skip <| w_block ?_
  obtain ⟨c16, he⟩ := rq he
  obtain ⟨c17, he⟩ := rq he
  refine w_drawn (p := 8) (tl := [8, 9]) [[], [], [], [(1, some 39), (2, some 40)], [], [], [(4, some 42), (5, some 43)], [(3, some 41), (6, some 44)]] [some 38, some 39, some 40, some 41, some 42, some 43, some 44, some 45] (fctF (.is (.int .i64 n) :: .is (v_newslice) :: .is (.int .i64 n) :: .is (cutv kI64.sz v_newslice n (newslice.length : Int)) :: .is (v_newslice) :: .is (.int .i64 n) :: .is (cutv kI64.sz v_newslice 0 n) :: .cp (.int .i64 (min ((cut newslice 0 n).length : Int) ((newslice.length : Int) - n))) (fun H it_ => Sl kI64 H 3 it_ v_newslice (cpy newslice n (cut newslice 0 n))) (fun hle_ h_ => h_.mono hle_) :: [])) (fun m_ => m_ 7 :: L) (fun i_ => if i_ = 7 then i_newslice else none) mixed (by kernel_rfl) (by kernel_rfl) rfl (fct_mono (by kernel_rfl)) ⟨(fun H' m_ hH hm_ hu_ => dn <| s_d (m_ 0) rfl (d_move (v := .int .i64 n) rfl) (by exact rfl) rfl), (fun H' m_ hH hm_ hu_ => dn <| s_d (m_ 1) rfl (d_move (v := v_newslice) rfl) (by exact rfl) rfl), (fun H' m_ hH hm_ hu_ => dn <| s_d (m_ 2) rfl (d_move (v := .int .i64 n) rfl) (by exact rfl) rfl), (by rintro H' m_ hH hm_ hu_ _ rfl _ rfl; exact dn <| s_d (m_ 3) rfl (d_cutv (kd := kI64) Tryd.underlying34 sz3 rfl ((h_newslice.mono hH).src (has_eq (hu_ 7 (by kernel_rfl)))) (.inr ⟨_, _, rfl, rfl⟩) (.inl ⟨rfl, rfl⟩) c16) (by exact rfl) rfl), (fun H' m_ hH hm_ hu_ => dn <| s_d (m_ 4) rfl (d_move (v := v_newslice) rfl) (by exact rfl) rfl), (fun H' m_ hH hm_ hu_ => dn <| s_d (m_ 5) rfl (d_move (v := .int .i64 n) rfl) (by exact rfl) rfl), (by rintro H' m_ hH hm_ hu_ _ rfl _ rfl; exact dn <| s_d (m_ 6) rfl (d_cutv (kd := kI64) Tryd.underlying34 sz3 rfl ((h_newslice.mono hH).src (has_eq (hu_ 7 (by kernel_rfl)))) (.inl ⟨rfl, rfl⟩) (.inr ⟨_, _, rfl, rfl⟩) c17) (by exact rfl) rfl), (by rintro H' m_ hH hm_ hu_ _ rfl _ rfl; exact dn <| s_cp (i_newslice) hm_ rfl (o_copy (kd := kI64) (a := n) Tryd.underlying34 sz3 rfl rfl (h_newslice.mono hH) (src_cutv (kd := kI64) ((h_newslice.mono hH).src .here) c17) ⟨c16.1, Int.le_trans c16.2.1 c16.2.2⟩ (fun _ => .here)) rfl (by exact fun _ h_ => ⟨rfl, h_⟩)), trivial⟩ ?_
  intro H20 e21
  rintro _ _ rfl _ _ rfl _ _ rfl _ _ rfl _ _ rfl _ _ rfl _ _ rfl _ i18 ⟨rfl, h19⟩
  refine w_it (L' := i18 :: L) rfl <| w_d rfl (d_add (c := w64 (n + (min ((cut newslice 0 n).length : Int) ((newslice.length : Int) - n)))) rfl rfl rfl) <| wA (.int .i64 (w64 (n + (min ((cut newslice 0 n).length : Int) ((newslice.length : Int) - n))))) rfl rfl <| w_done <| w_inBlock <| w_inLoop <| w_sl 4 (.slice none 0 0) rfl <| w_sl 7 (v_newslice) rfl <| w_sl 8 (.int .i64 (w64 (n + (min ((cut newslice 0 n).length : Int) ((newslice.length : Int) - n))))) rfl <| hh.l0 (hle.trans e21) he h19
 ·
  refine w_else rfl (df c15) <| w_exit rfl <| wR rfl <| wM v_newslice rfl rfl <| wA v_newslice rfl rfl <| w_done ?_
  obtain rfl := sj he
  refine w_return fn_26 rs_26 (.tmp (v := v_newslice) rfl .nil) <| ⟨⟨[], _, rfl, h_newslice⟩, hle⟩
theorem slices_Repeat_int_int.ok : ∀ k, slices_Repeat_int_int.OK (slices_Repeat_int_int.hs k)
 | 0 => ⟨(by intros; exact nomatch (show none = some _ from by assumption))⟩
 | k + 1 => ⟨slices_Repeat_int_int.b0_ok (k := k) (slices_Repeat_int_int.ok k)⟩
theorem slices_Repeat_int_int.calls (k : Nat) {H : Hp} {L : Items} {x : List Int} {count : Int} {v0_x : Value} {r : (List Int)} (he : slices_Repeat_int_int.f k x count = some r) (h0_x : Src kI64 H L v0_x x) : Ct Tryd.prog 26 ⟨[v0_x, .int .i64 count]⟩ H L (fun v H' L' => ∃ it, L' = it :: L ∧ H.le H' ∧ Sl kI64 H' 3 it v r) := by
 refine ct_own ?_
 have hle : H.le H := .refl _
 have hh := slices_Repeat_int_int.ok k
 unfold slices_Repeat_int_int.f at he
 refine ct_enter (args := [v0_x, .int .i64 count]) fn_26 rfl nt_26 rfl <| wR rfl <| wA (.slice none 0 0) rfl rfl <| wE <| wR rfl <| wM (.int .i64 count) rfl rfl <| w_d rfl (d_lss rfl rfl) <| w_done ?_
 rcases its he with ⟨c1, he⟩ | ⟨c1, he⟩
 ·
  refine w_then rfl (dt c1) <| absurd he (by simp)
 ·
  refine w_else rfl (df c1) <| w_skip <| w_sl 0 (v0_x) rfl <| w_sl 1 (.int .i64 count) rfl <| w_sl 4 (.slice none 0 0) rfl <| slices_Repeat_int_int.j1_ok (k := k) hh hle he h0_x
theorem slices_Repeat_int_int.callsR (k : Nat) {H : Hp} {L : Items} {x : List Int} {count : Int} {v0_x : Value} {r : (List Int)} (he : slices_Repeat_int_int.f k x count = some r) (h0_x : Src kI64 H L v0_x x) : Ct Tryd.prog 26 ⟨[v0_x, .int .i64 count]⟩ H L (cR H L (slices_Repeat_int_int.out r)) := ct_ro (slices_Repeat_int_int.calls k he h0_x)
noncomputable def best_begun.C : Code := (Tryd.f29.body).getD .skip
def best_begun.out (its_ : Items) (r : best_search) (H : Hp) (v : Value) : Prop := ∃ b0 : Nat, ∃ v1 : Value, ∃ v2 : Value, ∃ i2 : Item', ∃ v4 : Value, ∃ i4 : Item', ∃ v6 : Value, ∃ i6 : Item', v = .pointer (some ⟨b0, 0, none⟩) ∧ its_ = [some (b0, .cells ⟨[v1, .int .i64 r.f_c.f_Miss, .int .i64 r.f_tracks, .int .i64 r.f_plots, v2, v4, v6]⟩ 67 (0, 0)), i2, i4, i6] ∧ Ro (Kd.slice kI64) H v1 r.f_c.f_Rows ∧ Sl kI64 H 2 i2 v2 r.f_u ∧ Sl kI64 H 2 i4 v4 r.f_v ∧ Sl kI64 H 3 i6 v6 r.f_owner
abbrev best_begun.R (H0 : Hp) (L : Items) (r : best_search) : Value → Hp → Items → Prop := fun v H' L' => ∃ p its_, L' = p ++ (its_ ++ L) ∧ H0.le H' ∧ best_begun.out its_ r H' v
noncomputable def best_begun.j1 (k : Nat)  (s_0 : List (List Int)) (s_1 : Int) (s_2 : Int) (s_3 : Int) (s_4 : List Int) (s_5 : List Int) (s_6 : List Int) : Option best_search := if 0 ≤ s_2 ∧ s_2 ≤ 35184372088832 then (if 0 ≤ w64 (s_3 + s_2) ∧ w64 (s_3 + s_2) ≤ 35184372088832 then ((slices_Repeat_int_int.f k [(-1)] (w64 (s_3 + s_2))).bind fun y22 => some ((⟨(⟨s_0, s_1⟩ : cost_Costs), s_2, s_3, List.replicate (s_2 : Int).toNat (0 : Int), List.replicate (w64 (s_3 + s_2) : Int).toNat (0 : Int), y22⟩ : best_search))) else none) else none
noncomputable def best_begun.f (k : Nat) (c_ : cost_Costs) : Option best_search := if 0 < (c_.f_Rows.length : Int) then (if (0 : Int) ≤ 0 ∧ 0 < (c_.f_Rows.length : Int) then (best_begun.j1 k c_.f_Rows c_.f_Miss (c_.f_Rows.length : Int) ((rd c_.f_Rows 0).length : Int) [] [] []) else none) else (best_begun.j1 k c_.f_Rows c_.f_Miss (c_.f_Rows.length : Int) 0 [] [] [])
theorem best_begun.j1_mono {k : Nat} : ∀ y0 y1 y2 y3 y4 y5 y6, LeO (best_begun.j1 k y0 y1 y2 y3 y4 y5 y6) (best_begun.j1 (k + 1) y0 y1 y2 y3 y4 y5 y6) := fun _ _ _ _ _ _ _ => (LeO.ite (LeO.ite (LeO.bind (slices_Repeat_int_int.mono k _ _) fun _ => LeO.refl _) (LeO.refl _)) (LeO.refl _))
theorem best_begun.mono : ∀ k y0, LeO (best_begun.f k y0) (best_begun.f (k + 1) y0) := fun k _ => by unfold best_begun.f; exact (LeO.ite (LeO.ite (best_begun.j1_mono (k := k)  _ _ _ _ _ _ _) (LeO.refl _)) (best_begun.j1_mono (k := k)  _ _ _ _ _ _ _))
noncomputable def best_begun.Kj1 : List Item := .code (seqR (seqR (seqR best_begun.C))) :: []
theorem best_begun.j1_ok {k : Nat} {H0 H : Hp} {L : Items} {r : best_search} {jk_ : Nat → Value} {s_0 : List (List Int)} {s_1 : Int} {s_2 : Int} {s_3 : Int} {s_4 : List Int} {s_5 : List Int} {s_6 : List Int} {v_s_0 : Value} {v_s_4 : Value} {v_s_5 : Value} {v_s_6 : Value} {b_s : Nat} (hle : H0.le H) (he : best_begun.j1 k s_0 s_1 s_2 s_3 s_4 s_5 s_6 = some r) (h_s_0 : Ro (Kd.slice kI64) H v_s_0 s_0) (h_s_4 : Ro kI64 H v_s_4 s_4) (h_s_5 : Ro kI64 H v_s_5 s_5) (h_s_6 : Ro kI64 H v_s_6 s_6) : Wp Tryd.prog 29 59 best_begun.Kj1 (upd (upd jk_ 2 (.pointer none)) 3 (.pointer (some ⟨b_s, 0, none⟩))) H (some (b_s, .cells ⟨[v_s_0, .int .i64 s_1, .int .i64 s_2, .int .i64 s_3, v_s_4, v_s_5, v_s_6]⟩ 67 (0, 0)) :: L) (best_begun.R H0 L r) := by
 unfold best_begun.j1 at he
 unfold best_begun.Kj1
 refine wR rfl <| wM (.pointer (some ⟨b_s, 0, none⟩)) rfl rfl <| wM (.pointer (some ⟨b_s, 0, none⟩)) rfl rfl <| w_d rfl (d_nilCheck (p := ⟨b_s, 0, none⟩) rfl) <| w_d rfl (d_fld (o' := 2) Tryd.underlying67 rfl sz3 rfl rfl rfl) <| wL (.int .i64 s_2) ty3 rfl rfl .here rfl rfl ?_
 obtain ⟨c9, he⟩ := rq he
 refine w_a rfl (o_make' (kd := kI64) (z0 := 0) Tryd.underlying32 ti2 (zp2 _) rfl rfl (by omega) (by omega) (by omega)) ?_
 rintro v10 _ _ ⟨i11, rfl, rfl, h12⟩
 refine w_d rfl (d_nilCheck (p := ⟨b_s, 0, none⟩) rfl) <| w_d rfl (d_fld (o' := 4) Tryd.underlying67 rfl sz32 rfl rfl rfl) <| w_a0 rfl (o_store (v := v10) sz32 rfl rfl h12.cells rfl (oc (h12.one) oz) (.there .here) (.there (.there (.there (.there u1))))) ?_
 rintro _ _ _ ⟨rfl, rfl, rfl⟩
 refine wE ?_
 obtain ⟨c13, he⟩ := rq he
 refine w_none (?_)
 refine w_drawn (p := 11) (tl := [11, 12, 13]) [[], [], [(1, some 32)], [(2, some 33)], [(3, some 34)], [], [(5, some 36)], [(6, some 37)], [(7, some 38)], [(4, some 35), (8, some 39)], [(9, some 40)]] [some 31, some 32, some 33, some 34, some 35, some 36, some 37, some 38, some 39, some 40, some 41] (fctF (.is (.pointer (some ⟨b_s, 0, none⟩)) :: .is (.pointer (some ⟨b_s, 0, none⟩)) :: .is (.pointer (some ⟨b_s, 0, none⟩)) :: .is (.pointer (some ⟨b_s, 3, none⟩)) :: .is (.int .i64 s_3) :: .is (.pointer (some ⟨b_s, 0, none⟩)) :: .is (.pointer (some ⟨b_s, 0, none⟩)) :: .is (.pointer (some ⟨b_s, 2, none⟩)) :: .is (.int .i64 s_2) :: .is (.int .i64 (w64 (s_3 + s_2))) :: .sl kI64 2 (List.replicate (w64 (s_3 + s_2) : Int).toNat (0 : Int)) :: [])) (fun m_ => m_ 10 :: i11 :: some (b_s, .cells ⟨[v_s_0, .int .i64 s_1, .int .i64 s_2, .int .i64 s_3, v10, v_s_5, v_s_6]⟩ 67 (0, 0)) :: L) (fun _ => none) mixed (by kernel_rfl) (by kernel_rfl) rfl (fct_mono (by kernel_rfl)) ⟨(fun H' m_ hH hm_ hu_ => dn <| s_d (m_ 0) rfl (d_move (v := .pointer (some ⟨b_s, 0, none⟩)) rfl) (by exact rfl) rfl), (fun H' m_ hH hm_ hu_ => dn <| s_d (m_ 1) rfl (d_move (v := .pointer (some ⟨b_s, 0, none⟩)) rfl) (by exact rfl) rfl), (by rintro H' m_ hH hm_ hu_ _ rfl; exact dn <| s_d (m_ 2) rfl (d_nilCheck (p := ⟨b_s, 0, none⟩) rfl) (by exact rfl) rfl), (by rintro H' m_ hH hm_ hu_ _ rfl; exact dn <| s_d (m_ 3) rfl (d_fld (o' := 3) Tryd.underlying67 rfl sz3 rfl rfl rfl) (by exact rfl) rfl), (by rintro H' m_ hH hm_ hu_ _ rfl; exact dn <| s_d (m_ 4) rfl (d_loado (v := .int .i64 s_3) ty3 rfl (.there (.there .here)) rfl rfl rfl rfl) (by exact rfl) rfl), (fun H' m_ hH hm_ hu_ => dn <| s_d (m_ 5) rfl (d_move (v := .pointer (some ⟨b_s, 0, none⟩)) rfl) (by exact rfl) rfl), (by rintro H' m_ hH hm_ hu_ _ rfl; exact dn <| s_d (m_ 6) rfl (d_nilCheck (p := ⟨b_s, 0, none⟩) rfl) (by exact rfl) rfl), (by rintro H' m_ hH hm_ hu_ _ rfl; exact dn <| s_d (m_ 7) rfl (d_fld (o' := 2) Tryd.underlying67 rfl sz3 rfl rfl rfl) (by exact rfl) rfl), (by rintro H' m_ hH hm_ hu_ _ rfl; exact dn <| s_d (m_ 8) rfl (d_loado (v := .int .i64 s_2) ty3 rfl (.there (.there .here)) rfl rfl rfl rfl) (by exact rfl) rfl), (by rintro H' m_ hH hm_ hu_ _ rfl _ rfl; exact dn <| s_d (m_ 9) rfl (d_add (c := w64 (s_3 + s_2)) rfl rfl rfl) (by exact rfl) rfl), (by rintro H' m_ hH hm_ hu_ _ rfl; exact dn <| s_sl hm_ rfl rfl (o_make' (kd := kI64) (z0 := 0) Tryd.underlying32 ti2 (zp2 _) rfl rfl (by omega) (by omega) (by omega)) rfl (fun _ => .here) (by exact fun _ _ h_ => h_)), trivial⟩ ?_
 intro H17 e18
 rintro _ _ rfl _ _ rfl _ _ rfl _ _ rfl _ _ rfl _ _ rfl _ _ rfl _ _ rfl _ _ rfl _ _ rfl v14 i15 (h16 : Sl kI64 H17 2 i15 v14 (List.replicate (w64 (s_3 + s_2) : Int).toNat (0 : Int)))
 refine w_d rfl (d_nilCheck (p := ⟨b_s, 0, none⟩) rfl) <| w_d rfl (d_fld (o' := 5) Tryd.underlying67 rfl sz32 rfl rfl rfl) <| w_a0 rfl (o_store (v := v14) sz32 rfl rfl h16.cells rfl (oc (h16.one) oz) (.there (.there .here)) (.there (.there (.there (.there (.there u1)))))) ?_
 rintro _ _ _ ⟨rfl, rfl, rfl⟩
 refine wE ?_
 obtain ⟨y22, hy23, he⟩ := bs he
 refine w_none (w_none (?_))
 refine w_drawn (p := 12) (tl := [12, 13, 14]) [[], [], [], [(2, some 46)], [(3, some 47)], [(4, some 48)], [], [(6, some 50)], [(7, some 51)], [(8, some 52)], [(5, some 49), (9, some 53)], [(1, some 45), (10, some 54)]] [some 44, some 45, some 46, some 47, some 48, some 49, some 50, some 51, some 52, some 53, some 54, some 55] (fctF (.is (.pointer (some ⟨b_s, 0, none⟩)) :: .sl kI64 3 [(-1)] :: .is (.pointer (some ⟨b_s, 0, none⟩)) :: .is (.pointer (some ⟨b_s, 0, none⟩)) :: .is (.pointer (some ⟨b_s, 3, none⟩)) :: .is (.int .i64 s_3) :: .is (.pointer (some ⟨b_s, 0, none⟩)) :: .is (.pointer (some ⟨b_s, 0, none⟩)) :: .is (.pointer (some ⟨b_s, 2, none⟩)) :: .is (.int .i64 s_2) :: .is (.int .i64 (w64 (s_3 + s_2))) :: .sl kI64 3 y22 :: [])) (fun m_ => m_ 1 :: m_ 11 :: i15 :: i11 :: some (b_s, .cells ⟨[v_s_0, .int .i64 s_1, .int .i64 s_2, .int .i64 s_3, v10, v14, v_s_6]⟩ 67 (0, 0)) :: L) (fun _ => none) mixed (by kernel_rfl) (by kernel_rfl) rfl (fct_mono (by kernel_rfl)) ⟨(fun H' m_ hH hm_ hu_ => dn <| s_d (m_ 0) rfl (d_move (v := .pointer (some ⟨b_s, 0, none⟩)) rfl) (by exact rfl) rfl), (fun H' m_ hH hm_ hu_ => dn <| s_sl hm_ rfl rfl (o_buildSlice' (kd := kI64) (css := [[.int .i64 (-1)]]) (xs := [(-1)]) (parts := [(0, .int .i64 (-1))]) Tryd.underlying34 ti3 rfl ⟨_, _, rfl, rfl, rfl⟩ ⟨rfl, trivial⟩ rfl (by decide)) rfl (fun _ => .here) (by exact fun _ _ h_ => h_)), (fun H' m_ hH hm_ hu_ => dn <| s_d (m_ 2) rfl (d_move (v := .pointer (some ⟨b_s, 0, none⟩)) rfl) (by exact rfl) rfl), (by rintro H' m_ hH hm_ hu_ _ rfl; exact dn <| s_d (m_ 3) rfl (d_nilCheck (p := ⟨b_s, 0, none⟩) rfl) (by exact rfl) rfl), (by rintro H' m_ hH hm_ hu_ _ rfl; exact dn <| s_d (m_ 4) rfl (d_fld (o' := 3) Tryd.underlying67 rfl sz3 rfl rfl rfl) (by exact rfl) rfl), (by rintro H' m_ hH hm_ hu_ _ rfl; exact dn <| s_d (m_ 5) rfl (d_loado (v := .int .i64 s_3) ty3 rfl (.there (.there (.there (.there .here)))) rfl rfl rfl rfl) (by exact rfl) rfl), (fun H' m_ hH hm_ hu_ => dn <| s_d (m_ 6) rfl (d_move (v := .pointer (some ⟨b_s, 0, none⟩)) rfl) (by exact rfl) rfl), (by rintro H' m_ hH hm_ hu_ _ rfl; exact dn <| s_d (m_ 7) rfl (d_nilCheck (p := ⟨b_s, 0, none⟩) rfl) (by exact rfl) rfl), (by rintro H' m_ hH hm_ hu_ _ rfl; exact dn <| s_d (m_ 8) rfl (d_fld (o' := 2) Tryd.underlying67 rfl sz3 rfl rfl rfl) (by exact rfl) rfl), (by rintro H' m_ hH hm_ hu_ _ rfl; exact dn <| s_d (m_ 9) rfl (d_loado (v := .int .i64 s_2) ty3 rfl (.there (.there (.there (.there .here)))) rfl rfl rfl rfl) (by exact rfl) rfl), (by rintro H' m_ hH hm_ hu_ _ rfl _ rfl; exact dn <| s_d (m_ 10) rfl (d_add (c := w64 (s_3 + s_2)) rfl rfl rfl) (by exact rfl) rfl), (by rintro H' m_ hH hm_ hu_ v19 (h21 : Sl kI64 H' 3 (m_ 1) v19 [(-1)]) _ rfl; exact dn <| s_slH hm_ rfl rfl (o_call co26 (vs := [v19, .int .i64 (w64 (s_3 + s_2))]) rfl (slices_Repeat_int_int.calls k hy23 (h21.src .here))) rfl (fun _ => (.there .here)) (by exact fun _ _ _ h_ => h_)), trivial⟩ ?_
 intro H31 e32
 rintro _ _ rfl v19 i20 (h21 : Sl kI64 H31 3 i20 v19 [(-1)]) _ _ rfl _ _ rfl _ _ rfl _ _ rfl _ _ rfl _ _ rfl _ _ rfl _ _ rfl _ _ rfl v28 i29 (h30 : Sl kI64 H31 3 i29 v28 y22)
 refine w_d rfl (d_nilCheck (p := ⟨b_s, 0, none⟩) rfl) <| w_d rfl (d_fld (o' := 6) Tryd.underlying67 rfl sz34 rfl rfl rfl) <| w_a0 rfl (o_store (v := v28) sz34 rfl rfl h30.cells rfl (oc (h30.one) oz) (.there (.there (.there (.there .here)))) (.there (.there (.there (.there (.there (.there u1))))))) ?_
 rintro _ _ _ ⟨rfl, rfl, rfl⟩
 refine wQ rfl <| wM (.pointer (some ⟨b_s, 0, none⟩)) rfl rfl <| wA (.pointer (some ⟨b_s, 0, none⟩)) rfl rfl <| w_done <| w_del .here <| w_pull .here <| w_pull (.there (.there .here)) <| w_pull (.there (.there (.there (.there .here)))) <| w_pull (.there (.there (.there (.there (.there (.there .here)))))) <| w_del (.there (.there (.there (.there (.there (.there (.there .here))))))) ?_
 refine w_del (.there (.there (.there (.there (.there (.there .here)))))) <| w_del (.there (.there (.there (.there (.there .here))))) <| w_del (.there (.there (.there (.there .here)))) ?_
 obtain rfl := sj he
 refine w_return fn_29 rs_29 (.tmp (v := .pointer (some ⟨b_s, 0, none⟩)) rfl .nil) <| ⟨[], [_, _, _, _], rfl, hle.trans (e18.trans e32), ⟨b_s, v_s_0, v10, i11, v14, i15, v28, i29, rfl, rfl, (h_s_0.mono (e18.trans e32)), (h12.mono (e18.trans e32)), (h16.mono e32), h30⟩⟩
theorem best_begun.calls (k : Nat) {H : Hp} {L : Items} {c_ : cost_Costs} {v0_c_ : Value} {r : best_search} (he : best_begun.f k c_ = some r) (h0_c_ : Ro (Kd.slice kI64) H v0_c_ c_.f_Rows) : Ct Tryd.prog 29 ⟨[.agg ⟨[v0_c_, .int .i64 c_.f_Miss]⟩]⟩ H L (fun v H' L' => ∃ its_, L' = its_ ++ L ∧ H.le H' ∧ best_begun.out its_ r H' v) := by
 refine ct_ptr ?_
 have hle : H.le H := .refl _
 unfold best_begun.f at he
 refine ct_enter (args := [.agg ⟨[v0_c_, .int .i64 c_.f_Miss]⟩]) fn_29 rfl nt_29 rfl <| wR rfl <| w_a rfl (o_box (v := .agg ⟨[v0_c_, .int .i64 c_.f_Miss]⟩) rfl rfl) ?_
 rintro _ _ _ ⟨b1, rfl, rfl, rfl⟩
 refine wA (.pointer none) rfl rfl <| wQ rfl <| wL (.agg ⟨[v0_c_, .int .i64 c_.f_Miss]⟩) ty37 rfl rfl .here rfl rfl <| w_d rfl (d_fld (o' := 0) Tryd.underlying37 rfl sz22 rfl rfl rfl) <| wL v0_c_ ty22 rfl rfl .here rfl rfl <| w_d rfl (d_len Tryd.underlying22 rfl h0_c_.src) <| w_d rfl (d_build (cs' := [v0_c_, .int .i64 c_.f_Miss, .int .i64 (c_.f_Rows.length : Int), .int .i64 0, .slice none 0 0, .slice none 0 0, .slice none 0 0]) Tryd.underlying67 zr67 rfl (by kernel_rfl) (parts := [(0, .agg ⟨[v0_c_, .int .i64 c_.f_Miss]⟩), (1, .int .i64 (c_.f_Rows.length : Int))]) rfl (.cons (place_of rfl sz37 rfl) rfl rfl u2 (.cons (place_of rfl sz3 rfl) rfl rfl (.there (.there u1)) .nil))) <| w_a rfl (o_box (v := .agg ⟨[v0_c_, .int .i64 c_.f_Miss, .int .i64 (c_.f_Rows.length : Int), .int .i64 0, .slice none 0 0, .slice none 0 0, .slice none 0 0]⟩) rfl rfl) ?_
 rintro _ _ _ ⟨b2, rfl, rfl, rfl⟩
 refine wA (.pointer (some ⟨b2, 0, none⟩)) rfl rfl <| wE <| wR rfl <| wM (.pointer (some ⟨b2, 0, none⟩)) rfl rfl <| w_d rfl (d_nilCheck (p := ⟨b2, 0, none⟩) rfl) <| w_d rfl (d_fld (o' := 2) Tryd.underlying67 rfl sz3 rfl rfl rfl) <| wL (.int .i64 (c_.f_Rows.length : Int)) ty3 rfl rfl .here rfl rfl <| w_d rfl (d_gtr rfl rfl) <| w_done ?_
 rcases its he with ⟨c3, he⟩ | ⟨c3, he⟩
 ·
  refine w_then rfl (dt c3) <| w_region rfl <| wM (.pointer (some ⟨b2, 0, none⟩)) rfl rfl <| w_d rfl (d_fld (o' := 0) Tryd.underlying37 rfl sz22 rfl rfl rfl) <| wL v0_c_ ty22 rfl rfl (.there .here) rfl rfl ?_
  obtain ⟨c4, he⟩ := rq he
  refine w_d rfl (d_index (sz := 1) Tryd.underlying22 sz32 rfl h0_c_.src rfl c4) ?_
  obtain ⟨_, l5, r6⟩ := el_ro (kd := (Kd.slice kI64)) h0_c_ c4
  obtain ⟨v7, rfl, h8⟩ := r6
  refine w_d rfl (d_load (v := v7) (cs := [v7]) ty32 rfl rfl (by decide) (l5).lies rfl) <| w_d rfl (d_len Tryd.underlying32 rfl h8.src) <| w_d rfl (d_nilCheck (p := ⟨b2, 0, none⟩) rfl) <| w_d rfl (d_fld (o' := 3) Tryd.underlying67 rfl sz3 rfl rfl rfl) <| w_a0 rfl (o_store (v := .int .i64 ((rd c_.f_Rows 0).length : Int)) sz3 rfl rfl rfl rfl (oc rfl oz) .here (.there (.there (.there u1)))) ?_
  rintro _ _ _ ⟨rfl, rfl, rfl⟩
  refine w_done <| w_del (.there .here) <| w_sl 2 (.pointer none) rfl <| w_sl 3 (.pointer (some ⟨b2, 0, none⟩)) rfl <| best_begun.j1_ok (k := k) hle he h0_c_ (ro_nil _ _) (ro_nil _ _) (ro_nil _ _)
 ·
  refine w_else rfl (df c3) <| w_skip <| w_del (.there .here) <| w_sl 2 (.pointer none) rfl <| w_sl 3 (.pointer (some ⟨b2, 0, none⟩)) rfl <| best_begun.j1_ok (k := k) hle he h0_c_ (ro_nil _ _) (ro_nil _ _) (ro_nil _ _)
noncomputable def best_bounded_1.C : Code := (Tryd.f44.body).getD .skip
def best_bounded_1.out (r : Bool) (H : Hp) (v : Value) : Prop := v = .bool r
noncomputable def best_bounded_1.f (k : Nat) (n : Int) (a1 : Int) : Option Bool := some ((decide (a1 < n)) || (decide (n < (-36028797018963968))))
theorem best_bounded_1.mono : ∀ k y0 y1, LeO (best_bounded_1.f k y0 y1) (best_bounded_1.f (k + 1) y0 y1) := fun k _ _ => by unfold best_bounded_1.f; exact (LeO.refl _)
theorem best_bounded_1.calls (k : Nat) {H : Hp} {L : Items} {n : Int} {a1 : Int} {b_a1 : Nat} {r : Bool} (he : best_bounded_1.f k n a1 = some r) (hl_a1 : Lies H L ⟨b_a1, 0, none⟩ [.int .i64 a1]) : Ct Tryd.prog 44 ⟨[.int .i64 n, .pointer (some ⟨b_a1, 0, none⟩)]⟩ H L (fun v H' L' => L = L' ∧ H = H' ∧ v = .bool r) := by
 refine ct_outs (O := best_bounded_1.out r) (fun _ _ h => h) ?_
 have hle : H.le H := .refl _
 unfold best_bounded_1.f at he
 refine ct_enter (args := [.int .i64 n, .pointer (some ⟨b_a1, 0, none⟩)]) fn_44 rfl nt_44 rfl <| wR rfl <| wA (.bool false) rfl rfl <| wQ rfl <| wM (.int .i64 n) rfl rfl <| w_d rfl (d_loadl (v := .int .i64 a1) ty2 rfl (hl_a1) rfl rfl rfl rfl) <| w_d rfl (d_gtr rfl rfl) <| wM (.bool (decide (a1 < n))) rfl rfl <| w_g (g := !(decide (a1 < n))) rfl rfl rfl wn_f (fun g1 => d_move (v := .int .i64 n) rfl) ?_
 refine w_g (g := !(decide (a1 < n))) rfl rfl rfl wn_f (fun g2 => d_lss (cvt g2) rfl) <| w_d rfl (d_or' (b := (decide (a1 < n))) (p := (decide (n < (-36028797018963968)))) rfl rfl rfl) <| wA (.bool ((decide (a1 < n)) || (decide (n < (-36028797018963968))))) rfl rfl <| w_done ?_
 obtain rfl := sj he
 refine w_return fn_44 rs_44 (.tmp (v := .bool ((decide (a1 < n)) || (decide (n < (-36028797018963968))))) rfl .nil) <| ⟨⟨[], rfl⟩, hle, rfl⟩
noncomputable def slices_IndexFunc_int64_int64_best_bounded_1.C : Code := (Tryd.f60.body).getD .skip
def slices_IndexFunc_int64_int64_best_bounded_1.out (r : Int) (H : Hp) (v : Value) : Prop := v = .int .i64 r
abbrev slices_IndexFunc_int64_int64_best_bounded_1.R (H0 : Hp) (L : Items) (r : Int) := fR H0 L (slices_IndexFunc_int64_int64_best_bounded_1.out r)
structure slices_IndexFunc_int64_int64_best_bounded_1.Hs where
 l0 : (List Int) → Int → Int → Int → Int → Option Int
noncomputable def slices_IndexFunc_int64_int64_best_bounded_1.b0 (k : Nat) (h : slices_IndexFunc_int64_int64_best_bounded_1.Hs)  (s : List Int) (f_c0_1 : Int) (t4 : Int) (t7 : Int) (t8 : Int) : Option Int := if t8 < t7 then (if (0 : Int) ≤ t8 ∧ t8 < (s.length : Int) then ((best_bounded_1.f k (rd s t8) f_c0_1).bind fun y3 => if y3 = true then (some (t8)) else (h.l0 s f_c0_1 t4 t7 (w64 (t8 + 1)))) else none) else (some ((-1)))
noncomputable def slices_IndexFunc_int64_int64_best_bounded_1.hs : Nat → slices_IndexFunc_int64_int64_best_bounded_1.Hs
 | 0 => ⟨fun _ _ _ _ _ => none⟩
 | k + 1 => ⟨fun x0 x1 x2 x3 x4 => slices_IndexFunc_int64_int64_best_bounded_1.b0 k (slices_IndexFunc_int64_int64_best_bounded_1.hs k) x0 x1 x2 x3 x4⟩
noncomputable def slices_IndexFunc_int64_int64_best_bounded_1.f (k : Nat) (s : List Int) (c1_0 : Int) : Option Int := (fun h : slices_IndexFunc_int64_int64_best_bounded_1.Hs => h.l0 s c1_0 0 (s.length : Int) 0) (slices_IndexFunc_int64_int64_best_bounded_1.hs k)
structure slices_IndexFunc_int64_int64_best_bounded_1.LE (h h' : slices_IndexFunc_int64_int64_best_bounded_1.Hs) : Prop where
 l0 : ∀ y0 y1 y2 y3 y4, LeO (h.l0 y0 y1 y2 y3 y4) (h'.l0 y0 y1 y2 y3 y4)
theorem slices_IndexFunc_int64_int64_best_bounded_1.b0_mono {k : Nat} {h h' : slices_IndexFunc_int64_int64_best_bounded_1.Hs} (hl : slices_IndexFunc_int64_int64_best_bounded_1.LE h h') : ∀ y0 y1 y2 y3 y4, LeO (slices_IndexFunc_int64_int64_best_bounded_1.b0 k h y0 y1 y2 y3 y4) (slices_IndexFunc_int64_int64_best_bounded_1.b0 (k + 1) h' y0 y1 y2 y3 y4) := fun _ _ _ _ _ => (LeO.ite (LeO.ite (LeO.bind (best_bounded_1.mono k _ _) fun _ => LeO.ite (LeO.refl _) (hl.l0 _ _ _ _ _)) (LeO.refl _)) (LeO.refl _))
theorem slices_IndexFunc_int64_int64_best_bounded_1.hs_mono : ∀ k, slices_IndexFunc_int64_int64_best_bounded_1.LE (slices_IndexFunc_int64_int64_best_bounded_1.hs k) (slices_IndexFunc_int64_int64_best_bounded_1.hs (k + 1))
 | 0 => ⟨fun _ _ _ _ _ => LeO.none _⟩
 | k + 1 => ⟨slices_IndexFunc_int64_int64_best_bounded_1.b0_mono (k := k) (slices_IndexFunc_int64_int64_best_bounded_1.hs_mono k)⟩
theorem slices_IndexFunc_int64_int64_best_bounded_1.mono : ∀ k y0 y1, LeO (slices_IndexFunc_int64_int64_best_bounded_1.f k y0 y1) (slices_IndexFunc_int64_int64_best_bounded_1.f (k + 1) y0 y1) := fun k _ _ => have hl := slices_IndexFunc_int64_int64_best_bounded_1.hs_mono k; by unfold slices_IndexFunc_int64_int64_best_bounded_1.f; exact (hl.l0 _ _ _ _ _)
noncomputable def slices_IndexFunc_int64_int64_best_bounded_1.Kl0 : List Item := .code (lopB (blkB (seqR (seqL (seqR slices_IndexFunc_int64_int64_best_bounded_1.C))))) :: .inLoop (lopB (blkB (seqR (seqL (seqR slices_IndexFunc_int64_int64_best_bounded_1.C))))) :: .inBlock 0 :: .code (seqR (seqR slices_IndexFunc_int64_int64_best_bounded_1.C)) :: []
structure slices_IndexFunc_int64_int64_best_bounded_1.OK (h : slices_IndexFunc_int64_int64_best_bounded_1.Hs) : Prop where
 l0 : ∀ {H0 H : Hp} {L : Items} {r : Int} {jk_ : Nat → Value} {s : List Int} {f_c0_1 : Int} {t4 : Int} {t7 : Int} {t8 : Int} {v_s : Value} {b_c1_0 : Nat} (_ : H0.le H) (_he : h.l0 s f_c0_1 t4 t7 t8 = some r) (_h_s : Src kI64 H L v_s s) (hl_f_c0 : Lies H L ⟨b_c1_0, 0, none⟩ [.int .i64 f_c0_1]), Wp Tryd.prog 60 19 slices_IndexFunc_int64_int64_best_bounded_1.Kl0 (upd (upd (upd (upd (upd jk_ 0 (v_s)) 1 (.func (.func 44) #[] #[.pointer (some ⟨b_c1_0, 0, none⟩)])) 4 (.int .i64 t4)) 7 (.int .i64 t7)) 8 (.int .i64 t8)) H (L) (slices_IndexFunc_int64_int64_best_bounded_1.R H0 L r)
theorem slices_IndexFunc_int64_int64_best_bounded_1.b0_ok {k : Nat} {h : slices_IndexFunc_int64_int64_best_bounded_1.Hs} (hh : slices_IndexFunc_int64_int64_best_bounded_1.OK h) {H0 H : Hp} {L : Items} {r : Int} {jk_ : Nat → Value} {s : List Int} {f_c0_1 : Int} {t4 : Int} {t7 : Int} {t8 : Int} {v_s : Value} {b_c1_0 : Nat} (hle : H0.le H) (he : slices_IndexFunc_int64_int64_best_bounded_1.b0 k h s f_c0_1 t4 t7 t8 = some r) (h_s : Src kI64 H L v_s s) (hl_f_c0 : Lies H L ⟨b_c1_0, 0, none⟩ [.int .i64 f_c0_1]) : Wp Tryd.prog 60 19 slices_IndexFunc_int64_int64_best_bounded_1.Kl0 (upd (upd (upd (upd (upd jk_ 0 (v_s)) 1 (.func (.func 44) #[] #[.pointer (some ⟨b_c1_0, 0, none⟩)])) 4 (.int .i64 t4)) 7 (.int .i64 t7)) 8 (.int .i64 t8)) H (L) (slices_IndexFunc_int64_int64_best_bounded_1.R H0 L r) := by
 unfold slices_IndexFunc_int64_int64_best_bounded_1.b0 at he
 unfold slices_IndexFunc_int64_int64_best_bounded_1.Kl0
 refine wR rfl <| w_d rfl (d_lss rfl rfl) <| wE ?_
 rcases its he with ⟨c1, he⟩ | ⟨c1, he⟩
 ·
  refine w_then rfl (dt c1) <| w_skip <| w_seq <| w_block <| wR rfl <| wM (.int .i64 t8) rfl rfl <| wA (.int .i64 t8) rfl rfl <| wQ rfl <| wM (.func (.func 44) #[] #[.pointer (some ⟨b_c1_0, 0, none⟩)]) rfl rfl ?_
  refine wM v_s rfl rfl <| wM (.int .i64 t8) rfl rfl ?_
  obtain ⟨c2, he⟩ := rq he
  refine w_d rfl (d_index (sz := 1) Tryd.underlying32 sz2 rfl h_s rfl c2) <| w_d rfl (d_ldint ty2 rfl h_s c2) ?_
  obtain ⟨y3, hy4, he⟩ := bs he
  refine w_d rfl (call_d (o_callc rfl co44 (vs := [.int .i64 (rd s t8)]) (ws := [.int .i64 (rd s t8), .pointer (some ⟨b_c1_0, 0, none⟩)]) rfl rfl (best_bounded_1.calls k (a1 := f_c0_1) hy4 (hl_f_c0)))) <| w_done ?_
  rcases its he with ⟨c7, he⟩ | ⟨c7, he⟩
  ·
   refine w_then rfl c7 <| wR rfl <| wM (.int .i64 t8) rfl rfl <| wA (.int .i64 t8) rfl rfl <| w_done ?_
   obtain rfl := sj he
   refine w_return fn_60 rs_60 (.tmp (v := .int .i64 t8) rfl .nil) <| ⟨⟨[], rfl⟩, hle, rfl⟩
  ·
   refine w_else rfl (Bool.eq_false_iff.2 c7) <| w_skip <| w_inBlock <| w_region rfl <| w_d rfl (d_add (c := w64 (t8 + 1)) rfl rfl rfl) <| wM (.int .i64 (w64 (t8 + 1))) rfl rfl <| w_done <| w_inLoop <| w_sl 0 (v_s) rfl <| w_sl 1 (.func (.func 44) #[] #[.pointer (some ⟨b_c1_0, 0, none⟩)]) rfl <| w_sl 4 (.int .i64 t4) rfl <| w_sl 7 (.int .i64 t7) rfl ?_
   refine w_sl 8 (.int .i64 (w64 (t8 + 1))) rfl <| hh.l0 hle he h_s hl_f_c0
 ·
  refine w_else rfl (df c1) <| w_exit rfl <| wR rfl <| wA (.int .i64 (-1)) rfl rfl <| w_done ?_
  obtain rfl := sj he
  refine w_return fn_60 rs_60 (.tmp (v := .int .i64 (-1)) rfl .nil) <| ⟨⟨[], rfl⟩, hle, rfl⟩
theorem slices_IndexFunc_int64_int64_best_bounded_1.ok : ∀ k, slices_IndexFunc_int64_int64_best_bounded_1.OK (slices_IndexFunc_int64_int64_best_bounded_1.hs k)
 | 0 => ⟨(by intros; exact nomatch (show none = some _ from by assumption))⟩
 | k + 1 => ⟨slices_IndexFunc_int64_int64_best_bounded_1.b0_ok (k := k) (slices_IndexFunc_int64_int64_best_bounded_1.ok k)⟩
theorem slices_IndexFunc_int64_int64_best_bounded_1.calls (k : Nat) {H : Hp} {L : Items} {s : List Int} {c1_0 : Int} {v0_s : Value} {b_c1_0 : Nat} {r : Int} (he : slices_IndexFunc_int64_int64_best_bounded_1.f k s c1_0 = some r) (h0_s : Src kI64 H L v0_s s) (hl_c1_0 : Lies H L ⟨b_c1_0, 0, none⟩ [.int .i64 c1_0]) : Ct Tryd.prog 60 ⟨[v0_s, .func (.func 44) #[] #[.pointer (some ⟨b_c1_0, 0, none⟩)]]⟩ H L (fun v H' L' => L = L' ∧ H = H' ∧ v = .int .i64 r) := by
 refine ct_outs (O := slices_IndexFunc_int64_int64_best_bounded_1.out r) (fun _ _ h => h) ?_
 have hle : H.le H := .refl _
 have hh := slices_IndexFunc_int64_int64_best_bounded_1.ok k
 unfold slices_IndexFunc_int64_int64_best_bounded_1.f at he
 refine ct_enter (args := [v0_s, .func (.func 44) #[] #[.pointer (some ⟨b_c1_0, 0, none⟩)]]) fn_60 rfl nt_60 rfl <| wR rfl <| wA (.int .i64 0) rfl rfl <| wE <| wR rfl <| wM v0_s rfl rfl <| w_d rfl (d_len Tryd.underlying32 rfl h0_s) <| wM (.int .i64 0) rfl rfl <| w_done ?_
 refine w_block <| w_loop <| w_sl 0 (v0_s) rfl <| w_sl 1 (.func (.func 44) #[] #[.pointer (some ⟨b_c1_0, 0, none⟩)]) rfl <| w_sl 4 (.int .i64 0) rfl <| w_sl 7 (.int .i64 (s.length : Int)) rfl <| w_sl 8 (.int .i64 0) rfl <| hh.l0 hle he h0_s hl_c1_0
noncomputable def slices_ContainsFunc_int64_int64_best_bounded_1.C : Code := (Tryd.f43.body).getD .skip
def slices_ContainsFunc_int64_int64_best_bounded_1.out (r : Bool) (H : Hp) (v : Value) : Prop := v = .bool r
noncomputable def slices_ContainsFunc_int64_int64_best_bounded_1.f (k : Nat) (s : List Int) (c1_0 : Int) : Option Bool := (slices_IndexFunc_int64_int64_best_bounded_1.f k s c1_0).bind fun y1 => some (decide (0 ≤ y1))
theorem slices_ContainsFunc_int64_int64_best_bounded_1.mono : ∀ k y0 y1, LeO (slices_ContainsFunc_int64_int64_best_bounded_1.f k y0 y1) (slices_ContainsFunc_int64_int64_best_bounded_1.f (k + 1) y0 y1) := fun k _ _ => by unfold slices_ContainsFunc_int64_int64_best_bounded_1.f; exact (LeO.bind (slices_IndexFunc_int64_int64_best_bounded_1.mono k _ _) fun _ => LeO.refl _)
theorem slices_ContainsFunc_int64_int64_best_bounded_1.calls (k : Nat) {H : Hp} {L : Items} {s : List Int} {c1_0 : Int} {v0_s : Value} {b_c1_0 : Nat} {r : Bool} (he : slices_ContainsFunc_int64_int64_best_bounded_1.f k s c1_0 = some r) (h0_s : Src kI64 H L v0_s s) (hl_c1_0 : Lies H L ⟨b_c1_0, 0, none⟩ [.int .i64 c1_0]) : Ct Tryd.prog 43 ⟨[v0_s, .func (.func 44) #[] #[.pointer (some ⟨b_c1_0, 0, none⟩)]]⟩ H L (fun v H' L' => L = L' ∧ H = H' ∧ v = .bool r) := by
 refine ct_outs (O := slices_ContainsFunc_int64_int64_best_bounded_1.out r) (fun _ _ h => h) ?_
 have hle : H.le H := .refl _
 unfold slices_ContainsFunc_int64_int64_best_bounded_1.f at he
 refine ct_enter (args := [v0_s, .func (.func 44) #[] #[.pointer (some ⟨b_c1_0, 0, none⟩)]]) fn_43 rfl nt_43 rfl <| wR rfl <| wA (.bool false) rfl rfl <| wQ rfl <| wM v0_s rfl rfl <| wM (.func (.func 44) #[] #[.pointer (some ⟨b_c1_0, 0, none⟩)]) rfl rfl ?_
 obtain ⟨y1, hy2, he⟩ := bs he
 refine w_d rfl (call_d (o_call co60 (vs := [v0_s, .func (.func 44) #[] #[.pointer (some ⟨b_c1_0, 0, none⟩)]]) rfl (slices_IndexFunc_int64_int64_best_bounded_1.calls k hy2 h0_s (hl_c1_0)))) <| w_d rfl (d_geq rfl rfl) <| wA (.bool (decide (0 ≤ y1))) rfl rfl <| w_done ?_
 obtain rfl := sj he
 refine w_return fn_43 rs_43 (.tmp (v := .bool (decide (0 ≤ y1))) rfl .nil) <| ⟨⟨[], rfl⟩, hle, rfl⟩
noncomputable def best_bounded.C : Code := (Tryd.f30.body).getD .skip
def best_bounded.out (r : Bool) (H : Hp) (v : Value) : Prop := v = .bool r
noncomputable def best_bounded.f (k : Nat) (l : List Int) (most : Int) : Option Bool := (slices_ContainsFunc_int64_int64_best_bounded_1.f k l most).bind fun y2 => some (!y2)
theorem best_bounded.mono : ∀ k y0 y1, LeO (best_bounded.f k y0 y1) (best_bounded.f (k + 1) y0 y1) := fun k _ _ => by unfold best_bounded.f; exact (LeO.bind (slices_ContainsFunc_int64_int64_best_bounded_1.mono k _ _) fun _ => LeO.refl _)
theorem best_bounded.calls (k : Nat) {H : Hp} {L : Items} {l : List Int} {most : Int} {v0_l : Value} {r : Bool} (he : best_bounded.f k l most = some r) (h0_l : Src kI64 H L v0_l l) : Ct Tryd.prog 30 ⟨[v0_l, .int .i64 most]⟩ H L (fun v H' L' => L = L' ∧ H = H' ∧ v = .bool r) := by
 refine ct_outs (O := best_bounded.out r) (fun _ _ h => h) ?_
 have hle : H.le H := .refl _
 unfold best_bounded.f at he
 refine ct_enter (args := [v0_l, .int .i64 most]) fn_30 rfl nt_30 rfl <| wR rfl <| w_a rfl (o_box (v := .int .i64 most) rfl rfl) ?_
 rintro _ _ _ ⟨b1, rfl, rfl, rfl⟩
 refine wA (.bool false) rfl rfl <| wQ rfl <| wM v0_l rfl rfl <| w_d rfl (d_makeFunc (fs := []) (cs := [.pointer (some ⟨b1, 0, none⟩)]) rfl rfl) ?_
 obtain ⟨y2, hy3, he⟩ := bs he
 refine w_d rfl (call_d (o_call co43 (vs := [v0_l, .func (.func 44) #[] #[.pointer (some ⟨b1, 0, none⟩)]]) rfl (slices_ContainsFunc_int64_int64_best_bounded_1.calls k hy3 h0_l.th (lies_own .here)))) <| w_d rfl (d_not (b := y2) rfl) <| wA (.bool (!y2)) rfl rfl <| w_done ?_
 obtain rfl := sj he
 refine w_return fn_30 rs_30 (.tmp (v := .bool (!y2)) rfl .nil) <| ⟨⟨[_], rfl⟩, hle, rfl⟩
noncomputable def best_under.C : Code := (Tryd.f31.body).getD .skip
def best_under.out (r : Bool) (H : Hp) (v : Value) : Prop := v = .bool r
abbrev best_under.R (H0 : Hp) (L : Items) (r : Bool) := fR H0 L (best_under.out r)
structure best_under.Hs where
 l0 : (List Int) → (List (List Int)) → Int → Bool → (List Int) → Int → Int → Option Bool
 l1 : (List Int) → (List (List Int)) → Int → Bool → Int → Int → (List Int) → Int → Int → (List Int) → Int → Int → Option Bool
noncomputable def best_under.b0 (k : Nat) (h : best_under.Hs)  (plots : List Int) (c_0 : List (List Int)) (c_1 : Int) (t6 : Bool) (t12 : List Int) (t13 : Int) (t14 : Int) : Option Bool := if t14 < t13 then (if (0 : Int) ≤ t14 ∧ t14 < (t12.length : Int) then (h.l1 plots c_0 c_1 t6 t14 (rd t12 t14) t12 t13 t14 plots (plots.length : Int) 0) else none) else (some (true))
noncomputable def best_under.b1 (k : Nat) (h : best_under.Hs)  (plots : List Int) (c_0 : List (List Int)) (c_1 : Int) (t6 : Bool) (t : Int) (u : Int) (t12 : List Int) (t13 : Int) (t14 : Int) (t19 : List Int) (t20 : Int) (t21 : Int) : Option Bool := if t21 < t20 then (if (0 : Int) ≤ t21 ∧ t21 < (t19.length : Int) then (if (0 : Int) ≤ t ∧ t < (c_0.length : Int) then (if (0 : Int) ≤ t21 ∧ t21 < ((rd c_0 t).length : Int) then (if ((decide (0 ≤ (rd (rd c_0 t) t21))) && (decide ((w64 ((rd (rd c_0 t) t21) - (rd t19 t21))) < u))) = true then (some (false)) else (h.l1 plots c_0 c_1 t6 t u t12 t13 t14 t19 t20 (w64 (t21 + 1)))) else none) else none) else none) else (h.l0 plots c_0 c_1 t6 t12 t13 (w64 (t14 + 1)))
noncomputable def best_under.hs : Nat → best_under.Hs
 | 0 => ⟨fun _ _ _ _ _ _ _ => none, fun _ _ _ _ _ _ _ _ _ _ _ _ => none⟩
 | k + 1 => ⟨fun x0 x1 x2 x3 x4 x5 x6 => best_under.b0 k (best_under.hs k) x0 x1 x2 x3 x4 x5 x6, fun x0 x1 x2 x3 x4 x5 x6 x7 x8 x9 x10 x11 => best_under.b1 k (best_under.hs k) x0 x1 x2 x3 x4 x5 x6 x7 x8 x9 x10 x11⟩
noncomputable def best_under.f (k : Nat) (c_ : cost_Costs) (tracks : List Int) (plots : List Int) : Option Bool := (fun h : best_under.Hs => h.l0 plots c_.f_Rows c_.f_Miss false tracks (tracks.length : Int) 0) (best_under.hs k)
structure best_under.LE (h h' : best_under.Hs) : Prop where
 l0 : ∀ y0 y1 y2 y3 y4 y5 y6, LeO (h.l0 y0 y1 y2 y3 y4 y5 y6) (h'.l0 y0 y1 y2 y3 y4 y5 y6)
 l1 : ∀ y0 y1 y2 y3 y4 y5 y6 y7 y8 y9 y10 y11, LeO (h.l1 y0 y1 y2 y3 y4 y5 y6 y7 y8 y9 y10 y11) (h'.l1 y0 y1 y2 y3 y4 y5 y6 y7 y8 y9 y10 y11)
theorem best_under.b0_mono {k : Nat} {h h' : best_under.Hs} (hl : best_under.LE h h') : ∀ y0 y1 y2 y3 y4 y5 y6, LeO (best_under.b0 k h y0 y1 y2 y3 y4 y5 y6) (best_under.b0 (k + 1) h' y0 y1 y2 y3 y4 y5 y6) := fun _ _ _ _ _ _ _ => (LeO.ite (LeO.ite (hl.l1 _ _ _ _ _ _ _ _ _ _ _ _) (LeO.refl _)) (LeO.refl _))
theorem best_under.b1_mono {k : Nat} {h h' : best_under.Hs} (hl : best_under.LE h h') : ∀ y0 y1 y2 y3 y4 y5 y6 y7 y8 y9 y10 y11, LeO (best_under.b1 k h y0 y1 y2 y3 y4 y5 y6 y7 y8 y9 y10 y11) (best_under.b1 (k + 1) h' y0 y1 y2 y3 y4 y5 y6 y7 y8 y9 y10 y11) := fun _ _ _ _ _ _ _ _ _ _ _ _ => (LeO.ite (LeO.ite (LeO.ite (LeO.ite (LeO.ite (LeO.refl _) (hl.l1 _ _ _ _ _ _ _ _ _ _ _ _)) (LeO.refl _)) (LeO.refl _)) (LeO.refl _)) (hl.l0 _ _ _ _ _ _ _))
theorem best_under.hs_mono : ∀ k, best_under.LE (best_under.hs k) (best_under.hs (k + 1))
 | 0 => ⟨fun _ _ _ _ _ _ _ => LeO.none _, fun _ _ _ _ _ _ _ _ _ _ _ _ => LeO.none _⟩
 | k + 1 => ⟨best_under.b0_mono (k := k) (best_under.hs_mono k), best_under.b1_mono (k := k) (best_under.hs_mono k)⟩
theorem best_under.mono : ∀ k y0 y1 y2, LeO (best_under.f k y0 y1 y2) (best_under.f (k + 1) y0 y1 y2) := fun k _ _ _ => have hl := best_under.hs_mono k; by unfold best_under.f; exact (hl.l0 _ _ _ _ _ _ _)
noncomputable def best_under.Kl0 : List Item := .code (lopB (blkB (seqR (seqL (seqR best_under.C))))) :: .inLoop (lopB (blkB (seqR (seqL (seqR best_under.C))))) :: .inBlock 0 :: .code (seqR (seqR best_under.C)) :: []
noncomputable def best_under.Kl1 : List Item := .code (lopB (blkB (seqR (seqR (blkB (seqL (seqR (seqR (lopB (blkB (seqR (seqL (seqR best_under.C))))))))))))) :: .inLoop (lopB (blkB (seqR (seqR (blkB (seqL (seqR (seqR (lopB (blkB (seqR (seqL (seqR best_under.C))))))))))))) :: .inBlock 2 :: .inBlock 1 :: .code (seqR (seqR (seqR (lopB (blkB (seqR (seqL (seqR best_under.C)))))))) :: .inLoop (lopB (blkB (seqR (seqL (seqR best_under.C))))) :: .inBlock 0 :: .code (seqR (seqR best_under.C)) :: []
structure best_under.OK (h : best_under.Hs) : Prop where
 l0 : ∀ {H0 H : Hp} {L : Items} {r : Bool} {jk_ : Nat → Value} {plots : List Int} {c_0 : List (List Int)} {c_1 : Int} {t6 : Bool} {t12 : List Int} {t13 : Int} {t14 : Int} {v_plots : Value} {v_c_0 : Value} {v_t12 : Value} {b_c_ : Nat} (_ : H0.le H) (_he : h.l0 plots c_0 c_1 t6 t12 t13 t14 = some r) (_h_plots : Src kI64 H L v_plots plots) (_h_c_0 : Ro (Kd.slice kI64) H v_c_0 c_0) (_h_t12 : Src kI64 H L v_t12 t12), Wp Tryd.prog 31 45 best_under.Kl0 (upd (upd (upd (upd (upd (upd jk_ 2 (v_plots)) 3 (.pointer (some ⟨b_c_, 0, none⟩))) 6 (.bool t6)) 12 (v_t12)) 13 (.int .i64 t13)) 14 (.int .i64 t14)) H (some (b_c_, .cells ⟨[v_c_0, .int .i64 c_1]⟩ 37 (0, 0)) :: L) (best_under.R H0 L r)
 l1 : ∀ {H0 H : Hp} {L : Items} {r : Bool} {jk_ : Nat → Value} {plots : List Int} {c_0 : List (List Int)} {c_1 : Int} {t6 : Bool} {t : Int} {u : Int} {t12 : List Int} {t13 : Int} {t14 : Int} {t19 : List Int} {t20 : Int} {t21 : Int} {v_plots : Value} {v_c_0 : Value} {v_t12 : Value} {v_t19 : Value} {b_c_ : Nat} (_ : H0.le H) (_he : h.l1 plots c_0 c_1 t6 t u t12 t13 t14 t19 t20 t21 = some r) (_h_plots : Src kI64 H L v_plots plots) (_h_c_0 : Ro (Kd.slice kI64) H v_c_0 c_0) (_h_t12 : Src kI64 H L v_t12 t12) (_h_t19 : Src kI64 H L v_t19 t19), Wp Tryd.prog 31 45 best_under.Kl1 (upd (upd (upd (upd (upd (upd (upd (upd (upd (upd (upd jk_ 2 (v_plots)) 3 (.pointer (some ⟨b_c_, 0, none⟩))) 6 (.bool t6)) 7 (.int .i64 t)) 8 (.int .i64 u)) 12 (v_t12)) 13 (.int .i64 t13)) 14 (.int .i64 t14)) 19 (v_t19)) 20 (.int .i64 t20)) 21 (.int .i64 t21)) H (some (b_c_, .cells ⟨[v_c_0, .int .i64 c_1]⟩ 37 (0, 0)) :: L) (best_under.R H0 L r)
theorem best_under.b0_ok {k : Nat} {h : best_under.Hs} (hh : best_under.OK h) {H0 H : Hp} {L : Items} {r : Bool} {jk_ : Nat → Value} {plots : List Int} {c_0 : List (List Int)} {c_1 : Int} {t6 : Bool} {t12 : List Int} {t13 : Int} {t14 : Int} {v_plots : Value} {v_c_0 : Value} {v_t12 : Value} {b_c_ : Nat} (hle : H0.le H) (he : best_under.b0 k h plots c_0 c_1 t6 t12 t13 t14 = some r) (h_plots : Src kI64 H L v_plots plots) (h_c_0 : Ro (Kd.slice kI64) H v_c_0 c_0) (h_t12 : Src kI64 H L v_t12 t12) : Wp Tryd.prog 31 45 best_under.Kl0 (upd (upd (upd (upd (upd (upd jk_ 2 (v_plots)) 3 (.pointer (some ⟨b_c_, 0, none⟩))) 6 (.bool t6)) 12 (v_t12)) 13 (.int .i64 t13)) 14 (.int .i64 t14)) H (some (b_c_, .cells ⟨[v_c_0, .int .i64 c_1]⟩ 37 (0, 0)) :: L) (best_under.R H0 L r) := by
 unfold best_under.b0 at he
 unfold best_under.Kl0
 refine wR rfl <| w_d rfl (d_lss rfl rfl) <| wE ?_
 rcases its he with ⟨c2, he⟩ | ⟨c2, he⟩
 ·
  refine w_then rfl (dt c2) <| w_skip <| w_seq <| w_block <| wR rfl <| wM (.int .i64 t14) rfl rfl ?_
  obtain ⟨c3, he⟩ := rq he
  refine w_d rfl (d_index (sz := 1) Tryd.underlying32 sz2 rfl h_t12.th rfl c3) <| w_d rfl (d_ldint ty2 rfl h_t12.th c3) <| wA (.int .i64 t14) rfl rfl <| wA (.int .i64 (rd t12 t14)) rfl rfl <| wQ rfl <| wM v_plots rfl rfl <| w_d rfl (d_len Tryd.underlying32 rfl h_plots.th) <| wM (.int .i64 0) rfl rfl <| w_done <| w_block ?_
  refine w_loop <| w_sl 2 (v_plots) rfl <| w_sl 3 (.pointer (some ⟨b_c_, 0, none⟩)) rfl <| w_sl 6 (.bool t6) rfl <| w_sl 7 (.int .i64 t14) rfl <| w_sl 8 (.int .i64 (rd t12 t14)) rfl <| w_sl 12 (v_t12) rfl <| w_sl 13 (.int .i64 t13) rfl <| w_sl 14 (.int .i64 t14) rfl <| w_sl 19 (v_plots) rfl <| w_sl 20 (.int .i64 (plots.length : Int)) rfl <| w_sl 21 (.int .i64 0) rfl <| hh.l1 hle he h_plots h_c_0 h_t12 h_plots
 ·
  refine w_else rfl (df c2) <| w_exit rfl <| wR rfl <| wA (.bool true) rfl rfl <| w_done ?_
  obtain rfl := sj he
  refine w_return fn_31 rs_31 (.tmp (v := .bool true) rfl .nil) <| ⟨⟨[_], rfl⟩, hle, rfl⟩
theorem best_under.b1_ok {k : Nat} {h : best_under.Hs} (hh : best_under.OK h) {H0 H : Hp} {L : Items} {r : Bool} {jk_ : Nat → Value} {plots : List Int} {c_0 : List (List Int)} {c_1 : Int} {t6 : Bool} {t : Int} {u : Int} {t12 : List Int} {t13 : Int} {t14 : Int} {t19 : List Int} {t20 : Int} {t21 : Int} {v_plots : Value} {v_c_0 : Value} {v_t12 : Value} {v_t19 : Value} {b_c_ : Nat} (hle : H0.le H) (he : best_under.b1 k h plots c_0 c_1 t6 t u t12 t13 t14 t19 t20 t21 = some r) (h_plots : Src kI64 H L v_plots plots) (h_c_0 : Ro (Kd.slice kI64) H v_c_0 c_0) (h_t12 : Src kI64 H L v_t12 t12) (h_t19 : Src kI64 H L v_t19 t19) : Wp Tryd.prog 31 45 best_under.Kl1 (upd (upd (upd (upd (upd (upd (upd (upd (upd (upd (upd jk_ 2 (v_plots)) 3 (.pointer (some ⟨b_c_, 0, none⟩))) 6 (.bool t6)) 7 (.int .i64 t)) 8 (.int .i64 u)) 12 (v_t12)) 13 (.int .i64 t13)) 14 (.int .i64 t14)) 19 (v_t19)) 20 (.int .i64 t20)) 21 (.int .i64 t21)) H (some (b_c_, .cells ⟨[v_c_0, .int .i64 c_1]⟩ 37 (0, 0)) :: L) (best_under.R H0 L r) := by
 unfold best_under.b1 at he
 unfold best_under.Kl1
 refine wR rfl <| w_d rfl (d_lss rfl rfl) <| wE ?_
 rcases its he with ⟨c4, he⟩ | ⟨c4, he⟩
 ·
  refine w_then rfl (dt c4) <| w_skip <| w_seq <| w_block <| wR rfl <| wM (.int .i64 t21) rfl rfl ?_
  obtain ⟨c5, he⟩ := rq he
  refine w_d rfl (d_index (sz := 1) Tryd.underlying32 sz2 rfl h_t19.th rfl c5) <| w_d rfl (d_ldint ty2 rfl h_t19.th c5) <| wA (.int .i64 t21) rfl rfl <| wA (.int .i64 (rd t19 t21)) rfl rfl <| wQ rfl <| w_d rfl (d_fld (o' := 0) Tryd.underlying37 rfl sz22 rfl rfl rfl) <| wL v_c_0 ty22 rfl rfl .here rfl rfl <| wM (.int .i64 t) rfl rfl ?_
  obtain ⟨c6, he⟩ := rq he
  refine w_d rfl (d_index (sz := 1) Tryd.underlying22 sz32 rfl h_c_0.src rfl c6) ?_
  obtain ⟨_, l7, r8⟩ := el_ro (kd := (Kd.slice kI64)) h_c_0 c6
  obtain ⟨v9, rfl, h10⟩ := r8
  refine w_d rfl (d_load (v := v9) (cs := [v9]) ty32 rfl rfl (by decide) (l7).lies rfl) <| wM (.int .i64 t21) rfl rfl ?_
  obtain ⟨c11, he⟩ := rq he
  refine w_d rfl (d_index (sz := 1) Tryd.underlying32 sz2 rfl h10.src rfl c11) <| w_d rfl (d_ldint ty2 rfl h10.src c11) <| wA (.int .i64 (rd (rd c_0 t) t21)) rfl rfl <| wQ rfl <| wM (.int .i64 (rd (rd c_0 t) t21)) rfl rfl <| w_d rfl (d_geq rfl rfl) <| wM (.bool (decide (0 ≤ (rd (rd c_0 t) t21)))) rfl rfl <| w_g (g := decide (0 ≤ (rd (rd c_0 t) t21))) rfl rfl rfl wn_t (fun g12 => d_move (v := .int .i64 u) rfl) <| w_g (g := decide (0 ≤ (rd (rd c_0 t) t21))) rfl rfl rfl wn_t (fun g13 => d_move (v := .int .i64 (rd (rd c_0 t) t21)) rfl) <| w_g (g := decide (0 ≤ (rd (rd c_0 t) t21))) rfl rfl rfl wn_t (fun g14 => d_move (v := .int .i64 (rd t19 t21)) rfl) ?_
  refine w_g (g := decide (0 ≤ (rd (rd c_0 t) t21))) rfl rfl rfl wn_t (fun g15 => d_sub (c := w64 ((rd (rd c_0 t) t21) - (rd t19 t21))) (cvt g15) (cvt g15) rfl) <| w_g (g := decide (0 ≤ (rd (rd c_0 t) t21))) rfl rfl rfl wn_t (fun g16 => d_gtr (cvt g16) (cvt g16)) <| w_d rfl (d_and' (b := (decide (0 ≤ (rd (rd c_0 t) t21)))) (p := (decide ((w64 ((rd (rd c_0 t) t21) - (rd t19 t21))) < u))) rfl rfl rfl) <| w_done ?_
  rcases its he with ⟨c17, he⟩ | ⟨c17, he⟩
  ·
   refine w_then rfl c17 <| wR rfl <| wA (.bool false) rfl rfl <| w_done ?_
   obtain rfl := sj he
   refine w_return fn_31 rs_31 (.tmp (v := .bool false) rfl .nil) <| ⟨⟨[_], rfl⟩, hle, rfl⟩
  ·
   refine w_else rfl (Bool.eq_false_iff.2 c17) <| w_skip <| w_inBlock <| w_region rfl <| w_d rfl (d_add (c := w64 (t21 + 1)) rfl rfl rfl) <| wM (.int .i64 (w64 (t21 + 1))) rfl rfl <| w_done <| w_inLoop <| w_sl 2 (v_plots) rfl <| w_sl 3 (.pointer (some ⟨b_c_, 0, none⟩)) rfl <| w_sl 6 (.bool t6) rfl <| w_sl 7 (.int .i64 t) rfl ?_
   refine w_sl 8 (.int .i64 u) rfl <| w_sl 12 (v_t12) rfl <| w_sl 13 (.int .i64 t13) rfl <| w_sl 14 (.int .i64 t14) rfl <| w_sl 19 (v_t19) rfl <| w_sl 20 (.int .i64 t20) rfl <| w_sl 21 (.int .i64 (w64 (t21 + 1))) rfl <| hh.l1 hle he h_plots h_c_0 h_t12 h_t19
 ·
  refine w_else rfl (df c4) <| w_exit rfl <| w_inBlock <| w_region rfl <| w_d rfl (d_add (c := w64 (t14 + 1)) rfl rfl rfl) <| wM (.int .i64 (w64 (t14 + 1))) rfl rfl <| w_done <| w_inLoop <| w_sl 2 (v_plots) rfl <| w_sl 3 (.pointer (some ⟨b_c_, 0, none⟩)) rfl <| w_sl 6 (.bool t6) rfl <| w_sl 12 (v_t12) rfl ?_
  refine w_sl 13 (.int .i64 t13) rfl <| w_sl 14 (.int .i64 (w64 (t14 + 1))) rfl <| hh.l0 hle he h_plots h_c_0 h_t12
theorem best_under.ok : ∀ k, best_under.OK (best_under.hs k)
 | 0 => ⟨(by intros; exact nomatch (show none = some _ from by assumption)), (by intros; exact nomatch (show none = some _ from by assumption))⟩
 | k + 1 => ⟨best_under.b0_ok (k := k) (best_under.ok k), best_under.b1_ok (k := k) (best_under.ok k)⟩
theorem best_under.calls (k : Nat) {H : Hp} {L : Items} {c_ : cost_Costs} {tracks : List Int} {plots : List Int} {v0_c_ : Value} {v1_tracks : Value} {v2_plots : Value} {r : Bool} (he : best_under.f k c_ tracks plots = some r) (h0_c_ : Ro (Kd.slice kI64) H v0_c_ c_.f_Rows) (h1_tracks : Src kI64 H L v1_tracks tracks) (h2_plots : Src kI64 H L v2_plots plots) : Ct Tryd.prog 31 ⟨[.agg ⟨[v0_c_, .int .i64 c_.f_Miss]⟩, v1_tracks, v2_plots]⟩ H L (fun v H' L' => L = L' ∧ H = H' ∧ v = .bool r) := by
 refine ct_outs (O := best_under.out r) (fun _ _ h => h) ?_
 have hle : H.le H := .refl _
 have hh := best_under.ok k
 unfold best_under.f at he
 refine ct_enter (args := [.agg ⟨[v0_c_, .int .i64 c_.f_Miss]⟩, v1_tracks, v2_plots]) fn_31 rfl nt_31 rfl <| wR rfl <| w_a rfl (o_box (v := .agg ⟨[v0_c_, .int .i64 c_.f_Miss]⟩) rfl rfl) ?_
 rintro _ _ _ ⟨b1, rfl, rfl, rfl⟩
 refine wA (.bool false) rfl rfl <| wE <| wR rfl <| wM v1_tracks rfl rfl <| w_d rfl (d_len Tryd.underlying32 rfl h1_tracks.th) <| wM (.int .i64 0) rfl rfl <| w_done <| w_block <| w_loop <| w_sl 2 (v2_plots) rfl ?_
 refine w_sl 3 (.pointer (some ⟨b1, 0, none⟩)) rfl <| w_sl 6 (.bool false) rfl <| w_sl 12 (v1_tracks) rfl <| w_sl 13 (.int .i64 (tracks.length : Int)) rfl <| w_sl 14 (.int .i64 0) rfl <| hh.l0 hle he h2_plots h0_c_ h1_tracks
noncomputable def best_Shows.C : Code := (Tryd.f18.body).getD .skip
def best_Shows.out (r : Bool × (Option Int)) (H : Hp) (v : Value) : Prop := v = .tuple ⟨[.bool r.1, errV 51 r.2]⟩
abbrev best_Shows.R (H0 : Hp) (L : Items) (r : Bool × (Option Int)) := fR H0 L (best_Shows.out r)
structure best_Shows.Hs where
 l0 : (List Int) → Int → Int → (List Int) → Int → Int → Option (Bool × (Option Int))
 l1 : Int → Int → (List Int) → Int → Int → Option (Bool × (Option Int))
noncomputable def best_Shows.b0 (k : Nat) (h : best_Shows.Hs)  (plots : List Int) (total : Int) (sum : Int) (t59 : List Int) (t60 : Int) (t61 : Int) : Option (Bool × (Option Int)) := if t61 < t60 then (if (0 : Int) ≤ t61 ∧ t61 < (t59.length : Int) then (h.l0 plots total (w64 (sum + (rd t59 t61))) t59 t60 (w64 (t61 + 1))) else none) else (h.l1 total sum plots (plots.length : Int) 0)
noncomputable def best_Shows.b1 (k : Nat) (h : best_Shows.Hs)  (total : Int) (sum : Int) (t69 : List Int) (t70 : Int) (t71 : Int) : Option (Bool × (Option Int)) := if t71 < t70 then (if (0 : Int) ≤ t71 ∧ t71 < (t69.length : Int) then (h.l1 total (w64 (sum + (rd t69 t71))) t69 t70 (w64 (t71 + 1))) else none) else (some (decide (sum = total), none))
noncomputable def best_Shows.hs : Nat → best_Shows.Hs
 | 0 => ⟨fun _ _ _ _ _ _ => none, fun _ _ _ _ _ => none⟩
 | k + 1 => ⟨fun x0 x1 x2 x3 x4 x5 => best_Shows.b0 k (best_Shows.hs k) x0 x1 x2 x3 x4 x5, fun x0 x1 x2 x3 x4 => best_Shows.b1 k (best_Shows.hs k) x0 x1 x2 x3 x4⟩
noncomputable def best_Shows.f (k : Nat) (c_ : cost_Costs) (tracks : List Int) (plots : List Int) (total : Int) : Option (Bool × (Option Int)) := (fun h : best_Shows.Hs => (cost_Check.f k c_).bind fun y2 => if y2.isSome = true then (some (false, y2)) else ((best_begun.f k c_).bind fun y7 => (gd (!((!decide ((tracks.length : Int) = y7.f_tracks)) || (!decide ((plots.length : Int) = y7.f_plots)))) (best_bounded.f k tracks c_.f_Miss) (false)).bind fun y34 => (gd (!(((!decide ((tracks.length : Int) = y7.f_tracks)) || (!decide ((plots.length : Int) = y7.f_plots))) || (!y34))) (best_bounded.f k plots 0) (false)).bind fun y41 => (gd (!((((!decide ((tracks.length : Int) = y7.f_tracks)) || (!decide ((plots.length : Int) = y7.f_plots))) || (!y34)) || (!y41))) (best_under.f k c_ tracks plots) (false)).bind fun y50 => if (((((!decide ((tracks.length : Int) = y7.f_tracks)) || (!decide ((plots.length : Int) = y7.f_plots))) || (!y34)) || (!y41)) || (!y50)) = true then (some (false, none)) else (h.l0 plots total 0 tracks (tracks.length : Int) 0))) (best_Shows.hs k)
structure best_Shows.LE (h h' : best_Shows.Hs) : Prop where
 l0 : ∀ y0 y1 y2 y3 y4 y5, LeO (h.l0 y0 y1 y2 y3 y4 y5) (h'.l0 y0 y1 y2 y3 y4 y5)
 l1 : ∀ y0 y1 y2 y3 y4, LeO (h.l1 y0 y1 y2 y3 y4) (h'.l1 y0 y1 y2 y3 y4)
theorem best_Shows.b0_mono {k : Nat} {h h' : best_Shows.Hs} (hl : best_Shows.LE h h') : ∀ y0 y1 y2 y3 y4 y5, LeO (best_Shows.b0 k h y0 y1 y2 y3 y4 y5) (best_Shows.b0 (k + 1) h' y0 y1 y2 y3 y4 y5) := fun _ _ _ _ _ _ => (LeO.ite (LeO.ite (hl.l0 _ _ _ _ _ _) (LeO.refl _)) (hl.l1 _ _ _ _ _))
theorem best_Shows.b1_mono {k : Nat} {h h' : best_Shows.Hs} (hl : best_Shows.LE h h') : ∀ y0 y1 y2 y3 y4, LeO (best_Shows.b1 k h y0 y1 y2 y3 y4) (best_Shows.b1 (k + 1) h' y0 y1 y2 y3 y4) := fun _ _ _ _ _ => (LeO.ite (LeO.ite (hl.l1 _ _ _ _ _) (LeO.refl _)) (LeO.refl _))
theorem best_Shows.hs_mono : ∀ k, best_Shows.LE (best_Shows.hs k) (best_Shows.hs (k + 1))
 | 0 => ⟨fun _ _ _ _ _ _ => LeO.none _, fun _ _ _ _ _ => LeO.none _⟩
 | k + 1 => ⟨best_Shows.b0_mono (k := k) (best_Shows.hs_mono k), best_Shows.b1_mono (k := k) (best_Shows.hs_mono k)⟩
theorem best_Shows.mono : ∀ k y0 y1 y2 y3, LeO (best_Shows.f k y0 y1 y2 y3) (best_Shows.f (k + 1) y0 y1 y2 y3) := fun k _ _ _ _ => have hl := best_Shows.hs_mono k; by unfold best_Shows.f; exact (LeO.bind (cost_Check.mono k _) fun _ => LeO.ite (LeO.refl _) (LeO.bind (best_begun.mono k _) fun _ => LeO.bind (LeO.gd (best_bounded.mono k _ _)) fun _ => LeO.bind (LeO.gd (best_bounded.mono k _ _)) fun _ => LeO.bind (LeO.gd (best_under.mono k _ _ _)) fun _ => LeO.ite (LeO.refl _) (hl.l0 _ _ _ _ _ _)))
noncomputable def best_Shows.Kl0 : List Item := .code (lopB (blkB (seqR (seqL (seqR (seqR (seqR (seqR (seqR best_Shows.C))))))))) :: .inLoop (lopB (blkB (seqR (seqL (seqR (seqR (seqR (seqR (seqR best_Shows.C))))))))) :: .inBlock 0 :: .code (seqR (seqR (seqR (seqR (seqR (seqR best_Shows.C)))))) :: []
noncomputable def best_Shows.Kl1 : List Item := .code (lopB (blkB (seqR (seqL (seqR (seqR (seqR (seqR (seqR (seqR best_Shows.C)))))))))) :: .inLoop (lopB (blkB (seqR (seqL (seqR (seqR (seqR (seqR (seqR (seqR best_Shows.C)))))))))) :: .inBlock 2 :: .code (seqR (seqR (seqR (seqR (seqR (seqR (seqR best_Shows.C))))))) :: []
structure best_Shows.OK (h : best_Shows.Hs) : Prop where
 l0 : ∀ {H0 H : Hp} {L : Items} {r : Bool × (Option Int)} {jk_ : Nat → Value} {plots : List Int} {total : Int} {sum : Int} {t59 : List Int} {t60 : Int} {t61 : Int} {v_plots : Value} {v_t59 : Value} (_ : H0.le H) (_he : h.l0 plots total sum t59 t60 t61 = some r) (_h_plots : Src kI64 H L v_plots plots) (_h_t59 : Src kI64 H L v_t59 t59), Wp Tryd.prog 18 82 best_Shows.Kl0 (upd (upd (upd (upd (upd (upd (upd (upd jk_ 2 (v_plots)) 3 (.int .i64 total)) 8 (.bool false)) 9 (errV 51 none)) 12 (.int .i64 sum)) 59 (v_t59)) 60 (.int .i64 t60)) 61 (.int .i64 t61)) H (L) (best_Shows.R H0 L r)
 l1 : ∀ {H0 H : Hp} {L : Items} {r : Bool × (Option Int)} {jk_ : Nat → Value} {total : Int} {sum : Int} {t69 : List Int} {t70 : Int} {t71 : Int} {v_t69 : Value} (_ : H0.le H) (_he : h.l1 total sum t69 t70 t71 = some r) (_h_t69 : Src kI64 H L v_t69 t69), Wp Tryd.prog 18 82 best_Shows.Kl1 (upd (upd (upd (upd (upd (upd (upd jk_ 3 (.int .i64 total)) 8 (.bool false)) 9 (errV 51 none)) 12 (.int .i64 sum)) 69 (v_t69)) 70 (.int .i64 t70)) 71 (.int .i64 t71)) H (L) (best_Shows.R H0 L r)
theorem best_Shows.b0_ok {k : Nat} {h : best_Shows.Hs} (hh : best_Shows.OK h) {H0 H : Hp} {L : Items} {r : Bool × (Option Int)} {jk_ : Nat → Value} {plots : List Int} {total : Int} {sum : Int} {t59 : List Int} {t60 : Int} {t61 : Int} {v_plots : Value} {v_t59 : Value} (hle : H0.le H) (he : best_Shows.b0 k h plots total sum t59 t60 t61 = some r) (h_plots : Src kI64 H L v_plots plots) (h_t59 : Src kI64 H L v_t59 t59) : Wp Tryd.prog 18 82 best_Shows.Kl0 (upd (upd (upd (upd (upd (upd (upd (upd jk_ 2 (v_plots)) 3 (.int .i64 total)) 8 (.bool false)) 9 (errV 51 none)) 12 (.int .i64 sum)) 59 (v_t59)) 60 (.int .i64 t60)) 61 (.int .i64 t61)) H (L) (best_Shows.R H0 L r) := by
 unfold best_Shows.b0 at he
 unfold best_Shows.Kl0
 refine wR rfl <| w_d rfl (d_lss rfl rfl) <| wE ?_
 rcases its he with ⟨c56, he⟩ | ⟨c56, he⟩
 ·
  refine w_then rfl (dt c56) <| w_skip <| w_seq <| w_block <| wR rfl ?_
  obtain ⟨c57, he⟩ := rq he
  refine w_d rfl (d_index (sz := 1) Tryd.underlying32 sz2 rfl h_t59 rfl c57) <| w_d rfl (d_ldint ty2 rfl h_t59 c57) <| wA (.int .i64 (rd t59 t61)) rfl rfl <| w_done <| w_region rfl <| wM (.int .i64 sum) rfl rfl <| wM (.int .i64 (rd t59 t61)) rfl rfl <| w_d rfl (d_add (c := w64 (sum + (rd t59 t61))) rfl rfl rfl) <| wA (.int .i64 (w64 (sum + (rd t59 t61)))) rfl rfl <| w_done <| w_inBlock <| w_region rfl ?_
  refine w_d rfl (d_add (c := w64 (t61 + 1)) rfl rfl rfl) <| wM (.int .i64 (w64 (t61 + 1))) rfl rfl <| w_done <| w_inLoop <| w_sl 2 (v_plots) rfl <| w_sl 3 (.int .i64 total) rfl <| w_sl 8 (.bool false) rfl <| w_sl 9 (errV 51 none) rfl <| w_sl 12 (.int .i64 (w64 (sum + (rd t59 t61)))) rfl <| w_sl 59 (v_t59) rfl <| w_sl 60 (.int .i64 t60) rfl <| w_sl 61 (.int .i64 (w64 (t61 + 1))) rfl <| hh.l0 hle he h_plots h_t59
 ·
  refine w_else rfl (df c56) <| w_exit rfl <| w_seq <| wR rfl <| wM v_plots rfl rfl <| w_d rfl (d_len Tryd.underlying32 rfl h_plots) <| wM (.int .i64 0) rfl rfl <| w_done <| w_block <| w_loop <| w_sl 3 (.int .i64 total) rfl ?_
  refine w_sl 8 (.bool false) rfl <| w_sl 9 (errV 51 none) rfl <| w_sl 12 (.int .i64 sum) rfl <| w_sl 69 (v_plots) rfl <| w_sl 70 (.int .i64 (plots.length : Int)) rfl <| w_sl 71 (.int .i64 0) rfl <| hh.l1 hle he h_plots
theorem best_Shows.b1_ok {k : Nat} {h : best_Shows.Hs} (hh : best_Shows.OK h) {H0 H : Hp} {L : Items} {r : Bool × (Option Int)} {jk_ : Nat → Value} {total : Int} {sum : Int} {t69 : List Int} {t70 : Int} {t71 : Int} {v_t69 : Value} (hle : H0.le H) (he : best_Shows.b1 k h total sum t69 t70 t71 = some r) (h_t69 : Src kI64 H L v_t69 t69) : Wp Tryd.prog 18 82 best_Shows.Kl1 (upd (upd (upd (upd (upd (upd (upd jk_ 3 (.int .i64 total)) 8 (.bool false)) 9 (errV 51 none)) 12 (.int .i64 sum)) 69 (v_t69)) 70 (.int .i64 t70)) 71 (.int .i64 t71)) H (L) (best_Shows.R H0 L r) := by
 unfold best_Shows.b1 at he
 unfold best_Shows.Kl1
 refine wR rfl <| w_d rfl (d_lss rfl rfl) <| wE ?_
 rcases its he with ⟨c58, he⟩ | ⟨c58, he⟩
 ·
  refine w_then rfl (dt c58) <| w_skip <| w_seq <| w_block <| wR rfl ?_
  obtain ⟨c59, he⟩ := rq he
  refine w_d rfl (d_index (sz := 1) Tryd.underlying32 sz2 rfl h_t69 rfl c59) <| w_d rfl (d_ldint ty2 rfl h_t69 c59) <| wA (.int .i64 (rd t69 t71)) rfl rfl <| w_done <| w_region rfl <| wM (.int .i64 sum) rfl rfl <| wM (.int .i64 (rd t69 t71)) rfl rfl <| w_d rfl (d_add (c := w64 (sum + (rd t69 t71))) rfl rfl rfl) <| wA (.int .i64 (w64 (sum + (rd t69 t71)))) rfl rfl <| w_done <| w_inBlock <| w_region rfl ?_
  refine w_d rfl (d_add (c := w64 (t71 + 1)) rfl rfl rfl) <| wM (.int .i64 (w64 (t71 + 1))) rfl rfl <| w_done <| w_inLoop <| w_sl 3 (.int .i64 total) rfl <| w_sl 8 (.bool false) rfl <| w_sl 9 (errV 51 none) rfl <| w_sl 12 (.int .i64 (w64 (sum + (rd t69 t71)))) rfl <| w_sl 69 (v_t69) rfl <| w_sl 70 (.int .i64 t70) rfl <| w_sl 71 (.int .i64 (w64 (t71 + 1))) rfl <| hh.l1 hle he h_t69
 ·
  refine w_else rfl (df c58) <| w_exit rfl <| wR rfl <| wM (.int .i64 sum) rfl rfl <| wM (.int .i64 total) rfl rfl <| w_d rfl (d_eql rfl rfl) <| wA (.bool (decide (sum = total))) rfl rfl <| wA (errV 51 none) rfl rfl <| w_done ?_
  obtain rfl := sj he
  refine w_return fn_18 rs_18 (.tmp (v := .bool (decide (sum = total))) rfl (.tmp (v := errV 51 none) rfl .nil)) <| ⟨⟨[], rfl⟩, hle, rfl⟩
theorem best_Shows.ok : ∀ k, best_Shows.OK (best_Shows.hs k)
 | 0 => ⟨(by intros; exact nomatch (show none = some _ from by assumption)), (by intros; exact nomatch (show none = some _ from by assumption))⟩
 | k + 1 => ⟨best_Shows.b0_ok (k := k) (best_Shows.ok k), best_Shows.b1_ok (k := k) (best_Shows.ok k)⟩
theorem best_Shows.calls (k : Nat) {H : Hp} {L : Items} {c_ : cost_Costs} {tracks : List Int} {plots : List Int} {total : Int} {v0_c_ : Value} {v1_tracks : Value} {v2_plots : Value} {r : Bool × (Option Int)} (he : best_Shows.f k c_ tracks plots total = some r) (h0_c_ : Ro (Kd.slice kI64) H v0_c_ c_.f_Rows) (h1_tracks : Src kI64 H L v1_tracks tracks) (h2_plots : Src kI64 H L v2_plots plots) : Ct Tryd.prog 18 ⟨[.agg ⟨[v0_c_, .int .i64 c_.f_Miss]⟩, v1_tracks, v2_plots, .int .i64 total]⟩ H L (fun v H' L' => L = L' ∧ H = H' ∧ v = .tuple ⟨[.bool r.1, errV 51 r.2]⟩) := by
 refine ct_outs (O := best_Shows.out r) (fun _ _ h => h) ?_
 have hle : H.le H := .refl _
 have hh := best_Shows.ok k
 unfold best_Shows.f at he
 refine ct_enter (args := [.agg ⟨[v0_c_, .int .i64 c_.f_Miss]⟩, v1_tracks, v2_plots, .int .i64 total]) fn_18 rfl nt_18 rfl <| wR rfl <| w_a rfl (o_box (v := .agg ⟨[v0_c_, .int .i64 c_.f_Miss]⟩) rfl rfl) ?_
 rintro _ _ _ ⟨b1, rfl, rfl, rfl⟩
 refine wA (.bool false) rfl rfl <| wA (errV 51 none) rfl rfl <| wE <| wR rfl <| wL (.agg ⟨[v0_c_, .int .i64 c_.f_Miss]⟩) ty37 rfl rfl .here rfl rfl ?_
 obtain ⟨y2, hy3, he⟩ := bs he
 refine w_d rfl (call_d (o_call co21 (vs := [.agg ⟨[v0_c_, .int .i64 c_.f_Miss]⟩]) rfl (cost_Check.calls k (c_ := c_) hy3 h0_c_))) <| wA (errV 51 y2) rfl rfl <| wQ rfl <| wM (errV 51 y2) rfl rfl <| w_d rfl (d_nenil (e := y2) Tryd.underlying27 rfl) <| w_done ?_
 rcases its he with ⟨c6, he⟩ | ⟨c6, he⟩
 ·
  refine w_then rfl c6 <| wR rfl <| wM (errV 51 y2) rfl rfl <| wA (.bool false) rfl rfl <| wA (errV 51 y2) rfl rfl <| w_done ?_
  obtain rfl := sj he
  refine w_return fn_18 rs_18 (.tmp (v := .bool false) rfl (.tmp (v := errV 51 y2) rfl .nil)) <| ⟨⟨[_], rfl⟩, hle, rfl⟩
 ·
  refine w_else rfl (Bool.eq_false_iff.2 c6) <| w_skip <| wR rfl <| wL (.agg ⟨[v0_c_, .int .i64 c_.f_Miss]⟩) ty37 rfl rfl .here rfl rfl ?_
  obtain ⟨y7, hy8, he⟩ := bs he
  refine w_a rfl (o_call co29 (vs := [.agg ⟨[v0_c_, .int .i64 c_.f_Miss]⟩]) rfl (best_begun.calls k (c_ := c_) hy8 h0_c_)) ?_
  rintro _ H9 _ ⟨_, rfl, e10, ⟨b11, v12, v14, i15, v17, i18, v20, i21, rfl, rfl, h13, h16, h19, h22⟩⟩
  refine w_it (L' := some (b11, .cells ⟨[v12, .int .i64 y7.f_c.f_Miss, .int .i64 y7.f_tracks, .int .i64 y7.f_plots, v14, v17, v20]⟩ 67 (0, 0)) :: i15 :: i18 :: i21 :: some (b1, .cells ⟨[v0_c_, .int .i64 c_.f_Miss]⟩ 37 (0, 0)) :: L) rfl <| wA (.pointer (some ⟨b11, 0, none⟩)) rfl rfl <| wE <| wR rfl <| wM v1_tracks rfl rfl <| w_d rfl (d_len Tryd.underlying32 rfl (h1_tracks.mono e10).th.th.th.th.th) <| wM (.pointer (some ⟨b11, 0, none⟩)) rfl rfl <| w_d rfl (d_nilCheck (p := ⟨b11, 0, none⟩) rfl) <| w_d rfl (d_fld (o' := 2) Tryd.underlying67 rfl sz3 rfl rfl rfl) <| wL (.int .i64 y7.f_tracks) ty3 rfl rfl .here rfl rfl ?_
  refine w_d rfl (d_neq rfl rfl) <| wM (.bool (!decide ((tracks.length : Int) = y7.f_tracks))) rfl rfl <| w_g (g := !(!decide ((tracks.length : Int) = y7.f_tracks))) rfl rfl rfl wn_f (fun g23 => d_move (v := v2_plots) rfl) <| w_g (g := !(!decide ((tracks.length : Int) = y7.f_tracks))) rfl rfl rfl wn_f (fun g24 => d_len Tryd.underlying32 (cvt g24) (h2_plots.mono e10).th.th.th.th.th) <| w_g (g := !(!decide ((tracks.length : Int) = y7.f_tracks))) rfl rfl rfl wn_f (fun g25 => d_move (v := .pointer (some ⟨b11, 0, none⟩)) rfl) <| w_g (g := !(!decide ((tracks.length : Int) = y7.f_tracks))) rfl rfl rfl wn_f (fun g26 => d_nilCheck (p := ⟨b11, 0, none⟩) (cvt g26)) <| w_g (g := !(!decide ((tracks.length : Int) = y7.f_tracks))) rfl rfl rfl wn_f (fun g27 => d_fld (o' := 3) Tryd.underlying67 rfl sz3 rfl (cvt g27) rfl) <| w_g (g := !(!decide ((tracks.length : Int) = y7.f_tracks))) rfl rfl rfl wn_f (fun g28 => d_loado (v := .int .i64 y7.f_plots) ty3 (cvt g28) .here rfl rfl rfl rfl) <| w_g (g := !(!decide ((tracks.length : Int) = y7.f_tracks))) rfl rfl rfl wn_f (fun g29 => d_neq (cvt g29) (cvt g29)) <| w_d rfl (d_or' (b := (!decide ((tracks.length : Int) = y7.f_tracks))) (p := (!decide ((plots.length : Int) = y7.f_plots))) rfl rfl rfl) <| wM (.bool ((!decide ((tracks.length : Int) = y7.f_tracks)) || (!decide ((plots.length : Int) = y7.f_plots)))) rfl rfl <| w_g (g := !((!decide ((tracks.length : Int) = y7.f_tracks)) || (!decide ((plots.length : Int) = y7.f_plots)))) rfl rfl rfl wn_f (fun g30 => d_move (v := v1_tracks) rfl) ?_
  refine w_g (g := !((!decide ((tracks.length : Int) = y7.f_tracks)) || (!decide ((plots.length : Int) = y7.f_plots)))) rfl rfl rfl wn_f (fun g31 => d_fld (o' := 1) Tryd.underlying37 rfl sz2 rfl rfl rfl) <| w_g (g := !((!decide ((tracks.length : Int) = y7.f_tracks)) || (!decide ((plots.length : Int) = y7.f_plots)))) rfl rfl rfl wn_f (fun g32 => d_loado (v := .int .i64 c_.f_Miss) ty2 (cvt g32) (.there (.there (.there (.there .here)))) rfl rfl rfl rfl) ?_
  obtain ⟨y34, hy35, he⟩ := bs he
  refine w_g (g := !((!decide ((tracks.length : Int) = y7.f_tracks)) || (!decide ((plots.length : Int) = y7.f_plots)))) rfl rfl rfl wn_f (fun g33 => call_d (o_call co30 (vs := [v1_tracks, .int .i64 c_.f_Miss]) (acons (cvt g33) (acons (cvt g33) (anil))) (best_bounded.calls k (gd_t g33 hy35) ((h1_tracks.mono e10).th.th.th.th.th)))) <| w_g (g := !((!decide ((tracks.length : Int) = y7.f_tracks)) || (!decide ((plots.length : Int) = y7.f_plots)))) rfl rfl rfl wn_f (fun g38 => d_not (b := y34) (cvt g38)) <| w_d rfl (d_or' (b := ((!decide ((tracks.length : Int) = y7.f_tracks)) || (!decide ((plots.length : Int) = y7.f_plots)))) (p := (!y34)) rfl rfl rfl) <| wM (.bool (((!decide ((tracks.length : Int) = y7.f_tracks)) || (!decide ((plots.length : Int) = y7.f_plots))) || (!y34))) rfl rfl <| w_g (g := !(((!decide ((tracks.length : Int) = y7.f_tracks)) || (!decide ((plots.length : Int) = y7.f_plots))) || (!y34))) rfl rfl rfl wn_f (fun g39 => d_move (v := v2_plots) rfl) ?_
  obtain ⟨y41, hy42, he⟩ := bs he
  refine w_g (g := !(((!decide ((tracks.length : Int) = y7.f_tracks)) || (!decide ((plots.length : Int) = y7.f_plots))) || (!y34))) rfl rfl rfl wn_f (fun g40 => call_d (o_call co30 (vs := [v2_plots, .int .i64 0]) (acons (cvt g40) (acons rfl (anil))) (best_bounded.calls k (gd_t g40 hy42) ((h2_plots.mono e10).th.th.th.th.th)))) <| w_g (g := !(((!decide ((tracks.length : Int) = y7.f_tracks)) || (!decide ((plots.length : Int) = y7.f_plots))) || (!y34))) rfl rfl rfl wn_f (fun g45 => d_not (b := y41) (cvt g45)) <| w_d rfl (d_or' (b := (((!decide ((tracks.length : Int) = y7.f_tracks)) || (!decide ((plots.length : Int) = y7.f_plots))) || (!y34))) (p := (!y41)) rfl rfl rfl) <| wM (.bool ((((!decide ((tracks.length : Int) = y7.f_tracks)) || (!decide ((plots.length : Int) = y7.f_plots))) || (!y34)) || (!y41))) rfl rfl <| w_g (g := !((((!decide ((tracks.length : Int) = y7.f_tracks)) || (!decide ((plots.length : Int) = y7.f_plots))) || (!y34)) || (!y41))) rfl rfl rfl wn_f (fun g46 => d_loado (v := .agg ⟨[v0_c_, .int .i64 c_.f_Miss]⟩) ty37 rfl (.there (.there (.there (.there .here)))) rfl rfl rfl rfl) <| w_g (g := !((((!decide ((tracks.length : Int) = y7.f_tracks)) || (!decide ((plots.length : Int) = y7.f_plots))) || (!y34)) || (!y41))) rfl rfl rfl wn_f (fun g47 => d_move (v := v1_tracks) rfl) <| w_g (g := !((((!decide ((tracks.length : Int) = y7.f_tracks)) || (!decide ((plots.length : Int) = y7.f_plots))) || (!y34)) || (!y41))) rfl rfl rfl wn_f (fun g48 => d_move (v := v2_plots) rfl) ?_
  obtain ⟨y50, hy51, he⟩ := bs he
  refine w_g (g := !((((!decide ((tracks.length : Int) = y7.f_tracks)) || (!decide ((plots.length : Int) = y7.f_plots))) || (!y34)) || (!y41))) rfl rfl rfl wn_f (fun g49 => call_d (o_call co31 (vs := [.agg ⟨[v0_c_, .int .i64 c_.f_Miss]⟩, v1_tracks, v2_plots]) (acons (cvt g49) (acons (cvt g49) (acons (cvt g49) (anil)))) (best_under.calls k (c_ := c_) (gd_t g49 hy51) (h0_c_.mono e10) ((h1_tracks.mono e10).th.th.th.th.th) ((h2_plots.mono e10).th.th.th.th.th)))) <| w_g (g := !((((!decide ((tracks.length : Int) = y7.f_tracks)) || (!decide ((plots.length : Int) = y7.f_plots))) || (!y34)) || (!y41))) rfl rfl rfl wn_f (fun g54 => d_not (b := y50) (cvt g54)) <| w_d rfl (d_or' (b := ((((!decide ((tracks.length : Int) = y7.f_tracks)) || (!decide ((plots.length : Int) = y7.f_plots))) || (!y34)) || (!y41))) (p := (!y50)) rfl rfl rfl) <| w_done ?_
  rcases its he with ⟨c55, he⟩ | ⟨c55, he⟩
  ·
   refine w_then rfl c55 <| wR rfl <| wA (.bool false) rfl rfl <| wA (errV 51 none) rfl rfl <| w_done ?_
   obtain rfl := sj he
   refine w_return fn_18 rs_18 (.tmp (v := .bool false) rfl (.tmp (v := errV 51 none) rfl .nil)) <| ⟨⟨[_, _, _, _, _], rfl⟩, hle.trans e10, rfl⟩
  ·
   refine w_else rfl (Bool.eq_false_iff.2 c55) <| w_skip <| wR rfl <| wA (.int .i64 0) rfl rfl <| wE <| wR rfl <| wM v1_tracks rfl rfl <| w_d rfl (d_len Tryd.underlying32 rfl (h1_tracks.mono e10).th.th.th.th.th) <| wM (.int .i64 0) rfl rfl ?_
   refine w_done <| w_block <| w_loop <| w_del (.there (.there (.there (.there .here)))) <| w_del (.there (.there (.there .here))) <| w_del (.there (.there .here)) <| w_del (.there .here) <| w_del .here <| w_sl 2 (v2_plots) rfl <| w_sl 3 (.int .i64 total) rfl <| w_sl 8 (.bool false) rfl <| w_sl 9 (errV 51 none) rfl ?_
   refine w_sl 12 (.int .i64 0) rfl <| w_sl 59 (v1_tracks) rfl <| w_sl 60 (.int .i64 (tracks.length : Int)) rfl <| w_sl 61 (.int .i64 0) rfl <| hh.l0 (hle.trans e10) he (h2_plots.mono e10) (h1_tracks.mono e10)
noncomputable def radomeref20_May.C : Code := (Tryd.f8.body).getD .skip
def radomeref20_May.out (r : Bool) (H : Hp) (v : Value) : Prop := v = .bool r
abbrev radomeref20_May.R (H0 : Hp) (L : Items) (r : Bool) := fR H0 L (radomeref20_May.out r)
structure radomeref20_May.Hs where
 l0 : (List (List Int)) → Int → Bool → Int → Option Bool
 l1 : (List (List Int)) → Int → Bool → Int → Int → Option Bool
noncomputable def radomeref20_May.b0 (k : Nat) (h : radomeref20_May.Hs)  (c_0 : List (List Int)) (c_1 : Int) (t2 : Bool) (i : Int) : Option Bool := if i < (c_0.length : Int) then (if (0 : Int) ≤ i ∧ i < (c_0.length : Int) then (if (0 : Int) ≤ 0 ∧ 0 < (c_0.length : Int) then (if (!(!decide (((rd c_0 i).length : Int) = ((rd c_0 0).length : Int)))) = true → (0 : Int) ≤ i ∧ i < (c_0.length : Int) then (if ((!decide (((rd c_0 i).length : Int) = ((rd c_0 0).length : Int))) || (decide (64 < ((rd c_0 i).length : Int)))) = true then (some (false)) else (h.l1 c_0 c_1 t2 i 0)) else none) else none) else none) else (some (true))
noncomputable def radomeref20_May.b1 (k : Nat) (h : radomeref20_May.Hs)  (c_0 : List (List Int)) (c_1 : Int) (t2 : Bool) (i : Int) (k_ : Int) : Option Bool := if (0 : Int) ≤ i ∧ i < (c_0.length : Int) then (if k_ < ((rd c_0 i).length : Int) then (if (0 : Int) ≤ i ∧ i < (c_0.length : Int) then (if (0 : Int) ≤ k_ ∧ k_ < ((rd c_0 i).length : Int) then (if (!(decide ((rd (rd c_0 i) k_) < (-1)))) = true → (0 : Int) ≤ i ∧ i < (c_0.length : Int) then (if (!(decide ((rd (rd c_0 i) k_) < (-1)))) = true → (0 : Int) ≤ k_ ∧ k_ < ((rd c_0 i).length : Int) then (if ((decide ((rd (rd c_0 i) k_) < (-1))) || (decide (4096 < (rd (rd c_0 i) k_)))) = true then (some (false)) else (h.l1 c_0 c_1 t2 i (w64 (k_ + 1)))) else none) else none) else none) else none) else (h.l0 c_0 c_1 t2 (w64 (i + 1)))) else none
noncomputable def radomeref20_May.hs : Nat → radomeref20_May.Hs
 | 0 => ⟨fun _ _ _ _ => none, fun _ _ _ _ _ => none⟩
 | k + 1 => ⟨fun x0 x1 x2 x3 => radomeref20_May.b0 k (radomeref20_May.hs k) x0 x1 x2 x3, fun x0 x1 x2 x3 x4 => radomeref20_May.b1 k (radomeref20_May.hs k) x0 x1 x2 x3 x4⟩
noncomputable def radomeref20_May.f (k : Nat) (c_ : radomeref20_Costs) : Option Bool := (fun h : radomeref20_May.Hs => if (((decide (64 < (c_.f_Rows.length : Int))) || (decide (c_.f_Miss < 0))) || (decide (4096 < c_.f_Miss))) = true then (some (false)) else (h.l0 c_.f_Rows c_.f_Miss false 0)) (radomeref20_May.hs k)
noncomputable def radomeref20_May.Kl0 : List Item := .code (lopB (blkB (seqR (seqL (seqR (seqR radomeref20_May.C)))))) :: .inLoop (lopB (blkB (seqR (seqL (seqR (seqR radomeref20_May.C)))))) :: .inBlock 0 :: .code (seqR (seqR (seqR radomeref20_May.C))) :: []
noncomputable def radomeref20_May.Kl1 : List Item := .code (lopB (blkB (seqR (seqR (blkB (seqL (seqR (lopB (blkB (seqR (seqL (seqR (seqR radomeref20_May.C))))))))))))) :: .inLoop (lopB (blkB (seqR (seqR (blkB (seqL (seqR (lopB (blkB (seqR (seqL (seqR (seqR radomeref20_May.C))))))))))))) :: .inBlock 2 :: .inBlock 1 :: .code (seqR (seqR (lopB (blkB (seqR (seqL (seqR (seqR radomeref20_May.C)))))))) :: .inLoop (lopB (blkB (seqR (seqL (seqR (seqR radomeref20_May.C)))))) :: .inBlock 0 :: .code (seqR (seqR (seqR radomeref20_May.C))) :: []
structure radomeref20_May.OK (h : radomeref20_May.Hs) : Prop where
 l0 : ∀ {H0 H : Hp} {L : Items} {r : Bool} {jk_ : Nat → Value} {c_0 : List (List Int)} {c_1 : Int} {t2 : Bool} {i : Int} {v_c_0 : Value} {b_c_ : Nat} (_ : H0.le H) (_he : h.l0 c_0 c_1 t2 i = some r) (_h_c_0 : Ro (Kd.slice kI64) H v_c_0 c_0), Wp Tryd.prog 8 77 radomeref20_May.Kl0 (upd (upd (upd jk_ 1 (.pointer (some ⟨b_c_, 0, none⟩))) 2 (.bool t2)) 3 (.int .i64 i)) H (some (b_c_, .cells ⟨[v_c_0, .int .i64 c_1]⟩ 24 (0, 0)) :: L) (radomeref20_May.R H0 L r)
 l1 : ∀ {H0 H : Hp} {L : Items} {r : Bool} {jk_ : Nat → Value} {c_0 : List (List Int)} {c_1 : Int} {t2 : Bool} {i : Int} {k_ : Int} {v_c_0 : Value} {b_c_ : Nat} (_ : H0.le H) (_he : h.l1 c_0 c_1 t2 i k_ = some r) (_h_c_0 : Ro (Kd.slice kI64) H v_c_0 c_0), Wp Tryd.prog 8 77 radomeref20_May.Kl1 (upd (upd (upd (upd jk_ 1 (.pointer (some ⟨b_c_, 0, none⟩))) 2 (.bool t2)) 3 (.int .i64 i)) 4 (.int .i64 k_)) H (some (b_c_, .cells ⟨[v_c_0, .int .i64 c_1]⟩ 24 (0, 0)) :: L) (radomeref20_May.R H0 L r)
theorem radomeref20_May.b0_ok {k : Nat} {h : radomeref20_May.Hs} (hh : radomeref20_May.OK h) {H0 H : Hp} {L : Items} {r : Bool} {jk_ : Nat → Value} {c_0 : List (List Int)} {c_1 : Int} {t2 : Bool} {i : Int} {v_c_0 : Value} {b_c_ : Nat} (hle : H0.le H) (he : radomeref20_May.b0 k h c_0 c_1 t2 i = some r) (h_c_0 : Ro (Kd.slice kI64) H v_c_0 c_0) : Wp Tryd.prog 8 77 radomeref20_May.Kl0 (upd (upd (upd jk_ 1 (.pointer (some ⟨b_c_, 0, none⟩))) 2 (.bool t2)) 3 (.int .i64 i)) H (some (b_c_, .cells ⟨[v_c_0, .int .i64 c_1]⟩ 24 (0, 0)) :: L) (radomeref20_May.R H0 L r) := by
 unfold radomeref20_May.b0 at he
 unfold radomeref20_May.Kl0
 refine w_seq <| wR rfl <| wM (.int .i64 i) rfl rfl <| w_d rfl (d_fld (o' := 0) Tryd.underlying24 rfl sz22 rfl rfl rfl) <| wL v_c_0 ty22 rfl rfl .here rfl rfl <| w_d rfl (d_len Tryd.underlying22 rfl h_c_0.src) <| w_d rfl (d_lss rfl rfl) <| w_done ?_
 rcases its he with ⟨c9, he⟩ | ⟨c9, he⟩
 ·
  refine w_then rfl (dt c9) <| w_skip <| w_seq <| w_block <| w_seq <| w_seq ?_
  obtain ⟨c10, he⟩ := rq he
  obtain ⟨_, l11, r12⟩ := el_ro (kd := (Kd.slice kI64)) h_c_0 c10
  obtain ⟨v13, rfl, h14⟩ := r12
  obtain ⟨c15, he⟩ := rq he
  obtain ⟨_, l16, r17⟩ := el_ro (kd := (Kd.slice kI64)) h_c_0 c15
  obtain ⟨v18, rfl, h19⟩ := r17
  refine w_drawn (p := 16) (tl := [16, 17, 18, 19, 20]) [[], [(0, some 26)], [], [(1, some 27), (2, some 28)], [(3, some 29)], [(4, some 30)], [], [(6, some 32)], [(7, some 33)], [(8, some 34)], [(9, some 35)], [(5, some 31), (10, some 36)], [(11, some 37)], [(12, some 38)], [(12, some 38), (13, some 39)], [(12, some 38)]] [some 26, some 27, some 28, some 29, some 30, some 31, some 32, some 33, some 34, some 35, some 36, some 37, some 38, some 39, some 40, some 41] (fctF (.is (.pointer (some ⟨b_c_, 0, none⟩)) :: .is (v_c_0) :: .is (.int .i64 i) :: .is (.pointer (some (pel v_c_0 i 1))) :: .is (v13) :: .is (.int .i64 ((rd c_0 i).length : Int)) :: .is (.pointer (some ⟨b_c_, 0, none⟩)) :: .is (v_c_0) :: .is (.pointer (some (pel v_c_0 0 1))) :: .is (v18) :: .is (.int .i64 ((rd c_0 0).length : Int)) :: .is (.bool (!decide (((rd c_0 i).length : Int) = ((rd c_0 0).length : Int)))) :: .is (.bool (!decide (((rd c_0 i).length : Int) = ((rd c_0 0).length : Int)))) :: .is (cond (!(!decide (((rd c_0 i).length : Int) = ((rd c_0 0).length : Int)))) (.pointer (some ⟨b_c_, 0, none⟩)) undef) :: .is (cond (!(!decide (((rd c_0 i).length : Int) = ((rd c_0 0).length : Int)))) v_c_0 undef) :: .is (cond (!(!decide (((rd c_0 i).length : Int) = ((rd c_0 0).length : Int)))) (.int .i64 i) undef) :: [])) (fun m_ => some (b_c_, .cells ⟨[v_c_0, .int .i64 c_1]⟩ 24 (0, 0)) :: L) (fun _ => none) mixed (by kernel_rfl) (by kernel_rfl) rfl (fct_mono (by kernel_rfl)) ⟨(fun H' m_ hH hm_ hu_ => dn <| s_d (m_ 0) rfl (d_fld (o' := 0) Tryd.underlying24 rfl sz22 rfl rfl rfl) (by exact rfl) rfl), (by rintro H' m_ hH hm_ hu_ _ rfl; exact dn <| s_d (m_ 1) rfl (d_loado (v := v_c_0) ty22 rfl .here rfl rfl rfl rfl) (by exact rfl) rfl), (fun H' m_ hH hm_ hu_ => dn <| s_d (m_ 2) rfl (d_move (v := .int .i64 i) rfl) (by exact rfl) rfl), (by rintro H' m_ hH hm_ hu_ _ rfl _ rfl; exact dn <| s_d (m_ 3) rfl (d_index (sz := 1) Tryd.underlying22 sz32 rfl (h_c_0.mono hH).src rfl c10) (by exact rfl) rfl), (by rintro H' m_ hH hm_ hu_ _ rfl; exact dn <| s_d (m_ 4) rfl (d_load (v := v13) (cs := [v13]) ty32 rfl rfl (by decide) (l11.mono hH).lies rfl) (by exact rfl) rfl), (by rintro H' m_ hH hm_ hu_ _ rfl; exact dn <| s_d (m_ 5) rfl (d_len Tryd.underlying32 rfl (h14.mono hH).src) (by exact rfl) rfl), (fun H' m_ hH hm_ hu_ => dn <| s_d (m_ 6) rfl (d_fld (o' := 0) Tryd.underlying24 rfl sz22 rfl rfl rfl) (by exact rfl) rfl), (by rintro H' m_ hH hm_ hu_ _ rfl; exact dn <| s_d (m_ 7) rfl (d_loado (v := v_c_0) ty22 rfl .here rfl rfl rfl rfl) (by exact rfl) rfl), (by rintro H' m_ hH hm_ hu_ _ rfl; exact dn <| s_d (m_ 8) rfl (d_index (sz := 1) Tryd.underlying22 sz32 rfl (h_c_0.mono hH).src rfl c15) (by exact rfl) rfl), (by rintro H' m_ hH hm_ hu_ _ rfl; exact dn <| s_d (m_ 9) rfl (d_load (v := v18) (cs := [v18]) ty32 rfl rfl (by decide) (l16.mono hH).lies rfl) (by exact rfl) rfl), (by rintro H' m_ hH hm_ hu_ _ rfl; exact dn <| s_d (m_ 10) rfl (d_len Tryd.underlying32 rfl (h19.mono hH).src) (by exact rfl) rfl), (by rintro H' m_ hH hm_ hu_ _ rfl _ rfl; exact dn <| s_d (m_ 11) rfl (d_neq rfl rfl) (by exact rfl) rfl), (by rintro H' m_ hH hm_ hu_ _ rfl; exact dn <| s_d (m_ 12) rfl (d_move (v := .bool (!decide (((rd c_0 i).length : Int) = ((rd c_0 0).length : Int)))) rfl) (by exact rfl) rfl), (by rintro H' m_ hH hm_ hu_ _ rfl; exact dn <| s_g (g := !(!decide (((rd c_0 i).length : Int) = ((rd c_0 0).length : Int)))) (m_ 13) rfl rfl rfl wn_f (fun g20 => d_fld (o' := 0) Tryd.underlying24 rfl sz22 rfl rfl rfl) rfl (by exact fun g_ => cvt g_) (by exact fun g_ => cnt g_)), (by rintro H' m_ hH hm_ hu_ _ rfl _ rfl; exact dn <| s_g (g := !(!decide (((rd c_0 i).length : Int) = ((rd c_0 0).length : Int)))) (m_ 14) rfl rfl rfl wn_f (fun g21 => d_loado (v := v_c_0) ty22 (cvt g21) .here rfl rfl rfl rfl) rfl (by exact fun g_ => cvt g_) (by exact fun g_ => cnt g_)), (by rintro H' m_ hH hm_ hu_ _ rfl; exact dn <| s_g (g := !(!decide (((rd c_0 i).length : Int) = ((rd c_0 0).length : Int)))) (m_ 15) rfl rfl rfl wn_f (fun g22 => d_move (v := .int .i64 i) rfl) rfl (by exact fun g_ => cvt g_) (by exact fun g_ => cnt g_)), trivial⟩ ?_
  intro H23 e24
  rintro _ _ rfl _ _ rfl _ _ rfl _ _ rfl _ _ rfl _ _ rfl _ _ rfl _ _ rfl _ _ rfl _ _ rfl _ _ rfl _ _ rfl _ _ rfl _ _ rfl _ _ rfl _ _ rfl
  obtain ⟨c26, he⟩ := rq he
  refine w_g (g := !(!decide (((rd c_0 i).length : Int) = ((rd c_0 0).length : Int)))) rfl rfl rfl wn_f (fun g25 => d_index (sz := 1) Tryd.underlying22 sz32 (cvt g25) (h_c_0.mono e24).src (cvt g25) (c26 g25)) ?_
  obtain ⟨v29, l28, h30⟩ : ∃ v29 : Value, ((!(!decide (((rd c_0 i).length : Int) = ((rd c_0 0).length : Int)))) = true → Cells H23 (pel v_c_0 i 1) [v29]) ∧ ((!(!decide (((rd c_0 i).length : Int) = ((rd c_0 0).length : Int)))) = true → Ro kI64 H23 v29 (rd c_0 i)) := if g_ : (!(!decide (((rd c_0 i).length : Int) = ((rd c_0 0).length : Int)))) = true then (by obtain ⟨_, l_, r_⟩ := el_ro (kd := (Kd.slice kI64)) (h_c_0.mono e24) (c26 g_); obtain ⟨v29, rfl, h30⟩ := r_; exact ⟨v29, fun _ => l_, fun _ => h30⟩) else ⟨undef, fun h_ => absurd h_ g_, fun h_ => absurd h_ g_⟩
  refine w_g (g := !(!decide (((rd c_0 i).length : Int) = ((rd c_0 0).length : Int)))) rfl rfl rfl wn_f (fun g27 => d_load (v := v29) (cs := [v29]) ty32 (cvt g27) rfl (by decide) ((l28 g27)).lies rfl) <| w_g (g := !(!decide (((rd c_0 i).length : Int) = ((rd c_0 0).length : Int)))) rfl rfl rfl wn_f (fun g31 => d_len Tryd.underlying32 (cvt g31) (h30 g31).src) <| w_g (g := !(!decide (((rd c_0 i).length : Int) = ((rd c_0 0).length : Int)))) rfl rfl rfl wn_f (fun g32 => d_gtr (cvt g32) rfl) <| w_d rfl (d_or' (b := (!decide (((rd c_0 i).length : Int) = ((rd c_0 0).length : Int)))) (p := (decide (64 < ((rd c_0 i).length : Int)))) rfl rfl rfl) <| w_done ?_
  rcases its he with ⟨c33, he⟩ | ⟨c33, he⟩
  ·
   refine w_then rfl c33 <| wR rfl <| wA (.bool false) rfl rfl <| w_done ?_
   obtain rfl := sj he
   refine w_return fn_8 rs_8 (.tmp (v := .bool false) rfl .nil) <| ⟨⟨[_], rfl⟩, hle.trans e24, rfl⟩
  ·
   refine w_else rfl (Bool.eq_false_iff.2 c33) <| w_skip <| wR rfl <| wA (.int .i64 0) rfl rfl <| w_done <| w_block <| w_loop <| w_sl 1 (.pointer (some ⟨b_c_, 0, none⟩)) rfl <| w_sl 2 (.bool t2) rfl <| w_sl 3 (.int .i64 i) rfl <| w_sl 4 (.int .i64 0) rfl <| hh.l1 (hle.trans e24) he (h_c_0.mono e24)
 ·
  refine w_else rfl (df c9) <| w_exit rfl <| wR rfl <| wA (.bool true) rfl rfl <| w_done ?_
  obtain rfl := sj he
  refine w_return fn_8 rs_8 (.tmp (v := .bool true) rfl .nil) <| ⟨⟨[_], rfl⟩, hle, rfl⟩
theorem radomeref20_May.b1_ok {k : Nat} {h : radomeref20_May.Hs} (hh : radomeref20_May.OK h) {H0 H : Hp} {L : Items} {r : Bool} {jk_ : Nat → Value} {c_0 : List (List Int)} {c_1 : Int} {t2 : Bool} {i : Int} {k_ : Int} {v_c_0 : Value} {b_c_ : Nat} (hle : H0.le H) (he : radomeref20_May.b1 k h c_0 c_1 t2 i k_ = some r) (h_c_0 : Ro (Kd.slice kI64) H v_c_0 c_0) : Wp Tryd.prog 8 77 radomeref20_May.Kl1 (upd (upd (upd (upd jk_ 1 (.pointer (some ⟨b_c_, 0, none⟩))) 2 (.bool t2)) 3 (.int .i64 i)) 4 (.int .i64 k_)) H (some (b_c_, .cells ⟨[v_c_0, .int .i64 c_1]⟩ 24 (0, 0)) :: L) (radomeref20_May.R H0 L r) := by
 unfold radomeref20_May.b1 at he
 unfold radomeref20_May.Kl1
 refine w_seq <| wR rfl <| wM (.int .i64 k_) rfl rfl <| w_d rfl (d_fld (o' := 0) Tryd.underlying24 rfl sz22 rfl rfl rfl) <| wL v_c_0 ty22 rfl rfl .here rfl rfl <| wM (.int .i64 i) rfl rfl ?_
 obtain ⟨c34, he⟩ := rq he
 refine w_d rfl (d_index (sz := 1) Tryd.underlying22 sz32 rfl h_c_0.src rfl c34) ?_
 obtain ⟨_, l35, r36⟩ := el_ro (kd := (Kd.slice kI64)) h_c_0 c34
 obtain ⟨v37, rfl, h38⟩ := r36
 refine w_d rfl (d_load (v := v37) (cs := [v37]) ty32 rfl rfl (by decide) (l35).lies rfl) <| w_d rfl (d_len Tryd.underlying32 rfl h38.src) <| w_d rfl (d_lss rfl rfl) <| w_done ?_
 rcases its he with ⟨c39, he⟩ | ⟨c39, he⟩
 ·
  refine w_then rfl (dt c39) <| w_skip <| w_seq <| w_block <| wR rfl <| w_d rfl (d_fld (o' := 0) Tryd.underlying24 rfl sz22 rfl rfl rfl) <| wL v_c_0 ty22 rfl rfl .here rfl rfl <| wM (.int .i64 i) rfl rfl ?_
  obtain ⟨c40, he⟩ := rq he
  refine w_d rfl (d_index (sz := 1) Tryd.underlying22 sz32 rfl h_c_0.src rfl c40) ?_
  obtain ⟨_, l41, r42⟩ := el_ro (kd := (Kd.slice kI64)) h_c_0 c40
  obtain ⟨v43, rfl, h44⟩ := r42
  refine w_d rfl (d_load (v := v43) (cs := [v43]) ty32 rfl rfl (by decide) (l41).lies rfl) <| wM (.int .i64 k_) rfl rfl ?_
  obtain ⟨c45, he⟩ := rq he
  refine w_d rfl (d_index (sz := 1) Tryd.underlying32 sz2 rfl h44.src rfl c45) <| w_d rfl (d_ldint ty2 rfl h44.src c45) <| w_d rfl (d_lss rfl rfl) <| wM (.bool (decide ((rd (rd c_0 i) k_) < (-1)))) rfl rfl <| w_g (g := !(decide ((rd (rd c_0 i) k_) < (-1)))) rfl rfl rfl wn_f (fun g46 => d_fld (o' := 0) Tryd.underlying24 rfl sz22 rfl rfl rfl) <| w_g (g := !(decide ((rd (rd c_0 i) k_) < (-1)))) rfl rfl rfl wn_f (fun g47 => d_loado (v := v_c_0) ty22 (cvt g47) .here rfl rfl rfl rfl) <| w_g (g := !(decide ((rd (rd c_0 i) k_) < (-1)))) rfl rfl rfl wn_f (fun g48 => d_move (v := .int .i64 i) rfl) ?_
  obtain ⟨c50, he⟩ := rq he
  refine w_g (g := !(decide ((rd (rd c_0 i) k_) < (-1)))) rfl rfl rfl wn_f (fun g49 => d_index (sz := 1) Tryd.underlying22 sz32 (cvt g49) h_c_0.src (cvt g49) (c50 g49)) ?_
  obtain ⟨v53, l52, h54⟩ : ∃ v53 : Value, ((!(decide ((rd (rd c_0 i) k_) < (-1)))) = true → Cells H (pel v_c_0 i 1) [v53]) ∧ ((!(decide ((rd (rd c_0 i) k_) < (-1)))) = true → Ro kI64 H v53 (rd c_0 i)) := if g_ : (!(decide ((rd (rd c_0 i) k_) < (-1)))) = true then (by obtain ⟨_, l_, r_⟩ := el_ro (kd := (Kd.slice kI64)) h_c_0 (c50 g_); obtain ⟨v53, rfl, h54⟩ := r_; exact ⟨v53, fun _ => l_, fun _ => h54⟩) else ⟨undef, fun h_ => absurd h_ g_, fun h_ => absurd h_ g_⟩
  refine w_g (g := !(decide ((rd (rd c_0 i) k_) < (-1)))) rfl rfl rfl wn_f (fun g51 => d_load (v := v53) (cs := [v53]) ty32 (cvt g51) rfl (by decide) ((l52 g51)).lies rfl) <| w_g (g := !(decide ((rd (rd c_0 i) k_) < (-1)))) rfl rfl rfl wn_f (fun g55 => d_move (v := .int .i64 k_) rfl) ?_
  obtain ⟨c57, he⟩ := rq he
  refine w_g (g := !(decide ((rd (rd c_0 i) k_) < (-1)))) rfl rfl rfl wn_f (fun g56 => d_index (sz := 1) Tryd.underlying32 sz2 (cvt g56) (h54 g56).src (cvt g56) (c57 g56)) <| w_g (g := !(decide ((rd (rd c_0 i) k_) < (-1)))) rfl rfl rfl wn_f (fun g58 => d_ldint ty2 (cvt g58) (h54 g58).src (c57 g58)) <| w_g (g := !(decide ((rd (rd c_0 i) k_) < (-1)))) rfl rfl rfl wn_f (fun g59 => d_gtr (cvt g59) rfl) <| w_d rfl (d_or' (b := (decide ((rd (rd c_0 i) k_) < (-1)))) (p := (decide (4096 < (rd (rd c_0 i) k_)))) rfl rfl rfl) <| w_done ?_
  rcases its he with ⟨c60, he⟩ | ⟨c60, he⟩
  ·
   refine w_then rfl c60 <| wR rfl <| wA (.bool false) rfl rfl <| w_done ?_
   obtain rfl := sj he
   refine w_return fn_8 rs_8 (.tmp (v := .bool false) rfl .nil) <| ⟨⟨[_], rfl⟩, hle, rfl⟩
  ·
   refine w_else rfl (Bool.eq_false_iff.2 c60) <| w_skip <| w_inBlock <| w_region rfl <| wM (.int .i64 k_) rfl rfl <| w_d rfl (d_add (c := w64 (k_ + 1)) rfl rfl rfl) <| wA (.int .i64 (w64 (k_ + 1))) rfl rfl <| w_done <| w_inLoop <| w_sl 1 (.pointer (some ⟨b_c_, 0, none⟩)) rfl <| w_sl 2 (.bool t2) rfl <| w_sl 3 (.int .i64 i) rfl ?_
   refine w_sl 4 (.int .i64 (w64 (k_ + 1))) rfl <| hh.l1 hle he h_c_0
 ·
  refine w_else rfl (df c39) <| w_exit rfl <| w_inBlock <| w_region rfl <| wM (.int .i64 i) rfl rfl <| w_d rfl (d_add (c := w64 (i + 1)) rfl rfl rfl) <| wA (.int .i64 (w64 (i + 1))) rfl rfl <| w_done <| w_inLoop <| w_sl 1 (.pointer (some ⟨b_c_, 0, none⟩)) rfl <| w_sl 2 (.bool t2) rfl <| w_sl 3 (.int .i64 (w64 (i + 1))) rfl <| hh.l0 hle he h_c_0
theorem radomeref20_May.ok : ∀ k, radomeref20_May.OK (radomeref20_May.hs k)
 | 0 => ⟨(by intros; exact nomatch (show none = some _ from by assumption)), (by intros; exact nomatch (show none = some _ from by assumption))⟩
 | k + 1 => ⟨radomeref20_May.b0_ok (k := k) (radomeref20_May.ok k), radomeref20_May.b1_ok (k := k) (radomeref20_May.ok k)⟩
theorem radomeref20_May.calls (k : Nat) {H : Hp} {L : Items} {c_ : radomeref20_Costs} {v0_c_ : Value} {r : Bool} (he : radomeref20_May.f k c_ = some r) (h0_c_ : Ro (Kd.slice kI64) H v0_c_ c_.f_Rows) : Ct Tryd.prog 8 ⟨[.agg ⟨[v0_c_, .int .i64 c_.f_Miss]⟩]⟩ H L (fun v H' L' => L = L' ∧ H = H' ∧ v = .bool r) := by
 refine ct_outs (O := radomeref20_May.out r) (fun _ _ h => h) ?_
 have hle : H.le H := .refl _
 have hh := radomeref20_May.ok k
 unfold radomeref20_May.f at he
 refine ct_enter (args := [.agg ⟨[v0_c_, .int .i64 c_.f_Miss]⟩]) fn_8 rfl nt_8 rfl <| wR rfl <| w_a rfl (o_box (v := .agg ⟨[v0_c_, .int .i64 c_.f_Miss]⟩) rfl rfl) ?_
 rintro _ _ _ ⟨b1, rfl, rfl, rfl⟩
 refine wA (.bool false) rfl rfl <| wE <| wR rfl <| w_d rfl (d_fld (o' := 0) Tryd.underlying24 rfl sz22 rfl rfl rfl) <| wL v0_c_ ty22 rfl rfl .here rfl rfl <| w_d rfl (d_len Tryd.underlying22 rfl h0_c_.src) <| w_d rfl (d_gtr rfl rfl) <| wM (.bool (decide (64 < (c_.f_Rows.length : Int)))) rfl rfl <| w_g (g := !(decide (64 < (c_.f_Rows.length : Int)))) rfl rfl rfl wn_f (fun g2 => d_fld (o' := 1) Tryd.underlying24 rfl sz2 rfl rfl rfl) <| w_g (g := !(decide (64 < (c_.f_Rows.length : Int)))) rfl rfl rfl wn_f (fun g3 => d_loado (v := .int .i64 c_.f_Miss) ty2 (cvt g3) .here rfl rfl rfl rfl) ?_
 refine w_g (g := !(decide (64 < (c_.f_Rows.length : Int)))) rfl rfl rfl wn_f (fun g4 => d_lss (cvt g4) rfl) <| w_d rfl (d_or' (b := (decide (64 < (c_.f_Rows.length : Int)))) (p := (decide (c_.f_Miss < 0))) rfl rfl rfl) <| wM (.bool ((decide (64 < (c_.f_Rows.length : Int))) || (decide (c_.f_Miss < 0)))) rfl rfl <| w_g (g := !((decide (64 < (c_.f_Rows.length : Int))) || (decide (c_.f_Miss < 0)))) rfl rfl rfl wn_f (fun g5 => d_fld (o' := 1) Tryd.underlying24 rfl sz2 rfl rfl rfl) <| w_g (g := !((decide (64 < (c_.f_Rows.length : Int))) || (decide (c_.f_Miss < 0)))) rfl rfl rfl wn_f (fun g6 => d_loado (v := .int .i64 c_.f_Miss) ty2 (cvt g6) .here rfl rfl rfl rfl) <| w_g (g := !((decide (64 < (c_.f_Rows.length : Int))) || (decide (c_.f_Miss < 0)))) rfl rfl rfl wn_f (fun g7 => d_gtr (cvt g7) rfl) <| w_d rfl (d_or' (b := ((decide (64 < (c_.f_Rows.length : Int))) || (decide (c_.f_Miss < 0)))) (p := (decide (4096 < c_.f_Miss))) rfl rfl rfl) <| w_done ?_
 rcases its he with ⟨c8, he⟩ | ⟨c8, he⟩
 ·
  refine w_then rfl c8 <| wR rfl <| wA (.bool false) rfl rfl <| w_done ?_
  obtain rfl := sj he
  refine w_return fn_8 rs_8 (.tmp (v := .bool false) rfl .nil) <| ⟨⟨[_], rfl⟩, hle, rfl⟩
 ·
  refine w_else rfl (Bool.eq_false_iff.2 c8) <| w_skip <| w_seq <| wR rfl <| wA (.int .i64 0) rfl rfl <| w_done <| w_block <| w_loop <| w_sl 1 (.pointer (some ⟨b1, 0, none⟩)) rfl <| w_sl 2 (.bool false) rfl <| w_sl 3 (.int .i64 0) rfl <| hh.l0 hle he h0_c_
end Go.Proofs.YtacbficpehmlnaaDoor.GBS

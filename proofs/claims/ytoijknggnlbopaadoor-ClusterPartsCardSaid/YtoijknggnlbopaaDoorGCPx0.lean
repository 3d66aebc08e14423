/- A text of this session, written by a program (wip/k/gen.py): Go functions as Lean functions, and proofs that the code comes to them. -/
import Derived.Test.YtoijknggnlbopaaDoorGCPt
namespace Go.Proofs.YtoijknggnlbopaaDoor.GCP
open Go Go.RowKit Go.Proofs.YtoijknggnlbopaaDoorK Go.Proofs.YtoijknggnlbopaaDoor
set_option maxRecDepth 100000
set_option maxHeartbeats 2000000
set_option linter.unusedVariables false
set_option linter.unusedSimpArgs false
/-! ### radome/cluster.Check -/
noncomputable def cluster_Check.C : Code := (Tryd.f36.body).getD .skip
def cluster_Check.out (r : (Option Int)) (H : Hp) (v : Value) : Prop := v = errV 99 r
abbrev cluster_Check.R (H0 : Hp) (L : Items) (r : (Option Int)) : Value → Hp → Items → Prop := fun v H' L' => (∃ p, L' = p ++ L) ∧ H0.le H' ∧ cluster_Check.out r H' v
structure cluster_Check.Hs where
 l0 : Int → (Option Int) → (List (List Int)) → Int → Int → Option (Option Int)
 l1 : Int → (Option Int) → (List Int) → (List (List Int)) → Int → Int → (List Int) → Int → Int → Option (Option Int)
noncomputable def cluster_Check.b0 (k : Nat) (h : cluster_Check.Hs)  (plots : Int) (t4 : Option Int) (t20 : List (List Int)) (t21 : Int) (t22 : Int) : Option (Option Int) := if t22 < t21 then (if (0 : Int) ≤ t22 ∧ t22 < (t20.length : Int) then (h.l1 plots t4 (rd t20 t22) t20 t21 t22 (rd t20 t22) ((rd t20 t22).length : Int) 0) else none) else (some (none))
noncomputable def cluster_Check.b1 (k : Nat) (h : cluster_Check.Hs)  (plots : Int) (t4 : Option Int) (l : List Int) (t20 : List (List Int)) (t21 : Int) (t22 : Int) (t26 : List Int) (t27 : Int) (t28 : Int) : Option (Option Int) := if t28 < t27 then (if (0 : Int) ≤ t28 ∧ t28 < (t26.length : Int) then (if ((!((decide ((rd t26 t28) < 0)) || (decide (plots ≤ (rd t26 t28))))) && (decide (0 < t28))) = true → (0 : Int) ≤ w64 (t28 - 1) ∧ w64 (t28 - 1) < (l.length : Int) then (if (((decide ((rd t26 t28) < 0)) || (decide (plots ≤ (rd t26 t28)))) || ((decide (0 < t28)) && (decide ((rd t26 t28) ≤ (rd l (w64 (t28 - 1))))))) = true then (some (some 1)) else (h.l1 plots t4 l t20 t21 t22 t26 t27 (w64 (t28 + 1)))) else none) else none) else (h.l0 plots t4 t20 t21 (w64 (t22 + 1)))
noncomputable def cluster_Check.hs : Nat → cluster_Check.Hs
 | 0 => ⟨fun _ _ _ _ _ => none, fun _ _ _ _ _ _ _ _ _ => none⟩
 | k + 1 => ⟨fun x0 x1 x2 x3 x4 => cluster_Check.b0 k (cluster_Check.hs k) x0 x1 x2 x3 x4, fun x0 x1 x2 x3 x4 x5 x6 x7 x8 => cluster_Check.b1 k (cluster_Check.hs k) x0 x1 x2 x3 x4 x5 x6 x7 x8⟩
noncomputable def cluster_Check.f (k : Nat) (pairs : List (List Int)) (plots : Int) : Option (Option Int) := (fun h : cluster_Check.Hs => if 64 < (pairs.length : Int) then (some (some 2)) else (if ((decide (plots < 0)) || (decide (64 < plots))) = true then (some (some 1)) else (h.l0 plots none pairs (pairs.length : Int) 0))) (cluster_Check.hs k)
structure cluster_Check.LE (h h' : cluster_Check.Hs) : Prop where
 l0 : ∀ y0 y1 y2 y3 y4, LeO (h.l0 y0 y1 y2 y3 y4) (h'.l0 y0 y1 y2 y3 y4)
 l1 : ∀ y0 y1 y2 y3 y4 y5 y6 y7 y8, LeO (h.l1 y0 y1 y2 y3 y4 y5 y6 y7 y8) (h'.l1 y0 y1 y2 y3 y4 y5 y6 y7 y8)
theorem cluster_Check.b0_mono {k : Nat} {h h' : cluster_Check.Hs} (hl : cluster_Check.LE h h') : ∀ y0 y1 y2 y3 y4, LeO (cluster_Check.b0 k h y0 y1 y2 y3 y4) (cluster_Check.b0 (k + 1) h' y0 y1 y2 y3 y4) := fun _ _ _ _ _ => (LeO.ite (LeO.ite (hl.l1 _ _ _ _ _ _ _ _ _) (LeO.refl _)) (LeO.refl _))
theorem cluster_Check.b1_mono {k : Nat} {h h' : cluster_Check.Hs} (hl : cluster_Check.LE h h') : ∀ y0 y1 y2 y3 y4 y5 y6 y7 y8, LeO (cluster_Check.b1 k h y0 y1 y2 y3 y4 y5 y6 y7 y8) (cluster_Check.b1 (k + 1) h' y0 y1 y2 y3 y4 y5 y6 y7 y8) := fun _ _ _ _ _ _ _ _ _ => (LeO.ite (LeO.ite (LeO.ite (LeO.ite (LeO.refl _) (hl.l1 _ _ _ _ _ _ _ _ _)) (LeO.refl _)) (LeO.refl _)) (hl.l0 _ _ _ _ _))
theorem cluster_Check.hs_mono : ∀ k, cluster_Check.LE (cluster_Check.hs k) (cluster_Check.hs (k + 1))
 | 0 => ⟨fun _ _ _ _ _ => LeO.none _, fun _ _ _ _ _ _ _ _ _ => LeO.none _⟩
 | k + 1 => ⟨cluster_Check.b0_mono (k := k) (cluster_Check.hs_mono k), cluster_Check.b1_mono (k := k) (cluster_Check.hs_mono k)⟩
theorem cluster_Check.mono : ∀ k y0 y1, LeO (cluster_Check.f k y0 y1) (cluster_Check.f (k + 1) y0 y1) := fun k _ _ => have hl := cluster_Check.hs_mono k; by unfold cluster_Check.f; exact (LeO.ite (LeO.refl _) (LeO.ite (LeO.refl _) (hl.l0 _ _ _ _ _)))
noncomputable def cluster_Check.Kl0 : List Item := .code (lopB (blkB (seqR (seqL (seqR (seqR (seqR cluster_Check.C))))))) :: .inLoop (lopB (blkB (seqR (seqL (seqR (seqR (seqR cluster_Check.C))))))) :: .inBlock 0 :: .code (seqR (seqR (seqR (seqR cluster_Check.C)))) :: []
noncomputable def cluster_Check.Kl1 : List Item := .code (lopB (blkB (seqR (seqR (blkB (seqL (seqR (seqR (lopB (blkB (seqR (seqL (seqR (seqR (seqR cluster_Check.C))))))))))))))) :: .inLoop (lopB (blkB (seqR (seqR (blkB (seqL (seqR (seqR (lopB (blkB (seqR (seqL (seqR (seqR (seqR cluster_Check.C))))))))))))))) :: .inBlock 2 :: .inBlock 1 :: .code (seqR (seqR (seqR (lopB (blkB (seqR (seqL (seqR (seqR (seqR cluster_Check.C)))))))))) :: .inLoop (lopB (blkB (seqR (seqL (seqR (seqR (seqR cluster_Check.C))))))) :: .inBlock 0 :: .code (seqR (seqR (seqR (seqR cluster_Check.C)))) :: []
structure cluster_Check.OK (h : cluster_Check.Hs) : Prop where
 l0 : ∀ {H0 H : Hp} {L : Items} {r : (Option Int)} {jk_ : Nat → Value} {plots : Int} {t4 : Option Int} {t20 : List (List Int)} {t21 : Int} {t22 : Int} {v_t20 : Value} (_ : H0.le H) (_he : h.l0 plots t4 t20 t21 t22 = some r) (_h_t20 : Src (Kd.slice (Kd.int .i64)) H L v_t20 t20), Wp Tryd.prog 36 56 cluster_Check.Kl0 (upd (upd (upd (upd (upd jk_ 1 (.int .i64 plots)) 4 (errV 99 t4)) 20 (v_t20)) 21 (.int .i64 t21)) 22 (.int .i64 t22)) H (L) (cluster_Check.R H0 L r)
 l1 : ∀ {H0 H : Hp} {L : Items} {r : (Option Int)} {jk_ : Nat → Value} {plots : Int} {t4 : Option Int} {l : List Int} {t20 : List (List Int)} {t21 : Int} {t22 : Int} {t26 : List Int} {t27 : Int} {t28 : Int} {v_l : Value} {v_t20 : Value} {v_t26 : Value} (_ : H0.le H) (_he : h.l1 plots t4 l t20 t21 t22 t26 t27 t28 = some r) (_h_l : Ro (Kd.int .i64) H v_l l) (_h_t20 : Src (Kd.slice (Kd.int .i64)) H L v_t20 t20) (_h_t26 : Ro (Kd.int .i64) H v_t26 t26), Wp Tryd.prog 36 56 cluster_Check.Kl1 (upd (upd (upd (upd (upd (upd (upd (upd (upd jk_ 1 (.int .i64 plots)) 4 (errV 99 t4)) 6 (v_l)) 20 (v_t20)) 21 (.int .i64 t21)) 22 (.int .i64 t22)) 26 (v_t26)) 27 (.int .i64 t27)) 28 (.int .i64 t28)) H (L) (cluster_Check.R H0 L r)
theorem cluster_Check.b0_ok {k : Nat} {h : cluster_Check.Hs} (hh : cluster_Check.OK h) {H0 H : Hp} {L : Items} {r : (Option Int)} {jk_ : Nat → Value} {plots : Int} {t4 : Option Int} {t20 : List (List Int)} {t21 : Int} {t22 : Int} {v_t20 : Value} (hle : H0.le H) (he : cluster_Check.b0 k h plots t4 t20 t21 t22 = some r) (h_t20 : Src (Kd.slice (Kd.int .i64)) H L v_t20 t20) : Wp Tryd.prog 36 56 cluster_Check.Kl0 (upd (upd (upd (upd (upd jk_ 1 (.int .i64 plots)) 4 (errV 99 t4)) 20 (v_t20)) 21 (.int .i64 t21)) 22 (.int .i64 t22)) H (L) (cluster_Check.R H0 L r) := by
 unfold cluster_Check.b0 at he
 unfold cluster_Check.Kl0
 refine w_seq <| w_region rfl <| w_d rfl (d_lss rfl rfl) <| w_done <| w_seq ?_
 rcases its he with ⟨c5, he⟩ | ⟨c5, he⟩
 ·
  refine w_then rfl (decide_eq_true c5) <| w_skip <| w_seq <| w_block <| w_seq <| w_region rfl ?_
  obtain ⟨c6, he⟩ := rq he
  refine w_d rfl (d_index (sz := 1) Tryd.underlying81 sz85 rfl h_t20 rfl c6) ?_
  obtain ⟨_, l7, r8⟩ := el_of (kd := (Kd.slice (Kd.int .i64))) h_t20 c6
  obtain ⟨v9, rfl, h10⟩ := r8
  refine w_d rfl (d_load (v := v9) (cs := [v9]) ty85 rfl rfl (by decide) l7 rfl) <| w_d rfl (d_assign (v := v9) rfl) <| w_done <| w_seq <| w_region rfl <| w_d rfl (d_move (v := v9) rfl) <| w_d rfl (d_len Tryd.underlying85 rfl h10.src) <| w_d rfl (d_move (v := .int .i64 0) rfl) <| w_done <| w_block <| w_loop <| w_sl 1 (.int .i64 plots) rfl ?_
  refine w_sl 4 (errV 99 t4) rfl <| w_sl 6 (v9) rfl <| w_sl 20 (v_t20) rfl <| w_sl 21 (.int .i64 t21) rfl <| w_sl 22 (.int .i64 t22) rfl <| w_sl 26 (v9) rfl <| w_sl 27 (.int .i64 ((rd t20 t22).length : Int)) rfl <| w_sl 28 (.int .i64 0) rfl <| hh.l1 hle he h10 h_t20 h10
 ·
  refine w_else rfl (decide_eq_false c5) <| w_exit rfl <| w_seq <| w_region rfl <| w_d rfl (d_assign (v := errV 99 none) rfl) <| w_done ?_
  obtain rfl := Option.some.inj he
  refine w_return fn_36 rs_36 (.tmp (v := errV 99 none) rfl .nil) <| ⟨⟨[], rfl⟩, hle, rfl⟩
theorem cluster_Check.b1_ok {k : Nat} {h : cluster_Check.Hs} (hh : cluster_Check.OK h) {H0 H : Hp} {L : Items} {r : (Option Int)} {jk_ : Nat → Value} {plots : Int} {t4 : Option Int} {l : List Int} {t20 : List (List Int)} {t21 : Int} {t22 : Int} {t26 : List Int} {t27 : Int} {t28 : Int} {v_l : Value} {v_t20 : Value} {v_t26 : Value} (hle : H0.le H) (he : cluster_Check.b1 k h plots t4 l t20 t21 t22 t26 t27 t28 = some r) (h_l : Ro (Kd.int .i64) H v_l l) (h_t20 : Src (Kd.slice (Kd.int .i64)) H L v_t20 t20) (h_t26 : Ro (Kd.int .i64) H v_t26 t26) : Wp Tryd.prog 36 56 cluster_Check.Kl1 (upd (upd (upd (upd (upd (upd (upd (upd (upd jk_ 1 (.int .i64 plots)) 4 (errV 99 t4)) 6 (v_l)) 20 (v_t20)) 21 (.int .i64 t21)) 22 (.int .i64 t22)) 26 (v_t26)) 27 (.int .i64 t27)) 28 (.int .i64 t28)) H (L) (cluster_Check.R H0 L r) := by
 unfold cluster_Check.b1 at he
 unfold cluster_Check.Kl1
 refine w_seq <| w_region rfl <| w_d rfl (d_lss rfl rfl) <| w_done <| w_seq ?_
 rcases its he with ⟨c11, he⟩ | ⟨c11, he⟩
 ·
  refine w_then rfl (decide_eq_true c11) <| w_skip <| w_seq <| w_block <| w_seq <| w_region rfl <| w_d rfl (d_move (v := .int .i64 t28) rfl) ?_
  obtain ⟨c12, he⟩ := rq he
  refine w_d rfl (d_index (sz := 1) Tryd.underlying85 sz3 rfl h_t26.src rfl c12) <| w_d rfl (d_ldint ty3 rfl h_t26.src c12) <| w_d rfl (d_assign (v := .int .i64 t28) rfl) <| w_d rfl (d_assign (v := .int .i64 (rd t26 t28)) rfl) <| w_done <| w_seq <| w_region rfl <| w_d rfl (d_move (v := .int .i64 (rd t26 t28)) rfl) <| w_d rfl (d_lss rfl rfl) <| w_d rfl (d_move (v := .bool (decide ((rd t26 t28) < 0))) rfl) <| w_g (g := !(decide ((rd t26 t28) < 0))) rfl rfl rfl wn_f (fun g13 => d_move (v := .int .i64 (rd t26 t28)) rfl) <| w_g (g := !(decide ((rd t26 t28) < 0))) rfl rfl rfl wn_f (fun g14 => d_move (v := .int .i64 plots) rfl) ?_
  refine w_g (g := !(decide ((rd t26 t28) < 0))) rfl rfl rfl wn_f (fun g15 => d_geq (cvt g15) (cvt g15)) <| w_d rfl (d_or' (b := (decide ((rd t26 t28) < 0))) (p := (decide (plots ≤ (rd t26 t28)))) rfl rfl rfl) <| w_d rfl (d_move (v := .bool ((decide ((rd t26 t28) < 0)) || (decide (plots ≤ (rd t26 t28))))) rfl) <| w_g (g := !((decide ((rd t26 t28) < 0)) || (decide (plots ≤ (rd t26 t28))))) rfl rfl rfl wn_f (fun g16 => d_move (v := .int .i64 t28) rfl) <| w_g (g := !((decide ((rd t26 t28) < 0)) || (decide (plots ≤ (rd t26 t28))))) rfl rfl rfl wn_f (fun g17 => d_gtr (cvt g17) rfl) <| w_g (g := !((decide ((rd t26 t28) < 0)) || (decide (plots ≤ (rd t26 t28))))) rfl rfl rfl wn_f (fun g18 => d_move (v := .bool (decide (0 < t28))) (cvt g18)) <| w_g (g := (!((decide ((rd t26 t28) < 0)) || (decide (plots ≤ (rd t26 t28))))) && (decide (0 < t28))) rfl rfl rfl wn_gt (fun g19 => d_move (v := v_l) rfl) <| w_g (g := (!((decide ((rd t26 t28) < 0)) || (decide (plots ≤ (rd t26 t28))))) && (decide (0 < t28))) rfl rfl rfl wn_gt (fun g20 => d_move (v := .int .i64 t28) rfl) <| w_g (g := (!((decide ((rd t26 t28) < 0)) || (decide (plots ≤ (rd t26 t28))))) && (decide (0 < t28))) rfl rfl rfl wn_gt (fun g21 => d_sub (c := w64 (t28 - 1)) (cvt g21) rfl rfl) ?_
  obtain ⟨c23, he⟩ := rq he
  refine w_g (g := (!((decide ((rd t26 t28) < 0)) || (decide (plots ≤ (rd t26 t28))))) && (decide (0 < t28))) rfl rfl rfl wn_gt (fun g22 => d_index (sz := 1) Tryd.underlying85 sz3 (cvt g22) h_l.src (cvt g22) (c23 g22)) <| w_g (g := (!((decide ((rd t26 t28) < 0)) || (decide (plots ≤ (rd t26 t28))))) && (decide (0 < t28))) rfl rfl rfl wn_gt (fun g24 => d_ldint ty3 (cvt g24) h_l.src (c23 g24)) <| w_g (g := (!((decide ((rd t26 t28) < 0)) || (decide (plots ≤ (rd t26 t28))))) && (decide (0 < t28))) rfl rfl rfl wn_gt (fun g25 => d_move (v := .int .i64 (rd t26 t28)) rfl) <| w_g (g := (!((decide ((rd t26 t28) < 0)) || (decide (plots ≤ (rd t26 t28))))) && (decide (0 < t28))) rfl rfl rfl wn_gt (fun g26 => d_geq (cvt g26) (cvt g26)) <| w_g (g := !((decide ((rd t26 t28) < 0)) || (decide (plots ≤ (rd t26 t28))))) rfl rfl rfl wn_f (fun g27 => d_and' (b := (decide (0 < t28))) (p := (decide ((rd t26 t28) ≤ (rd l (w64 (t28 - 1)))))) (cvt g27) (cva g27) rfl) <| w_d rfl (d_or' (b := ((decide ((rd t26 t28) < 0)) || (decide (plots ≤ (rd t26 t28))))) (p := ((decide (0 < t28)) && (decide ((rd t26 t28) ≤ (rd l (w64 (t28 - 1))))))) rfl rfl rfl) <| w_done ?_
  rcases its he with ⟨c28, he⟩ | ⟨c28, he⟩
  ·
   refine w_then rfl c28 <| w_seq <| w_region rfl <| w_d rfl (d_iface (v := .int .i64 1) Tryd.underlying99 rfl rfl) <| w_d rfl (d_assign (v := errV 99 (some 1)) rfl) <| w_done ?_
   obtain rfl := Option.some.inj he
   refine w_return fn_36 rs_36 (.tmp (v := errV 99 (some 1)) rfl .nil) <| ⟨⟨[], rfl⟩, hle, rfl⟩
  ·
   refine w_else rfl (Bool.eq_false_iff.2 c28) <| w_skip <| w_inBlock <| w_region rfl <| w_d rfl (d_add (c := w64 (t28 + 1)) rfl rfl rfl) <| w_d rfl (d_move (v := .int .i64 (w64 (t28 + 1))) rfl) <| w_done <| w_inLoop <| w_sl 1 (.int .i64 plots) rfl <| w_sl 4 (errV 99 t4) rfl <| w_sl 6 (v_l) rfl <| w_sl 20 (v_t20) rfl ?_
   refine w_sl 21 (.int .i64 t21) rfl <| w_sl 22 (.int .i64 t22) rfl <| w_sl 26 (v_t26) rfl <| w_sl 27 (.int .i64 t27) rfl <| w_sl 28 (.int .i64 (w64 (t28 + 1))) rfl <| hh.l1 hle he h_l h_t20 h_t26
 ·
  refine w_else rfl (decide_eq_false c11) <| w_exit rfl <| w_inBlock <| w_region rfl <| w_d rfl (d_add (c := w64 (t22 + 1)) rfl rfl rfl) <| w_d rfl (d_move (v := .int .i64 (w64 (t22 + 1))) rfl) <| w_done <| w_inLoop <| w_sl 1 (.int .i64 plots) rfl <| w_sl 4 (errV 99 t4) rfl <| w_sl 20 (v_t20) rfl <| w_sl 21 (.int .i64 t21) rfl ?_
  refine w_sl 22 (.int .i64 (w64 (t22 + 1))) rfl <| hh.l0 hle he h_t20
theorem cluster_Check.ok : ∀ k, cluster_Check.OK (cluster_Check.hs k)
 | 0 => ⟨(by intros; exact nomatch (show none = some _ from by assumption)), (by intros; exact nomatch (show none = some _ from by assumption))⟩
 | k + 1 => ⟨cluster_Check.b0_ok (k := k) (cluster_Check.ok k), cluster_Check.b1_ok (k := k) (cluster_Check.ok k)⟩
theorem cluster_Check.calls (k : Nat) {H : Hp} {L : Items} {pairs : List (List Int)} {plots : Int} {v0_pairs : Value} {r : (Option Int)} (he : cluster_Check.f k pairs plots = some r) (h0_pairs : Src (Kd.slice (Kd.int .i64)) H L v0_pairs pairs) : Ct Tryd.prog 36 ⟨[v0_pairs, .int .i64 plots]⟩ H L (fun v H' L' => L = L' ∧ H = H' ∧ v = errV 99 r) := by
 refine ct_outs (O := cluster_Check.out r) (fun _ _ h => h) ?_
 have hle : H.le H := .refl _
 have hh := cluster_Check.ok k
 unfold cluster_Check.f at he
 refine ct_enter (args := [v0_pairs, .int .i64 plots]) fn_36 rfl nt_36 rfl <| w_seq <| w_region rfl <| w_d rfl (d_assign (v := errV 99 none) rfl) <| w_done <| w_seq <| w_seq <| w_region rfl <| w_d rfl (d_move (v := v0_pairs) rfl) <| w_d rfl (d_len Tryd.underlying81 rfl h0_pairs) <| w_d rfl (d_gtr rfl rfl) <| w_done ?_
 rcases its he with ⟨c1, he⟩ | ⟨c1, he⟩
 ·
  refine w_then rfl (decide_eq_true c1) <| w_seq <| w_region rfl <| w_d rfl (d_iface (v := .int .i64 2) Tryd.underlying99 rfl rfl) <| w_d rfl (d_assign (v := errV 99 (some 2)) rfl) <| w_done ?_
  obtain rfl := Option.some.inj he
  refine w_return fn_36 rs_36 (.tmp (v := errV 99 (some 2)) rfl .nil) <| ⟨⟨[], rfl⟩, hle, rfl⟩
 ·
  refine w_else rfl (decide_eq_false c1) <| w_skip <| w_seq <| w_seq <| w_region rfl <| w_d rfl (d_move (v := .int .i64 plots) rfl) <| w_d rfl (d_lss rfl rfl) <| w_d rfl (d_move (v := .bool (decide (plots < 0))) rfl) <| w_g (g := !(decide (plots < 0))) rfl rfl rfl wn_f (fun g2 => d_move (v := .int .i64 plots) rfl) <| w_g (g := !(decide (plots < 0))) rfl rfl rfl wn_f (fun g3 => d_gtr (cvt g3) rfl) <| w_d rfl (d_or' (b := (decide (plots < 0))) (p := (decide (64 < plots))) rfl rfl rfl) <| w_done ?_
  rcases its he with ⟨c4, he⟩ | ⟨c4, he⟩
  ·
   refine w_then rfl c4 <| w_seq <| w_region rfl <| w_d rfl (d_iface (v := .int .i64 1) Tryd.underlying99 rfl rfl) <| w_d rfl (d_assign (v := errV 99 (some 1)) rfl) <| w_done ?_
   obtain rfl := Option.some.inj he
   refine w_return fn_36 rs_36 (.tmp (v := errV 99 (some 1)) rfl .nil) <| ⟨⟨[], rfl⟩, hle, rfl⟩
  ·
   refine w_else rfl (Bool.eq_false_iff.2 c4) <| w_skip <| w_seq <| w_seq <| w_region rfl <| w_d rfl (d_move (v := v0_pairs) rfl) <| w_d rfl (d_len Tryd.underlying81 rfl h0_pairs) <| w_d rfl (d_move (v := .int .i64 0) rfl) <| w_done <| w_block <| w_loop <| w_sl 1 (.int .i64 plots) rfl ?_
   refine w_sl 4 (errV 99 none) rfl <| w_sl 20 (v0_pairs) rfl <| w_sl 21 (.int .i64 (pairs.length : Int)) rfl <| w_sl 22 (.int .i64 0) rfl <| hh.l0 hle he h0_pairs
/-! ### radome/cluster.planted -/
noncomputable def cluster_planted.C : Code := (Tryd.f48.body).getD .skip
abbrev cluster_planted.out (r : (List Int)) (H : Hp) (v : Value) : Prop := Ro (Kd.int .i64) H v r
abbrev cluster_planted.R (H0 : Hp) (L : Items) (r : (List Int)) : Value → Hp → Items → Prop := fun v H' L' => (∃ p it, L' = p ++ it :: L ∧ Sl (Kd.int .i64) H' 3 it v r) ∧ H0.le H'
structure cluster_planted.Hs where
 l0 : (List Int) → Int → Int → Option (List Int)
noncomputable def cluster_planted.b0 (k : Nat) (h : cluster_planted.Hs)  (f_ : List Int) (t8 : Int) (t9 : Int) : Option (List Int) := if t9 < t8 then (if (0 : Int) ≤ t9 ∧ t9 < (f_.length : Int) then (h.l0 (f_.set (t9 : Int).toNat t9) t8 (w64 (t9 + 1))) else none) else (some (f_))
noncomputable def cluster_planted.hs : Nat → cluster_planted.Hs
 | 0 => ⟨fun _ _ _ => none⟩
 | k + 1 => ⟨fun x0 x1 x2 => cluster_planted.b0 k (cluster_planted.hs k) x0 x1 x2⟩
noncomputable def cluster_planted.f (k : Nat) (n : Int) : Option (List Int) := (fun h : cluster_planted.Hs => if 0 ≤ n ∧ n ≤ 35184372088832 then (h.l0 (List.replicate (n : Int).toNat (0 : Int)) ((List.replicate (n : Int).toNat (0 : Int)).length : Int) 0) else none) (cluster_planted.hs k)
structure cluster_planted.LE (h h' : cluster_planted.Hs) : Prop where
 l0 : ∀ y0 y1 y2, LeO (h.l0 y0 y1 y2) (h'.l0 y0 y1 y2)
theorem cluster_planted.b0_mono {k : Nat} {h h' : cluster_planted.Hs} (hl : cluster_planted.LE h h') : ∀ y0 y1 y2, LeO (cluster_planted.b0 k h y0 y1 y2) (cluster_planted.b0 (k + 1) h' y0 y1 y2) := fun _ _ _ => (LeO.ite (LeO.ite (hl.l0 _ _ _) (LeO.refl _)) (LeO.refl _))
theorem cluster_planted.hs_mono : ∀ k, cluster_planted.LE (cluster_planted.hs k) (cluster_planted.hs (k + 1))
 | 0 => ⟨fun _ _ _ => LeO.none _⟩
 | k + 1 => ⟨cluster_planted.b0_mono (k := k) (cluster_planted.hs_mono k)⟩
theorem cluster_planted.mono : ∀ k y0, LeO (cluster_planted.f k y0) (cluster_planted.f (k + 1) y0) := fun k _ => have hl := cluster_planted.hs_mono k; by unfold cluster_planted.f; exact (LeO.ite (hl.l0 _ _ _) (LeO.refl _))
noncomputable def cluster_planted.Kl0 : List Item := .code (lopB (blkB (seqR (seqL (seqR (seqR cluster_planted.C)))))) :: .inLoop (lopB (blkB (seqR (seqL (seqR (seqR cluster_planted.C)))))) :: .inBlock 0 :: .code (seqR (seqR (seqR cluster_planted.C))) :: []
structure cluster_planted.OK (h : cluster_planted.Hs) : Prop where
 l0 : ∀ {H0 H : Hp} {L : Items} {r : (List Int)} {jk_ : Nat → Value} {f_ : List Int} {t8 : Int} {t9 : Int} {v_f_ : Value} {i_f_ : Item'} (_ : H0.le H) (_he : h.l0 f_ t8 t9 = some r) (_h_f_ : Sl (Kd.int .i64) H 3 i_f_ v_f_ f_), Wp Tryd.prog 48 18 cluster_planted.Kl0 (upd (upd (upd (upd jk_ 2 (.slice none 0 0)) 3 (v_f_)) 8 (.int .i64 t8)) 9 (.int .i64 t9)) H (i_f_ :: L) (cluster_planted.R H0 L r)
theorem cluster_planted.b0_ok {k : Nat} {h : cluster_planted.Hs} (hh : cluster_planted.OK h) {H0 H : Hp} {L : Items} {r : (List Int)} {jk_ : Nat → Value} {f_ : List Int} {t8 : Int} {t9 : Int} {v_f_ : Value} {i_f_ : Item'} (hle : H0.le H) (he : cluster_planted.b0 k h f_ t8 t9 = some r) (h_f_ : Sl (Kd.int .i64) H 3 i_f_ v_f_ f_) : Wp Tryd.prog 48 18 cluster_planted.Kl0 (upd (upd (upd (upd jk_ 2 (.slice none 0 0)) 3 (v_f_)) 8 (.int .i64 t8)) 9 (.int .i64 t9)) H (i_f_ :: L) (cluster_planted.R H0 L r) := by
 unfold cluster_planted.b0 at he
 unfold cluster_planted.Kl0
 refine w_seq <| w_region rfl <| w_d rfl (d_lss rfl rfl) <| w_done <| w_seq ?_
 rcases its he with ⟨c5, he⟩ | ⟨c5, he⟩
 ·
  refine w_then rfl (decide_eq_true c5) <| w_skip <| w_seq <| w_block <| w_seq <| w_region rfl <| w_d rfl (d_move (v := .int .i64 t9) rfl) <| w_d rfl (d_assign (v := .int .i64 t9) rfl) <| w_done <| w_region rfl <| w_d rfl (d_move (v := v_f_) rfl) <| w_d rfl (d_move (v := .int .i64 t9) rfl) ?_
  refine w_d rfl (d_move (v := .int .i64 t9) rfl) ?_
  obtain ⟨c6, he⟩ := rq he
  refine w_d rfl (d_indexS (sz := 1) Tryd.underlying108 sz3 rfl h_f_.shp rfl c6) <| w_a0 rfl (o_storeEl (kd := (Kd.int .i64)) (v := .int .i64 t9) (F := fun z_ => z_ :: L) sz3 rfl rfl rfl rfl h_f_ c6 (fun _ => .here)) ?_
  rintro _ _ _ ⟨i7, rfl, rfl, rfl, h8⟩
  refine w_done <| w_inBlock <| w_region rfl <| w_d rfl (d_add (c := w64 (t9 + 1)) rfl rfl rfl) <| w_d rfl (d_move (v := .int .i64 (w64 (t9 + 1))) rfl) <| w_done <| w_inLoop <| w_sl 2 (.slice none 0 0) rfl <| w_sl 3 (v_f_) rfl <| w_sl 8 (.int .i64 t8) rfl <| w_sl 9 (.int .i64 (w64 (t9 + 1))) rfl <| hh.l0 hle he h8
 ·
  refine w_else rfl (decide_eq_false c5) <| w_exit rfl <| w_seq <| w_region rfl <| w_d rfl (d_move (v := v_f_) rfl) <| w_d rfl (d_assign (v := v_f_) rfl) <| w_done ?_
  obtain rfl := Option.some.inj he
  refine w_return fn_48 rs_48 (.tmp (v := v_f_) rfl .nil) <| ⟨⟨[], _, rfl, h_f_⟩, hle⟩
theorem cluster_planted.ok : ∀ k, cluster_planted.OK (cluster_planted.hs k)
 | 0 => ⟨(by intros; exact nomatch (show none = some _ from by assumption))⟩
 | k + 1 => ⟨cluster_planted.b0_ok (k := k) (cluster_planted.ok k)⟩
theorem cluster_planted.calls (k : Nat) {H : Hp} {L : Items} {n : Int} {r : (List Int)} (he : cluster_planted.f k n = some r) : Ct Tryd.prog 48 ⟨[.int .i64 n]⟩ H L (fun v H' L' => ∃ it, L' = it :: L ∧ H.le H' ∧ Sl (Kd.int .i64) H' 3 it v r) := by
 refine ct_own ?_
 have hle : H.le H := .refl _
 have hh := cluster_planted.ok k
 unfold cluster_planted.f at he
 refine ct_enter (args := [.int .i64 n]) fn_48 rfl nt_48 rfl <| w_seq <| w_region rfl <| w_d rfl (d_assign (v := .slice none 0 0) rfl) <| w_done <| w_seq <| w_region rfl <| w_d rfl (d_move (v := .int .i64 n) rfl) ?_
 obtain ⟨c1, he⟩ := rq he
 refine w_a rfl (o_make' (kd := (Kd.int .i64)) (z0 := 0) Tryd.underlying108 ti3 (zp3 _) rfl rfl (by omega) (by omega) (by omega)) ?_
 rintro v2 _ _ ⟨i3, rfl, rfl, h4⟩
 refine w_d rfl (d_assign (v := v2) rfl) <| w_done <| w_seq <| w_seq <| w_region rfl <| w_d rfl (d_move (v := v2) rfl) <| w_d rfl (d_lenS Tryd.underlying108 rfl h4.shp) <| w_d rfl (d_move (v := .int .i64 0) rfl) <| w_done <| w_block <| w_loop <| w_sl 2 (.slice none 0 0) rfl ?_
 refine w_sl 3 (v2) rfl <| w_sl 8 (.int .i64 ((List.replicate (n : Int).toNat (0 : Int)).length : Int)) rfl <| w_sl 9 (.int .i64 0) rfl <| hh.l0 hle he h4
theorem cluster_planted.callsR (k : Nat) {H : Hp} {L : Items} {n : Int} {r : (List Int)} (he : cluster_planted.f k n = some r) : Ct Tryd.prog 48 ⟨[.int .i64 n]⟩ H L (fun v H' L' => L = L' ∧ H.le H' ∧ cluster_planted.out r H' v) := ct_ro (cluster_planted.calls k he)
/-! ### (radome/cluster.forest).top -/
noncomputable def cluster_forest_top.C : Code := (Tryd.f50.body).getD .skip
def cluster_forest_top.out (r : Int × (List Int)) (H : Hp) (v : Value) : Prop := v = .int .i64 r.1
abbrev cluster_forest_top.R (vr_ : Value) (H0 : Hp) (L : Items) (r : Int × (List Int)) : Value → Hp → Items → Prop := fun v H' L' => (∃ p it', L' = p ++ it' :: L ∧ Sl (Kd.int .i64) H' 3 it' vr_ r.2) ∧ H0.le H' ∧ v = .int .i64 r.1
structure cluster_forest_top.Hs where
 l0 : (List Int) → Int → Option (Int × (List Int))
noncomputable def cluster_forest_top.b0 (k : Nat) (h : cluster_forest_top.Hs)  (f_ : List Int) (i : Int) : Option (Int × (List Int)) := if (0 : Int) ≤ i ∧ i < (f_.length : Int) then (if (rd f_ i) = i then (some (i, f_)) else (if (0 : Int) ≤ i ∧ i < (f_.length : Int) then (if (0 : Int) ≤ rd f_ i ∧ rd f_ i < (f_.length : Int) then (if (0 : Int) ≤ i ∧ i < (f_.length : Int) then (if (0 : Int) ≤ i ∧ i < ((f_.set (i : Int).toNat (rd f_ (rd f_ i))).length : Int) then (h.l0 (f_.set (i : Int).toNat (rd f_ (rd f_ i))) (rd (f_.set (i : Int).toNat (rd f_ (rd f_ i))) i)) else none) else none) else none) else none)) else none
noncomputable def cluster_forest_top.hs : Nat → cluster_forest_top.Hs
 | 0 => ⟨fun _ _ => none⟩
 | k + 1 => ⟨fun x0 x1 => cluster_forest_top.b0 k (cluster_forest_top.hs k) x0 x1⟩
noncomputable def cluster_forest_top.f (k : Nat) (f_ : List Int) (i : Int) : Option (Int × (List Int)) := (fun h : cluster_forest_top.Hs => h.l0 f_ i) (cluster_forest_top.hs k)
structure cluster_forest_top.LE (h h' : cluster_forest_top.Hs) : Prop where
 l0 : ∀ y0 y1, LeO (h.l0 y0 y1) (h'.l0 y0 y1)
theorem cluster_forest_top.b0_mono {k : Nat} {h h' : cluster_forest_top.Hs} (hl : cluster_forest_top.LE h h') : ∀ y0 y1, LeO (cluster_forest_top.b0 k h y0 y1) (cluster_forest_top.b0 (k + 1) h' y0 y1) := fun _ _ => (LeO.ite (LeO.ite (LeO.refl _) (LeO.ite (LeO.ite (LeO.ite (LeO.ite (hl.l0 _ _) (LeO.refl _)) (LeO.refl _)) (LeO.refl _)) (LeO.refl _))) (LeO.refl _))
theorem cluster_forest_top.hs_mono : ∀ k, cluster_forest_top.LE (cluster_forest_top.hs k) (cluster_forest_top.hs (k + 1))
 | 0 => ⟨fun _ _ => LeO.none _⟩
 | k + 1 => ⟨cluster_forest_top.b0_mono (k := k) (cluster_forest_top.hs_mono k)⟩
theorem cluster_forest_top.mono : ∀ k y0 y1, LeO (cluster_forest_top.f k y0 y1) (cluster_forest_top.f (k + 1) y0 y1) := fun k _ _ => have hl := cluster_forest_top.hs_mono k; by unfold cluster_forest_top.f; exact (hl.l0 _ _)
noncomputable def cluster_forest_top.Kl0 : List Item := .code (lopB (blkB (seqL (seqR cluster_forest_top.C)))) :: .inLoop (lopB (blkB (seqL (seqR cluster_forest_top.C)))) :: .inBlock 0 :: .code (seqR (seqR cluster_forest_top.C)) :: []
structure cluster_forest_top.OK (h : cluster_forest_top.Hs) : Prop where
 l0 : ∀ {H0 H : Hp} {L : Items} {r : Int × (List Int)} {jk_ : Nat → Value} {f_ : List Int} {i : Int} {vr_ : Value} {i_f_ : Item'} (_ : H0.le H) (_he : h.l0 f_ i = some r) (_h_f_ : Sl (Kd.int .i64) H 3 i_f_ vr_ f_), Wp Tryd.prog 50 26 cluster_forest_top.Kl0 (upd (upd (upd jk_ 0 (vr_)) 1 (.int .i64 i)) 4 (.int .i64 0)) H (i_f_ :: L) (cluster_forest_top.R vr_ H0 L r)
theorem cluster_forest_top.b0_ok {k : Nat} {h : cluster_forest_top.Hs} (hh : cluster_forest_top.OK h) {H0 H : Hp} {L : Items} {r : Int × (List Int)} {jk_ : Nat → Value} {f_ : List Int} {i : Int} {vr_ : Value} {i_f_ : Item'} (hle : H0.le H) (he : cluster_forest_top.b0 k h f_ i = some r) (h_f_ : Sl (Kd.int .i64) H 3 i_f_ vr_ f_) : Wp Tryd.prog 50 26 cluster_forest_top.Kl0 (upd (upd (upd jk_ 0 (vr_)) 1 (.int .i64 i)) 4 (.int .i64 0)) H (i_f_ :: L) (cluster_forest_top.R vr_ H0 L r) := by
 unfold cluster_forest_top.b0 at he
 unfold cluster_forest_top.Kl0
 refine w_seq <| w_seq <| w_region rfl <| w_d rfl (d_move (v := vr_) rfl) <| w_d rfl (d_move (v := .int .i64 i) rfl) ?_
 obtain ⟨c1, he⟩ := rq he
 refine w_d rfl (d_indexS (sz := 1) Tryd.underlying108 sz3 rfl h_f_.shp rfl c1) <| w_d rfl (d_ldint ty3 rfl (h_f_.src .here) c1) <| w_d rfl (d_move (v := .int .i64 i) rfl) <| w_d rfl (d_neq rfl rfl) <| w_done ?_
 rcases its he with ⟨c2, he⟩ | ⟨c2, he⟩
 ·
  refine w_else rfl (nd_t c2) <| w_exit rfl <| w_seq <| w_region rfl <| w_d rfl (d_move (v := .int .i64 i) rfl) <| w_d rfl (d_assign (v := .int .i64 i) rfl) <| w_done ?_
  obtain rfl := Option.some.inj he
  refine w_return fn_50 rs_50 (.tmp (v := .int .i64 i) rfl .nil) <| ⟨⟨[], _, rfl, h_f_⟩, hle, rfl⟩
 ·
  refine w_then rfl (nd_f c2) <| w_skip <| w_block <| w_seq <| w_region rfl <| w_d rfl (d_move (v := vr_) rfl) <| w_d rfl (d_move (v := .int .i64 i) rfl) <| w_d rfl (d_move (v := vr_) rfl) <| w_d rfl (d_move (v := vr_) rfl) <| w_d rfl (d_move (v := .int .i64 i) rfl) ?_
  obtain ⟨c3, he⟩ := rq he
  refine w_d rfl (d_indexS (sz := 1) Tryd.underlying108 sz3 rfl h_f_.shp rfl c3) <| w_d rfl (d_ldint ty3 rfl (h_f_.src .here) c3) ?_
  obtain ⟨c4, he⟩ := rq he
  refine w_d rfl (d_indexS (sz := 1) Tryd.underlying108 sz3 rfl h_f_.shp rfl c4) <| w_d rfl (d_ldint ty3 rfl (h_f_.src .here) c4) ?_
  obtain ⟨c5, he⟩ := rq he
  refine w_d rfl (d_indexS (sz := 1) Tryd.underlying108 sz3 rfl h_f_.shp rfl c5) <| w_a0 rfl (o_storeEl (kd := (Kd.int .i64)) (v := .int .i64 (rd f_ (rd f_ i))) (F := fun z_ => z_ :: L) sz3 rfl rfl rfl rfl h_f_ c5 (fun _ => .here)) ?_
  rintro _ _ _ ⟨i6, rfl, rfl, rfl, h7⟩
  refine w_done <| w_region rfl <| w_d rfl (d_move (v := vr_) rfl) <| w_d rfl (d_move (v := .int .i64 i) rfl) ?_
  obtain ⟨c8, he⟩ := rq he
  refine w_d rfl (d_indexS (sz := 1) Tryd.underlying108 sz3 rfl h7.shp rfl c8) <| w_d rfl (d_ldint ty3 rfl (h7.src .here) c8) <| w_d rfl (d_assign (v := .int .i64 (rd (f_.set (i : Int).toNat (rd f_ (rd f_ i))) i)) rfl) <| w_done <| w_inBlock <| w_inLoop <| w_sl 0 (vr_) rfl <| w_sl 1 (.int .i64 (rd (f_.set (i : Int).toNat (rd f_ (rd f_ i))) i)) rfl <| w_sl 4 (.int .i64 0) rfl <| hh.l0 hle he h7
theorem cluster_forest_top.ok : ∀ k, cluster_forest_top.OK (cluster_forest_top.hs k)
 | 0 => ⟨(by intros; exact nomatch (show none = some _ from by assumption))⟩
 | k + 1 => ⟨cluster_forest_top.b0_ok (k := k) (cluster_forest_top.ok k)⟩
theorem cluster_forest_top.calls (k : Nat) {H : Hp} {L : Items} {f_ : List Int} {i : Int} {vr_ : Value} {it_ : Item'} {r : Int × (List Int)} (he : cluster_forest_top.f k f_ i = some r) (hr_ : Sl (Kd.int .i64) H 3 it_ vr_ f_) : Ct Tryd.prog 50 ⟨[vr_, .int .i64 i]⟩ H (it_ :: L) (fun v H' L' => ∃ it', L' = it' :: L ∧ H.le H' ∧ Sl (Kd.int .i64) H' 3 it' vr_ r.2 ∧ v = .int .i64 r.1) := by
 refine ct_mut (Q := fun v => v = .int .i64 r.1) ?_
 have hle : H.le H := .refl _
 have hh := cluster_forest_top.ok k
 unfold cluster_forest_top.f at he
 refine ct_enter (args := [vr_, .int .i64 i]) fn_50 rfl nt_50 rfl <| w_seq <| w_region rfl <| w_d rfl (d_assign (v := .int .i64 0) rfl) <| w_done <| w_seq <| w_block <| w_loop <| w_sl 0 (vr_) rfl <| w_sl 1 (.int .i64 i) rfl <| w_sl 4 (.int .i64 0) rfl <| hh.l0 hle he hr_
/-! ### (radome/cluster.forest).join -/
noncomputable def cluster_forest_join.C : Code := (Tryd.f49.body).getD .skip
def cluster_forest_join.out (r : (List Int)) (H : Hp) (v : Value) : Prop := v = .tuple ⟨[]⟩
abbrev cluster_forest_join.R (vr_ : Value) (H0 : Hp) (L : Items) (r : (List Int)) : Value → Hp → Items → Prop := fun v H' L' => (∃ p it', L' = p ++ it' :: L ∧ Sl (Kd.int .i64) H' 3 it' vr_ r) ∧ H0.le H' ∧ v = .tuple ⟨[]⟩
noncomputable def cluster_forest_join.f (k : Nat) (f_ : List Int) (a : Int) (b : Int) : Option (List Int) := (cluster_forest_top.f k f_ a).bind fun y1 => (cluster_forest_top.f k y1.2 b).bind fun y7 => if (0 : Int) ≤ max y1.1 y7.1 ∧ max y1.1 y7.1 < (y7.2.length : Int) then (some (y7.2.set (max y1.1 y7.1 : Int).toNat (min y1.1 y7.1))) else none
theorem cluster_forest_join.mono : ∀ k y0 y1 y2, LeO (cluster_forest_join.f k y0 y1 y2) (cluster_forest_join.f (k + 1) y0 y1 y2) := fun k _ _ _ => by unfold cluster_forest_join.f; exact (LeO.bind (cluster_forest_top.mono k _ _) fun _ => LeO.bind (cluster_forest_top.mono k _ _) fun _ => LeO.ite (LeO.refl _) (LeO.refl _))
theorem cluster_forest_join.calls (k : Nat) {H : Hp} {L : Items} {f_ : List Int} {a : Int} {b : Int} {vr_ : Value} {it_ : Item'} {r : (List Int)} (he : cluster_forest_join.f k f_ a b = some r) (hr_ : Sl (Kd.int .i64) H 3 it_ vr_ f_) : Ct Tryd.prog 49 ⟨[vr_, .int .i64 a, .int .i64 b]⟩ H (it_ :: L) (fun v H' L' => ∃ it', L' = it' :: L ∧ H.le H' ∧ Sl (Kd.int .i64) H' 3 it' vr_ r ∧ v = .tuple ⟨[]⟩) := by
 refine ct_mut (Q := fun v => v = .tuple ⟨[]⟩) ?_
 have hle : H.le H := .refl _
 unfold cluster_forest_join.f at he
 refine ct_enter (args := [vr_, .int .i64 a, .int .i64 b]) fn_49 rfl nt_49 rfl <| w_seq <| w_region rfl <| w_d rfl (d_move (v := vr_) rfl) <| w_d rfl (d_move (v := .int .i64 a) rfl) ?_
 obtain ⟨y1, hy2, he⟩ := Option.bind_eq_some_iff.1 he
 refine w_a rfl (o_call co50 (vs := [vr_, .int .i64 a]) rfl (ct_at (F := fun z_ => z_ :: L) (cluster_forest_top.calls k hy2 hr_) .here (fun _ => .here))) ?_
 rintro _ H3 _ ⟨i5, rfl, e4, h6, rfl⟩
 refine w_d rfl (d_move (v := vr_) rfl) <| w_d rfl (d_move (v := .int .i64 b) rfl) ?_
 obtain ⟨y7, hy8, he⟩ := Option.bind_eq_some_iff.1 he
 refine w_a rfl (o_call co50 (vs := [vr_, .int .i64 b]) rfl (ct_at (F := fun z_ => z_ :: L) (cluster_forest_top.calls k hy8 h6) .here (fun _ => .here))) ?_
 rintro _ H9 _ ⟨i11, rfl, e10, h12, rfl⟩
 refine w_d rfl (d_assign (v := .int .i64 y1.1) rfl) <| w_d rfl (d_assign (v := .int .i64 y7.1) rfl) <| w_done <| w_region rfl <| w_d rfl (d_move (v := vr_) rfl) <| w_d rfl (d_move (v := .int .i64 y1.1) rfl) <| w_d rfl (d_move (v := .int .i64 y7.1) rfl) <| w_d rfl (d_max rfl rfl) <| w_d rfl (d_move (v := .int .i64 y1.1) rfl) <| w_d rfl (d_move (v := .int .i64 y7.1) rfl) <| w_d rfl (d_min rfl rfl) ?_
 obtain ⟨c13, he⟩ := rq he
 refine w_d rfl (d_indexS (sz := 1) Tryd.underlying108 sz3 rfl h12.shp rfl c13) <| w_a0 rfl (o_storeEl (kd := (Kd.int .i64)) (v := .int .i64 (min y1.1 y7.1)) (F := fun z_ => z_ :: L) sz3 rfl rfl rfl rfl h12 c13 (fun _ => .here)) ?_
 rintro _ _ _ ⟨i14, rfl, rfl, rfl, h15⟩
 refine w_done ?_
 obtain rfl := Option.some.inj he
 refine w_finish fn_49 rs_49 .nil <| ⟨⟨[], _, rfl, h15⟩, hle.trans (e4.trans e10), rfl⟩
/-! ### radome/cluster.Of -/
noncomputable def cluster_Of.C : Code := (Tryd.f32.body).getD .skip
def cluster_Of.out (r : (List cluster_Group) × (Option Int)) (H : Hp) (v : Value) : Prop := ∃ v0, v = .tuple ⟨[v0, errV 99 r.2]⟩ ∧ Ro k_cluster_Group H v0 r.1
theorem cluster_Of.out_mono (r : (List cluster_Group) × (Option Int)) {H H' : Hp} {v : Value} (hle : H.le H') (h : cluster_Of.out r H v) : cluster_Of.out r H' v := by
 obtain ⟨v0, rfl, h0⟩ := h; exact ⟨v0, rfl, h0.mono hle⟩
abbrev cluster_Of.R (H0 : Hp) (L : Items) (r : (List cluster_Group) × (Option Int)) : Value → Hp → Items → Prop := fun v H' L' => (∃ p, L' = p ++ L) ∧ H0.le H' ∧ cluster_Of.out r H' v
structure cluster_Of.Hs where
 l0 : (List (List Int)) → Int → (List Int) → (List (List Int)) → Int → Int → Option ((List cluster_Group) × (Option Int))
 l1 : (List (List Int)) → Int → (List Int) → Int → (List (List Int)) → Int → Int → (List Int) → Int → Int → Option ((List cluster_Group) × (Option Int))
 l2 : (List (List Int)) → Int → (List Int) → (List cluster_Group) → (List (Int × Int)) → Int → Int → Option ((List cluster_Group) × (Option Int))
 l3 : (List (List Int)) → (List Int) → (List cluster_Group) → (List (Int × Int)) → Int → Int → Option ((List cluster_Group) × (Option Int))
noncomputable def cluster_Of.b0 (k : Nat) (h : cluster_Of.Hs)  (pairs : List (List Int)) (plots : Int) (f_ : List Int) (t32 : List (List Int)) (t33 : Int) (t34 : Int) : Option ((List cluster_Group) × (Option Int)) := if t34 < t33 then (if (0 : Int) ≤ t34 ∧ t34 < (t32.length : Int) then (h.l1 pairs plots f_ t34 t32 t33 t34 (rd t32 t34) ((rd t32 t34).length : Int) 0) else none) else (h.l2 pairs plots f_ [] [] (pairs.length : Int) 0)
noncomputable def cluster_Of.b1 (k : Nat) (h : cluster_Of.Hs)  (pairs : List (List Int)) (plots : Int) (f_ : List Int) (t : Int) (t32 : List (List Int)) (t33 : Int) (t34 : Int) (t39 : List Int) (t40 : Int) (t41 : Int) : Option ((List cluster_Group) × (Option Int)) := if t41 < t40 then (if (0 : Int) ≤ t41 ∧ t41 < (t39.length : Int) then ((cluster_forest_join.f k f_ t (w64 ((pairs.length : Int) + (rd t39 t41)))).bind fun y26 => h.l1 pairs plots y26 t t32 t33 t34 t39 t40 (w64 (t41 + 1))) else none) else (h.l0 pairs plots f_ t32 t33 (w64 (t34 + 1)))
noncomputable def cluster_Of.j4 (k : Nat) (h : cluster_Of.Hs)  (pairs : List (List Int)) (plots : Int) (f_ : List Int) (out : List cluster_Group) (at_ : List (Int × Int)) (t : Int) (n : Int) (t56 : Int) (t57 : Int) : Option ((List cluster_Group) × (Option Int)) := if (0 : Int) ≤ n ∧ n < (out.length : Int) then (if ((rd out n).f_Tracks).length + 1 ≤ 17592186044288 then (if (0 : Int) ≤ n ∧ n < (out.length : Int) then (h.l2 pairs plots f_ (out.set (n : Int).toNat (⟨((rd out n).f_Tracks) ++ [t], (rd out n).f_Plots⟩ : cluster_Group)) at_ t56 (w64 (t57 + 1))) else none) else none) else none
noncomputable def cluster_Of.b2 (k : Nat) (h : cluster_Of.Hs)  (pairs : List (List Int)) (plots : Int) (f_ : List Int) (out : List cluster_Group) (at_ : List (Int × Int)) (t56 : Int) (t57 : Int) : Option ((List cluster_Group) × (Option Int)) := if t57 < t56 then ((cluster_forest_top.f k f_ t57).bind fun y33 => if (!(mhas at_ y33.1)) = true then (if out.length + 1 ≤ 2932031007274 then (cluster_Of.j4 k h pairs plots y33.2 (out ++ [(⟨[], []⟩ : cluster_Group)]) (mput at_ y33.1 (out.length : Int)) t57 (out.length : Int) t56 t57) else none) else (cluster_Of.j4 k h pairs plots y33.2 out at_ t57 (mget at_ y33.1 0) t56 t57)) else (h.l3 pairs f_ out at_ plots 0)
noncomputable def cluster_Of.b3 (k : Nat) (h : cluster_Of.Hs)  (pairs : List (List Int)) (f_ : List Int) (out : List cluster_Group) (at_ : List (Int × Int)) (t93 : Int) (t94 : Int) : Option ((List cluster_Group) × (Option Int)) := if t94 < t93 then ((cluster_forest_top.f k f_ (w64 ((pairs.length : Int) + t94))).bind fun y83 => if (mhas at_ y83.1) = true then (if (0 : Int) ≤ mget at_ y83.1 0 ∧ mget at_ y83.1 0 < (out.length : Int) then (if ((rd out (mget at_ y83.1 0)).f_Plots).length + 1 ≤ 17592186044288 then (if (0 : Int) ≤ mget at_ y83.1 0 ∧ mget at_ y83.1 0 < (out.length : Int) then (h.l3 pairs y83.2 (out.set (mget at_ y83.1 0 : Int).toNat (⟨(rd out (mget at_ y83.1 0)).f_Tracks, ((rd out (mget at_ y83.1 0)).f_Plots) ++ [t94]⟩ : cluster_Group)) at_ t93 (w64 (t94 + 1))) else none) else none) else none) else (h.l3 pairs y83.2 out at_ t93 (w64 (t94 + 1)))) else (some (out, none))
noncomputable def cluster_Of.hs : Nat → cluster_Of.Hs
 | 0 => ⟨fun _ _ _ _ _ _ => none, fun _ _ _ _ _ _ _ _ _ _ => none, fun _ _ _ _ _ _ _ => none, fun _ _ _ _ _ _ => none⟩
 | k + 1 => ⟨fun x0 x1 x2 x3 x4 x5 => cluster_Of.b0 k (cluster_Of.hs k) x0 x1 x2 x3 x4 x5, fun x0 x1 x2 x3 x4 x5 x6 x7 x8 x9 => cluster_Of.b1 k (cluster_Of.hs k) x0 x1 x2 x3 x4 x5 x6 x7 x8 x9, fun x0 x1 x2 x3 x4 x5 x6 => cluster_Of.b2 k (cluster_Of.hs k) x0 x1 x2 x3 x4 x5 x6, fun x0 x1 x2 x3 x4 x5 => cluster_Of.b3 k (cluster_Of.hs k) x0 x1 x2 x3 x4 x5⟩
noncomputable def cluster_Of.f (k : Nat) (pairs : List (List Int)) (plots : Int) : Option ((List cluster_Group) × (Option Int)) := (fun h : cluster_Of.Hs => (cluster_Check.f k pairs plots).bind fun y1 => if y1.isSome = true then (some ([], y1)) else ((cluster_planted.f k (w64 ((pairs.length : Int) + plots))).bind fun y6 => h.l0 pairs plots y6 pairs (pairs.length : Int) 0)) (cluster_Of.hs k)
structure cluster_Of.LE (h h' : cluster_Of.Hs) : Prop where
 l0 : ∀ y0 y1 y2 y3 y4 y5, LeO (h.l0 y0 y1 y2 y3 y4 y5) (h'.l0 y0 y1 y2 y3 y4 y5)
 l1 : ∀ y0 y1 y2 y3 y4 y5 y6 y7 y8 y9, LeO (h.l1 y0 y1 y2 y3 y4 y5 y6 y7 y8 y9) (h'.l1 y0 y1 y2 y3 y4 y5 y6 y7 y8 y9)
 l2 : ∀ y0 y1 y2 y3 y4 y5 y6, LeO (h.l2 y0 y1 y2 y3 y4 y5 y6) (h'.l2 y0 y1 y2 y3 y4 y5 y6)
 l3 : ∀ y0 y1 y2 y3 y4 y5, LeO (h.l3 y0 y1 y2 y3 y4 y5) (h'.l3 y0 y1 y2 y3 y4 y5)
theorem cluster_Of.b0_mono {k : Nat} {h h' : cluster_Of.Hs} (hl : cluster_Of.LE h h') : ∀ y0 y1 y2 y3 y4 y5, LeO (cluster_Of.b0 k h y0 y1 y2 y3 y4 y5) (cluster_Of.b0 (k + 1) h' y0 y1 y2 y3 y4 y5) := fun _ _ _ _ _ _ => (LeO.ite (LeO.ite (hl.l1 _ _ _ _ _ _ _ _ _ _) (LeO.refl _)) (hl.l2 _ _ _ _ _ _ _))
theorem cluster_Of.b1_mono {k : Nat} {h h' : cluster_Of.Hs} (hl : cluster_Of.LE h h') : ∀ y0 y1 y2 y3 y4 y5 y6 y7 y8 y9, LeO (cluster_Of.b1 k h y0 y1 y2 y3 y4 y5 y6 y7 y8 y9) (cluster_Of.b1 (k + 1) h' y0 y1 y2 y3 y4 y5 y6 y7 y8 y9) := fun _ _ _ _ _ _ _ _ _ _ => (LeO.ite (LeO.ite (LeO.bind (cluster_forest_join.mono k _ _ _) fun _ => hl.l1 _ _ _ _ _ _ _ _ _ _) (LeO.refl _)) (hl.l0 _ _ _ _ _ _))
theorem cluster_Of.j4_mono {k : Nat} {h h' : cluster_Of.Hs} (hl : cluster_Of.LE h h') : ∀ y0 y1 y2 y3 y4 y5 y6 y7 y8, LeO (cluster_Of.j4 k h y0 y1 y2 y3 y4 y5 y6 y7 y8) (cluster_Of.j4 (k + 1) h' y0 y1 y2 y3 y4 y5 y6 y7 y8) := fun _ _ _ _ _ _ _ _ _ => (LeO.ite (LeO.ite (LeO.ite (hl.l2 _ _ _ _ _ _ _) (LeO.refl _)) (LeO.refl _)) (LeO.refl _))
theorem cluster_Of.b2_mono {k : Nat} {h h' : cluster_Of.Hs} (hl : cluster_Of.LE h h') : ∀ y0 y1 y2 y3 y4 y5 y6, LeO (cluster_Of.b2 k h y0 y1 y2 y3 y4 y5 y6) (cluster_Of.b2 (k + 1) h' y0 y1 y2 y3 y4 y5 y6) := fun _ _ _ _ _ _ _ => (LeO.ite (LeO.bind (cluster_forest_top.mono k _ _) fun _ => LeO.ite (LeO.ite (cluster_Of.j4_mono (k := k) hl _ _ _ _ _ _ _ _ _) (LeO.refl _)) (cluster_Of.j4_mono (k := k) hl _ _ _ _ _ _ _ _ _)) (hl.l3 _ _ _ _ _ _))
theorem cluster_Of.b3_mono {k : Nat} {h h' : cluster_Of.Hs} (hl : cluster_Of.LE h h') : ∀ y0 y1 y2 y3 y4 y5, LeO (cluster_Of.b3 k h y0 y1 y2 y3 y4 y5) (cluster_Of.b3 (k + 1) h' y0 y1 y2 y3 y4 y5) := fun _ _ _ _ _ _ => (LeO.ite (LeO.bind (cluster_forest_top.mono k _ _) fun _ => LeO.ite (LeO.ite (LeO.ite (LeO.ite (hl.l3 _ _ _ _ _ _) (LeO.refl _)) (LeO.refl _)) (LeO.refl _)) (hl.l3 _ _ _ _ _ _)) (LeO.refl _))
theorem cluster_Of.hs_mono : ∀ k, cluster_Of.LE (cluster_Of.hs k) (cluster_Of.hs (k + 1))
 | 0 => ⟨fun _ _ _ _ _ _ => LeO.none _, fun _ _ _ _ _ _ _ _ _ _ => LeO.none _, fun _ _ _ _ _ _ _ => LeO.none _, fun _ _ _ _ _ _ => LeO.none _⟩
 | k + 1 => ⟨cluster_Of.b0_mono (k := k) (cluster_Of.hs_mono k), cluster_Of.b1_mono (k := k) (cluster_Of.hs_mono k), cluster_Of.b2_mono (k := k) (cluster_Of.hs_mono k), cluster_Of.b3_mono (k := k) (cluster_Of.hs_mono k)⟩
theorem cluster_Of.mono : ∀ k y0 y1, LeO (cluster_Of.f k y0 y1) (cluster_Of.f (k + 1) y0 y1) := fun k _ _ => have hl := cluster_Of.hs_mono k; by unfold cluster_Of.f; exact (LeO.bind (cluster_Check.mono k _ _) fun _ => LeO.ite (LeO.refl _) (LeO.bind (cluster_planted.mono k _) fun _ => hl.l0 _ _ _ _ _ _))
noncomputable def cluster_Of.Kl0 : List Item := .code (lopB (blkB (seqR (seqL (seqR (seqR (seqR cluster_Of.C))))))) :: .inLoop (lopB (blkB (seqR (seqL (seqR (seqR (seqR cluster_Of.C))))))) :: .inBlock 0 :: .code (seqR (seqR (seqR (seqR cluster_Of.C)))) :: []
noncomputable def cluster_Of.Kl1 : List Item := .code (lopB (blkB (seqR (seqR (blkB (seqL (seqR (seqR (lopB (blkB (seqR (seqL (seqR (seqR (seqR cluster_Of.C))))))))))))))) :: .inLoop (lopB (blkB (seqR (seqR (blkB (seqL (seqR (seqR (lopB (blkB (seqR (seqL (seqR (seqR (seqR cluster_Of.C))))))))))))))) :: .inBlock 2 :: .inBlock 1 :: .code (seqR (seqR (seqR (lopB (blkB (seqR (seqL (seqR (seqR (seqR cluster_Of.C)))))))))) :: .inLoop (lopB (blkB (seqR (seqL (seqR (seqR (seqR cluster_Of.C))))))) :: .inBlock 0 :: .code (seqR (seqR (seqR (seqR cluster_Of.C)))) :: []
noncomputable def cluster_Of.Kl2 : List Item := .code (lopB (blkB (seqR (seqL (seqR (seqR (seqR (seqR (seqR (seqR cluster_Of.C)))))))))) :: .inLoop (lopB (blkB (seqR (seqL (seqR (seqR (seqR (seqR (seqR (seqR cluster_Of.C)))))))))) :: .inBlock 4 :: .code (seqR (seqR (seqR (seqR (seqR (seqR (seqR cluster_Of.C))))))) :: []
noncomputable def cluster_Of.Kj4 : List Item := .code (seqR (seqR (seqR (seqR (blkB (seqL (seqR (seqR (lopB (blkB (seqR (seqL (seqR (seqR (seqR (seqR (seqR (seqR cluster_Of.C)))))))))))))))))) :: .inBlock 5 :: .code (seqR (seqR (seqR (lopB (blkB (seqR (seqL (seqR (seqR (seqR (seqR (seqR (seqR cluster_Of.C))))))))))))) :: .inLoop (lopB (blkB (seqR (seqL (seqR (seqR (seqR (seqR (seqR (seqR cluster_Of.C)))))))))) :: .inBlock 4 :: .code (seqR (seqR (seqR (seqR (seqR (seqR (seqR cluster_Of.C))))))) :: []
noncomputable def cluster_Of.Kl3 : List Item := .code (lopB (blkB (seqR (seqL (seqR (seqR (seqR (seqR (seqR (seqR (seqR cluster_Of.C))))))))))) :: .inLoop (lopB (blkB (seqR (seqL (seqR (seqR (seqR (seqR (seqR (seqR (seqR cluster_Of.C))))))))))) :: .inBlock 6 :: .code (seqR (seqR (seqR (seqR (seqR (seqR (seqR (seqR cluster_Of.C)))))))) :: []
structure cluster_Of.OK (h : cluster_Of.Hs) : Prop where
 l0 : ∀ {H0 H : Hp} {L : Items} {r : (List cluster_Group) × (Option Int)} {jk_ : Nat → Value} {pairs : List (List Int)} {plots : Int} {f_ : List Int} {t32 : List (List Int)} {t33 : Int} {t34 : Int} {v_pairs : Value} {v_f_ : Value} {v_t32 : Value} {i_f_ : Item'} (_ : H0.le H) (_he : h.l0 pairs plots f_ t32 t33 t34 = some r) (_h_pairs : Src (Kd.slice (Kd.int .i64)) H L v_pairs pairs) (_h_f_ : Sl (Kd.int .i64) H 3 i_f_ v_f_ f_) (_h_t32 : Src (Kd.slice (Kd.int .i64)) H L v_t32 t32), Wp Tryd.prog 32 123 cluster_Of.Kl0 (upd (upd (upd (upd (upd (upd (upd (upd jk_ 0 (v_pairs)) 1 (.int .i64 plots)) 4 (.slice none 0 0)) 5 (errV 99 none)) 7 (v_f_)) 32 (v_t32)) 33 (.int .i64 t33)) 34 (.int .i64 t34)) H (i_f_ :: L) (cluster_Of.R H0 L r)
 l1 : ∀ {H0 H : Hp} {L : Items} {r : (List cluster_Group) × (Option Int)} {jk_ : Nat → Value} {pairs : List (List Int)} {plots : Int} {f_ : List Int} {t : Int} {t32 : List (List Int)} {t33 : Int} {t34 : Int} {t39 : List Int} {t40 : Int} {t41 : Int} {v_pairs : Value} {v_f_ : Value} {v_t32 : Value} {v_t39 : Value} {i_f_ : Item'} (_ : H0.le H) (_he : h.l1 pairs plots f_ t t32 t33 t34 t39 t40 t41 = some r) (_h_pairs : Src (Kd.slice (Kd.int .i64)) H L v_pairs pairs) (_h_f_ : Sl (Kd.int .i64) H 3 i_f_ v_f_ f_) (_h_t32 : Src (Kd.slice (Kd.int .i64)) H L v_t32 t32) (_h_t39 : Ro (Kd.int .i64) H v_t39 t39), Wp Tryd.prog 32 123 cluster_Of.Kl1 (upd (upd (upd (upd (upd (upd (upd (upd (upd (upd (upd (upd jk_ 0 (v_pairs)) 1 (.int .i64 plots)) 4 (.slice none 0 0)) 5 (errV 99 none)) 7 (v_f_)) 8 (.int .i64 t)) 32 (v_t32)) 33 (.int .i64 t33)) 34 (.int .i64 t34)) 39 (v_t39)) 40 (.int .i64 t40)) 41 (.int .i64 t41)) H (i_f_ :: L) (cluster_Of.R H0 L r)
 l2 : ∀ {H0 H : Hp} {L : Items} {r : (List cluster_Group) × (Option Int)} {jk_ : Nat → Value} {pairs : List (List Int)} {plots : Int} {f_ : List Int} {out : List cluster_Group} {at_ : List (Int × Int)} {t56 : Int} {t57 : Int} {v_pairs : Value} {v_f_ : Value} {v_out : Value} {v_at_ : Value} {i_f_ : Item'} {i_out : Item'} {i_at_ : Item'} {f_out : Items} (_ : H0.le H) (_he : h.l2 pairs plots f_ out at_ t56 t57 = some r) (_h_pairs : Src (Kd.slice (Kd.int .i64)) H L v_pairs pairs) (_h_f_ : Sl (Kd.int .i64) H 3 i_f_ v_f_ f_) (_h_out : SlF kf_cluster_Group H 95 i_out f_out v_out out) (_h_at_ : Mp (mkInt .i64 (fun b => .int .i64 b)) H 111 i_at_ v_at_ at_), Wp Tryd.prog 32 123 cluster_Of.Kl2 (upd (upd (upd (upd (upd (upd (upd (upd (upd jk_ 0 (v_pairs)) 1 (.int .i64 plots)) 4 (.slice none 0 0)) 5 (errV 99 none)) 7 (v_f_)) 12 (v_out)) 13 (v_at_)) 56 (.int .i64 t56)) 57 (.int .i64 t57)) H (i_out :: i_at_ :: i_f_ :: (f_out ++ L)) (cluster_Of.R H0 L r)
 l3 : ∀ {H0 H : Hp} {L : Items} {r : (List cluster_Group) × (Option Int)} {jk_ : Nat → Value} {pairs : List (List Int)} {f_ : List Int} {out : List cluster_Group} {at_ : List (Int × Int)} {t93 : Int} {t94 : Int} {v_pairs : Value} {v_f_ : Value} {v_out : Value} {v_at_ : Value} {i_f_ : Item'} {i_out : Item'} {i_at_ : Item'} {f_out : Items} (_ : H0.le H) (_he : h.l3 pairs f_ out at_ t93 t94 = some r) (_h_pairs : Src (Kd.slice (Kd.int .i64)) H L v_pairs pairs) (_h_f_ : Sl (Kd.int .i64) H 3 i_f_ v_f_ f_) (_h_out : SlF kf_cluster_Group H 95 i_out f_out v_out out) (_h_at_ : Mp (mkInt .i64 (fun b => .int .i64 b)) H 111 i_at_ v_at_ at_), Wp Tryd.prog 32 123 cluster_Of.Kl3 (upd (upd (upd (upd (upd (upd (upd (upd jk_ 0 (v_pairs)) 4 (.slice none 0 0)) 5 (errV 99 none)) 7 (v_f_)) 12 (v_out)) 13 (v_at_)) 93 (.int .i64 t93)) 94 (.int .i64 t94)) H (i_out :: i_at_ :: i_f_ :: (f_out ++ L)) (cluster_Of.R H0 L r)
theorem cluster_Of.b0_ok {k : Nat} {h : cluster_Of.Hs} (hh : cluster_Of.OK h) {H0 H : Hp} {L : Items} {r : (List cluster_Group) × (Option Int)} {jk_ : Nat → Value} {pairs : List (List Int)} {plots : Int} {f_ : List Int} {t32 : List (List Int)} {t33 : Int} {t34 : Int} {v_pairs : Value} {v_f_ : Value} {v_t32 : Value} {i_f_ : Item'} (hle : H0.le H) (he : cluster_Of.b0 k h pairs plots f_ t32 t33 t34 = some r) (h_pairs : Src (Kd.slice (Kd.int .i64)) H L v_pairs pairs) (h_f_ : Sl (Kd.int .i64) H 3 i_f_ v_f_ f_) (h_t32 : Src (Kd.slice (Kd.int .i64)) H L v_t32 t32) : Wp Tryd.prog 32 123 cluster_Of.Kl0 (upd (upd (upd (upd (upd (upd (upd (upd jk_ 0 (v_pairs)) 1 (.int .i64 plots)) 4 (.slice none 0 0)) 5 (errV 99 none)) 7 (v_f_)) 32 (v_t32)) 33 (.int .i64 t33)) 34 (.int .i64 t34)) H (i_f_ :: L) (cluster_Of.R H0 L r) := by
 unfold cluster_Of.b0 at he
 unfold cluster_Of.Kl0
 refine w_seq <| w_region rfl <| w_d rfl (d_lss rfl rfl) <| w_done <| w_seq ?_
 rcases its he with ⟨c15, he⟩ | ⟨c15, he⟩
 ·
  refine w_then rfl (decide_eq_true c15) <| w_skip <| w_seq <| w_block <| w_seq <| w_region rfl <| w_d rfl (d_move (v := .int .i64 t34) rfl) ?_
  obtain ⟨c16, he⟩ := rq he
  refine w_d rfl (d_index (sz := 1) Tryd.underlying81 sz85 rfl h_t32.th rfl c16) ?_
  obtain ⟨_, l17, r18⟩ := el_of (kd := (Kd.slice (Kd.int .i64))) h_t32.th c16
  obtain ⟨v19, rfl, h20⟩ := r18
  refine w_d rfl (d_load (v := v19) (cs := [v19]) ty85 rfl rfl (by decide) l17 rfl) <| w_d rfl (d_assign (v := .int .i64 t34) rfl) <| w_d rfl (d_assign (v := v19) rfl) <| w_done <| w_seq <| w_region rfl <| w_d rfl (d_move (v := v19) rfl) <| w_d rfl (d_len Tryd.underlying85 rfl h20.src) <| w_d rfl (d_move (v := .int .i64 0) rfl) <| w_done <| w_block <| w_loop ?_
  refine w_sl 0 (v_pairs) rfl <| w_sl 1 (.int .i64 plots) rfl <| w_sl 4 (.slice none 0 0) rfl <| w_sl 5 (errV 99 none) rfl <| w_sl 7 (v_f_) rfl <| w_sl 8 (.int .i64 t34) rfl <| w_sl 32 (v_t32) rfl <| w_sl 33 (.int .i64 t33) rfl <| w_sl 34 (.int .i64 t34) rfl <| w_sl 39 (v19) rfl <| w_sl 40 (.int .i64 ((rd t32 t34).length : Int)) rfl <| w_sl 41 (.int .i64 0) rfl <| hh.l1 hle he h_pairs h_f_ h_t32 h20
 ·
  refine w_else rfl (decide_eq_false c15) <| w_exit rfl <| w_seq <| w_region rfl <| w_d rfl (d_assign (v := .slice none 0 0) rfl) <| w_done <| w_seq <| w_region rfl <| w_a rfl (o_makeMap (mk := (mkInt .i64 (fun b => .int .i64 b)))) ?_
  rintro v21 _ _ ⟨i22, rfl, rfl, h23⟩
  refine w_d rfl (d_assign (v := v21) rfl) <| w_done <| w_seq <| w_seq <| w_region rfl <| w_d rfl (d_move (v := v_pairs) rfl) <| w_d rfl (d_len Tryd.underlying81 rfl h_pairs.th.th) <| w_d rfl (d_move (v := .int .i64 0) rfl) <| w_done <| w_block <| w_loop <| w_none ?_
  refine w_it (L' := none :: i22 :: i_f_ :: ([] ++ L)) rfl <| w_sl 0 (v_pairs) rfl <| w_sl 1 (.int .i64 plots) rfl <| w_sl 4 (.slice none 0 0) rfl <| w_sl 5 (errV 99 none) rfl <| w_sl 7 (v_f_) rfl <| w_sl 12 (.slice none 0 0) rfl <| w_sl 13 (v21) rfl <| w_sl 56 (.int .i64 (pairs.length : Int)) rfl <| w_sl 57 (.int .i64 0) rfl <| hh.l2 hle he h_pairs h_f_ (slf_nil _ _ _) h23
theorem cluster_Of.b1_ok {k : Nat} {h : cluster_Of.Hs} (hh : cluster_Of.OK h) {H0 H : Hp} {L : Items} {r : (List cluster_Group) × (Option Int)} {jk_ : Nat → Value} {pairs : List (List Int)} {plots : Int} {f_ : List Int} {t : Int} {t32 : List (List Int)} {t33 : Int} {t34 : Int} {t39 : List Int} {t40 : Int} {t41 : Int} {v_pairs : Value} {v_f_ : Value} {v_t32 : Value} {v_t39 : Value} {i_f_ : Item'} (hle : H0.le H) (he : cluster_Of.b1 k h pairs plots f_ t t32 t33 t34 t39 t40 t41 = some r) (h_pairs : Src (Kd.slice (Kd.int .i64)) H L v_pairs pairs) (h_f_ : Sl (Kd.int .i64) H 3 i_f_ v_f_ f_) (h_t32 : Src (Kd.slice (Kd.int .i64)) H L v_t32 t32) (h_t39 : Ro (Kd.int .i64) H v_t39 t39) : Wp Tryd.prog 32 123 cluster_Of.Kl1 (upd (upd (upd (upd (upd (upd (upd (upd (upd (upd (upd (upd jk_ 0 (v_pairs)) 1 (.int .i64 plots)) 4 (.slice none 0 0)) 5 (errV 99 none)) 7 (v_f_)) 8 (.int .i64 t)) 32 (v_t32)) 33 (.int .i64 t33)) 34 (.int .i64 t34)) 39 (v_t39)) 40 (.int .i64 t40)) 41 (.int .i64 t41)) H (i_f_ :: L) (cluster_Of.R H0 L r) := by
 unfold cluster_Of.b1 at he
 unfold cluster_Of.Kl1
 refine w_seq <| w_region rfl <| w_d rfl (d_lss rfl rfl) <| w_done <| w_seq ?_
 rcases its he with ⟨c24, he⟩ | ⟨c24, he⟩
 ·
  refine w_then rfl (decide_eq_true c24) <| w_skip <| w_seq <| w_block <| w_seq <| w_region rfl ?_
  obtain ⟨c25, he⟩ := rq he
  refine w_d rfl (d_index (sz := 1) Tryd.underlying85 sz3 rfl h_t39.src rfl c25) <| w_d rfl (d_ldint ty3 rfl h_t39.src c25) <| w_d rfl (d_assign (v := .int .i64 (rd t39 t41)) rfl) <| w_done <| w_region rfl <| w_d rfl (d_move (v := v_f_) rfl) <| w_d rfl (d_move (v := .int .i64 t) rfl) <| w_d rfl (d_move (v := v_pairs) rfl) <| w_d rfl (d_len Tryd.underlying81 rfl h_pairs.th) <| w_d rfl (d_move (v := .int .i64 (rd t39 t41)) rfl) <| w_d rfl (d_add (c := w64 ((pairs.length : Int) + (rd t39 t41))) rfl rfl rfl) ?_
  obtain ⟨y26, hy27, he⟩ := Option.bind_eq_some_iff.1 he
  refine w_a rfl (o_call co49 (vs := [v_f_, .int .i64 t, .int .i64 (w64 ((pairs.length : Int) + (rd t39 t41)))]) rfl (ct_at (F := fun z_ => z_ :: L) (cluster_forest_join.calls k hy27 h_f_) .here (fun _ => .here))) ?_
  rintro _ H28 _ ⟨i30, rfl, e29, h31, rfl⟩
  refine w_done <| w_inBlock <| w_region rfl <| w_d rfl (d_add (c := w64 (t41 + 1)) rfl rfl rfl) <| w_d rfl (d_move (v := .int .i64 (w64 (t41 + 1))) rfl) <| w_done <| w_inLoop <| w_sl 0 (v_pairs) rfl <| w_sl 1 (.int .i64 plots) rfl <| w_sl 4 (.slice none 0 0) rfl <| w_sl 5 (errV 99 none) rfl <| w_sl 7 (v_f_) rfl ?_
  refine w_sl 8 (.int .i64 t) rfl <| w_sl 32 (v_t32) rfl <| w_sl 33 (.int .i64 t33) rfl <| w_sl 34 (.int .i64 t34) rfl <| w_sl 39 (v_t39) rfl <| w_sl 40 (.int .i64 t40) rfl <| w_sl 41 (.int .i64 (w64 (t41 + 1))) rfl <| hh.l1 (hle.trans e29) he (h_pairs.mono e29) h31 (h_t32.mono e29) (h_t39.mono e29)
 ·
  refine w_else rfl (decide_eq_false c24) <| w_exit rfl <| w_inBlock <| w_region rfl <| w_d rfl (d_add (c := w64 (t34 + 1)) rfl rfl rfl) <| w_d rfl (d_move (v := .int .i64 (w64 (t34 + 1))) rfl) <| w_done <| w_inLoop <| w_sl 0 (v_pairs) rfl <| w_sl 1 (.int .i64 plots) rfl <| w_sl 4 (.slice none 0 0) rfl <| w_sl 5 (errV 99 none) rfl ?_
  refine w_sl 7 (v_f_) rfl <| w_sl 32 (v_t32) rfl <| w_sl 33 (.int .i64 t33) rfl <| w_sl 34 (.int .i64 (w64 (t34 + 1))) rfl <| hh.l0 hle he h_pairs h_f_ h_t32
theorem cluster_Of.j4_ok {k : Nat} {h : cluster_Of.Hs} (hh : cluster_Of.OK h) {H0 H : Hp} {L : Items} {r : (List cluster_Group) × (Option Int)} {jk_ : Nat → Value} {pairs : List (List Int)} {plots : Int} {f_ : List Int} {out : List cluster_Group} {at_ : List (Int × Int)} {t : Int} {n : Int} {t56 : Int} {t57 : Int} {v_pairs : Value} {v_f_ : Value} {v_out : Value} {v_at_ : Value} {i_f_ : Item'} {i_out : Item'} {i_at_ : Item'} {f_out : Items} (hle : H0.le H) (he : cluster_Of.j4 k h pairs plots f_ out at_ t n t56 t57 = some r) (h_pairs : Src (Kd.slice (Kd.int .i64)) H L v_pairs pairs) (h_f_ : Sl (Kd.int .i64) H 3 i_f_ v_f_ f_) (h_out : SlF kf_cluster_Group H 95 i_out f_out v_out out) (h_at_ : Mp (mkInt .i64 (fun b => .int .i64 b)) H 111 i_at_ v_at_ at_) : Wp Tryd.prog 32 123 cluster_Of.Kj4 (upd (upd (upd (upd (upd (upd (upd (upd (upd (upd (upd jk_ 0 (v_pairs)) 1 (.int .i64 plots)) 4 (.slice none 0 0)) 5 (errV 99 none)) 7 (v_f_)) 12 (v_out)) 13 (v_at_)) 14 (.int .i64 t)) 16 (.int .i64 n)) 56 (.int .i64 t56)) 57 (.int .i64 t57)) H (i_out :: i_at_ :: i_f_ :: (f_out ++ L)) (cluster_Of.R H0 L r) := by
 unfold cluster_Of.j4 at he
 unfold cluster_Of.Kj4
 refine w_region rfl <| w_d rfl (d_move (v := v_out) rfl) <| w_d rfl (d_move (v := .int .i64 n) rfl) <| w_d rfl (d_move (v := v_out) rfl) <| w_d rfl (d_move (v := .int .i64 n) rfl) ?_
 obtain ⟨c50, he⟩ := rq he
 refine w_d rfl (d_indexS (sz := 2) Tryd.underlying82 sz95 rfl h_out.shp rfl c50) <| w_d rfl (d_fieldAddr Tryd.underlying95 rfl sz85 rfl rfl) ?_
 obtain ⟨A51, i52, B53, r54, b55, rfl, h56, h57, h58, h59, h60⟩ := SlF.open (h_out) c50
 obtain ⟨v63, v64⟩ := b55
 obtain ⟨i61, i62, rfl, h65, h66⟩ := h56
 refine w_open (Q := [_, _, _]) <| w_it (L' := i61 :: i62 :: i_out :: i_at_ :: i_f_ :: ((A51 ++ B53) ++ L)) rfl ?_
 obtain ⟨_, l67, r68⟩ := el_at (kd := kf_cluster_Group.raw) ((h57).src (.there (.there .here))) h59
 obtain ⟨⟨rfl⟩, _, _⟩ := r68
 refine w_d rfl (d_load (v := v63) (cs := [v63]) ty85 rfl rfl (by decide) ((l67).part 0 1) rfl) <| w_d rfl (d_move (v := .int .i64 t) rfl) <| w_a rfl (o_buildSlice' (kd := (Kd.int .i64)) (css := [[.int .i64 t]]) (xs := [t]) (parts := [(0, .int .i64 t)]) Tryd.underlying85 ti3 rfl ⟨_, _, rfl, rfl, rfl⟩ ⟨rfl, trivial⟩ rfl (by decide)) ?_
 rintro v69 _ _ ⟨i70, rfl, rfl, h71⟩
 obtain ⟨c72, he⟩ := rq he
 refine w_a rfl (o_append' (kd := (Kd.int .i64)) (F := fun z_ => i70 :: z_ :: i62 :: i_out :: i_at_ :: i_f_ :: ((A51 ++ B53) ++ L)) Tryd.underlying85 Tryd.underlying85 ti3 rfl (by first | omega | (simp only [List.nil_append, List.length_cons, List.length_nil]; omega)) rfl rfl h65 (h71.src .here) (fun _ => (.there .here))) ?_
 rintro v73 _ _ ⟨i74, rfl, rfl, h75⟩
 obtain ⟨c76, he⟩ := rq he
 refine w_d rfl (d_indexS (sz := 2) Tryd.underlying82 sz95 rfl h_out.shp rfl c76) <| w_d rfl (d_fieldAddr Tryd.underlying95 rfl sz85 rfl rfl) <| w_a0 rfl (o_storeElP (kd := kf_cluster_Group.raw) (j := 0) (a := (rd out n, (v63, v64))) (z := (rd out n, (v73, v64))) (v := v73) (vs := [v73]) (F := fun z_ => i70 :: i74 :: i62 :: z_ :: i_at_ :: i_f_ :: ((A51 ++ B53) ++ L)) sz85 rfl rfl h75.cells (List.all_eq_true.1 (one_cons (h75.one) one_nil)) (h57) (by have q_ := c76; rw [← h58] at q_; exact q_) h59 (Nat.le_of_ble_eq_true rfl) (kf_cluster_Group_s0 (h75.one)) (fun _ => (.there (.there (.there .here))))) ?_
 rintro _ _ _ ⟨i77, rfl, rfl, rfl, h78⟩
 have h79 := set_at (z := (rd out n, (v73, v64))) h59
 refine w_pull (.there (.there .here)) <| w_del (.there (.there (.there .here))) <| w_pull (.there (.there .here)) <| w_del (.there (.there (.there .here))) ?_
 have h80 := h60 (.refl _) (a' := (⟨((rd out n).f_Tracks) ++ [t], (rd out n).f_Plots⟩ : cluster_Group)) (b' := (v73, v64)) ⟨i74, i62, rfl, h75, h66⟩ (by have q_ := (h78).same h79 (z := ((⟨((rd out n).f_Tracks) ++ [t], (rd out n).f_Plots⟩ : cluster_Group), (v73, v64))) (fun _ h => h); rwa [List.set_set] at q_)
 refine w_shut (A := A51) (its := [i74, i62]) (B := B53) (Q := [_, _, _, _]) <| w_it (L' := i70 :: i77 :: i_at_ :: i_f_ :: ((A51 ++ ([i74, i62] ++ B53)) ++ L)) rfl ?_
 generalize A51 ++ ([i74, i62] ++ B53) = f81 at h80 ⊢
 refine w_done <| w_inBlock <| w_region rfl <| w_d rfl (d_add (c := w64 (t57 + 1)) rfl rfl rfl) <| w_d rfl (d_move (v := .int .i64 (w64 (t57 + 1))) rfl) <| w_done <| w_inLoop <| w_del .here <| w_sl 0 (v_pairs) rfl <| w_sl 1 (.int .i64 plots) rfl <| w_sl 4 (.slice none 0 0) rfl <| w_sl 5 (errV 99 none) rfl ?_
 refine w_sl 7 (v_f_) rfl <| w_sl 12 (v_out) rfl <| w_sl 13 (v_at_) rfl <| w_sl 56 (.int .i64 t56) rfl <| w_sl 57 (.int .i64 (w64 (t57 + 1))) rfl <| hh.l2 hle he h_pairs h_f_ h80 h_at_
theorem cluster_Of.b2_ok {k : Nat} {h : cluster_Of.Hs} (hh : cluster_Of.OK h) {H0 H : Hp} {L : Items} {r : (List cluster_Group) × (Option Int)} {jk_ : Nat → Value} {pairs : List (List Int)} {plots : Int} {f_ : List Int} {out : List cluster_Group} {at_ : List (Int × Int)} {t56 : Int} {t57 : Int} {v_pairs : Value} {v_f_ : Value} {v_out : Value} {v_at_ : Value} {i_f_ : Item'} {i_out : Item'} {i_at_ : Item'} {f_out : Items} (hle : H0.le H) (he : cluster_Of.b2 k h pairs plots f_ out at_ t56 t57 = some r) (h_pairs : Src (Kd.slice (Kd.int .i64)) H L v_pairs pairs) (h_f_ : Sl (Kd.int .i64) H 3 i_f_ v_f_ f_) (h_out : SlF kf_cluster_Group H 95 i_out f_out v_out out) (h_at_ : Mp (mkInt .i64 (fun b => .int .i64 b)) H 111 i_at_ v_at_ at_) : Wp Tryd.prog 32 123 cluster_Of.Kl2 (upd (upd (upd (upd (upd (upd (upd (upd (upd jk_ 0 (v_pairs)) 1 (.int .i64 plots)) 4 (.slice none 0 0)) 5 (errV 99 none)) 7 (v_f_)) 12 (v_out)) 13 (v_at_)) 56 (.int .i64 t56)) 57 (.int .i64 t57)) H (i_out :: i_at_ :: i_f_ :: (f_out ++ L)) (cluster_Of.R H0 L r) := by
 unfold cluster_Of.b2 at he
 unfold cluster_Of.Kl2
 refine w_seq <| w_region rfl <| w_d rfl (d_lss rfl rfl) <| w_done <| w_seq ?_
 rcases its he with ⟨c32, he⟩ | ⟨c32, he⟩
 ·
  refine w_then rfl (decide_eq_true c32) <| w_skip <| w_seq <| w_block <| w_seq <| w_region rfl <| w_d rfl (d_move (v := .int .i64 t57) rfl) <| w_d rfl (d_assign (v := .int .i64 t57) rfl) <| w_done <| w_seq <| w_region rfl <| w_d rfl (d_move (v := v_f_) rfl) ?_
  refine w_d rfl (d_move (v := .int .i64 t57) rfl) ?_
  obtain ⟨y33, hy34, he⟩ := Option.bind_eq_some_iff.1 he
  refine w_a rfl (o_call co50 (vs := [v_f_, .int .i64 t57]) rfl (ct_at (F := fun z_ => i_out :: i_at_ :: z_ :: (f_out ++ L)) (cluster_forest_top.calls k hy34 h_f_) (.there (.there .here)) (fun _ => (.there (.there .here))))) ?_
  rintro _ H35 _ ⟨i37, rfl, e36, h38, rfl⟩
  refine w_d rfl (d_assign (v := .int .i64 y33.1) rfl) <| w_done <| w_seq <| w_region rfl <| w_d rfl (d_move (v := v_at_) rfl) <| w_d rfl (d_move (v := .int .i64 y33.1) rfl) <| w_d rfl (d_lookup2 (mk := (mkInt .i64 (fun b => .int .i64 b))) (a := y33.1) (d := 0) Tryd.underlying111 Tryd.underlying3 rfl rfl rfl (h_at_.mono e36) (.there .here)) <| w_d rfl (d_move (v := .tuple ⟨[.int .i64 (mget at_ y33.1 0), .bool (mhas at_ y33.1)]⟩) rfl) <| w_d rfl (d_ext (vs := [.int .i64 (mget at_ y33.1 0), .bool (mhas at_ y33.1)]) rfl rfl) <| w_d rfl (d_ext (vs := [.int .i64 (mget at_ y33.1 0), .bool (mhas at_ y33.1)]) rfl rfl) <| w_d rfl (d_assign (v := .int .i64 (mget at_ y33.1 0)) rfl) <| w_d rfl (d_assign (v := .bool (mhas at_ y33.1)) rfl) ?_
  refine w_done <| w_seq <| w_seq <| w_region rfl <| w_d rfl (d_move (v := .bool (mhas at_ y33.1)) rfl) <| w_d rfl (d_not (b := (mhas at_ y33.1)) rfl) <| w_done ?_
  rcases its he with ⟨c39, he⟩ | ⟨c39, he⟩
  ·
   refine w_then rfl c39 <| w_seq <| w_region rfl <| w_d rfl (d_move (v := v_out) rfl) <| w_d rfl (d_lenS Tryd.underlying82 rfl (h_out.mono e36).shp) <| w_d rfl (d_assign (v := .int .i64 (out.length : Int)) rfl) <| w_done <| w_seq <| w_region rfl <| w_d rfl (d_move (v := v_at_) rfl) <| w_d rfl (d_move (v := .int .i64 y33.1) rfl) <| w_d rfl (d_move (v := .int .i64 (out.length : Int)) rfl) ?_
   refine w_a0 rfl (o_mapUpdate (mk := (mkInt .i64 (fun b => .int .i64 b))) (a := y33.1) (c := (out.length : Int)) (F := fun z_ => i_out :: z_ :: i37 :: (f_out ++ L)) Tryd.underlying111 Tryd.underlying3 rfl rfl rfl (h_at_.mono e36) (fun _ => (.there .here))) ?_
   rintro _ _ _ ⟨i40, rfl, rfl, rfl, h41⟩
   refine w_done <| w_region rfl <| w_d rfl (d_move (v := v_out) rfl) <| w_d rfl (d_build (cs' := [.slice none 0 0, .slice none 0 0]) Tryd.underlying95 zr95 rfl (by kernel_rfl) (parts := []) rfl .nil) <| w_a rfl (o_buildSlice' (kd := kf_cluster_Group.raw) (css := [[.slice none 0 0, .slice none 0 0]]) (xs := [((⟨[], []⟩ : cluster_Group), (.slice none 0 0, .slice none 0 0))]) (parts := [(0, .agg ⟨[.slice none 0 0, .slice none 0 0]⟩)]) Tryd.underlying82 ti95 rfl ⟨_, _, rfl, rfl, rfl⟩ ⟨⟨rfl, rfl, rfl⟩, trivial⟩ rfl (by decide)) ?_
   rintro v42 _ _ ⟨i43, rfl, rfl, h44⟩
   obtain ⟨c45, he⟩ := rq he
   refine w_a rfl (o_appendF (kf := kf_cluster_Group) (its := [none, none]) (G := fun z_ => i43 :: z_ :: i40 :: i37 :: (f_out ++ L)) Tryd.underlying82 Tryd.underlying82 ti95 rfl (by first | omega | (simp only [List.nil_append, List.length_cons, List.length_nil]; omega)) rfl rfl (h_out.mono e36) (h44.src .here) ⟨none, none, rfl, sl_nil _ _ _, sl_nil _ _ _⟩ (fun _ => (.there .here))) ?_
   rintro v46 _ _ ⟨i47, rfl, rfl, h48⟩
   refine w_more (F := f_out) (its := [none, none]) (Q := [_, _, _, _]) rfl <| w_it (L' := i43 :: i47 :: i40 :: i37 :: ((f_out ++ [none, none]) ++ L)) rfl ?_
   generalize f_out ++ [none, none] = f49 at h48 ⊢
   refine w_d rfl (d_assign (v := v46) rfl) <| w_done <| w_del .here <| w_sl 0 (v_pairs) rfl <| w_sl 1 (.int .i64 plots) rfl <| w_sl 4 (.slice none 0 0) rfl <| w_sl 5 (errV 99 none) rfl <| w_sl 7 (v_f_) rfl <| w_sl 12 (v46) rfl <| w_sl 13 (v_at_) rfl <| w_sl 14 (.int .i64 t57) rfl <| w_sl 16 (.int .i64 (out.length : Int)) rfl ?_
   refine w_sl 56 (.int .i64 t56) rfl <| w_sl 57 (.int .i64 t57) rfl <| cluster_Of.j4_ok (k := k) hh (hle.trans e36) he (h_pairs.mono e36) h38 h48 h41
  ·
   refine w_else rfl (Bool.eq_false_iff.2 c39) <| w_skip <| w_sl 0 (v_pairs) rfl <| w_sl 1 (.int .i64 plots) rfl <| w_sl 4 (.slice none 0 0) rfl <| w_sl 5 (errV 99 none) rfl <| w_sl 7 (v_f_) rfl <| w_sl 12 (v_out) rfl <| w_sl 13 (v_at_) rfl <| w_sl 14 (.int .i64 t57) rfl <| w_sl 16 (.int .i64 (mget at_ y33.1 0)) rfl <| w_sl 56 (.int .i64 t56) rfl ?_
   refine w_sl 57 (.int .i64 t57) rfl <| cluster_Of.j4_ok (k := k) hh (hle.trans e36) he (h_pairs.mono e36) h38 (h_out.mono e36) (h_at_.mono e36)
 ·
  refine w_else rfl (decide_eq_false c32) <| w_exit rfl <| w_seq <| w_seq <| w_region rfl <| w_d rfl (d_move (v := .int .i64 plots) rfl) <| w_d rfl (d_move (v := .int .i64 0) rfl) <| w_done <| w_block <| w_loop <| w_sl 0 (v_pairs) rfl <| w_sl 4 (.slice none 0 0) rfl ?_
  refine w_sl 5 (errV 99 none) rfl <| w_sl 7 (v_f_) rfl <| w_sl 12 (v_out) rfl <| w_sl 13 (v_at_) rfl <| w_sl 93 (.int .i64 plots) rfl <| w_sl 94 (.int .i64 0) rfl <| hh.l3 hle he h_pairs h_f_ h_out h_at_
theorem cluster_Of.b3_ok {k : Nat} {h : cluster_Of.Hs} (hh : cluster_Of.OK h) {H0 H : Hp} {L : Items} {r : (List cluster_Group) × (Option Int)} {jk_ : Nat → Value} {pairs : List (List Int)} {f_ : List Int} {out : List cluster_Group} {at_ : List (Int × Int)} {t93 : Int} {t94 : Int} {v_pairs : Value} {v_f_ : Value} {v_out : Value} {v_at_ : Value} {i_f_ : Item'} {i_out : Item'} {i_at_ : Item'} {f_out : Items} (hle : H0.le H) (he : cluster_Of.b3 k h pairs f_ out at_ t93 t94 = some r) (h_pairs : Src (Kd.slice (Kd.int .i64)) H L v_pairs pairs) (h_f_ : Sl (Kd.int .i64) H 3 i_f_ v_f_ f_) (h_out : SlF kf_cluster_Group H 95 i_out f_out v_out out) (h_at_ : Mp (mkInt .i64 (fun b => .int .i64 b)) H 111 i_at_ v_at_ at_) : Wp Tryd.prog 32 123 cluster_Of.Kl3 (upd (upd (upd (upd (upd (upd (upd (upd jk_ 0 (v_pairs)) 4 (.slice none 0 0)) 5 (errV 99 none)) 7 (v_f_)) 12 (v_out)) 13 (v_at_)) 93 (.int .i64 t93)) 94 (.int .i64 t94)) H (i_out :: i_at_ :: i_f_ :: (f_out ++ L)) (cluster_Of.R H0 L r) := by
 unfold cluster_Of.b3 at he
 unfold cluster_Of.Kl3
 refine w_seq <| w_region rfl <| w_d rfl (d_lss rfl rfl) <| w_done <| w_seq ?_
 rcases its he with ⟨c82, he⟩ | ⟨c82, he⟩
 ·
  refine w_then rfl (decide_eq_true c82) <| w_skip <| w_seq <| w_block <| w_seq <| w_region rfl <| w_d rfl (d_move (v := .int .i64 t94) rfl) <| w_d rfl (d_assign (v := .int .i64 t94) rfl) <| w_done <| w_seq <| w_region rfl <| w_d rfl (d_move (v := v_at_) rfl) ?_
  refine w_d rfl (d_move (v := v_f_) rfl) <| w_d rfl (d_move (v := v_pairs) rfl) <| w_d rfl (d_len Tryd.underlying81 rfl h_pairs.sg.th.th.th) <| w_d rfl (d_move (v := .int .i64 t94) rfl) <| w_d rfl (d_add (c := w64 ((pairs.length : Int) + t94)) rfl rfl rfl) ?_
  obtain ⟨y83, hy84, he⟩ := Option.bind_eq_some_iff.1 he
  refine w_a rfl (o_call co50 (vs := [v_f_, .int .i64 (w64 ((pairs.length : Int) + t94))]) rfl (ct_at (F := fun z_ => i_out :: i_at_ :: z_ :: (f_out ++ L)) (cluster_forest_top.calls k hy84 h_f_) (.there (.there .here)) (fun _ => (.there (.there .here))))) ?_
  rintro _ H85 _ ⟨i87, rfl, e86, h88, rfl⟩
  refine w_d rfl (d_lookup2 (mk := (mkInt .i64 (fun b => .int .i64 b))) (a := y83.1) (d := 0) Tryd.underlying111 Tryd.underlying3 rfl rfl rfl (h_at_.mono e86) (.there .here)) <| w_d rfl (d_move (v := .tuple ⟨[.int .i64 (mget at_ y83.1 0), .bool (mhas at_ y83.1)]⟩) rfl) <| w_d rfl (d_ext (vs := [.int .i64 (mget at_ y83.1 0), .bool (mhas at_ y83.1)]) rfl rfl) <| w_d rfl (d_ext (vs := [.int .i64 (mget at_ y83.1 0), .bool (mhas at_ y83.1)]) rfl rfl) <| w_d rfl (d_assign (v := .int .i64 (mget at_ y83.1 0)) rfl) <| w_d rfl (d_assign (v := .bool (mhas at_ y83.1)) rfl) <| w_done <| w_seq <| w_region rfl <| w_d rfl (d_move (v := .bool (mhas at_ y83.1)) rfl) <| w_done ?_
  rcases its he with ⟨c89, he⟩ | ⟨c89, he⟩
  ·
   refine w_then rfl c89 <| w_region rfl <| w_d rfl (d_move (v := v_out) rfl) <| w_d rfl (d_move (v := .int .i64 (mget at_ y83.1 0)) rfl) <| w_d rfl (d_move (v := v_out) rfl) <| w_d rfl (d_move (v := .int .i64 (mget at_ y83.1 0)) rfl) ?_
   obtain ⟨c90, he⟩ := rq he
   refine w_d rfl (d_indexS (sz := 2) Tryd.underlying82 sz95 rfl (h_out.mono e86).shp rfl c90) <| w_d rfl (d_fieldAddr Tryd.underlying95 rfl sz85 rfl rfl) ?_
   obtain ⟨A91, i92, B93, r94, b95, rfl, h96, h97, h98, h99, h100⟩ := SlF.open ((h_out.mono e86)) c90
   obtain ⟨v103, v104⟩ := b95
   obtain ⟨i101, i102, rfl, h105, h106⟩ := h96
   refine w_open (Q := [_, _, _]) <| w_it (L' := i101 :: i102 :: i_out :: i_at_ :: i87 :: ((A91 ++ B93) ++ L)) rfl ?_
   obtain ⟨_, l107, r108⟩ := el_at (kd := kf_cluster_Group.raw) ((h97).src (.there (.there .here))) h99
   obtain ⟨⟨rfl⟩, _, _⟩ := r108
   refine w_d rfl (d_load (v := v104) (cs := [v104]) ty85 rfl rfl (by decide) ((l107).part 1 1) rfl) <| w_d rfl (d_move (v := .int .i64 t94) rfl) <| w_a rfl (o_buildSlice' (kd := (Kd.int .i64)) (css := [[.int .i64 t94]]) (xs := [t94]) (parts := [(0, .int .i64 t94)]) Tryd.underlying85 ti3 rfl ⟨_, _, rfl, rfl, rfl⟩ ⟨rfl, trivial⟩ rfl (by decide)) ?_
   rintro v109 _ _ ⟨i110, rfl, rfl, h111⟩
   obtain ⟨c112, he⟩ := rq he
   refine w_a rfl (o_append' (kd := (Kd.int .i64)) (F := fun z_ => i110 :: i101 :: z_ :: i_out :: i_at_ :: i87 :: ((A91 ++ B93) ++ L)) Tryd.underlying85 Tryd.underlying85 ti3 rfl (by first | omega | (simp only [List.nil_append, List.length_cons, List.length_nil]; omega)) rfl rfl h106 (h111.src .here) (fun _ => (.there (.there .here)))) ?_
   rintro v113 _ _ ⟨i114, rfl, rfl, h115⟩
   obtain ⟨c116, he⟩ := rq he
   refine w_d rfl (d_indexS (sz := 2) Tryd.underlying82 sz95 rfl (h_out.mono e86).shp rfl c116) <| w_d rfl (d_fieldAddr Tryd.underlying95 rfl sz85 rfl rfl) <| w_a0 rfl (o_storeElP (kd := kf_cluster_Group.raw) (j := 1) (a := (rd out (mget at_ y83.1 0), (v103, v104))) (z := (rd out (mget at_ y83.1 0), (v103, v113))) (v := v113) (vs := [v113]) (F := fun z_ => i110 :: i101 :: i114 :: z_ :: i_at_ :: i87 :: ((A91 ++ B93) ++ L)) sz85 rfl rfl h115.cells (List.all_eq_true.1 (one_cons (h115.one) one_nil)) (h97) (by have q_ := c116; rw [← h98] at q_; exact q_) h99 (Nat.le_of_ble_eq_true rfl) (kf_cluster_Group_s1 (h115.one)) (fun _ => (.there (.there (.there .here))))) ?_
   rintro _ _ _ ⟨i117, rfl, rfl, rfl, h118⟩
   have h119 := set_at (z := (rd out (mget at_ y83.1 0), (v103, v113))) h99
   refine w_pull (.there (.there .here)) <| w_del (.there (.there (.there .here))) <| w_pull (.there (.there .here)) <| w_del (.there (.there (.there .here))) ?_
   have h120 := h100 (.refl _) (a' := (⟨(rd out (mget at_ y83.1 0)).f_Tracks, ((rd out (mget at_ y83.1 0)).f_Plots) ++ [t94]⟩ : cluster_Group)) (b' := (v103, v113)) ⟨i101, i114, rfl, h105, h115⟩ (by have q_ := (h118).same h119 (z := ((⟨(rd out (mget at_ y83.1 0)).f_Tracks, ((rd out (mget at_ y83.1 0)).f_Plots) ++ [t94]⟩ : cluster_Group), (v103, v113))) (fun _ h => h); rwa [List.set_set] at q_)
   refine w_shut (A := A91) (its := [i101, i114]) (B := B93) (Q := [_, _, _, _]) <| w_it (L' := i110 :: i117 :: i_at_ :: i87 :: ((A91 ++ ([i101, i114] ++ B93)) ++ L)) rfl ?_
   generalize A91 ++ ([i101, i114] ++ B93) = f121 at h120 ⊢
   refine w_done <| w_inBlock <| w_region rfl <| w_d rfl (d_add (c := w64 (t94 + 1)) rfl rfl rfl) <| w_d rfl (d_move (v := .int .i64 (w64 (t94 + 1))) rfl) <| w_done <| w_inLoop <| w_del .here <| w_sl 0 (v_pairs) rfl <| w_sl 4 (.slice none 0 0) rfl <| w_sl 5 (errV 99 none) rfl <| w_sl 7 (v_f_) rfl ?_
   refine w_sl 12 (v_out) rfl <| w_sl 13 (v_at_) rfl <| w_sl 93 (.int .i64 t93) rfl <| w_sl 94 (.int .i64 (w64 (t94 + 1))) rfl <| hh.l3 (hle.trans e86) he (h_pairs.mono e86) h88 h120 (h_at_.mono e86)
  ·
   refine w_else rfl (Bool.eq_false_iff.2 c89) <| w_skip <| w_inBlock <| w_region rfl <| w_d rfl (d_add (c := w64 (t94 + 1)) rfl rfl rfl) <| w_d rfl (d_move (v := .int .i64 (w64 (t94 + 1))) rfl) <| w_done <| w_inLoop <| w_sl 0 (v_pairs) rfl <| w_sl 4 (.slice none 0 0) rfl <| w_sl 5 (errV 99 none) rfl <| w_sl 7 (v_f_) rfl ?_
   refine w_sl 12 (v_out) rfl <| w_sl 13 (v_at_) rfl <| w_sl 93 (.int .i64 t93) rfl <| w_sl 94 (.int .i64 (w64 (t94 + 1))) rfl <| hh.l3 (hle.trans e86) he (h_pairs.mono e86) h88 (h_out.mono e86) (h_at_.mono e86)
 ·
  refine w_else rfl (decide_eq_false c82) <| w_exit rfl <| w_seq <| w_region rfl <| w_d rfl (d_move (v := v_out) rfl) <| w_d rfl (d_assign (v := v_out) rfl) <| w_d rfl (d_assign (v := errV 99 none) rfl) <| w_done <| w_freezeF h_out (Q := [_, _, _]) rfl .here ?_
  intro H122 e123 h124
  refine w_it (L' := none :: i_at_ :: i_f_ :: L) rfl ?_
  obtain rfl := Option.some.inj he
  refine w_return fn_32 rs_32 (.tmp (v := v_out) rfl (.tmp (v := errV 99 none) rfl .nil)) <| ⟨⟨[_, _, _], rfl⟩, hle.trans e123, ⟨v_out, rfl, h124⟩⟩
theorem cluster_Of.ok : ∀ k, cluster_Of.OK (cluster_Of.hs k)
 | 0 => ⟨(by intros; exact nomatch (show none = some _ from by assumption)), (by intros; exact nomatch (show none = some _ from by assumption)), (by intros; exact nomatch (show none = some _ from by assumption)), (by intros; exact nomatch (show none = some _ from by assumption))⟩
 | k + 1 => ⟨cluster_Of.b0_ok (k := k) (cluster_Of.ok k), cluster_Of.b1_ok (k := k) (cluster_Of.ok k), cluster_Of.b2_ok (k := k) (cluster_Of.ok k), cluster_Of.b3_ok (k := k) (cluster_Of.ok k)⟩
theorem cluster_Of.calls (k : Nat) {H : Hp} {L : Items} {pairs : List (List Int)} {plots : Int} {v0_pairs : Value} {r : (List cluster_Group) × (Option Int)} (he : cluster_Of.f k pairs plots = some r) (h0_pairs : Src (Kd.slice (Kd.int .i64)) H L v0_pairs pairs) : Ct Tryd.prog 32 ⟨[v0_pairs, .int .i64 plots]⟩ H L (fun v H' L' => L = L' ∧ H.le H' ∧ cluster_Of.out r H' v) := by
 refine ct_out (O := cluster_Of.out r) ?_
 have hle : H.le H := .refl _
 have hh := cluster_Of.ok k
 unfold cluster_Of.f at he
 refine ct_enter (args := [v0_pairs, .int .i64 plots]) fn_32 rfl nt_32 rfl <| w_seq <| w_region rfl <| w_d rfl (d_assign (v := .slice none 0 0) rfl) <| w_d rfl (d_assign (v := errV 99 none) rfl) <| w_done <| w_seq <| w_seq <| w_region rfl <| w_d rfl (d_move (v := v0_pairs) rfl) <| w_d rfl (d_move (v := .int .i64 plots) rfl) ?_
 obtain ⟨y1, hy2, he⟩ := Option.bind_eq_some_iff.1 he
 refine w_d rfl (call_d (o_call co36 (vs := [v0_pairs, .int .i64 plots]) rfl (cluster_Check.calls k hy2 h0_pairs))) <| w_d rfl (d_assign (v := errV 99 y1) rfl) <| w_done <| w_seq <| w_region rfl <| w_d rfl (d_move (v := errV 99 y1) rfl) <| w_d rfl (d_nenil (e := y1) Tryd.underlying36 rfl) <| w_done ?_
 rcases its he with ⟨c5, he⟩ | ⟨c5, he⟩
 ·
  refine w_then rfl c5 <| w_seq <| w_region rfl <| w_d rfl (d_move (v := errV 99 y1) rfl) <| w_d rfl (d_assign (v := .slice none 0 0) rfl) <| w_d rfl (d_assign (v := errV 99 y1) rfl) <| w_done ?_
  obtain rfl := Option.some.inj he
  refine w_return fn_32 rs_32 (.tmp (v := .slice none 0 0) rfl (.tmp (v := errV 99 y1) rfl .nil)) <| ⟨⟨[], rfl⟩, hle, ⟨.slice none 0 0, rfl, (ro_nil _ _)⟩⟩
 ·
  refine w_else rfl (Bool.eq_false_iff.2 c5) <| w_skip <| w_seq <| w_region rfl <| w_d rfl (d_move (v := v0_pairs) rfl) <| w_d rfl (d_len Tryd.underlying81 rfl h0_pairs) <| w_d rfl (d_move (v := .int .i64 plots) rfl) <| w_d rfl (d_add (c := w64 ((pairs.length : Int) + plots)) rfl rfl rfl) ?_
  obtain ⟨y6, hy7, he⟩ := Option.bind_eq_some_iff.1 he
  refine w_a rfl (o_call co48 (vs := [.int .i64 (w64 ((pairs.length : Int) + plots))]) rfl (cluster_planted.calls k hy7)) ?_
  rintro v12 H8 _ ⟨i13, rfl, e9, h14⟩
  refine w_d rfl (d_assign (v := v12) rfl) <| w_done <| w_seq <| w_seq <| w_region rfl <| w_d rfl (d_move (v := v0_pairs) rfl) <| w_d rfl (d_len Tryd.underlying81 rfl (h0_pairs.mono e9).th) <| w_d rfl (d_move (v := .int .i64 0) rfl) <| w_done <| w_block <| w_loop <| w_sl 0 (v0_pairs) rfl ?_
  refine w_sl 1 (.int .i64 plots) rfl <| w_sl 4 (.slice none 0 0) rfl <| w_sl 5 (errV 99 none) rfl <| w_sl 7 (v12) rfl <| w_sl 32 (v0_pairs) rfl <| w_sl 33 (.int .i64 (pairs.length : Int)) rfl <| w_sl 34 (.int .i64 0) rfl <| hh.l0 (hle.trans e9) he (h0_pairs.mono e9) h14 (h0_pairs.mono e9)
/-! ### slices.Index[[]int,int] -/
noncomputable def slices_Index_int_int.C : Code := (Tryd.f64.body).getD .skip
def slices_Index_int_int.out (r : Int) (H : Hp) (v : Value) : Prop := v = .int .i64 r
abbrev slices_Index_int_int.R (H0 : Hp) (L : Items) (r : Int) : Value → Hp → Items → Prop := fun v H' L' => (∃ p, L' = p ++ L) ∧ H0.le H' ∧ slices_Index_int_int.out r H' v
structure slices_Index_int_int.Hs where
 l0 : (List Int) → Int → Int → Int → Int → Option Int
noncomputable def slices_Index_int_int.b0 (k : Nat) (h : slices_Index_int_int.Hs)  (s : List Int) (v_ : Int) (t4 : Int) (t7 : Int) (t8 : Int) : Option Int := if t8 < t7 then (if (0 : Int) ≤ t8 ∧ t8 < (s.length : Int) then (if v_ = (rd s t8) then (some (t8)) else (h.l0 s v_ t4 t7 (w64 (t8 + 1)))) else none) else (some ((-1)))
noncomputable def slices_Index_int_int.hs : Nat → slices_Index_int_int.Hs
 | 0 => ⟨fun _ _ _ _ _ => none⟩
 | k + 1 => ⟨fun x0 x1 x2 x3 x4 => slices_Index_int_int.b0 k (slices_Index_int_int.hs k) x0 x1 x2 x3 x4⟩
noncomputable def slices_Index_int_int.f (k : Nat) (s : List Int) (v_ : Int) : Option Int := (fun h : slices_Index_int_int.Hs => h.l0 s v_ 0 (s.length : Int) 0) (slices_Index_int_int.hs k)
structure slices_Index_int_int.LE (h h' : slices_Index_int_int.Hs) : Prop where
 l0 : ∀ y0 y1 y2 y3 y4, LeO (h.l0 y0 y1 y2 y3 y4) (h'.l0 y0 y1 y2 y3 y4)
theorem slices_Index_int_int.b0_mono {k : Nat} {h h' : slices_Index_int_int.Hs} (hl : slices_Index_int_int.LE h h') : ∀ y0 y1 y2 y3 y4, LeO (slices_Index_int_int.b0 k h y0 y1 y2 y3 y4) (slices_Index_int_int.b0 (k + 1) h' y0 y1 y2 y3 y4) := fun _ _ _ _ _ => (LeO.ite (LeO.ite (LeO.ite (LeO.refl _) (hl.l0 _ _ _ _ _)) (LeO.refl _)) (LeO.refl _))
theorem slices_Index_int_int.hs_mono : ∀ k, slices_Index_int_int.LE (slices_Index_int_int.hs k) (slices_Index_int_int.hs (k + 1))
 | 0 => ⟨fun _ _ _ _ _ => LeO.none _⟩
 | k + 1 => ⟨slices_Index_int_int.b0_mono (k := k) (slices_Index_int_int.hs_mono k)⟩
theorem slices_Index_int_int.mono : ∀ k y0 y1, LeO (slices_Index_int_int.f k y0 y1) (slices_Index_int_int.f (k + 1) y0 y1) := fun k _ _ => have hl := slices_Index_int_int.hs_mono k; by unfold slices_Index_int_int.f; exact (hl.l0 _ _ _ _ _)
noncomputable def slices_Index_int_int.Kl0 : List Item := .code (lopB (blkB (seqR (seqL (seqR slices_Index_int_int.C))))) :: .inLoop (lopB (blkB (seqR (seqL (seqR slices_Index_int_int.C))))) :: .inBlock 0 :: .code (seqR (seqR slices_Index_int_int.C)) :: []
structure slices_Index_int_int.OK (h : slices_Index_int_int.Hs) : Prop where
 l0 : ∀ {H0 H : Hp} {L : Items} {r : Int} {jk_ : Nat → Value} {s : List Int} {v_ : Int} {t4 : Int} {t7 : Int} {t8 : Int} {v_s : Value} (_ : H0.le H) (_he : h.l0 s v_ t4 t7 t8 = some r) (_h_s : Src (Kd.int .i64) H L v_s s), Wp Tryd.prog 64 19 slices_Index_int_int.Kl0 (upd (upd (upd (upd (upd jk_ 0 (v_s)) 1 (.int .i64 v_)) 4 (.int .i64 t4)) 7 (.int .i64 t7)) 8 (.int .i64 t8)) H (L) (slices_Index_int_int.R H0 L r)
theorem slices_Index_int_int.b0_ok {k : Nat} {h : slices_Index_int_int.Hs} (hh : slices_Index_int_int.OK h) {H0 H : Hp} {L : Items} {r : Int} {jk_ : Nat → Value} {s : List Int} {v_ : Int} {t4 : Int} {t7 : Int} {t8 : Int} {v_s : Value} (hle : H0.le H) (he : slices_Index_int_int.b0 k h s v_ t4 t7 t8 = some r) (h_s : Src (Kd.int .i64) H L v_s s) : Wp Tryd.prog 64 19 slices_Index_int_int.Kl0 (upd (upd (upd (upd (upd jk_ 0 (v_s)) 1 (.int .i64 v_)) 4 (.int .i64 t4)) 7 (.int .i64 t7)) 8 (.int .i64 t8)) H (L) (slices_Index_int_int.R H0 L r) := by
 unfold slices_Index_int_int.b0 at he
 unfold slices_Index_int_int.Kl0
 refine w_seq <| w_region rfl <| w_d rfl (d_lss rfl rfl) <| w_done <| w_seq ?_
 rcases its he with ⟨c1, he⟩ | ⟨c1, he⟩
 ·
  refine w_then rfl (decide_eq_true c1) <| w_skip <| w_seq <| w_block <| w_seq <| w_region rfl <| w_d rfl (d_move (v := .int .i64 t8) rfl) <| w_d rfl (d_assign (v := .int .i64 t8) rfl) <| w_done <| w_seq <| w_region rfl <| w_d rfl (d_move (v := .int .i64 v_) rfl) ?_
  refine w_d rfl (d_move (v := v_s) rfl) <| w_d rfl (d_move (v := .int .i64 t8) rfl) ?_
  obtain ⟨c2, he⟩ := rq he
  refine w_d rfl (d_index (sz := 1) Tryd.underlying85 sz3 rfl h_s rfl c2) <| w_d rfl (d_ldint ty3 rfl h_s c2) <| w_d rfl (d_eql rfl rfl) <| w_done ?_
  rcases its he with ⟨c3, he⟩ | ⟨c3, he⟩
  ·
   refine w_then rfl (decide_eq_true c3) <| w_seq <| w_region rfl <| w_d rfl (d_move (v := .int .i64 t8) rfl) <| w_d rfl (d_assign (v := .int .i64 t8) rfl) <| w_done ?_
   obtain rfl := Option.some.inj he
   refine w_return fn_64 rs_64 (.tmp (v := .int .i64 t8) rfl .nil) <| ⟨⟨[], rfl⟩, hle, rfl⟩
  ·
   refine w_else rfl (decide_eq_false c3) <| w_skip <| w_inBlock <| w_region rfl <| w_d rfl (d_add (c := w64 (t8 + 1)) rfl rfl rfl) <| w_d rfl (d_move (v := .int .i64 (w64 (t8 + 1))) rfl) <| w_done <| w_inLoop <| w_sl 0 (v_s) rfl <| w_sl 1 (.int .i64 v_) rfl <| w_sl 4 (.int .i64 t4) rfl <| w_sl 7 (.int .i64 t7) rfl ?_
   refine w_sl 8 (.int .i64 (w64 (t8 + 1))) rfl <| hh.l0 hle he h_s
 ·
  refine w_else rfl (decide_eq_false c1) <| w_exit rfl <| w_seq <| w_region rfl <| w_d rfl (d_assign (v := .int .i64 (-1)) rfl) <| w_done ?_
  obtain rfl := Option.some.inj he
  refine w_return fn_64 rs_64 (.tmp (v := .int .i64 (-1)) rfl .nil) <| ⟨⟨[], rfl⟩, hle, rfl⟩
theorem slices_Index_int_int.ok : ∀ k, slices_Index_int_int.OK (slices_Index_int_int.hs k)
 | 0 => ⟨(by intros; exact nomatch (show none = some _ from by assumption))⟩
 | k + 1 => ⟨slices_Index_int_int.b0_ok (k := k) (slices_Index_int_int.ok k)⟩
theorem slices_Index_int_int.calls (k : Nat) {H : Hp} {L : Items} {s : List Int} {v_ : Int} {v0_s : Value} {r : Int} (he : slices_Index_int_int.f k s v_ = some r) (h0_s : Src (Kd.int .i64) H L v0_s s) : Ct Tryd.prog 64 ⟨[v0_s, .int .i64 v_]⟩ H L (fun v H' L' => L = L' ∧ H = H' ∧ v = .int .i64 r) := by
 refine ct_outs (O := slices_Index_int_int.out r) (fun _ _ h => h) ?_
 have hle : H.le H := .refl _
 have hh := slices_Index_int_int.ok k
 unfold slices_Index_int_int.f at he
 refine ct_enter (args := [v0_s, .int .i64 v_]) fn_64 rfl nt_64 rfl <| w_seq <| w_region rfl <| w_d rfl (d_assign (v := .int .i64 0) rfl) <| w_done <| w_seq <| w_seq <| w_region rfl <| w_d rfl (d_move (v := v0_s) rfl) <| w_d rfl (d_len Tryd.underlying85 rfl h0_s) <| w_d rfl (d_move (v := .int .i64 0) rfl) <| w_done ?_
 refine w_block <| w_loop <| w_sl 0 (v0_s) rfl <| w_sl 1 (.int .i64 v_) rfl <| w_sl 4 (.int .i64 0) rfl <| w_sl 7 (.int .i64 (s.length : Int)) rfl <| w_sl 8 (.int .i64 0) rfl <| hh.l0 hle he h0_s
/-! ### slices.Contains[[]int,int] -/
noncomputable def slices_Contains_int_int.C : Code := (Tryd.f53.body).getD .skip
def slices_Contains_int_int.out (r : Bool) (H : Hp) (v : Value) : Prop := v = .bool r
abbrev slices_Contains_int_int.R (H0 : Hp) (L : Items) (r : Bool) : Value → Hp → Items → Prop := fun v H' L' => (∃ p, L' = p ++ L) ∧ H0.le H' ∧ slices_Contains_int_int.out r H' v
noncomputable def slices_Contains_int_int.f (k : Nat) (s : List Int) (v_ : Int) : Option Bool := (slices_Index_int_int.f k s v_).bind fun y1 => some (decide (0 ≤ y1))
theorem slices_Contains_int_int.mono : ∀ k y0 y1, LeO (slices_Contains_int_int.f k y0 y1) (slices_Contains_int_int.f (k + 1) y0 y1) := fun k _ _ => by unfold slices_Contains_int_int.f; exact (LeO.bind (slices_Index_int_int.mono k _ _) fun _ => LeO.refl _)
theorem slices_Contains_int_int.calls (k : Nat) {H : Hp} {L : Items} {s : List Int} {v_ : Int} {v0_s : Value} {r : Bool} (he : slices_Contains_int_int.f k s v_ = some r) (h0_s : Src (Kd.int .i64) H L v0_s s) : Ct Tryd.prog 53 ⟨[v0_s, .int .i64 v_]⟩ H L (fun v H' L' => L = L' ∧ H = H' ∧ v = .bool r) := by
 refine ct_outs (O := slices_Contains_int_int.out r) (fun _ _ h => h) ?_
 have hle : H.le H := .refl _
 unfold slices_Contains_int_int.f at he
 refine ct_enter (args := [v0_s, .int .i64 v_]) fn_53 rfl nt_53 rfl <| w_seq <| w_region rfl <| w_d rfl (d_assign (v := .bool false) rfl) <| w_done <| w_seq <| w_region rfl <| w_d rfl (d_move (v := v0_s) rfl) <| w_d rfl (d_move (v := .int .i64 v_) rfl) ?_
 obtain ⟨y1, hy2, he⟩ := Option.bind_eq_some_iff.1 he
 refine w_d rfl (call_d (o_call co64 (vs := [v0_s, .int .i64 v_]) rfl (slices_Index_int_int.calls k hy2 h0_s))) <| w_d rfl (d_geq rfl rfl) <| w_d rfl (d_assign (v := .bool (decide (0 ≤ y1))) rfl) <| w_done ?_
 obtain rfl := Option.some.inj he
 refine w_return fn_53 rs_53 (.tmp (v := .bool (decide (0 ≤ y1))) rfl .nil) <| ⟨⟨[], rfl⟩, hle, rfl⟩
/-! ### radome/cluster.Free$1 -/
noncomputable def cluster_Free_1.C : Code := (Tryd.f52.body).getD .skip
def cluster_Free_1.out (r : Bool) (H : Hp) (v : Value) : Prop := v = .bool r
abbrev cluster_Free_1.R (H0 : Hp) (L : Items) (r : Bool) : Value → Hp → Items → Prop := fun v H' L' => (∃ p, L' = p ++ L) ∧ H0.le H' ∧ cluster_Free_1.out r H' v
noncomputable def cluster_Free_1.f (k : Nat) (l : List Int) (a1 : Int) : Option Bool := (slices_Contains_int_int.f k l a1).bind fun y1 => some (y1)
theorem cluster_Free_1.mono : ∀ k y0 y1, LeO (cluster_Free_1.f k y0 y1) (cluster_Free_1.f (k + 1) y0 y1) := fun k _ _ => by unfold cluster_Free_1.f; exact (LeO.bind (slices_Contains_int_int.mono k _ _) fun _ => LeO.refl _)
theorem cluster_Free_1.calls (k : Nat) {H : Hp} {L : Items} {l : List Int} {a1 : Int} {v0_l : Value} {b_a1 : Nat} {r : Bool} (he : cluster_Free_1.f k l a1 = some r) (h0_l : Src (Kd.int .i64) H L v0_l l) (hl_a1 : Lies H L ⟨b_a1, 0, none⟩ [.int .i64 a1]) : Ct Tryd.prog 52 ⟨[v0_l, .pointer (some ⟨b_a1, 0, none⟩)]⟩ H L (fun v H' L' => L = L' ∧ H = H' ∧ v = .bool r) := by
 refine ct_outs (O := cluster_Free_1.out r) (fun _ _ h => h) ?_
 have hle : H.le H := .refl _
 unfold cluster_Free_1.f at he
 refine ct_enter (args := [v0_l, .pointer (some ⟨b_a1, 0, none⟩)]) fn_52 rfl nt_52 rfl <| w_seq <| w_region rfl <| w_d rfl (d_assign (v := .bool false) rfl) <| w_done <| w_seq <| w_region rfl <| w_d rfl (d_move (v := v0_l) rfl) <| w_d rfl (d_loadl (v := .int .i64 a1) ty3 rfl (hl_a1) rfl rfl rfl rfl) ?_
 obtain ⟨y1, hy2, he⟩ := Option.bind_eq_some_iff.1 he
 refine w_d rfl (call_d (o_call co53 (vs := [v0_l, .int .i64 a1]) rfl (slices_Contains_int_int.calls k hy2 h0_l))) <| w_d rfl (d_assign (v := .bool y1) rfl) <| w_done ?_
 obtain rfl := Option.some.inj he
 refine w_return fn_52 rs_52 (.tmp (v := .bool y1) rfl .nil) <| ⟨⟨[], rfl⟩, hle, rfl⟩
/-! ### slices.IndexFunc[[][]int,[]int] -/
noncomputable def slices_IndexFunc_int_int_cluster_Free_1.C : Code := (Tryd.f63.body).getD .skip
def slices_IndexFunc_int_int_cluster_Free_1.out (r : Int) (H : Hp) (v : Value) : Prop := v = .int .i64 r
abbrev slices_IndexFunc_int_int_cluster_Free_1.R (H0 : Hp) (L : Items) (r : Int) : Value → Hp → Items → Prop := fun v H' L' => (∃ p, L' = p ++ L) ∧ H0.le H' ∧ slices_IndexFunc_int_int_cluster_Free_1.out r H' v
structure slices_IndexFunc_int_int_cluster_Free_1.Hs where
 l0 : (List (List Int)) → Int → Int → Int → Int → Option Int
noncomputable def slices_IndexFunc_int_int_cluster_Free_1.b0 (k : Nat) (h : slices_IndexFunc_int_int_cluster_Free_1.Hs)  (s : List (List Int)) (f_c0_1 : Int) (t4 : Int) (t7 : Int) (t8 : Int) : Option Int := if t8 < t7 then (if (0 : Int) ≤ t8 ∧ t8 < (s.length : Int) then ((cluster_Free_1.f k (rd s t8) f_c0_1).bind fun y7 => if y7 = true then (some (t8)) else (h.l0 s f_c0_1 t4 t7 (w64 (t8 + 1)))) else none) else (some ((-1)))
noncomputable def slices_IndexFunc_int_int_cluster_Free_1.hs : Nat → slices_IndexFunc_int_int_cluster_Free_1.Hs
 | 0 => ⟨fun _ _ _ _ _ => none⟩
 | k + 1 => ⟨fun x0 x1 x2 x3 x4 => slices_IndexFunc_int_int_cluster_Free_1.b0 k (slices_IndexFunc_int_int_cluster_Free_1.hs k) x0 x1 x2 x3 x4⟩
noncomputable def slices_IndexFunc_int_int_cluster_Free_1.f (k : Nat) (s : List (List Int)) (c1_0 : Int) : Option Int := (fun h : slices_IndexFunc_int_int_cluster_Free_1.Hs => h.l0 s c1_0 0 (s.length : Int) 0) (slices_IndexFunc_int_int_cluster_Free_1.hs k)
structure slices_IndexFunc_int_int_cluster_Free_1.LE (h h' : slices_IndexFunc_int_int_cluster_Free_1.Hs) : Prop where
 l0 : ∀ y0 y1 y2 y3 y4, LeO (h.l0 y0 y1 y2 y3 y4) (h'.l0 y0 y1 y2 y3 y4)
theorem slices_IndexFunc_int_int_cluster_Free_1.b0_mono {k : Nat} {h h' : slices_IndexFunc_int_int_cluster_Free_1.Hs} (hl : slices_IndexFunc_int_int_cluster_Free_1.LE h h') : ∀ y0 y1 y2 y3 y4, LeO (slices_IndexFunc_int_int_cluster_Free_1.b0 k h y0 y1 y2 y3 y4) (slices_IndexFunc_int_int_cluster_Free_1.b0 (k + 1) h' y0 y1 y2 y3 y4) := fun _ _ _ _ _ => (LeO.ite (LeO.ite (LeO.bind (cluster_Free_1.mono k _ _) fun _ => LeO.ite (LeO.refl _) (hl.l0 _ _ _ _ _)) (LeO.refl _)) (LeO.refl _))
theorem slices_IndexFunc_int_int_cluster_Free_1.hs_mono : ∀ k, slices_IndexFunc_int_int_cluster_Free_1.LE (slices_IndexFunc_int_int_cluster_Free_1.hs k) (slices_IndexFunc_int_int_cluster_Free_1.hs (k + 1))
 | 0 => ⟨fun _ _ _ _ _ => LeO.none _⟩
 | k + 1 => ⟨slices_IndexFunc_int_int_cluster_Free_1.b0_mono (k := k) (slices_IndexFunc_int_int_cluster_Free_1.hs_mono k)⟩
theorem slices_IndexFunc_int_int_cluster_Free_1.mono : ∀ k y0 y1, LeO (slices_IndexFunc_int_int_cluster_Free_1.f k y0 y1) (slices_IndexFunc_int_int_cluster_Free_1.f (k + 1) y0 y1) := fun k _ _ => have hl := slices_IndexFunc_int_int_cluster_Free_1.hs_mono k; by unfold slices_IndexFunc_int_int_cluster_Free_1.f; exact (hl.l0 _ _ _ _ _)
noncomputable def slices_IndexFunc_int_int_cluster_Free_1.Kl0 : List Item := .code (lopB (blkB (seqR (seqL (seqR slices_IndexFunc_int_int_cluster_Free_1.C))))) :: .inLoop (lopB (blkB (seqR (seqL (seqR slices_IndexFunc_int_int_cluster_Free_1.C))))) :: .inBlock 0 :: .code (seqR (seqR slices_IndexFunc_int_int_cluster_Free_1.C)) :: []
structure slices_IndexFunc_int_int_cluster_Free_1.OK (h : slices_IndexFunc_int_int_cluster_Free_1.Hs) : Prop where
 l0 : ∀ {H0 H : Hp} {L : Items} {r : Int} {jk_ : Nat → Value} {s : List (List Int)} {f_c0_1 : Int} {t4 : Int} {t7 : Int} {t8 : Int} {v_s : Value} {b_c1_0 : Nat} (_ : H0.le H) (_he : h.l0 s f_c0_1 t4 t7 t8 = some r) (_h_s : Src (Kd.slice (Kd.int .i64)) H L v_s s) (hl_f_c0 : Lies H L ⟨b_c1_0, 0, none⟩ [.int .i64 f_c0_1]), Wp Tryd.prog 63 19 slices_IndexFunc_int_int_cluster_Free_1.Kl0 (upd (upd (upd (upd (upd jk_ 0 (v_s)) 1 (.func (.func 52) #[] #[.pointer (some ⟨b_c1_0, 0, none⟩)])) 4 (.int .i64 t4)) 7 (.int .i64 t7)) 8 (.int .i64 t8)) H (L) (slices_IndexFunc_int_int_cluster_Free_1.R H0 L r)
theorem slices_IndexFunc_int_int_cluster_Free_1.b0_ok {k : Nat} {h : slices_IndexFunc_int_int_cluster_Free_1.Hs} (hh : slices_IndexFunc_int_int_cluster_Free_1.OK h) {H0 H : Hp} {L : Items} {r : Int} {jk_ : Nat → Value} {s : List (List Int)} {f_c0_1 : Int} {t4 : Int} {t7 : Int} {t8 : Int} {v_s : Value} {b_c1_0 : Nat} (hle : H0.le H) (he : slices_IndexFunc_int_int_cluster_Free_1.b0 k h s f_c0_1 t4 t7 t8 = some r) (h_s : Src (Kd.slice (Kd.int .i64)) H L v_s s) (hl_f_c0 : Lies H L ⟨b_c1_0, 0, none⟩ [.int .i64 f_c0_1]) : Wp Tryd.prog 63 19 slices_IndexFunc_int_int_cluster_Free_1.Kl0 (upd (upd (upd (upd (upd jk_ 0 (v_s)) 1 (.func (.func 52) #[] #[.pointer (some ⟨b_c1_0, 0, none⟩)])) 4 (.int .i64 t4)) 7 (.int .i64 t7)) 8 (.int .i64 t8)) H (L) (slices_IndexFunc_int_int_cluster_Free_1.R H0 L r) := by
 unfold slices_IndexFunc_int_int_cluster_Free_1.b0 at he
 unfold slices_IndexFunc_int_int_cluster_Free_1.Kl0
 refine w_seq <| w_region rfl <| w_d rfl (d_lss rfl rfl) <| w_done <| w_seq ?_
 rcases its he with ⟨c1, he⟩ | ⟨c1, he⟩
 ·
  refine w_then rfl (decide_eq_true c1) <| w_skip <| w_seq <| w_block <| w_seq <| w_region rfl <| w_d rfl (d_move (v := .int .i64 t8) rfl) <| w_d rfl (d_assign (v := .int .i64 t8) rfl) <| w_done <| w_seq <| w_region rfl <| w_d rfl (d_move (v := .func (.func 52) #[] #[.pointer (some ⟨b_c1_0, 0, none⟩)]) rfl) ?_
  refine w_d rfl (d_move (v := v_s) rfl) <| w_d rfl (d_move (v := .int .i64 t8) rfl) ?_
  obtain ⟨c2, he⟩ := rq he
  refine w_d rfl (d_index (sz := 1) Tryd.underlying81 sz85 rfl h_s rfl c2) ?_
  obtain ⟨_, l3, r4⟩ := el_of (kd := (Kd.slice (Kd.int .i64))) h_s c2
  obtain ⟨v5, rfl, h6⟩ := r4
  refine w_d rfl (d_load (v := v5) (cs := [v5]) ty85 rfl rfl (by decide) l3 rfl) ?_
  obtain ⟨y7, hy8, he⟩ := Option.bind_eq_some_iff.1 he
  refine w_d rfl (call_d (o_callc rfl co52 (vs := [v5]) (ws := [v5, .pointer (some ⟨b_c1_0, 0, none⟩)]) rfl rfl (cluster_Free_1.calls k (a1 := f_c0_1) hy8 h6.src (hl_f_c0)))) <| w_done ?_
  rcases its he with ⟨c11, he⟩ | ⟨c11, he⟩
  ·
   refine w_then rfl c11 <| w_seq <| w_region rfl <| w_d rfl (d_move (v := .int .i64 t8) rfl) <| w_d rfl (d_assign (v := .int .i64 t8) rfl) <| w_done ?_
   obtain rfl := Option.some.inj he
   refine w_return fn_63 rs_63 (.tmp (v := .int .i64 t8) rfl .nil) <| ⟨⟨[], rfl⟩, hle, rfl⟩
  ·
   refine w_else rfl (Bool.eq_false_iff.2 c11) <| w_skip <| w_inBlock <| w_region rfl <| w_d rfl (d_add (c := w64 (t8 + 1)) rfl rfl rfl) <| w_d rfl (d_move (v := .int .i64 (w64 (t8 + 1))) rfl) <| w_done <| w_inLoop <| w_sl 0 (v_s) rfl <| w_sl 1 (.func (.func 52) #[] #[.pointer (some ⟨b_c1_0, 0, none⟩)]) rfl <| w_sl 4 (.int .i64 t4) rfl <| w_sl 7 (.int .i64 t7) rfl ?_
   refine w_sl 8 (.int .i64 (w64 (t8 + 1))) rfl <| hh.l0 hle he h_s hl_f_c0
 ·
  refine w_else rfl (decide_eq_false c1) <| w_exit rfl <| w_seq <| w_region rfl <| w_d rfl (d_assign (v := .int .i64 (-1)) rfl) <| w_done ?_
  obtain rfl := Option.some.inj he
  refine w_return fn_63 rs_63 (.tmp (v := .int .i64 (-1)) rfl .nil) <| ⟨⟨[], rfl⟩, hle, rfl⟩
theorem slices_IndexFunc_int_int_cluster_Free_1.ok : ∀ k, slices_IndexFunc_int_int_cluster_Free_1.OK (slices_IndexFunc_int_int_cluster_Free_1.hs k)
 | 0 => ⟨(by intros; exact nomatch (show none = some _ from by assumption))⟩
 | k + 1 => ⟨slices_IndexFunc_int_int_cluster_Free_1.b0_ok (k := k) (slices_IndexFunc_int_int_cluster_Free_1.ok k)⟩
theorem slices_IndexFunc_int_int_cluster_Free_1.calls (k : Nat) {H : Hp} {L : Items} {s : List (List Int)} {c1_0 : Int} {v0_s : Value} {b_c1_0 : Nat} {r : Int} (he : slices_IndexFunc_int_int_cluster_Free_1.f k s c1_0 = some r) (h0_s : Src (Kd.slice (Kd.int .i64)) H L v0_s s) (hl_c1_0 : Lies H L ⟨b_c1_0, 0, none⟩ [.int .i64 c1_0]) : Ct Tryd.prog 63 ⟨[v0_s, .func (.func 52) #[] #[.pointer (some ⟨b_c1_0, 0, none⟩)]]⟩ H L (fun v H' L' => L = L' ∧ H = H' ∧ v = .int .i64 r) := by
 refine ct_outs (O := slices_IndexFunc_int_int_cluster_Free_1.out r) (fun _ _ h => h) ?_
 have hle : H.le H := .refl _
 have hh := slices_IndexFunc_int_int_cluster_Free_1.ok k
 unfold slices_IndexFunc_int_int_cluster_Free_1.f at he
 refine ct_enter (args := [v0_s, .func (.func 52) #[] #[.pointer (some ⟨b_c1_0, 0, none⟩)]]) fn_63 rfl nt_63 rfl <| w_seq <| w_region rfl <| w_d rfl (d_assign (v := .int .i64 0) rfl) <| w_done <| w_seq <| w_seq <| w_region rfl <| w_d rfl (d_move (v := v0_s) rfl) <| w_d rfl (d_len Tryd.underlying81 rfl h0_s) <| w_d rfl (d_move (v := .int .i64 0) rfl) <| w_done ?_
 refine w_block <| w_loop <| w_sl 0 (v0_s) rfl <| w_sl 1 (.func (.func 52) #[] #[.pointer (some ⟨b_c1_0, 0, none⟩)]) rfl <| w_sl 4 (.int .i64 0) rfl <| w_sl 7 (.int .i64 (s.length : Int)) rfl <| w_sl 8 (.int .i64 0) rfl <| hh.l0 hle he h0_s hl_c1_0
/-! ### slices.ContainsFunc[[][]int,[]int] -/
noncomputable def slices_ContainsFunc_int_int_cluster_Free_1.C : Code := (Tryd.f51.body).getD .skip
def slices_ContainsFunc_int_int_cluster_Free_1.out (r : Bool) (H : Hp) (v : Value) : Prop := v = .bool r
abbrev slices_ContainsFunc_int_int_cluster_Free_1.R (H0 : Hp) (L : Items) (r : Bool) : Value → Hp → Items → Prop := fun v H' L' => (∃ p, L' = p ++ L) ∧ H0.le H' ∧ slices_ContainsFunc_int_int_cluster_Free_1.out r H' v
noncomputable def slices_ContainsFunc_int_int_cluster_Free_1.f (k : Nat) (s : List (List Int)) (c1_0 : Int) : Option Bool := (slices_IndexFunc_int_int_cluster_Free_1.f k s c1_0).bind fun y1 => some (decide (0 ≤ y1))
theorem slices_ContainsFunc_int_int_cluster_Free_1.mono : ∀ k y0 y1, LeO (slices_ContainsFunc_int_int_cluster_Free_1.f k y0 y1) (slices_ContainsFunc_int_int_cluster_Free_1.f (k + 1) y0 y1) := fun k _ _ => by unfold slices_ContainsFunc_int_int_cluster_Free_1.f; exact (LeO.bind (slices_IndexFunc_int_int_cluster_Free_1.mono k _ _) fun _ => LeO.refl _)
theorem slices_ContainsFunc_int_int_cluster_Free_1.calls (k : Nat) {H : Hp} {L : Items} {s : List (List Int)} {c1_0 : Int} {v0_s : Value} {b_c1_0 : Nat} {r : Bool} (he : slices_ContainsFunc_int_int_cluster_Free_1.f k s c1_0 = some r) (h0_s : Src (Kd.slice (Kd.int .i64)) H L v0_s s) (hl_c1_0 : Lies H L ⟨b_c1_0, 0, none⟩ [.int .i64 c1_0]) : Ct Tryd.prog 51 ⟨[v0_s, .func (.func 52) #[] #[.pointer (some ⟨b_c1_0, 0, none⟩)]]⟩ H L (fun v H' L' => L = L' ∧ H = H' ∧ v = .bool r) := by
 refine ct_outs (O := slices_ContainsFunc_int_int_cluster_Free_1.out r) (fun _ _ h => h) ?_
 have hle : H.le H := .refl _
 unfold slices_ContainsFunc_int_int_cluster_Free_1.f at he
 refine ct_enter (args := [v0_s, .func (.func 52) #[] #[.pointer (some ⟨b_c1_0, 0, none⟩)]]) fn_51 rfl nt_51 rfl <| w_seq <| w_region rfl <| w_d rfl (d_assign (v := .bool false) rfl) <| w_done <| w_seq <| w_region rfl <| w_d rfl (d_move (v := v0_s) rfl) <| w_d rfl (d_move (v := .func (.func 52) #[] #[.pointer (some ⟨b_c1_0, 0, none⟩)]) rfl) ?_
 obtain ⟨y1, hy2, he⟩ := Option.bind_eq_some_iff.1 he
 refine w_d rfl (call_d (o_call co63 (vs := [v0_s, .func (.func 52) #[] #[.pointer (some ⟨b_c1_0, 0, none⟩)]]) rfl (slices_IndexFunc_int_int_cluster_Free_1.calls k hy2 h0_s (hl_c1_0)))) <| w_d rfl (d_geq rfl rfl) <| w_d rfl (d_assign (v := .bool (decide (0 ≤ y1))) rfl) <| w_done ?_
 obtain rfl := Option.some.inj he
 refine w_return fn_51 rs_51 (.tmp (v := .bool (decide (0 ≤ y1))) rfl .nil) <| ⟨⟨[], rfl⟩, hle, rfl⟩
/-! ### radome/cluster.Free -/
noncomputable def cluster_Free.C : Code := (Tryd.f33.body).getD .skip
def cluster_Free.out (r : (List Int) × (Option Int)) (H : Hp) (v : Value) : Prop := ∃ v0, v = .tuple ⟨[v0, errV 99 r.2]⟩ ∧ Ro (Kd.int .i64) H v0 r.1
theorem cluster_Free.out_mono (r : (List Int) × (Option Int)) {H H' : Hp} {v : Value} (hle : H.le H') (h : cluster_Free.out r H v) : cluster_Free.out r H' v := by
 obtain ⟨v0, rfl, h0⟩ := h; exact ⟨v0, rfl, h0.mono hle⟩
abbrev cluster_Free.R (H0 : Hp) (L : Items) (r : (List Int) × (Option Int)) : Value → Hp → Items → Prop := fun v H' L' => (∃ p, L' = p ++ L) ∧ H0.le H' ∧ cluster_Free.out r H' v
structure cluster_Free.Hs where
 l0 : (List (List Int)) → (List Int) → Int → Int → Option ((List Int) × (Option Int))
noncomputable def cluster_Free.b0 (k : Nat) (h : cluster_Free.Hs)  (pairs : List (List Int)) (out : List Int) (t15 : Int) (t16 : Int) : Option ((List Int) × (Option Int)) := if t16 < t15 then ((slices_ContainsFunc_int_int_cluster_Free_1.f k pairs t16).bind fun y8 => if (!y8) = true then (if out.length + 1 ≤ 17592186044288 then (h.l0 pairs (out ++ [t16]) t15 (w64 (t16 + 1))) else none) else (h.l0 pairs out t15 (w64 (t16 + 1)))) else (some (out, none))
noncomputable def cluster_Free.hs : Nat → cluster_Free.Hs
 | 0 => ⟨fun _ _ _ _ => none⟩
 | k + 1 => ⟨fun x0 x1 x2 x3 => cluster_Free.b0 k (cluster_Free.hs k) x0 x1 x2 x3⟩
noncomputable def cluster_Free.f (k : Nat) (pairs : List (List Int)) (plots : Int) : Option ((List Int) × (Option Int)) := (fun h : cluster_Free.Hs => (cluster_Check.f k pairs plots).bind fun y1 => if y1.isSome = true then (some ([], y1)) else (h.l0 pairs [] plots 0)) (cluster_Free.hs k)
structure cluster_Free.LE (h h' : cluster_Free.Hs) : Prop where
 l0 : ∀ y0 y1 y2 y3, LeO (h.l0 y0 y1 y2 y3) (h'.l0 y0 y1 y2 y3)
theorem cluster_Free.b0_mono {k : Nat} {h h' : cluster_Free.Hs} (hl : cluster_Free.LE h h') : ∀ y0 y1 y2 y3, LeO (cluster_Free.b0 k h y0 y1 y2 y3) (cluster_Free.b0 (k + 1) h' y0 y1 y2 y3) := fun _ _ _ _ => (LeO.ite (LeO.bind (slices_ContainsFunc_int_int_cluster_Free_1.mono k _ _) fun _ => LeO.ite (LeO.ite (hl.l0 _ _ _ _) (LeO.refl _)) (hl.l0 _ _ _ _)) (LeO.refl _))
theorem cluster_Free.hs_mono : ∀ k, cluster_Free.LE (cluster_Free.hs k) (cluster_Free.hs (k + 1))
 | 0 => ⟨fun _ _ _ _ => LeO.none _⟩
 | k + 1 => ⟨cluster_Free.b0_mono (k := k) (cluster_Free.hs_mono k)⟩
theorem cluster_Free.mono : ∀ k y0 y1, LeO (cluster_Free.f k y0 y1) (cluster_Free.f (k + 1) y0 y1) := fun k _ _ => have hl := cluster_Free.hs_mono k; by unfold cluster_Free.f; exact (LeO.bind (cluster_Check.mono k _ _) fun _ => LeO.ite (LeO.refl _) (hl.l0 _ _ _ _))
noncomputable def cluster_Free.Kl0 : List Item := .code (lopB (blkB (seqR (seqL (seqR (seqR (seqR cluster_Free.C))))))) :: .inLoop (lopB (blkB (seqR (seqL (seqR (seqR (seqR cluster_Free.C))))))) :: .inBlock 0 :: .code (seqR (seqR (seqR (seqR cluster_Free.C)))) :: []
structure cluster_Free.OK (h : cluster_Free.Hs) : Prop where
 l0 : ∀ {H0 H : Hp} {L : Items} {r : (List Int) × (Option Int)} {jk_ : Nat → Value} {pairs : List (List Int)} {out : List Int} {t15 : Int} {t16 : Int} {v_pairs : Value} {v_out : Value} {i_out : Item'} (_ : H0.le H) (_he : h.l0 pairs out t15 t16 = some r) (_h_pairs : Src (Kd.slice (Kd.int .i64)) H L v_pairs pairs) (_h_out : Sl (Kd.int .i64) H 3 i_out v_out out), Wp Tryd.prog 33 29 cluster_Free.Kl0 (upd (upd (upd (upd (upd (upd jk_ 0 (v_pairs)) 4 (.slice none 0 0)) 5 (errV 99 none)) 7 (v_out)) 15 (.int .i64 t15)) 16 (.int .i64 t16)) H (i_out :: L) (cluster_Free.R H0 L r)
theorem cluster_Free.b0_ok {k : Nat} {h : cluster_Free.Hs} (hh : cluster_Free.OK h) {H0 H : Hp} {L : Items} {r : (List Int) × (Option Int)} {jk_ : Nat → Value} {pairs : List (List Int)} {out : List Int} {t15 : Int} {t16 : Int} {v_pairs : Value} {v_out : Value} {i_out : Item'} (hle : H0.le H) (he : cluster_Free.b0 k h pairs out t15 t16 = some r) (h_pairs : Src (Kd.slice (Kd.int .i64)) H L v_pairs pairs) (h_out : Sl (Kd.int .i64) H 3 i_out v_out out) : Wp Tryd.prog 33 29 cluster_Free.Kl0 (upd (upd (upd (upd (upd (upd jk_ 0 (v_pairs)) 4 (.slice none 0 0)) 5 (errV 99 none)) 7 (v_out)) 15 (.int .i64 t15)) 16 (.int .i64 t16)) H (i_out :: L) (cluster_Free.R H0 L r) := by
 unfold cluster_Free.b0 at he
 unfold cluster_Free.Kl0
 refine w_seq <| w_region rfl <| w_d rfl (d_lss rfl rfl) <| w_done <| w_seq ?_
 rcases its he with ⟨c6, he⟩ | ⟨c6, he⟩
 ·
  refine w_then rfl (decide_eq_true c6) <| w_skip <| w_seq <| w_block <| w_seq <| w_region rfl <| w_d rfl (d_move (v := .int .i64 t16) rfl) <| w_a rfl (o_alloc zr3 rfl) ?_
  rintro _ _ _ ⟨b7, rfl, rfl, rfl⟩
  refine w_a0 rfl (o_store (v := .int .i64 t16) sz3 rfl rfl rfl rfl (one_cons rfl one_nil) .here (.here .done)) ?_
  rintro _ _ _ ⟨rfl, rfl, rfl⟩
  refine w_done <| w_seq <| w_region rfl <| w_d rfl (d_move (v := v_pairs) rfl) <| w_d rfl (d_makeFunc (fs := []) (cs := [.pointer (some ⟨b7, 0, none⟩)]) rfl rfl) ?_
  obtain ⟨y8, hy9, he⟩ := Option.bind_eq_some_iff.1 he
  refine w_d rfl (call_d (o_call co51 (vs := [v_pairs, .func (.func 52) #[] #[.pointer (some ⟨b7, 0, none⟩)]]) rfl (slices_ContainsFunc_int_int_cluster_Free_1.calls k hy9 h_pairs.th.th (lies_own .here)))) <| w_d rfl (d_not (b := y8) rfl) <| w_done ?_
  rcases its he with ⟨c12, he⟩ | ⟨c12, he⟩
  ·
   refine w_then rfl c12 <| w_region rfl <| w_d rfl (d_move (v := v_out) rfl) <| w_d rfl (d_loado (v := .int .i64 t16) ty3 rfl .here rfl rfl rfl rfl) <| w_a rfl (o_buildSlice' (kd := (Kd.int .i64)) (css := [[.int .i64 t16]]) (xs := [t16]) (parts := [(0, .int .i64 t16)]) Tryd.underlying85 ti3 rfl ⟨_, _, rfl, rfl, rfl⟩ ⟨rfl, trivial⟩ rfl (by decide)) ?_
   rintro v13 _ _ ⟨i14, rfl, rfl, h15⟩
   obtain ⟨c16, he⟩ := rq he
   refine w_a rfl (o_append' (kd := (Kd.int .i64)) (F := fun z_ => i14 :: some (b7, .cells ⟨[.int .i64 t16]⟩ 3 (0, 0)) :: z_ :: L) Tryd.underlying85 Tryd.underlying85 ti3 rfl (by first | omega | (simp only [List.nil_append, List.length_cons, List.length_nil]; omega)) rfl rfl h_out (h15.src .here) (fun _ => (.there (.there .here)))) ?_
   rintro v17 _ _ ⟨i18, rfl, rfl, h19⟩
   refine w_d rfl (d_assign (v := v17) rfl) <| w_done <| w_inBlock <| w_region rfl <| w_d rfl (d_add (c := w64 (t16 + 1)) rfl rfl rfl) <| w_d rfl (d_move (v := .int .i64 (w64 (t16 + 1))) rfl) <| w_done <| w_inLoop <| w_del (.there .here) <| w_del .here <| w_sl 0 (v_pairs) rfl <| w_sl 4 (.slice none 0 0) rfl ?_
   refine w_sl 5 (errV 99 none) rfl <| w_sl 7 (v17) rfl <| w_sl 15 (.int .i64 t15) rfl <| w_sl 16 (.int .i64 (w64 (t16 + 1))) rfl <| hh.l0 hle he h_pairs h19
  ·
   refine w_else rfl (Bool.eq_false_iff.2 c12) <| w_skip <| w_inBlock <| w_region rfl <| w_d rfl (d_add (c := w64 (t16 + 1)) rfl rfl rfl) <| w_d rfl (d_move (v := .int .i64 (w64 (t16 + 1))) rfl) <| w_done <| w_inLoop <| w_del .here <| w_sl 0 (v_pairs) rfl <| w_sl 4 (.slice none 0 0) rfl <| w_sl 5 (errV 99 none) rfl ?_
   refine w_sl 7 (v_out) rfl <| w_sl 15 (.int .i64 t15) rfl <| w_sl 16 (.int .i64 (w64 (t16 + 1))) rfl <| hh.l0 hle he h_pairs h_out
 ·
  refine w_else rfl (decide_eq_false c6) <| w_exit rfl <| w_seq <| w_region rfl <| w_d rfl (d_move (v := v_out) rfl) <| w_d rfl (d_assign (v := v_out) rfl) <| w_d rfl (d_assign (v := errV 99 none) rfl) <| w_done <| w_freeze h_out .here ?_
  intro H20 e21 h22
  obtain rfl := Option.some.inj he
  refine w_return fn_33 rs_33 (.tmp (v := v_out) rfl (.tmp (v := errV 99 none) rfl .nil)) <| ⟨⟨[_], rfl⟩, hle.trans e21, ⟨v_out, rfl, h22⟩⟩
theorem cluster_Free.ok : ∀ k, cluster_Free.OK (cluster_Free.hs k)
 | 0 => ⟨(by intros; exact nomatch (show none = some _ from by assumption))⟩
 | k + 1 => ⟨cluster_Free.b0_ok (k := k) (cluster_Free.ok k)⟩
theorem cluster_Free.calls (k : Nat) {H : Hp} {L : Items} {pairs : List (List Int)} {plots : Int} {v0_pairs : Value} {r : (List Int) × (Option Int)} (he : cluster_Free.f k pairs plots = some r) (h0_pairs : Src (Kd.slice (Kd.int .i64)) H L v0_pairs pairs) : Ct Tryd.prog 33 ⟨[v0_pairs, .int .i64 plots]⟩ H L (fun v H' L' => L = L' ∧ H.le H' ∧ cluster_Free.out r H' v) := by
 refine ct_out (O := cluster_Free.out r) ?_
 have hle : H.le H := .refl _
 have hh := cluster_Free.ok k
 unfold cluster_Free.f at he
 refine ct_enter (args := [v0_pairs, .int .i64 plots]) fn_33 rfl nt_33 rfl <| w_seq <| w_region rfl <| w_d rfl (d_assign (v := .slice none 0 0) rfl) <| w_d rfl (d_assign (v := errV 99 none) rfl) <| w_done <| w_seq <| w_seq <| w_region rfl <| w_d rfl (d_move (v := v0_pairs) rfl) <| w_d rfl (d_move (v := .int .i64 plots) rfl) ?_
 obtain ⟨y1, hy2, he⟩ := Option.bind_eq_some_iff.1 he
 refine w_d rfl (call_d (o_call co36 (vs := [v0_pairs, .int .i64 plots]) rfl (cluster_Check.calls k hy2 h0_pairs))) <| w_d rfl (d_assign (v := errV 99 y1) rfl) <| w_done <| w_seq <| w_region rfl <| w_d rfl (d_move (v := errV 99 y1) rfl) <| w_d rfl (d_nenil (e := y1) Tryd.underlying36 rfl) <| w_done ?_
 rcases its he with ⟨c5, he⟩ | ⟨c5, he⟩
 ·
  refine w_then rfl c5 <| w_seq <| w_region rfl <| w_d rfl (d_move (v := errV 99 y1) rfl) <| w_d rfl (d_assign (v := .slice none 0 0) rfl) <| w_d rfl (d_assign (v := errV 99 y1) rfl) <| w_done ?_
  obtain rfl := Option.some.inj he
  refine w_return fn_33 rs_33 (.tmp (v := .slice none 0 0) rfl (.tmp (v := errV 99 y1) rfl .nil)) <| ⟨⟨[], rfl⟩, hle, ⟨.slice none 0 0, rfl, (ro_nil _ _)⟩⟩
 ·
  refine w_else rfl (Bool.eq_false_iff.2 c5) <| w_skip <| w_seq <| w_region rfl <| w_d rfl (d_assign (v := .slice none 0 0) rfl) <| w_done <| w_seq <| w_seq <| w_region rfl <| w_d rfl (d_move (v := .int .i64 plots) rfl) <| w_d rfl (d_move (v := .int .i64 0) rfl) <| w_done ?_
  refine w_block <| w_loop <| w_none <| w_sl 0 (v0_pairs) rfl <| w_sl 4 (.slice none 0 0) rfl <| w_sl 5 (errV 99 none) rfl <| w_sl 7 (.slice none 0 0) rfl <| w_sl 15 (.int .i64 plots) rfl <| w_sl 16 (.int .i64 0) rfl <| hh.l0 hle he h0_pairs (sl_nil _ _ _)
/-! ### radome/radomelaw19.ints -/
noncomputable def radomelaw19_ints.C : Code := (Tryd.f39.body).getD .skip
def radomelaw19_ints.out (r : Bool) (H : Hp) (v : Value) : Prop := v = .bool r
abbrev radomelaw19_ints.R (H0 : Hp) (L : Items) (r : Bool) : Value → Hp → Items → Prop := fun v H' L' => (∃ p, L' = p ++ L) ∧ H0.le H' ∧ radomelaw19_ints.out r H' v
structure radomelaw19_ints.Hs where
 l0 : (List Int) → (List Int) → Bool → Int → Option Bool
noncomputable def radomelaw19_ints.b0 (k : Nat) (h : radomelaw19_ints.Hs)  (a : List Int) (b : List Int) (t4 : Bool) (i : Int) : Option Bool := if i < (a.length : Int) then (if (0 : Int) ≤ i ∧ i < (a.length : Int) then (if (0 : Int) ≤ i ∧ i < (b.length : Int) then (if (rd a i) = (rd b i) then (h.l0 a b t4 (w64 (i + 1))) else (some (false))) else none) else none) else (some (true))
noncomputable def radomelaw19_ints.hs : Nat → radomelaw19_ints.Hs
 | 0 => ⟨fun _ _ _ _ => none⟩
 | k + 1 => ⟨fun x0 x1 x2 x3 => radomelaw19_ints.b0 k (radomelaw19_ints.hs k) x0 x1 x2 x3⟩
noncomputable def radomelaw19_ints.f (k : Nat) (a : List Int) (b : List Int) : Option Bool := (fun h : radomelaw19_ints.Hs => if (a.length : Int) = (b.length : Int) then (h.l0 a b false 0) else (some (false))) (radomelaw19_ints.hs k)
structure radomelaw19_ints.LE (h h' : radomelaw19_ints.Hs) : Prop where
 l0 : ∀ y0 y1 y2 y3, LeO (h.l0 y0 y1 y2 y3) (h'.l0 y0 y1 y2 y3)
theorem radomelaw19_ints.b0_mono {k : Nat} {h h' : radomelaw19_ints.Hs} (hl : radomelaw19_ints.LE h h') : ∀ y0 y1 y2 y3, LeO (radomelaw19_ints.b0 k h y0 y1 y2 y3) (radomelaw19_ints.b0 (k + 1) h' y0 y1 y2 y3) := fun _ _ _ _ => (LeO.ite (LeO.ite (LeO.ite (LeO.ite (hl.l0 _ _ _ _) (LeO.refl _)) (LeO.refl _)) (LeO.refl _)) (LeO.refl _))
theorem radomelaw19_ints.hs_mono : ∀ k, radomelaw19_ints.LE (radomelaw19_ints.hs k) (radomelaw19_ints.hs (k + 1))
 | 0 => ⟨fun _ _ _ _ => LeO.none _⟩
 | k + 1 => ⟨radomelaw19_ints.b0_mono (k := k) (radomelaw19_ints.hs_mono k)⟩
theorem radomelaw19_ints.mono : ∀ k y0 y1, LeO (radomelaw19_ints.f k y0 y1) (radomelaw19_ints.f (k + 1) y0 y1) := fun k _ _ => have hl := radomelaw19_ints.hs_mono k; by unfold radomelaw19_ints.f; exact (LeO.ite (hl.l0 _ _ _ _) (LeO.refl _))
noncomputable def radomelaw19_ints.Kl0 : List Item := .code (lopB (blkB (seqR (seqL (seqR (seqR radomelaw19_ints.C)))))) :: .inLoop (lopB (blkB (seqR (seqL (seqR (seqR radomelaw19_ints.C)))))) :: .inBlock 0 :: .code (seqR (seqR (seqR radomelaw19_ints.C))) :: []
structure radomelaw19_ints.OK (h : radomelaw19_ints.Hs) : Prop where
 l0 : ∀ {H0 H : Hp} {L : Items} {r : Bool} {jk_ : Nat → Value} {a : List Int} {b : List Int} {t4 : Bool} {i : Int} {v_a : Value} {v_b : Value} (_ : H0.le H) (_he : h.l0 a b t4 i = some r) (_h_a : Src (Kd.int .i64) H L v_a a) (_h_b : Src (Kd.int .i64) H L v_b b), Wp Tryd.prog 39 26 radomelaw19_ints.Kl0 (upd (upd (upd (upd jk_ 0 (v_a)) 1 (v_b)) 4 (.bool t4)) 5 (.int .i64 i)) H (L) (radomelaw19_ints.R H0 L r)
theorem radomelaw19_ints.b0_ok {k : Nat} {h : radomelaw19_ints.Hs} (hh : radomelaw19_ints.OK h) {H0 H : Hp} {L : Items} {r : Bool} {jk_ : Nat → Value} {a : List Int} {b : List Int} {t4 : Bool} {i : Int} {v_a : Value} {v_b : Value} (hle : H0.le H) (he : radomelaw19_ints.b0 k h a b t4 i = some r) (h_a : Src (Kd.int .i64) H L v_a a) (h_b : Src (Kd.int .i64) H L v_b b) : Wp Tryd.prog 39 26 radomelaw19_ints.Kl0 (upd (upd (upd (upd jk_ 0 (v_a)) 1 (v_b)) 4 (.bool t4)) 5 (.int .i64 i)) H (L) (radomelaw19_ints.R H0 L r) := by
 unfold radomelaw19_ints.b0 at he
 unfold radomelaw19_ints.Kl0
 refine w_seq <| w_seq <| w_region rfl <| w_d rfl (d_move (v := .int .i64 i) rfl) <| w_d rfl (d_move (v := v_a) rfl) <| w_d rfl (d_len Tryd.underlying85 rfl h_a) <| w_d rfl (d_lss rfl rfl) <| w_done ?_
 rcases its he with ⟨c2, he⟩ | ⟨c2, he⟩
 ·
  refine w_then rfl (decide_eq_true c2) <| w_skip <| w_seq <| w_block <| w_seq ?_
  obtain ⟨c3, he⟩ := rq he
  obtain ⟨c4, he⟩ := rq he
  refine w_drawn (p := 8) (tl := [8]) [[], [], [(0, some 17), (1, some 18)], [(2, some 19)], [], [], [(4, some 21), (5, some 22)], [(6, some 23)]] [some 17, some 18, some 19, some 20, some 21, some 22, some 23, some 24] (fctF (.is (v_a) :: .is (.int .i64 i) :: .is (.pointer (some (pel v_a i 1))) :: .is (.int .i64 (rd a i)) :: .is (v_b) :: .is (.int .i64 i) :: .is (.pointer (some (pel v_b i 1))) :: .is (.int .i64 (rd b i)) :: [])) (fun m_ => L) (fun _ => none) mixed (by kernel_rfl) (by kernel_rfl) rfl (fct_mono (by kernel_rfl)) ⟨(fun H' m_ hH hm_ hu_ => depK_nil <| s_d (m_ 0) rfl (d_move (v := v_a) rfl) (by exact rfl) rfl), (fun H' m_ hH hm_ hu_ => depK_nil <| s_d (m_ 1) rfl (d_move (v := .int .i64 i) rfl) (by exact rfl) rfl), (by rintro H' m_ hH hm_ hu_ _ rfl _ rfl; exact depK_nil <| s_d (m_ 2) rfl (d_index (sz := 1) Tryd.underlying85 sz3 rfl (h_a.mono hH) rfl c3) (by exact rfl) rfl), (by rintro H' m_ hH hm_ hu_ _ rfl; exact depK_nil <| s_d (m_ 3) rfl (d_ldint ty3 rfl (h_a.mono hH) c3) (by exact rfl) rfl), (fun H' m_ hH hm_ hu_ => depK_nil <| s_d (m_ 4) rfl (d_move (v := v_b) rfl) (by exact rfl) rfl), (fun H' m_ hH hm_ hu_ => depK_nil <| s_d (m_ 5) rfl (d_move (v := .int .i64 i) rfl) (by exact rfl) rfl), (by rintro H' m_ hH hm_ hu_ _ rfl _ rfl; exact depK_nil <| s_d (m_ 6) rfl (d_index (sz := 1) Tryd.underlying85 sz3 rfl (h_b.mono hH) rfl c4) (by exact rfl) rfl), (by rintro H' m_ hH hm_ hu_ _ rfl; exact depK_nil <| s_d (m_ 7) rfl (d_ldint ty3 rfl (h_b.mono hH) c4) (by exact rfl) rfl), trivial⟩ ?_
  intro H5 e6
  rintro _ _ rfl _ _ rfl _ _ rfl _ _ rfl _ _ rfl _ _ rfl _ _ rfl _ _ rfl
  refine w_d rfl (d_neq rfl rfl) <| w_done ?_
  rcases its he with ⟨c7, he⟩ | ⟨c7, he⟩
  ·
   refine w_else rfl (nd_t c7) <| w_skip <| w_inBlock <| w_region rfl <| w_d rfl (d_move (v := .int .i64 i) rfl) <| w_d rfl (d_add (c := w64 (i + 1)) rfl rfl rfl) <| w_d rfl (d_assign (v := .int .i64 (w64 (i + 1))) rfl) <| w_done <| w_inLoop <| w_sl 0 (v_a) rfl <| w_sl 1 (v_b) rfl <| w_sl 4 (.bool t4) rfl ?_
   refine w_sl 5 (.int .i64 (w64 (i + 1))) rfl <| hh.l0 (hle.trans e6) he (h_a.mono e6) (h_b.mono e6)
  ·
   refine w_then rfl (nd_f c7) <| w_seq <| w_region rfl <| w_d rfl (d_assign (v := .bool false) rfl) <| w_done ?_
   obtain rfl := Option.some.inj he
   refine w_return fn_39 rs_39 (.tmp (v := .bool false) rfl .nil) <| ⟨⟨[], rfl⟩, hle.trans e6, rfl⟩
 ·
  refine w_else rfl (decide_eq_false c2) <| w_exit rfl <| w_seq <| w_region rfl <| w_d rfl (d_assign (v := .bool true) rfl) <| w_done ?_
  obtain rfl := Option.some.inj he
  refine w_return fn_39 rs_39 (.tmp (v := .bool true) rfl .nil) <| ⟨⟨[], rfl⟩, hle, rfl⟩
theorem radomelaw19_ints.ok : ∀ k, radomelaw19_ints.OK (radomelaw19_ints.hs k)
 | 0 => ⟨(by intros; exact nomatch (show none = some _ from by assumption))⟩
 | k + 1 => ⟨radomelaw19_ints.b0_ok (k := k) (radomelaw19_ints.ok k)⟩
theorem radomelaw19_ints.calls (k : Nat) {H : Hp} {L : Items} {a : List Int} {b : List Int} {v0_a : Value} {v1_b : Value} {r : Bool} (he : radomelaw19_ints.f k a b = some r) (h0_a : Src (Kd.int .i64) H L v0_a a) (h1_b : Src (Kd.int .i64) H L v1_b b) : Ct Tryd.prog 39 ⟨[v0_a, v1_b]⟩ H L (fun v H' L' => L = L' ∧ H = H' ∧ v = .bool r) := by
 refine ct_outs (O := radomelaw19_ints.out r) (fun _ _ h => h) ?_
 have hle : H.le H := .refl _
 have hh := radomelaw19_ints.ok k
 unfold radomelaw19_ints.f at he
 refine ct_enter (args := [v0_a, v1_b]) fn_39 rfl nt_39 rfl <| w_seq <| w_region rfl <| w_d rfl (d_assign (v := .bool false) rfl) <| w_done <| w_seq <| w_seq <| w_region rfl <| w_d rfl (d_move (v := v0_a) rfl) <| w_d rfl (d_len Tryd.underlying85 rfl h0_a) <| w_d rfl (d_move (v := v1_b) rfl) <| w_d rfl (d_len Tryd.underlying85 rfl h1_b) ?_
 refine w_d rfl (d_neq rfl rfl) <| w_done ?_
 rcases its he with ⟨c1, he⟩ | ⟨c1, he⟩
 ·
  refine w_else rfl (nd_t c1) <| w_skip <| w_seq <| w_seq <| w_region rfl <| w_d rfl (d_assign (v := .int .i64 0) rfl) <| w_done <| w_block <| w_loop <| w_sl 0 (v0_a) rfl <| w_sl 1 (v1_b) rfl <| w_sl 4 (.bool false) rfl ?_
  refine w_sl 5 (.int .i64 0) rfl <| hh.l0 hle he h0_a h1_b
 ·
  refine w_then rfl (nd_f c1) <| w_seq <| w_region rfl <| w_d rfl (d_assign (v := .bool false) rfl) <| w_done ?_
  obtain rfl := Option.some.inj he
  refine w_return fn_39 rs_39 (.tmp (v := .bool false) rfl .nil) <| ⟨⟨[], rfl⟩, hle, rfl⟩
/-! ### radome/radomelaw19.sure -/
noncomputable def radomelaw19_sure.C : Code := (Tryd.f37.body).getD .skip
def radomelaw19_sure.out (r : Bool) (H : Hp) (v : Value) : Prop := v = .bool r
abbrev radomelaw19_sure.R (H0 : Hp) (L : Items) (r : Bool) : Value → Hp → Items → Prop := fun v H' L' => (∃ p, L' = p ++ L) ∧ H0.le H' ∧ radomelaw19_sure.out r H' v
noncomputable def radomelaw19_sure.f (k : Nat)  : Option Bool := (cluster_Of.f k [[0, 1], [1], [2]] 4).bind fun y22 => (cluster_Free.f k [[0, 1], [1], [2]] 4).bind fun y49 => if ((y22.2.isNone && y49.2.isNone) && (decide ((y22.1.length : Int) = 2))) = true → (0 : Int) ≤ 0 ∧ 0 < (y22.1.length : Int) then ((gd ((y22.2.isNone && y49.2.isNone) && (decide ((y22.1.length : Int) = 2))) (radomelaw19_ints.f k ((rd y22.1 0).f_Tracks) [0, 1]) (false)).bind fun y78 => if (((y22.2.isNone && y49.2.isNone) && (decide ((y22.1.length : Int) = 2))) && y78) = true → (0 : Int) ≤ 0 ∧ 0 < (y22.1.length : Int) then ((gd (((y22.2.isNone && y49.2.isNone) && (decide ((y22.1.length : Int) = 2))) && y78) (radomelaw19_ints.f k ((rd y22.1 0).f_Plots) [0, 1]) (false)).bind fun y100 => if ((((y22.2.isNone && y49.2.isNone) && (decide ((y22.1.length : Int) = 2))) && y78) && y100) = true → (0 : Int) ≤ 1 ∧ 1 < (y22.1.length : Int) then ((gd ((((y22.2.isNone && y49.2.isNone) && (decide ((y22.1.length : Int) = 2))) && y78) && y100) (radomelaw19_ints.f k ((rd y22.1 1).f_Plots) [2]) (false)).bind fun y122 => (gd (((((y22.2.isNone && y49.2.isNone) && (decide ((y22.1.length : Int) = 2))) && y78) && y100) && y122) (radomelaw19_ints.f k y49.1 [3]) (false)).bind fun y135 => some ((((((y22.2.isNone && y49.2.isNone) && (decide ((y22.1.length : Int) = 2))) && y78) && y100) && y122) && y135)) else none) else none) else none
theorem radomelaw19_sure.mono : ∀ k, LeO (radomelaw19_sure.f k) (radomelaw19_sure.f (k + 1)) := fun k => by unfold radomelaw19_sure.f; exact (LeO.bind (cluster_Of.mono k _ _) fun _ => LeO.bind (cluster_Free.mono k _ _) fun _ => LeO.ite (LeO.bind (LeO.gd (radomelaw19_ints.mono k _ _)) fun _ => LeO.ite (LeO.bind (LeO.gd (radomelaw19_ints.mono k _ _)) fun _ => LeO.ite (LeO.bind (LeO.gd (radomelaw19_ints.mono k _ _)) fun _ => LeO.bind (LeO.gd (radomelaw19_ints.mono k _ _)) fun _ => LeO.refl _) (LeO.refl _)) (LeO.refl _)) (LeO.refl _))
theorem radomelaw19_sure.calls (k : Nat) {H : Hp} {L : Items} {r : Bool} (he : radomelaw19_sure.f k  = some r) : Ct Tryd.prog 37 ⟨[]⟩ H L (fun v H' L' => L = L' ∧ H = H' ∧ v = .bool r) := by
 refine ct_outs (O := radomelaw19_sure.out r) (fun _ _ h => h) ?_
 have hle : H.le H := .refl _
 unfold radomelaw19_sure.f at he
 refine ct_enter (args := []) fn_37 rfl nt_37 rfl <| w_seq <| w_region rfl <| w_d rfl (d_assign (v := .bool false) rfl) <| w_done <| w_seq <| w_region rfl <| w_a rfl (o_buildSlice' (kd := (Kd.int .i64)) (css := [[.int .i64 0], [.int .i64 1]]) (xs := [0, 1]) (parts := [(0, .int .i64 0), (1, .int .i64 1)]) Tryd.underlying85 ti3 rfl ⟨_, _, rfl, rfl, ⟨_, _, rfl, rfl, rfl⟩⟩ ⟨rfl, ⟨rfl, trivial⟩⟩ rfl (by decide)) ?_
 rintro v1 _ _ ⟨i2, rfl, rfl, h3⟩
 refine w_a rfl (o_buildSlice' (kd := (Kd.int .i64)) (css := [[.int .i64 1]]) (xs := [1]) (parts := [(0, .int .i64 1)]) Tryd.underlying85 ti3 rfl ⟨_, _, rfl, rfl, rfl⟩ ⟨rfl, trivial⟩ rfl (by decide)) ?_
 rintro v4 _ _ ⟨i5, rfl, rfl, h6⟩
 refine w_a rfl (o_buildSlice' (kd := (Kd.int .i64)) (css := [[.int .i64 2]]) (xs := [2]) (parts := [(0, .int .i64 2)]) Tryd.underlying85 ti3 rfl ⟨_, _, rfl, rfl, rfl⟩ ⟨rfl, trivial⟩ rfl (by decide)) ?_
 rintro v7 _ _ ⟨i8, rfl, rfl, h9⟩
 refine w_freeze h3 (.there (.there .here)) ?_
 intro H10 e11 h12
 refine w_freeze (h6.mono e11) (.there .here) ?_
 intro H13 e14 h15
 refine w_freeze (h9.mono (e11.trans e14)) .here ?_
 intro H16 e17 h18
 refine w_a rfl (o_buildSlice' (kd := (Kd.slice (Kd.int .i64))) (css := [[v1], [v4], [v7]]) (xs := [[0, 1], [1], [2]]) (parts := [(0, v1), (1, v4), (2, v7)]) Tryd.underlying81 ti85 rfl ⟨_, _, rfl, h12.cells, ⟨_, _, rfl, h15.cells, ⟨_, _, rfl, h18.cells, rfl⟩⟩⟩ ⟨⟨_, rfl, (h12.mono (e14.trans e17))⟩, ⟨⟨_, rfl, (h15.mono e17)⟩, ⟨⟨_, rfl, h18⟩, trivial⟩⟩⟩ rfl (by decide)) ?_
 rintro v19 _ _ ⟨i20, rfl, rfl, h21⟩
 obtain ⟨y22, hy23, he⟩ := Option.bind_eq_some_iff.1 he
 refine w_a rfl (o_call co32 (vs := [v19, .int .i64 4]) rfl (cluster_Of.calls k hy23 (h21.src .here))) ?_
 rintro _ H24 _ ⟨rfl, e25, ⟨v26, rfl, h27⟩⟩
 refine w_d rfl (d_move (v := .tuple ⟨[v26, errV 99 y22.2]⟩) rfl) <| w_d rfl (d_ext (vs := [v26, errV 99 y22.2]) rfl rfl) <| w_d rfl (d_ext (vs := [v26, errV 99 y22.2]) rfl rfl) <| w_d rfl (d_assign (v := v26) rfl) <| w_d rfl (d_assign (v := errV 99 y22.2) rfl) <| w_done <| w_seq <| w_region rfl <| w_a rfl (o_buildSlice' (kd := (Kd.int .i64)) (css := [[.int .i64 0], [.int .i64 1]]) (xs := [0, 1]) (parts := [(0, .int .i64 0), (1, .int .i64 1)]) Tryd.underlying85 ti3 rfl ⟨_, _, rfl, rfl, ⟨_, _, rfl, rfl, rfl⟩⟩ ⟨rfl, ⟨rfl, trivial⟩⟩ rfl (by decide)) ?_
 rintro v28 _ _ ⟨i29, rfl, rfl, h30⟩
 refine w_a rfl (o_buildSlice' (kd := (Kd.int .i64)) (css := [[.int .i64 1]]) (xs := [1]) (parts := [(0, .int .i64 1)]) Tryd.underlying85 ti3 rfl ⟨_, _, rfl, rfl, rfl⟩ ⟨rfl, trivial⟩ rfl (by decide)) ?_
 rintro v31 _ _ ⟨i32, rfl, rfl, h33⟩
 refine w_a rfl (o_buildSlice' (kd := (Kd.int .i64)) (css := [[.int .i64 2]]) (xs := [2]) (parts := [(0, .int .i64 2)]) Tryd.underlying85 ti3 rfl ⟨_, _, rfl, rfl, rfl⟩ ⟨rfl, trivial⟩ rfl (by decide)) ?_
 rintro v34 _ _ ⟨i35, rfl, rfl, h36⟩
 refine w_freeze h30 (.there (.there .here)) ?_
 intro H37 e38 h39
 refine w_freeze (h33.mono e38) (.there .here) ?_
 intro H40 e41 h42
 refine w_freeze (h36.mono (e38.trans e41)) .here ?_
 intro H43 e44 h45
 refine w_a rfl (o_buildSlice' (kd := (Kd.slice (Kd.int .i64))) (css := [[v28], [v31], [v34]]) (xs := [[0, 1], [1], [2]]) (parts := [(0, v28), (1, v31), (2, v34)]) Tryd.underlying81 ti85 rfl ⟨_, _, rfl, h39.cells, ⟨_, _, rfl, h42.cells, ⟨_, _, rfl, h45.cells, rfl⟩⟩⟩ ⟨⟨_, rfl, (h39.mono (e41.trans e44))⟩, ⟨⟨_, rfl, (h42.mono e44)⟩, ⟨⟨_, rfl, h45⟩, trivial⟩⟩⟩ rfl (by decide)) ?_
 rintro v46 _ _ ⟨i47, rfl, rfl, h48⟩
 obtain ⟨y49, hy50, he⟩ := Option.bind_eq_some_iff.1 he
 refine w_a rfl (o_call co33 (vs := [v46, .int .i64 4]) rfl (cluster_Free.calls k hy50 (h48.src .here))) ?_
 rintro _ H51 _ ⟨rfl, e52, ⟨v53, rfl, h54⟩⟩
 refine w_d rfl (d_move (v := .tuple ⟨[v53, errV 99 y49.2]⟩) rfl) <| w_d rfl (d_ext (vs := [v53, errV 99 y49.2]) rfl rfl) <| w_d rfl (d_ext (vs := [v53, errV 99 y49.2]) rfl rfl) <| w_d rfl (d_assign (v := v53) rfl) <| w_d rfl (d_assign (v := errV 99 y49.2) rfl) <| w_done <| w_seq <| w_region rfl <| w_d rfl (d_move (v := errV 99 y22.2) rfl) <| w_d rfl (d_eqnil (e := y22.2) Tryd.underlying36 rfl) <| w_d rfl (d_move (v := .bool y22.2.isNone) rfl) <| w_g (g := y22.2.isNone) rfl rfl rfl wn_t (fun g55 => d_move (v := errV 99 y49.2) rfl) ?_
 refine w_g (g := y22.2.isNone) rfl rfl rfl wn_t (fun g56 => d_eqnil (e := y49.2) Tryd.underlying36 (cvt g56)) <| w_d rfl (d_and' (b := y22.2.isNone) (p := y49.2.isNone) rfl rfl rfl) <| w_d rfl (d_move (v := .bool (y22.2.isNone && y49.2.isNone)) rfl) <| w_g (g := y22.2.isNone && y49.2.isNone) rfl rfl rfl wn_t (fun g57 => d_move (v := v26) rfl) <| w_g (g := y22.2.isNone && y49.2.isNone) rfl rfl rfl wn_t (fun g58 => d_len Tryd.underlying82 (cvt g58) (h27.mono (((e38.trans e41).trans e44).trans e52)).src) <| w_g (g := y22.2.isNone && y49.2.isNone) rfl rfl rfl wn_t (fun g59 => d_eql (cvt g59) rfl) <| w_d rfl (d_and' (b := (y22.2.isNone && y49.2.isNone)) (p := (decide ((y22.1.length : Int) = 2))) rfl rfl rfl) <| w_d rfl (d_move (v := .bool ((y22.2.isNone && y49.2.isNone) && (decide ((y22.1.length : Int) = 2)))) rfl) <| w_g (g := (y22.2.isNone && y49.2.isNone) && (decide ((y22.1.length : Int) = 2))) rfl rfl rfl wn_t (fun g60 => d_move (v := v26) rfl) ?_
 obtain ⟨c62, he⟩ := rq he
 refine w_g (g := (y22.2.isNone && y49.2.isNone) && (decide ((y22.1.length : Int) = 2))) rfl rfl rfl wn_t (fun g61 => d_index (sz := 2) Tryd.underlying82 sz95 (cvt g61) (h27.mono (((e38.trans e41).trans e44).trans e52)).src rfl (c62 g61)) <| w_g (g := (y22.2.isNone && y49.2.isNone) && (decide ((y22.1.length : Int) = 2))) rfl rfl rfl wn_t (fun g63 => d_fieldAddr Tryd.underlying95 rfl sz85 rfl (cvt g63)) ?_
 obtain ⟨v66, v68, l65, h67, h69⟩ : ∃ v66 v68 : Value, (((y22.2.isNone && y49.2.isNone) && (decide ((y22.1.length : Int) = 2))) = true → Cells H51 (pel v26 0 2) [v66, v68]) ∧ (((y22.2.isNone && y49.2.isNone) && (decide ((y22.1.length : Int) = 2))) = true → Ro (Kd.int .i64) H51 v66 ((rd y22.1 0).f_Tracks)) ∧ (((y22.2.isNone && y49.2.isNone) && (decide ((y22.1.length : Int) = 2))) = true → Ro (Kd.int .i64) H51 v68 ((rd y22.1 0).f_Plots)) := if g_ : ((y22.2.isNone && y49.2.isNone) && (decide ((y22.1.length : Int) = 2))) = true then (by obtain ⟨_, l_, r_⟩ := el_ro (kd := k_cluster_Group) (h27.mono (((e38.trans e41).trans e44).trans e52)) (c62 g_); obtain ⟨v66, v68, rfl, h67, h69⟩ := k_cluster_Group_out r_; exact ⟨v66, v68, fun _ => l_, fun _ => h67, fun _ => h69⟩) else ⟨undef, undef, fun h_ => absurd h_ g_, fun h_ => absurd h_ g_, fun h_ => absurd h_ g_⟩
 refine w_g (g := (y22.2.isNone && y49.2.isNone) && (decide ((y22.1.length : Int) = 2))) rfl rfl rfl wn_t (fun g64 => d_load (v := v66) (cs := [v66]) ty85 (cvt g64) rfl (by decide) ((((l65 g64)).lies).part 0 1) rfl) <| w_gk (g := (y22.2.isNone && y49.2.isNone) && (decide ((y22.1.length : Int) = 2))) rfl rfl rfl wn_t (fun g70 => opa_freeze (o_buildSlice' (kd := (Kd.int .i64)) (css := [[.int .i64 0], [.int .i64 1]]) (xs := [0, 1]) (parts := [(0, .int .i64 0), (1, .int .i64 1)]) Tryd.underlying85 ti3 rfl ⟨_, _, rfl, rfl, ⟨_, _, rfl, rfl, rfl⟩⟩ ⟨rfl, ⟨rfl, trivial⟩⟩ rfl (by decide))) ?_
 intro v76 H74 e75 hp_ hq_
 obtain ⟨v71, rfl, h73⟩ := gk1 (T := fun v71 => v71) (Q := fun v71 => Ro (Kd.int .i64) H74 v71 [0, 1]) (fun g_ => ⟨_, rfl, hp_ g_⟩) hq_
 obtain ⟨y78, hy79, he⟩ := Option.bind_eq_some_iff.1 he
 refine w_g (g := (y22.2.isNone && y49.2.isNone) && (decide ((y22.1.length : Int) = 2))) rfl rfl rfl wn_t (fun g77 => call_d (o_call co39 (vs := [v66, v71]) (acons (cvt g77) (acons (cvt g77) (anil))) (radomelaw19_ints.calls k (gd_t g77 hy79) (((h67 g77).mono e75).src) ((h73 g77).src)))) <| w_d rfl (d_and' (b := ((y22.2.isNone && y49.2.isNone) && (decide ((y22.1.length : Int) = 2)))) (p := y78) rfl rfl rfl) <| w_d rfl (d_move (v := .bool (((y22.2.isNone && y49.2.isNone) && (decide ((y22.1.length : Int) = 2))) && y78)) rfl) <| w_g (g := ((y22.2.isNone && y49.2.isNone) && (decide ((y22.1.length : Int) = 2))) && y78) rfl rfl rfl wn_t (fun g82 => d_move (v := v26) rfl) ?_
 obtain ⟨c84, he⟩ := rq he
 refine w_g (g := ((y22.2.isNone && y49.2.isNone) && (decide ((y22.1.length : Int) = 2))) && y78) rfl rfl rfl wn_t (fun g83 => d_index (sz := 2) Tryd.underlying82 sz95 (cvt g83) (h27.mono ((((e38.trans e41).trans e44).trans e52).trans e75)).src rfl (c84 g83)) <| w_g (g := ((y22.2.isNone && y49.2.isNone) && (decide ((y22.1.length : Int) = 2))) && y78) rfl rfl rfl wn_t (fun g85 => d_fieldAddr Tryd.underlying95 rfl sz85 rfl (cvt g85)) ?_
 obtain ⟨v88, v90, l87, h89, h91⟩ : ∃ v88 v90 : Value, ((((y22.2.isNone && y49.2.isNone) && (decide ((y22.1.length : Int) = 2))) && y78) = true → Cells H74 (pel v26 0 2) [v88, v90]) ∧ ((((y22.2.isNone && y49.2.isNone) && (decide ((y22.1.length : Int) = 2))) && y78) = true → Ro (Kd.int .i64) H74 v88 ((rd y22.1 0).f_Tracks)) ∧ ((((y22.2.isNone && y49.2.isNone) && (decide ((y22.1.length : Int) = 2))) && y78) = true → Ro (Kd.int .i64) H74 v90 ((rd y22.1 0).f_Plots)) := if g_ : (((y22.2.isNone && y49.2.isNone) && (decide ((y22.1.length : Int) = 2))) && y78) = true then (by obtain ⟨_, l_, r_⟩ := el_ro (kd := k_cluster_Group) (h27.mono ((((e38.trans e41).trans e44).trans e52).trans e75)) (c84 g_); obtain ⟨v88, v90, rfl, h89, h91⟩ := k_cluster_Group_out r_; exact ⟨v88, v90, fun _ => l_, fun _ => h89, fun _ => h91⟩) else ⟨undef, undef, fun h_ => absurd h_ g_, fun h_ => absurd h_ g_, fun h_ => absurd h_ g_⟩
 refine w_g (g := ((y22.2.isNone && y49.2.isNone) && (decide ((y22.1.length : Int) = 2))) && y78) rfl rfl rfl wn_t (fun g86 => d_load (v := v90) (cs := [v90]) ty85 (cvt g86) rfl (by decide) ((((l87 g86)).lies).part 1 1) rfl) <| w_gk (g := ((y22.2.isNone && y49.2.isNone) && (decide ((y22.1.length : Int) = 2))) && y78) rfl rfl rfl wn_t (fun g92 => opa_freeze (o_buildSlice' (kd := (Kd.int .i64)) (css := [[.int .i64 0], [.int .i64 1]]) (xs := [0, 1]) (parts := [(0, .int .i64 0), (1, .int .i64 1)]) Tryd.underlying85 ti3 rfl ⟨_, _, rfl, rfl, ⟨_, _, rfl, rfl, rfl⟩⟩ ⟨rfl, ⟨rfl, trivial⟩⟩ rfl (by decide))) ?_
 intro v98 H96 e97 hp_ hq_
 obtain ⟨v93, rfl, h95⟩ := gk1 (T := fun v93 => v93) (Q := fun v93 => Ro (Kd.int .i64) H96 v93 [0, 1]) (fun g_ => ⟨_, rfl, hp_ g_⟩) hq_
 obtain ⟨y100, hy101, he⟩ := Option.bind_eq_some_iff.1 he
 refine w_g (g := ((y22.2.isNone && y49.2.isNone) && (decide ((y22.1.length : Int) = 2))) && y78) rfl rfl rfl wn_t (fun g99 => call_d (o_call co39 (vs := [v90, v93]) (acons (cvt g99) (acons (cvt g99) (anil))) (radomelaw19_ints.calls k (gd_t g99 hy101) (((h91 g99).mono e97).src) ((h95 g99).src)))) <| w_d rfl (d_and' (b := (((y22.2.isNone && y49.2.isNone) && (decide ((y22.1.length : Int) = 2))) && y78)) (p := y100) rfl rfl rfl) <| w_d rfl (d_move (v := .bool ((((y22.2.isNone && y49.2.isNone) && (decide ((y22.1.length : Int) = 2))) && y78) && y100)) rfl) <| w_g (g := (((y22.2.isNone && y49.2.isNone) && (decide ((y22.1.length : Int) = 2))) && y78) && y100) rfl rfl rfl wn_t (fun g104 => d_move (v := v26) rfl) ?_
 obtain ⟨c106, he⟩ := rq he
 refine w_g (g := (((y22.2.isNone && y49.2.isNone) && (decide ((y22.1.length : Int) = 2))) && y78) && y100) rfl rfl rfl wn_t (fun g105 => d_index (sz := 2) Tryd.underlying82 sz95 (cvt g105) (h27.mono (((((e38.trans e41).trans e44).trans e52).trans e75).trans e97)).src rfl (c106 g105)) <| w_g (g := (((y22.2.isNone && y49.2.isNone) && (decide ((y22.1.length : Int) = 2))) && y78) && y100) rfl rfl rfl wn_t (fun g107 => d_fieldAddr Tryd.underlying95 rfl sz85 rfl (cvt g107)) ?_
 obtain ⟨v110, v112, l109, h111, h113⟩ : ∃ v110 v112 : Value, (((((y22.2.isNone && y49.2.isNone) && (decide ((y22.1.length : Int) = 2))) && y78) && y100) = true → Cells H96 (pel v26 1 2) [v110, v112]) ∧ (((((y22.2.isNone && y49.2.isNone) && (decide ((y22.1.length : Int) = 2))) && y78) && y100) = true → Ro (Kd.int .i64) H96 v110 ((rd y22.1 1).f_Tracks)) ∧ (((((y22.2.isNone && y49.2.isNone) && (decide ((y22.1.length : Int) = 2))) && y78) && y100) = true → Ro (Kd.int .i64) H96 v112 ((rd y22.1 1).f_Plots)) := if g_ : ((((y22.2.isNone && y49.2.isNone) && (decide ((y22.1.length : Int) = 2))) && y78) && y100) = true then (by obtain ⟨_, l_, r_⟩ := el_ro (kd := k_cluster_Group) (h27.mono (((((e38.trans e41).trans e44).trans e52).trans e75).trans e97)) (c106 g_); obtain ⟨v110, v112, rfl, h111, h113⟩ := k_cluster_Group_out r_; exact ⟨v110, v112, fun _ => l_, fun _ => h111, fun _ => h113⟩) else ⟨undef, undef, fun h_ => absurd h_ g_, fun h_ => absurd h_ g_, fun h_ => absurd h_ g_⟩
 refine w_g (g := (((y22.2.isNone && y49.2.isNone) && (decide ((y22.1.length : Int) = 2))) && y78) && y100) rfl rfl rfl wn_t (fun g108 => d_load (v := v112) (cs := [v112]) ty85 (cvt g108) rfl (by decide) ((((l109 g108)).lies).part 1 1) rfl) <| w_gk (g := (((y22.2.isNone && y49.2.isNone) && (decide ((y22.1.length : Int) = 2))) && y78) && y100) rfl rfl rfl wn_t (fun g114 => opa_freeze (o_buildSlice' (kd := (Kd.int .i64)) (css := [[.int .i64 2]]) (xs := [2]) (parts := [(0, .int .i64 2)]) Tryd.underlying85 ti3 rfl ⟨_, _, rfl, rfl, rfl⟩ ⟨rfl, trivial⟩ rfl (by decide))) ?_
 intro v120 H118 e119 hp_ hq_
 obtain ⟨v115, rfl, h117⟩ := gk1 (T := fun v115 => v115) (Q := fun v115 => Ro (Kd.int .i64) H118 v115 [2]) (fun g_ => ⟨_, rfl, hp_ g_⟩) hq_
 obtain ⟨y122, hy123, he⟩ := Option.bind_eq_some_iff.1 he
 refine w_g (g := (((y22.2.isNone && y49.2.isNone) && (decide ((y22.1.length : Int) = 2))) && y78) && y100) rfl rfl rfl wn_t (fun g121 => call_d (o_call co39 (vs := [v112, v115]) (acons (cvt g121) (acons (cvt g121) (anil))) (radomelaw19_ints.calls k (gd_t g121 hy123) (((h113 g121).mono e119).src) ((h117 g121).src)))) <| w_d rfl (d_and' (b := ((((y22.2.isNone && y49.2.isNone) && (decide ((y22.1.length : Int) = 2))) && y78) && y100)) (p := y122) rfl rfl rfl) <| w_d rfl (d_move (v := .bool (((((y22.2.isNone && y49.2.isNone) && (decide ((y22.1.length : Int) = 2))) && y78) && y100) && y122)) rfl) <| w_g (g := ((((y22.2.isNone && y49.2.isNone) && (decide ((y22.1.length : Int) = 2))) && y78) && y100) && y122) rfl rfl rfl wn_t (fun g126 => d_move (v := v53) rfl) <| w_gk (g := ((((y22.2.isNone && y49.2.isNone) && (decide ((y22.1.length : Int) = 2))) && y78) && y100) && y122) rfl rfl rfl wn_t (fun g127 => opa_freeze (o_buildSlice' (kd := (Kd.int .i64)) (css := [[.int .i64 3]]) (xs := [3]) (parts := [(0, .int .i64 3)]) Tryd.underlying85 ti3 rfl ⟨_, _, rfl, rfl, rfl⟩ ⟨rfl, trivial⟩ rfl (by decide))) ?_
 intro v133 H131 e132 hp_ hq_
 obtain ⟨v128, rfl, h130⟩ := gk1 (T := fun v128 => v128) (Q := fun v128 => Ro (Kd.int .i64) H131 v128 [3]) (fun g_ => ⟨_, rfl, hp_ g_⟩) hq_
 obtain ⟨y135, hy136, he⟩ := Option.bind_eq_some_iff.1 he
 refine w_g (g := ((((y22.2.isNone && y49.2.isNone) && (decide ((y22.1.length : Int) = 2))) && y78) && y100) && y122) rfl rfl rfl wn_t (fun g134 => call_d (o_call co39 (vs := [v53, v128]) (acons (cvt g134) (acons (cvt g134) (anil))) (radomelaw19_ints.calls k (gd_t g134 hy136) ((h54.mono (((e75.trans e97).trans e119).trans e132)).src) ((h130 g134).src)))) <| w_d rfl (d_and' (b := (((((y22.2.isNone && y49.2.isNone) && (decide ((y22.1.length : Int) = 2))) && y78) && y100) && y122)) (p := y135) rfl rfl rfl) <| w_d rfl (d_assign (v := .bool ((((((y22.2.isNone && y49.2.isNone) && (decide ((y22.1.length : Int) = 2))) && y78) && y100) && y122) && y135)) rfl) <| w_done ?_
 obtain rfl := Option.some.inj he
 refine w_return fn_37 rs_37 (.tmp (v := .bool ((((((y22.2.isNone && y49.2.isNone) && (decide ((y22.1.length : Int) = 2))) && y78) && y100) && y122) && y135)) rfl .nil) <| ⟨⟨[_, _, _, _, _, _, _, _], rfl⟩, hle.trans (((((((((((e11.trans e14).trans e17).trans e25).trans e38).trans e41).trans e44).trans e52).trans e75).trans e97).trans e119).trans e132), rfl⟩
end Go.Proofs.YtoijknggnlbopaaDoor.GCP

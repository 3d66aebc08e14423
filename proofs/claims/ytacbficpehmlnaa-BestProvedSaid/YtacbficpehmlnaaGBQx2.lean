/- printed by gen.py -/
import Derived.Test.YtacbficpehmlnaaGBQx1
namespace Go.Proofs.Ytacbficpehmlnaa.GBQ
open Go Go.RowKit Go.Proofs.YtacbficpehmlnaaK Go.Proofs.Ytacbficpehmlnaa
set_option maxRecDepth 100000
set_option maxHeartbeats 2000000
set_option linter.unusedVariables false
set_option linter.unusedSimpArgs false
noncomputable def best_bounded.C : Code := (Try.f28.body).getD .skip
def best_bounded.out (r : Bool) (H : Hp) (v : Value) : Prop := v = .bool r
noncomputable def best_bounded.f (k : Nat) (l : List Int) (most : Int) : Option Bool := (slices_ContainsFunc_int64_int64_best_bounded_1.f k l most).bind fun y2 => some (!y2)
theorem best_bounded.mono : ∀ k y0 y1, LeO (best_bounded.f k y0 y1) (best_bounded.f (k + 1) y0 y1) := fun k _ _ => by unfold best_bounded.f; exact (LeO.bind (slices_ContainsFunc_int64_int64_best_bounded_1.mono k _ _) fun _ => LeO.refl _)
theorem best_bounded.calls (k : Nat) {H : Hp} {L : Items} {l : List Int} {most : Int} {v0_l : Value} {r : Bool} (he : best_bounded.f k l most = some r) (h0_l : Src kI64 H L v0_l l) : Ct Try.prog 28 ⟨[v0_l, .int .i64 most]⟩ H L (fun v H' L' => L = L' ∧ H = H' ∧ v = .bool r) := by
 refine ct_outs (O := best_bounded.out r) (fun _ _ h => h) ?_
 have hle : H.le H := .refl _
 unfold best_bounded.f at he
 refine ct_enter (args := [v0_l, .int .i64 most]) fn_28 rfl nt_28 rfl <| wR rfl <| w_a rfl (o_box (v := .int .i64 most) rfl rfl) ?_
 rintro _ _ _ ⟨b1, rfl, rfl, rfl⟩
 refine wA (.bool false) rfl rfl <| wQ rfl <| wM v0_l rfl rfl <| w_d rfl (d_makeFunc (fs := []) (cs := [.pointer (some ⟨b1, 0, none⟩)]) rfl rfl) ?_
 obtain ⟨y2, hy3, he⟩ := bs he
 refine w_d rfl (call_d (o_call co39 (vs := [v0_l, .func (.func 40) #[] #[.pointer (some ⟨b1, 0, none⟩)]]) rfl (slices_ContainsFunc_int64_int64_best_bounded_1.calls k hy3 h0_l.th (lies_own .here)))) <| w_d rfl (d_not (b := y2) rfl) <| wA (.bool (!y2)) rfl rfl <| w_done ?_
 obtain rfl := sj he
 refine w_return fn_28 rs_28 (.tmp (v := .bool (!y2)) rfl .nil) <| ⟨⟨[_], rfl⟩, hle, rfl⟩
noncomputable def best_under.C : Code := (Try.f29.body).getD .skip
def best_under.out (r : Bool) (H : Hp) (v : Value) : Prop := v = .bool r
abbrev best_under.R (H0 : Hp) (L : Items) (r : Bool) := fR H0 L (best_under.out r)
structure best_under.Hs where
 l0 : (List Int) → (List (List Int)) → Int → Bool → (List Int) → Int → Int → Option Bool
 l1 : (List Int) → (List (List Int)) → Int → Bool → Int → Int → (List Int) → Int → Int → (List Int) → Int → Int → Option Bool
noncomputable def best_under.b0 (k : Nat) (h : best_under.Hs)  (plots : List Int) (c_0 : List (List Int)) (c_1 : Int) (t6 : Bool) (t12 : List Int) (t13 : Int) (t14 : Int) : Option Bool := if t14 < t13 then (if (0 : Int) ≤ t14 ∧ t14 < (t12.length : Int) then (h.l1 plots c_0 c_1 t6 t14 (rd t12 t14) t12 t13 t14 plots (plots.length : Int) 0) else none) else (some (true))
noncomputable def best_under.b1 (k : Nat) (h : best_under.Hs)  (plots : List Int) (c_0 : List (List Int)) (c_1 : Int) (t6 : Bool) (t : Int) (u : Int) (t12 : List Int) (t13 : Int) (t14 : Int) (t19 : List Int) (t20 : Int) (t21 : Int) : Option Bool := if t21 < t20 then (if (0 : Int) ≤ t21 ∧ t21 < (t19.length : Int) then (if (0 : Int) ≤ t ∧ t < (c_0.length : Int) then (if (0 : Int) ≤ t21 ∧ t21 < ((rd c_0 t).length : Int) then (if ((decide (0 ≤ (rd (rd c_0 t) t21))) && (decide ((w64 ((rd (rd c_0 t) t21) - (rd t19 t21))) < u))) = true then (some (false)) else (h.l1 plots c_0 c_1 t6 t u t12 t13 t14 t19 t20 (w64 (t21 + 1)))) else none) else none) else none) else (h.l0 plots c_0 c_1 t6 t12 t13 (w64 (t14 + 1)))
noncomputable def best_under.hs : Nat → best_under.Hs
 | 0 => ⟨fun _ _ _ _ _ _ _ => none, fun _ _ _ _ _ _ _ _ _ _ _ _ => none⟩
 | k + 1 => ⟨fun x0 x1 x2 x3 x4 x5 x6 => best_under.b0 k (best_under.hs k) x0 x1 x2 x3 x4 x5 x6, fun x0 x1 x2 x3 x4 x5 x6 x7 x8 x9 x10 x11 => best_under.b1 k (best_under.hs k) x0 x1 x2 x3 x4 x5 x6 x7 x8 x9 x10 x11⟩
noncomputable def best_under.f (k : Nat) (c_ : cost_Costs) (tracks : List Int) (plots : List Int) : Option Bool := (fun h : best_under.Hs => h.l0 plots c_.f_Rows c_.f_Miss false tracks (tracks.length : Int) 0) (best_under.hs k)
structure best_under.LE (h h' : best_under.Hs) : Prop where
 l0 : ∀ y0 y1 y2 y3 y4 y5 y6, LeO (h.l0 y0 y1 y2 y3 y4 y5 y6) (h'.l0 y0 y1 y2 y3 y4 y5 y6)
 l1 : ∀ y0 y1 y2 y3 y4 y5 y6 y7 y8 y9 y10 y11, LeO (h.l1 y0 y1 y2 y3 y4 y5 y6 y7 y8 y9 y10 y11) (h'.l1 y0 y1 y2 y3 y4 y5 y6 y7 y8 y9 y10 y11)
theorem best_under.b0_mono {k : Nat} {h h' : best_under.Hs} (hl : best_under.LE h h') : ∀ y0 y1 y2 y3 y4 y5 y6, LeO (best_under.b0 k h y0 y1 y2 y3 y4 y5 y6) (best_under.b0 (k + 1) h' y0 y1 y2 y3 y4 y5 y6) := fun _ _ _ _ _ _ _ => (LeO.ite (LeO.ite (hl.l1 _ _ _ _ _ _ _ _ _ _ _ _) (LeO.refl _)) (LeO.refl _))
theorem best_under.b1_mono {k : Nat} {h h' : best_under.Hs} (hl : best_under.LE h h') : ∀ y0 y1 y2 y3 y4 y5 y6 y7 y8 y9 y10 y11, LeO (best_under.b1 k h y0 y1 y2 y3 y4 y5 y6 y7 y8 y9 y10 y11) (best_under.b1 (k + 1) h' y0 y1 y2 y3 y4 y5 y6 y7 y8 y9 y10 y11) := fun _ _ _ _ _ _ _ _ _ _ _ _ => (LeO.ite (LeO.ite (LeO.ite (LeO.ite (LeO.ite (LeO.refl _) (hl.l1 _ _ _ _ _ _ _ _ _ _ _ _)) (LeO.refl _)) (LeO.refl _)) (LeO.refl _)) (hl.l0 _ _ _ _ _ _ _))
theorem best_under.hs_mono : ∀ k, best_under.LE (best_under.hs k) (best_under.hs (k + 1))
 | 0 => ⟨fun _ _ _ _ _ _ _ => LeO.none _, fun _ _ _ _ _ _ _ _ _ _ _ _ => LeO.none _⟩
 | k + 1 => ⟨best_under.b0_mono (k := k) (best_under.hs_mono k), best_under.b1_mono (k := k) (best_under.hs_mono k)⟩
theorem best_under.mono : ∀ k y0 y1 y2, LeO (best_under.f k y0 y1 y2) (best_under.f (k + 1) y0 y1 y2) := fun k _ _ _ => have hl := best_under.hs_mono k; by unfold best_under.f; exact (hl.l0 _ _ _ _ _ _ _)
noncomputable def best_under.Kl0 : List Item := .code (lopB (blkB (seqR (seqL (seqR best_under.C))))) :: .inLoop (lopB (blkB (seqR (seqL (seqR best_under.C))))) :: .inBlock 0 :: .code (seqR (seqR best_under.C)) :: []
noncomputable def best_under.Kl1 : List Item := .code (lopB (blkB (seqR (seqR (blkB (seqL (seqR (seqR (lopB (blkB (seqR (seqL (seqR best_under.C))))))))))))) :: .inLoop (lopB (blkB (seqR (seqR (blkB (seqL (seqR (seqR (lopB (blkB (seqR (seqL (seqR best_under.C))))))))))))) :: .inBlock 2 :: .inBlock 1 :: .code (seqR (seqR (seqR (lopB (blkB (seqR (seqL (seqR best_under.C)))))))) :: .inLoop (lopB (blkB (seqR (seqL (seqR best_under.C))))) :: .inBlock 0 :: .code (seqR (seqR best_under.C)) :: []
structure best_under.OK (h : best_under.Hs) : Prop where
 l0 : ∀ {H0 H : Hp} {L : Items} {r : Bool} {jk_ : Nat → Value} {plots : List Int} {c_0 : List (List Int)} {c_1 : Int} {t6 : Bool} {t12 : List Int} {t13 : Int} {t14 : Int} {v_plots : Value} {v_c_0 : Value} {v_t12 : Value} {b_c_ : Nat} (_ : H0.le H) (_he : h.l0 plots c_0 c_1 t6 t12 t13 t14 = some r) (_h_plots : Src kI64 H L v_plots plots) (_h_c_0 : Ro (Kd.slice kI64) H v_c_0 c_0) (_h_t12 : Src kI64 H L v_t12 t12), Wp Try.prog 29 45 best_under.Kl0 (upd (upd (upd (upd (upd (upd jk_ 2 (v_plots)) 3 (.pointer (some ⟨b_c_, 0, none⟩))) 6 (.bool t6)) 12 (v_t12)) 13 (.int .i64 t13)) 14 (.int .i64 t14)) H (some (b_c_, .cells ⟨[v_c_0, .int .i64 c_1]⟩ 25 (0, 0)) :: L) (best_under.R H0 L r)
 l1 : ∀ {H0 H : Hp} {L : Items} {r : Bool} {jk_ : Nat → Value} {plots : List Int} {c_0 : List (List Int)} {c_1 : Int} {t6 : Bool} {t : Int} {u : Int} {t12 : List Int} {t13 : Int} {t14 : Int} {t19 : List Int} {t20 : Int} {t21 : Int} {v_plots : Value} {v_c_0 : Value} {v_t12 : Value} {v_t19 : Value} {b_c_ : Nat} (_ : H0.le H) (_he : h.l1 plots c_0 c_1 t6 t u t12 t13 t14 t19 t20 t21 = some r) (_h_plots : Src kI64 H L v_plots plots) (_h_c_0 : Ro (Kd.slice kI64) H v_c_0 c_0) (_h_t12 : Src kI64 H L v_t12 t12) (_h_t19 : Src kI64 H L v_t19 t19), Wp Try.prog 29 45 best_under.Kl1 (upd (upd (upd (upd (upd (upd (upd (upd (upd (upd (upd jk_ 2 (v_plots)) 3 (.pointer (some ⟨b_c_, 0, none⟩))) 6 (.bool t6)) 7 (.int .i64 t)) 8 (.int .i64 u)) 12 (v_t12)) 13 (.int .i64 t13)) 14 (.int .i64 t14)) 19 (v_t19)) 20 (.int .i64 t20)) 21 (.int .i64 t21)) H (some (b_c_, .cells ⟨[v_c_0, .int .i64 c_1]⟩ 25 (0, 0)) :: L) (best_under.R H0 L r)
theorem best_under.b0_ok {k : Nat} {h : best_under.Hs} (hh : best_under.OK h) {H0 H : Hp} {L : Items} {r : Bool} {jk_ : Nat → Value} {plots : List Int} {c_0 : List (List Int)} {c_1 : Int} {t6 : Bool} {t12 : List Int} {t13 : Int} {t14 : Int} {v_plots : Value} {v_c_0 : Value} {v_t12 : Value} {b_c_ : Nat} (hle : H0.le H) (he : best_under.b0 k h plots c_0 c_1 t6 t12 t13 t14 = some r) (h_plots : Src kI64 H L v_plots plots) (h_c_0 : Ro (Kd.slice kI64) H v_c_0 c_0) (h_t12 : Src kI64 H L v_t12 t12) : Wp Try.prog 29 45 best_under.Kl0 (upd (upd (upd (upd (upd (upd jk_ 2 (v_plots)) 3 (.pointer (some ⟨b_c_, 0, none⟩))) 6 (.bool t6)) 12 (v_t12)) 13 (.int .i64 t13)) 14 (.int .i64 t14)) H (some (b_c_, .cells ⟨[v_c_0, .int .i64 c_1]⟩ 25 (0, 0)) :: L) (best_under.R H0 L r) := by
 unfold best_under.b0 at he
 unfold best_under.Kl0
 refine wR rfl <| w_d rfl (d_lss rfl rfl) <| wE ?_
 rcases its he with ⟨c2, he⟩ | ⟨c2, he⟩
 ·
  refine w_then rfl (dt c2) <| w_skip <| w_seq <| w_block <| wR rfl <| wM (.int .i64 t14) rfl rfl ?_
  obtain ⟨c3, he⟩ := rq he
  refine w_d rfl (d_index (sz := 1) Try.underlying29 sz2 rfl h_t12.th rfl c3) <| w_d rfl (d_ldint ty2 rfl h_t12.th c3) <| wA (.int .i64 t14) rfl rfl <| wA (.int .i64 (rd t12 t14)) rfl rfl <| wQ rfl <| wM v_plots rfl rfl <| w_d rfl (d_len Try.underlying29 rfl h_plots.th) <| wM (.int .i64 0) rfl rfl <| w_done <| w_block ?_
  refine w_loop <| w_sl 2 (v_plots) rfl <| w_sl 3 (.pointer (some ⟨b_c_, 0, none⟩)) rfl <| w_sl 6 (.bool t6) rfl <| w_sl 7 (.int .i64 t14) rfl <| w_sl 8 (.int .i64 (rd t12 t14)) rfl <| w_sl 12 (v_t12) rfl <| w_sl 13 (.int .i64 t13) rfl <| w_sl 14 (.int .i64 t14) rfl <| w_sl 19 (v_plots) rfl <| w_sl 20 (.int .i64 (plots.length : Int)) rfl <| w_sl 21 (.int .i64 0) rfl <| hh.l1 hle he h_plots h_c_0 h_t12 h_plots
 ·
  refine w_else rfl (df c2) <| w_exit rfl <| wR rfl <| wA (.bool true) rfl rfl <| w_done ?_
  obtain rfl := sj he
  refine w_return fn_29 rs_29 (.tmp (v := .bool true) rfl .nil) <| ⟨⟨[_], rfl⟩, hle, rfl⟩
theorem best_under.b1_ok {k : Nat} {h : best_under.Hs} (hh : best_under.OK h) {H0 H : Hp} {L : Items} {r : Bool} {jk_ : Nat → Value} {plots : List Int} {c_0 : List (List Int)} {c_1 : Int} {t6 : Bool} {t : Int} {u : Int} {t12 : List Int} {t13 : Int} {t14 : Int} {t19 : List Int} {t20 : Int} {t21 : Int} {v_plots : Value} {v_c_0 : Value} {v_t12 : Value} {v_t19 : Value} {b_c_ : Nat} (hle : H0.le H) (he : best_under.b1 k h plots c_0 c_1 t6 t u t12 t13 t14 t19 t20 t21 = some r) (h_plots : Src kI64 H L v_plots plots) (h_c_0 : Ro (Kd.slice kI64) H v_c_0 c_0) (h_t12 : Src kI64 H L v_t12 t12) (h_t19 : Src kI64 H L v_t19 t19) : Wp Try.prog 29 45 best_under.Kl1 (upd (upd (upd (upd (upd (upd (upd (upd (upd (upd (upd jk_ 2 (v_plots)) 3 (.pointer (some ⟨b_c_, 0, none⟩))) 6 (.bool t6)) 7 (.int .i64 t)) 8 (.int .i64 u)) 12 (v_t12)) 13 (.int .i64 t13)) 14 (.int .i64 t14)) 19 (v_t19)) 20 (.int .i64 t20)) 21 (.int .i64 t21)) H (some (b_c_, .cells ⟨[v_c_0, .int .i64 c_1]⟩ 25 (0, 0)) :: L) (best_under.R H0 L r) := by
 unfold best_under.b1 at he
 unfold best_under.Kl1
 refine wR rfl <| w_d rfl (d_lss rfl rfl) <| wE ?_
 rcases its he with ⟨c4, he⟩ | ⟨c4, he⟩
 ·
  refine w_then rfl (dt c4) <| w_skip <| w_seq <| w_block <| wR rfl <| wM (.int .i64 t21) rfl rfl ?_
  obtain ⟨c5, he⟩ := rq he
  refine w_d rfl (d_index (sz := 1) Try.underlying29 sz2 rfl h_t19.th rfl c5) <| w_d rfl (d_ldint ty2 rfl h_t19.th c5) <| wA (.int .i64 t21) rfl rfl <| wA (.int .i64 (rd t19 t21)) rfl rfl <| wQ rfl <| w_d rfl (d_fld (o' := 0) Try.underlying25 rfl sz22 rfl rfl rfl) <| wL v_c_0 ty22 rfl rfl .here rfl rfl <| wM (.int .i64 t) rfl rfl ?_
  obtain ⟨c6, he⟩ := rq he
  refine w_d rfl (d_index (sz := 1) Try.underlying22 sz29 rfl h_c_0.src rfl c6) ?_
  obtain ⟨_, l7, r8⟩ := el_ro (kd := (Kd.slice kI64)) h_c_0 c6
  obtain ⟨v9, rfl, h10⟩ := r8
  refine w_d rfl (d_load (v := v9) (cs := [v9]) ty29 rfl rfl (by decide) (l7).lies rfl) <| wM (.int .i64 t21) rfl rfl ?_
  obtain ⟨c11, he⟩ := rq he
  refine w_d rfl (d_index (sz := 1) Try.underlying29 sz2 rfl h10.src rfl c11) <| w_d rfl (d_ldint ty2 rfl h10.src c11) <| wA (.int .i64 (rd (rd c_0 t) t21)) rfl rfl <| wQ rfl <| wM (.int .i64 (rd (rd c_0 t) t21)) rfl rfl <| w_d rfl (d_geq rfl rfl) <| wM (.bool (decide (0 ≤ (rd (rd c_0 t) t21)))) rfl rfl <| w_g (g := decide (0 ≤ (rd (rd c_0 t) t21))) rfl rfl rfl wn_t (fun g12 => d_move (v := .int .i64 u) rfl) <| w_g (g := decide (0 ≤ (rd (rd c_0 t) t21))) rfl rfl rfl wn_t (fun g13 => d_move (v := .int .i64 (rd (rd c_0 t) t21)) rfl) <| w_g (g := decide (0 ≤ (rd (rd c_0 t) t21))) rfl rfl rfl wn_t (fun g14 => d_move (v := .int .i64 (rd t19 t21)) rfl) ?_
  refine w_g (g := decide (0 ≤ (rd (rd c_0 t) t21))) rfl rfl rfl wn_t (fun g15 => d_sub (c := w64 ((rd (rd c_0 t) t21) - (rd t19 t21))) (cvt g15) (cvt g15) rfl) <| w_g (g := decide (0 ≤ (rd (rd c_0 t) t21))) rfl rfl rfl wn_t (fun g16 => d_gtr (cvt g16) (cvt g16)) <| w_d rfl (d_and' (b := (decide (0 ≤ (rd (rd c_0 t) t21)))) (p := (decide ((w64 ((rd (rd c_0 t) t21) - (rd t19 t21))) < u))) rfl rfl rfl) <| w_done ?_
  rcases its he with ⟨c17, he⟩ | ⟨c17, he⟩
  ·
   refine w_then rfl c17 <| wR rfl <| wA (.bool false) rfl rfl <| w_done ?_
   obtain rfl := sj he
   refine w_return fn_29 rs_29 (.tmp (v := .bool false) rfl .nil) <| ⟨⟨[_], rfl⟩, hle, rfl⟩
  ·
   refine w_else rfl (Bool.eq_false_iff.2 c17) <| w_skip <| w_inBlock <| w_region rfl <| w_d rfl (d_add (c := w64 (t21 + 1)) rfl rfl rfl) <| wM (.int .i64 (w64 (t21 + 1))) rfl rfl <| w_done <| w_inLoop <| w_sl 2 (v_plots) rfl <| w_sl 3 (.pointer (some ⟨b_c_, 0, none⟩)) rfl <| w_sl 6 (.bool t6) rfl <| w_sl 7 (.int .i64 t) rfl ?_
   refine w_sl 8 (.int .i64 u) rfl <| w_sl 12 (v_t12) rfl <| w_sl 13 (.int .i64 t13) rfl <| w_sl 14 (.int .i64 t14) rfl <| w_sl 19 (v_t19) rfl <| w_sl 20 (.int .i64 t20) rfl <| w_sl 21 (.int .i64 (w64 (t21 + 1))) rfl <| hh.l1 hle he h_plots h_c_0 h_t12 h_t19
 ·
  refine w_else rfl (df c4) <| w_exit rfl <| w_inBlock <| w_region rfl <| w_d rfl (d_add (c := w64 (t14 + 1)) rfl rfl rfl) <| wM (.int .i64 (w64 (t14 + 1))) rfl rfl <| w_done <| w_inLoop <| w_sl 2 (v_plots) rfl <| w_sl 3 (.pointer (some ⟨b_c_, 0, none⟩)) rfl <| w_sl 6 (.bool t6) rfl <| w_sl 12 (v_t12) rfl ?_
  refine w_sl 13 (.int .i64 t13) rfl <| w_sl 14 (.int .i64 (w64 (t14 + 1))) rfl <| hh.l0 hle he h_plots h_c_0 h_t12
theorem best_under.ok : ∀ k, best_under.OK (best_under.hs k)
 | 0 => ⟨(by intros; exact nomatch (show none = some _ from by assumption)), (by intros; exact nomatch (show none = some _ from by assumption))⟩
 | k + 1 => ⟨best_under.b0_ok (k := k) (best_under.ok k), best_under.b1_ok (k := k) (best_under.ok k)⟩
theorem best_under.calls (k : Nat) {H : Hp} {L : Items} {c_ : cost_Costs} {tracks : List Int} {plots : List Int} {v0_c_ : Value} {v1_tracks : Value} {v2_plots : Value} {r : Bool} (he : best_under.f k c_ tracks plots = some r) (h0_c_ : Ro (Kd.slice kI64) H v0_c_ c_.f_Rows) (h1_tracks : Src kI64 H L v1_tracks tracks) (h2_plots : Src kI64 H L v2_plots plots) : Ct Try.prog 29 ⟨[.agg ⟨[v0_c_, .int .i64 c_.f_Miss]⟩, v1_tracks, v2_plots]⟩ H L (fun v H' L' => L = L' ∧ H = H' ∧ v = .bool r) := by
 refine ct_outs (O := best_under.out r) (fun _ _ h => h) ?_
 have hle : H.le H := .refl _
 have hh := best_under.ok k
 unfold best_under.f at he
 refine ct_enter (args := [.agg ⟨[v0_c_, .int .i64 c_.f_Miss]⟩, v1_tracks, v2_plots]) fn_29 rfl nt_29 rfl <| wR rfl <| w_a rfl (o_box (v := .agg ⟨[v0_c_, .int .i64 c_.f_Miss]⟩) rfl rfl) ?_
 rintro _ _ _ ⟨b1, rfl, rfl, rfl⟩
 refine wA (.bool false) rfl rfl <| wE <| wR rfl <| wM v1_tracks rfl rfl <| w_d rfl (d_len Try.underlying29 rfl h1_tracks.th) <| wM (.int .i64 0) rfl rfl <| w_done <| w_block <| w_loop <| w_sl 2 (v2_plots) rfl ?_
 refine w_sl 3 (.pointer (some ⟨b1, 0, none⟩)) rfl <| w_sl 6 (.bool false) rfl <| w_sl 12 (v1_tracks) rfl <| w_sl 13 (.int .i64 (tracks.length : Int)) rfl <| w_sl 14 (.int .i64 0) rfl <| hh.l0 hle he h2_plots h0_c_ h1_tracks
noncomputable def best_Shows.C : Code := (Try.f16.body).getD .skip
def best_Shows.out (r : Bool × (Option Int)) (H : Hp) (v : Value) : Prop := v = .tuple ⟨[.bool r.1, errV 48 r.2]⟩
abbrev best_Shows.R (H0 : Hp) (L : Items) (r : Bool × (Option Int)) := fR H0 L (best_Shows.out r)
structure best_Shows.Hs where
 l0 : (List Int) → Int → Int → (List Int) → Int → Int → Option (Bool × (Option Int))
 l1 : Int → Int → (List Int) → Int → Int → Option (Bool × (Option Int))
noncomputable def best_Shows.b0 (k : Nat) (h : best_Shows.Hs)  (plots : List Int) (total : Int) (sum : Int) (t59 : List Int) (t60 : Int) (t61 : Int) : Option (Bool × (Option Int)) := if t61 < t60 then (if (0 : Int) ≤ t61 ∧ t61 < (t59.length : Int) then (h.l0 plots total (w64 (sum + (rd t59 t61))) t59 t60 (w64 (t61 + 1))) else none) else (h.l1 total sum plots (plots.length : Int) 0)
noncomputable def best_Shows.b1 (k : Nat) (h : best_Shows.Hs)  (total : Int) (sum : Int) (t69 : List Int) (t70 : Int) (t71 : Int) : Option (Bool × (Option Int)) := if t71 < t70 then (if (0 : Int) ≤ t71 ∧ t71 < (t69.length : Int) then (h.l1 total (w64 (sum + (rd t69 t71))) t69 t70 (w64 (t71 + 1))) else none) else (some (decide (sum = total), none))
noncomputable def best_Shows.hs : Nat → best_Shows.Hs
 | 0 => ⟨fun _ _ _ _ _ _ => none, fun _ _ _ _ _ => none⟩
 | k + 1 => ⟨fun x0 x1 x2 x3 x4 x5 => best_Shows.b0 k (best_Shows.hs k) x0 x1 x2 x3 x4 x5, fun x0 x1 x2 x3 x4 => best_Shows.b1 k (best_Shows.hs k) x0 x1 x2 x3 x4⟩
noncomputable def best_Shows.f (k : Nat) (c_ : cost_Costs) (tracks : List Int) (plots : List Int) (total : Int) : Option (Bool × (Option Int)) := (fun h : best_Shows.Hs => (cost_Check.f k c_).bind fun y2 => if y2.isSome = true then (some (false, y2)) else ((best_begun.f k c_).bind fun y7 => (gd (!((!decide ((tracks.length : Int) = y7.f_tracks)) || (!decide ((plots.length : Int) = y7.f_plots)))) (best_bounded.f k tracks c_.f_Miss) (false)).bind fun y34 => (gd (!(((!decide ((tracks.length : Int) = y7.f_tracks)) || (!decide ((plots.length : Int) = y7.f_plots))) || (!y34))) (best_bounded.f k plots 0) (false)).bind fun y41 => (gd (!((((!decide ((tracks.length : Int) = y7.f_tracks)) || (!decide ((plots.length : Int) = y7.f_plots))) || (!y34)) || (!y41))) (best_under.f k c_ tracks plots) (false)).bind fun y50 => if (((((!decide ((tracks.length : Int) = y7.f_tracks)) || (!decide ((plots.length : Int) = y7.f_plots))) || (!y34)) || (!y41)) || (!y50)) = true then (some (false, none)) else (h.l0 plots total 0 tracks (tracks.length : Int) 0))) (best_Shows.hs k)
structure best_Shows.LE (h h' : best_Shows.Hs) : Prop where
 l0 : ∀ y0 y1 y2 y3 y4 y5, LeO (h.l0 y0 y1 y2 y3 y4 y5) (h'.l0 y0 y1 y2 y3 y4 y5)
 l1 : ∀ y0 y1 y2 y3 y4, LeO (h.l1 y0 y1 y2 y3 y4) (h'.l1 y0 y1 y2 y3 y4)
theorem best_Shows.b0_mono {k : Nat} {h h' : best_Shows.Hs} (hl : best_Shows.LE h h') : ∀ y0 y1 y2 y3 y4 y5, LeO (best_Shows.b0 k h y0 y1 y2 y3 y4 y5) (best_Shows.b0 (k + 1) h' y0 y1 y2 y3 y4 y5) := fun _ _ _ _ _ _ => (LeO.ite (LeO.ite (hl.l0 _ _ _ _ _ _) (LeO.refl _)) (hl.l1 _ _ _ _ _))
theorem best_Shows.b1_mono {k : Nat} {h h' : best_Shows.Hs} (hl : best_Shows.LE h h') : ∀ y0 y1 y2 y3 y4, LeO (best_Shows.b1 k h y0 y1 y2 y3 y4) (best_Shows.b1 (k + 1) h' y0 y1 y2 y3 y4) := fun _ _ _ _ _ => (LeO.ite (LeO.ite (hl.l1 _ _ _ _ _) (LeO.refl _)) (LeO.refl _))
theorem best_Shows.hs_mono : ∀ k, best_Shows.LE (best_Shows.hs k) (best_Shows.hs (k + 1))
 | 0 => ⟨fun _ _ _ _ _ _ => LeO.none _, fun _ _ _ _ _ => LeO.none _⟩
 | k + 1 => ⟨best_Shows.b0_mono (k := k) (best_Shows.hs_mono k), best_Shows.b1_mono (k := k) (best_Shows.hs_mono k)⟩
theorem best_Shows.mono : ∀ k y0 y1 y2 y3, LeO (best_Shows.f k y0 y1 y2 y3) (best_Shows.f (k + 1) y0 y1 y2 y3) := fun k _ _ _ _ => have hl := best_Shows.hs_mono k; by unfold best_Shows.f; exact (LeO.bind (cost_Check.mono k _) fun _ => LeO.ite (LeO.refl _) (LeO.bind (best_begun.mono k _) fun _ => LeO.bind (LeO.gd (best_bounded.mono k _ _)) fun _ => LeO.bind (LeO.gd (best_bounded.mono k _ _)) fun _ => LeO.bind (LeO.gd (best_under.mono k _ _ _)) fun _ => LeO.ite (LeO.refl _) (hl.l0 _ _ _ _ _ _)))
noncomputable def best_Shows.Kl0 : List Item := .code (lopB (blkB (seqR (seqL (seqR (seqR (seqR (seqR (seqR best_Shows.C))))))))) :: .inLoop (lopB (blkB (seqR (seqL (seqR (seqR (seqR (seqR (seqR best_Shows.C))))))))) :: .inBlock 0 :: .code (seqR (seqR (seqR (seqR (seqR (seqR best_Shows.C)))))) :: []
noncomputable def best_Shows.Kl1 : List Item := .code (lopB (blkB (seqR (seqL (seqR (seqR (seqR (seqR (seqR (seqR best_Shows.C)))))))))) :: .inLoop (lopB (blkB (seqR (seqL (seqR (seqR (seqR (seqR (seqR (seqR best_Shows.C)))))))))) :: .inBlock 2 :: .code (seqR (seqR (seqR (seqR (seqR (seqR (seqR best_Shows.C))))))) :: []
structure best_Shows.OK (h : best_Shows.Hs) : Prop where
 l0 : ∀ {H0 H : Hp} {L : Items} {r : Bool × (Option Int)} {jk_ : Nat → Value} {plots : List Int} {total : Int} {sum : Int} {t59 : List Int} {t60 : Int} {t61 : Int} {v_plots : Value} {v_t59 : Value} (_ : H0.le H) (_he : h.l0 plots total sum t59 t60 t61 = some r) (_h_plots : Src kI64 H L v_plots plots) (_h_t59 : Src kI64 H L v_t59 t59), Wp Try.prog 16 82 best_Shows.Kl0 (upd (upd (upd (upd (upd (upd (upd (upd jk_ 2 (v_plots)) 3 (.int .i64 total)) 8 (.bool false)) 9 (errV 48 none)) 12 (.int .i64 sum)) 59 (v_t59)) 60 (.int .i64 t60)) 61 (.int .i64 t61)) H (L) (best_Shows.R H0 L r)
 l1 : ∀ {H0 H : Hp} {L : Items} {r : Bool × (Option Int)} {jk_ : Nat → Value} {total : Int} {sum : Int} {t69 : List Int} {t70 : Int} {t71 : Int} {v_t69 : Value} (_ : H0.le H) (_he : h.l1 total sum t69 t70 t71 = some r) (_h_t69 : Src kI64 H L v_t69 t69), Wp Try.prog 16 82 best_Shows.Kl1 (upd (upd (upd (upd (upd (upd (upd jk_ 3 (.int .i64 total)) 8 (.bool false)) 9 (errV 48 none)) 12 (.int .i64 sum)) 69 (v_t69)) 70 (.int .i64 t70)) 71 (.int .i64 t71)) H (L) (best_Shows.R H0 L r)
theorem best_Shows.b0_ok {k : Nat} {h : best_Shows.Hs} (hh : best_Shows.OK h) {H0 H : Hp} {L : Items} {r : Bool × (Option Int)} {jk_ : Nat → Value} {plots : List Int} {total : Int} {sum : Int} {t59 : List Int} {t60 : Int} {t61 : Int} {v_plots : Value} {v_t59 : Value} (hle : H0.le H) (he : best_Shows.b0 k h plots total sum t59 t60 t61 = some r) (h_plots : Src kI64 H L v_plots plots) (h_t59 : Src kI64 H L v_t59 t59) : Wp Try.prog 16 82 best_Shows.Kl0 (upd (upd (upd (upd (upd (upd (upd (upd jk_ 2 (v_plots)) 3 (.int .i64 total)) 8 (.bool false)) 9 (errV 48 none)) 12 (.int .i64 sum)) 59 (v_t59)) 60 (.int .i64 t60)) 61 (.int .i64 t61)) H (L) (best_Shows.R H0 L r) := by
 unfold best_Shows.b0 at he
 unfold best_Shows.Kl0
 refine wR rfl <| w_d rfl (d_lss rfl rfl) <| wE ?_
 rcases its he with ⟨c56, he⟩ | ⟨c56, he⟩
 ·
  refine w_then rfl (dt c56) <| w_skip <| w_seq <| w_block <| wR rfl ?_
  obtain ⟨c57, he⟩ := rq he
  refine w_d rfl (d_index (sz := 1) Try.underlying29 sz2 rfl h_t59 rfl c57) <| w_d rfl (d_ldint ty2 rfl h_t59 c57) <| wA (.int .i64 (rd t59 t61)) rfl rfl <| w_done <| w_region rfl <| wM (.int .i64 sum) rfl rfl <| wM (.int .i64 (rd t59 t61)) rfl rfl <| w_d rfl (d_add (c := w64 (sum + (rd t59 t61))) rfl rfl rfl) <| wA (.int .i64 (w64 (sum + (rd t59 t61)))) rfl rfl <| w_done <| w_inBlock <| w_region rfl ?_
  refine w_d rfl (d_add (c := w64 (t61 + 1)) rfl rfl rfl) <| wM (.int .i64 (w64 (t61 + 1))) rfl rfl <| w_done <| w_inLoop <| w_sl 2 (v_plots) rfl <| w_sl 3 (.int .i64 total) rfl <| w_sl 8 (.bool false) rfl <| w_sl 9 (errV 48 none) rfl <| w_sl 12 (.int .i64 (w64 (sum + (rd t59 t61)))) rfl <| w_sl 59 (v_t59) rfl <| w_sl 60 (.int .i64 t60) rfl <| w_sl 61 (.int .i64 (w64 (t61 + 1))) rfl <| hh.l0 hle he h_plots h_t59
 ·
  refine w_else rfl (df c56) <| w_exit rfl <| w_seq <| wR rfl <| wM v_plots rfl rfl <| w_d rfl (d_len Try.underlying29 rfl h_plots) <| wM (.int .i64 0) rfl rfl <| w_done <| w_block <| w_loop <| w_sl 3 (.int .i64 total) rfl ?_
  refine w_sl 8 (.bool false) rfl <| w_sl 9 (errV 48 none) rfl <| w_sl 12 (.int .i64 sum) rfl <| w_sl 69 (v_plots) rfl <| w_sl 70 (.int .i64 (plots.length : Int)) rfl <| w_sl 71 (.int .i64 0) rfl <| hh.l1 hle he h_plots
theorem best_Shows.b1_ok {k : Nat} {h : best_Shows.Hs} (hh : best_Shows.OK h) {H0 H : Hp} {L : Items} {r : Bool × (Option Int)} {jk_ : Nat → Value} {total : Int} {sum : Int} {t69 : List Int} {t70 : Int} {t71 : Int} {v_t69 : Value} (hle : H0.le H) (he : best_Shows.b1 k h total sum t69 t70 t71 = some r) (h_t69 : Src kI64 H L v_t69 t69) : Wp Try.prog 16 82 best_Shows.Kl1 (upd (upd (upd (upd (upd (upd (upd jk_ 3 (.int .i64 total)) 8 (.bool false)) 9 (errV 48 none)) 12 (.int .i64 sum)) 69 (v_t69)) 70 (.int .i64 t70)) 71 (.int .i64 t71)) H (L) (best_Shows.R H0 L r) := by
 unfold best_Shows.b1 at he
 unfold best_Shows.Kl1
 refine wR rfl <| w_d rfl (d_lss rfl rfl) <| wE ?_
 rcases its he with ⟨c58, he⟩ | ⟨c58, he⟩
 ·
  refine w_then rfl (dt c58) <| w_skip <| w_seq <| w_block <| wR rfl ?_
  obtain ⟨c59, he⟩ := rq he
  refine w_d rfl (d_index (sz := 1) Try.underlying29 sz2 rfl h_t69 rfl c59) <| w_d rfl (d_ldint ty2 rfl h_t69 c59) <| wA (.int .i64 (rd t69 t71)) rfl rfl <| w_done <| w_region rfl <| wM (.int .i64 sum) rfl rfl <| wM (.int .i64 (rd t69 t71)) rfl rfl <| w_d rfl (d_add (c := w64 (sum + (rd t69 t71))) rfl rfl rfl) <| wA (.int .i64 (w64 (sum + (rd t69 t71)))) rfl rfl <| w_done <| w_inBlock <| w_region rfl ?_
  refine w_d rfl (d_add (c := w64 (t71 + 1)) rfl rfl rfl) <| wM (.int .i64 (w64 (t71 + 1))) rfl rfl <| w_done <| w_inLoop <| w_sl 3 (.int .i64 total) rfl <| w_sl 8 (.bool false) rfl <| w_sl 9 (errV 48 none) rfl <| w_sl 12 (.int .i64 (w64 (sum + (rd t69 t71)))) rfl <| w_sl 69 (v_t69) rfl <| w_sl 70 (.int .i64 t70) rfl <| w_sl 71 (.int .i64 (w64 (t71 + 1))) rfl <| hh.l1 hle he h_t69
 ·
  refine w_else rfl (df c58) <| w_exit rfl <| wR rfl <| wM (.int .i64 sum) rfl rfl <| wM (.int .i64 total) rfl rfl <| w_d rfl (d_eql rfl rfl) <| wA (.bool (decide (sum = total))) rfl rfl <| wA (errV 48 none) rfl rfl <| w_done ?_
  obtain rfl := sj he
  refine w_return fn_16 rs_16 (.tmp (v := .bool (decide (sum = total))) rfl (.tmp (v := errV 48 none) rfl .nil)) <| ⟨⟨[], rfl⟩, hle, rfl⟩
theorem best_Shows.ok : ∀ k, best_Shows.OK (best_Shows.hs k)
 | 0 => ⟨(by intros; exact nomatch (show none = some _ from by assumption)), (by intros; exact nomatch (show none = some _ from by assumption))⟩
 | k + 1 => ⟨best_Shows.b0_ok (k := k) (best_Shows.ok k), best_Shows.b1_ok (k := k) (best_Shows.ok k)⟩
theorem best_Shows.calls (k : Nat) {H : Hp} {L : Items} {c_ : cost_Costs} {tracks : List Int} {plots : List Int} {total : Int} {v0_c_ : Value} {v1_tracks : Value} {v2_plots : Value} {r : Bool × (Option Int)} (he : best_Shows.f k c_ tracks plots total = some r) (h0_c_ : Ro (Kd.slice kI64) H v0_c_ c_.f_Rows) (h1_tracks : Src kI64 H L v1_tracks tracks) (h2_plots : Src kI64 H L v2_plots plots) : Ct Try.prog 16 ⟨[.agg ⟨[v0_c_, .int .i64 c_.f_Miss]⟩, v1_tracks, v2_plots, .int .i64 total]⟩ H L (fun v H' L' => L = L' ∧ H = H' ∧ v = .tuple ⟨[.bool r.1, errV 48 r.2]⟩) := by
 refine ct_outs (O := best_Shows.out r) (fun _ _ h => h) ?_
 have hle : H.le H := .refl _
 have hh := best_Shows.ok k
 unfold best_Shows.f at he
 refine ct_enter (args := [.agg ⟨[v0_c_, .int .i64 c_.f_Miss]⟩, v1_tracks, v2_plots, .int .i64 total]) fn_16 rfl nt_16 rfl <| wR rfl <| w_a rfl (o_box (v := .agg ⟨[v0_c_, .int .i64 c_.f_Miss]⟩) rfl rfl) ?_
 rintro _ _ _ ⟨b1, rfl, rfl, rfl⟩
 refine wA (.bool false) rfl rfl <| wA (errV 48 none) rfl rfl <| wE <| wR rfl <| wL (.agg ⟨[v0_c_, .int .i64 c_.f_Miss]⟩) ty25 rfl rfl .here rfl rfl ?_
 obtain ⟨y2, hy3, he⟩ := bs he
 refine w_d rfl (call_d (o_call co6 (vs := [.agg ⟨[v0_c_, .int .i64 c_.f_Miss]⟩]) rfl (cost_Check.calls k (c_ := c_) hy3 h0_c_))) <| wA (errV 48 y2) rfl rfl <| wQ rfl <| wM (errV 48 y2) rfl rfl <| w_d rfl (d_nenil (e := y2) Try.underlying27 rfl) <| w_done ?_
 rcases its he with ⟨c6, he⟩ | ⟨c6, he⟩
 ·
  refine w_then rfl c6 <| wR rfl <| wM (errV 48 y2) rfl rfl <| wA (.bool false) rfl rfl <| wA (errV 48 y2) rfl rfl <| w_done ?_
  obtain rfl := sj he
  refine w_return fn_16 rs_16 (.tmp (v := .bool false) rfl (.tmp (v := errV 48 y2) rfl .nil)) <| ⟨⟨[_], rfl⟩, hle, rfl⟩
 ·
  refine w_else rfl (Bool.eq_false_iff.2 c6) <| w_skip <| wR rfl <| wL (.agg ⟨[v0_c_, .int .i64 c_.f_Miss]⟩) ty25 rfl rfl .here rfl rfl ?_
  obtain ⟨y7, hy8, he⟩ := bs he
  refine w_a rfl (o_call co27 (vs := [.agg ⟨[v0_c_, .int .i64 c_.f_Miss]⟩]) rfl (best_begun.calls k (c_ := c_) hy8 h0_c_)) ?_
  rintro _ H9 _ ⟨_, rfl, e10, ⟨b11, v12, v14, i15, v17, i18, v20, i21, rfl, rfl, h13, h16, h19, h22⟩⟩
  refine w_it (L' := some (b11, .cells ⟨[v12, .int .i64 y7.f_c.f_Miss, .int .i64 y7.f_tracks, .int .i64 y7.f_plots, v14, v17, v20]⟩ 61 (0, 0)) :: i15 :: i18 :: i21 :: some (b1, .cells ⟨[v0_c_, .int .i64 c_.f_Miss]⟩ 25 (0, 0)) :: L) rfl <| wA (.pointer (some ⟨b11, 0, none⟩)) rfl rfl <| wE <| wR rfl <| wM v1_tracks rfl rfl <| w_d rfl (d_len Try.underlying29 rfl (h1_tracks.mono e10).th.th.th.th.th) <| wM (.pointer (some ⟨b11, 0, none⟩)) rfl rfl <| w_d rfl (d_nilCheck (p := ⟨b11, 0, none⟩) rfl) <| w_d rfl (d_fld (o' := 2) Try.underlying61 rfl sz3 rfl rfl rfl) <| wL (.int .i64 y7.f_tracks) ty3 rfl rfl .here rfl rfl ?_
  refine w_d rfl (d_neq rfl rfl) <| wM (.bool (!decide ((tracks.length : Int) = y7.f_tracks))) rfl rfl <| w_g (g := !(!decide ((tracks.length : Int) = y7.f_tracks))) rfl rfl rfl wn_f (fun g23 => d_move (v := v2_plots) rfl) <| w_g (g := !(!decide ((tracks.length : Int) = y7.f_tracks))) rfl rfl rfl wn_f (fun g24 => d_len Try.underlying29 (cvt g24) (h2_plots.mono e10).th.th.th.th.th) <| w_g (g := !(!decide ((tracks.length : Int) = y7.f_tracks))) rfl rfl rfl wn_f (fun g25 => d_move (v := .pointer (some ⟨b11, 0, none⟩)) rfl) <| w_g (g := !(!decide ((tracks.length : Int) = y7.f_tracks))) rfl rfl rfl wn_f (fun g26 => d_nilCheck (p := ⟨b11, 0, none⟩) (cvt g26)) <| w_g (g := !(!decide ((tracks.length : Int) = y7.f_tracks))) rfl rfl rfl wn_f (fun g27 => d_fld (o' := 3) Try.underlying61 rfl sz3 rfl (cvt g27) rfl) <| w_g (g := !(!decide ((tracks.length : Int) = y7.f_tracks))) rfl rfl rfl wn_f (fun g28 => d_loado (v := .int .i64 y7.f_plots) ty3 (cvt g28) .here rfl rfl rfl rfl) <| w_g (g := !(!decide ((tracks.length : Int) = y7.f_tracks))) rfl rfl rfl wn_f (fun g29 => d_neq (cvt g29) (cvt g29)) <| w_d rfl (d_or' (b := (!decide ((tracks.length : Int) = y7.f_tracks))) (p := (!decide ((plots.length : Int) = y7.f_plots))) rfl rfl rfl) <| wM (.bool ((!decide ((tracks.length : Int) = y7.f_tracks)) || (!decide ((plots.length : Int) = y7.f_plots)))) rfl rfl <| w_g (g := !((!decide ((tracks.length : Int) = y7.f_tracks)) || (!decide ((plots.length : Int) = y7.f_plots)))) rfl rfl rfl wn_f (fun g30 => d_move (v := v1_tracks) rfl) ?_
  refine w_g (g := !((!decide ((tracks.length : Int) = y7.f_tracks)) || (!decide ((plots.length : Int) = y7.f_plots)))) rfl rfl rfl wn_f (fun g31 => d_fld (o' := 1) Try.underlying25 rfl sz2 rfl rfl rfl) <| w_g (g := !((!decide ((tracks.length : Int) = y7.f_tracks)) || (!decide ((plots.length : Int) = y7.f_plots)))) rfl rfl rfl wn_f (fun g32 => d_loado (v := .int .i64 c_.f_Miss) ty2 (cvt g32) (.there (.there (.there (.there .here)))) rfl rfl rfl rfl) ?_
  obtain ⟨y34, hy35, he⟩ := bs he
  refine w_g (g := !((!decide ((tracks.length : Int) = y7.f_tracks)) || (!decide ((plots.length : Int) = y7.f_plots)))) rfl rfl rfl wn_f (fun g33 => call_d (o_call co28 (vs := [v1_tracks, .int .i64 c_.f_Miss]) (acons (cvt g33) (acons (cvt g33) (anil))) (best_bounded.calls k (gd_t g33 hy35) ((h1_tracks.mono e10).th.th.th.th.th)))) <| w_g (g := !((!decide ((tracks.length : Int) = y7.f_tracks)) || (!decide ((plots.length : Int) = y7.f_plots)))) rfl rfl rfl wn_f (fun g38 => d_not (b := y34) (cvt g38)) <| w_d rfl (d_or' (b := ((!decide ((tracks.length : Int) = y7.f_tracks)) || (!decide ((plots.length : Int) = y7.f_plots)))) (p := (!y34)) rfl rfl rfl) <| wM (.bool (((!decide ((tracks.length : Int) = y7.f_tracks)) || (!decide ((plots.length : Int) = y7.f_plots))) || (!y34))) rfl rfl <| w_g (g := !(((!decide ((tracks.length : Int) = y7.f_tracks)) || (!decide ((plots.length : Int) = y7.f_plots))) || (!y34))) rfl rfl rfl wn_f (fun g39 => d_move (v := v2_plots) rfl) ?_
  obtain ⟨y41, hy42, he⟩ := bs he
  refine w_g (g := !(((!decide ((tracks.length : Int) = y7.f_tracks)) || (!decide ((plots.length : Int) = y7.f_plots))) || (!y34))) rfl rfl rfl wn_f (fun g40 => call_d (o_call co28 (vs := [v2_plots, .int .i64 0]) (acons (cvt g40) (acons rfl (anil))) (best_bounded.calls k (gd_t g40 hy42) ((h2_plots.mono e10).th.th.th.th.th)))) <| w_g (g := !(((!decide ((tracks.length : Int) = y7.f_tracks)) || (!decide ((plots.length : Int) = y7.f_plots))) || (!y34))) rfl rfl rfl wn_f (fun g45 => d_not (b := y41) (cvt g45)) <| w_d rfl (d_or' (b := (((!decide ((tracks.length : Int) = y7.f_tracks)) || (!decide ((plots.length : Int) = y7.f_plots))) || (!y34))) (p := (!y41)) rfl rfl rfl) <| wM (.bool ((((!decide ((tracks.length : Int) = y7.f_tracks)) || (!decide ((plots.length : Int) = y7.f_plots))) || (!y34)) || (!y41))) rfl rfl <| w_g (g := !((((!decide ((tracks.length : Int) = y7.f_tracks)) || (!decide ((plots.length : Int) = y7.f_plots))) || (!y34)) || (!y41))) rfl rfl rfl wn_f (fun g46 => d_loado (v := .agg ⟨[v0_c_, .int .i64 c_.f_Miss]⟩) ty25 rfl (.there (.there (.there (.there .here)))) rfl rfl rfl rfl) <| w_g (g := !((((!decide ((tracks.length : Int) = y7.f_tracks)) || (!decide ((plots.length : Int) = y7.f_plots))) || (!y34)) || (!y41))) rfl rfl rfl wn_f (fun g47 => d_move (v := v1_tracks) rfl) <| w_g (g := !((((!decide ((tracks.length : Int) = y7.f_tracks)) || (!decide ((plots.length : Int) = y7.f_plots))) || (!y34)) || (!y41))) rfl rfl rfl wn_f (fun g48 => d_move (v := v2_plots) rfl) ?_
  obtain ⟨y50, hy51, he⟩ := bs he
  refine w_g (g := !((((!decide ((tracks.length : Int) = y7.f_tracks)) || (!decide ((plots.length : Int) = y7.f_plots))) || (!y34)) || (!y41))) rfl rfl rfl wn_f (fun g49 => call_d (o_call co29 (vs := [.agg ⟨[v0_c_, .int .i64 c_.f_Miss]⟩, v1_tracks, v2_plots]) (acons (cvt g49) (acons (cvt g49) (acons (cvt g49) (anil)))) (best_under.calls k (c_ := c_) (gd_t g49 hy51) (h0_c_.mono e10) ((h1_tracks.mono e10).th.th.th.th.th) ((h2_plots.mono e10).th.th.th.th.th)))) <| w_g (g := !((((!decide ((tracks.length : Int) = y7.f_tracks)) || (!decide ((plots.length : Int) = y7.f_plots))) || (!y34)) || (!y41))) rfl rfl rfl wn_f (fun g54 => d_not (b := y50) (cvt g54)) <| w_d rfl (d_or' (b := ((((!decide ((tracks.length : Int) = y7.f_tracks)) || (!decide ((plots.length : Int) = y7.f_plots))) || (!y34)) || (!y41))) (p := (!y50)) rfl rfl rfl) <| w_done ?_
  rcases its he with ⟨c55, he⟩ | ⟨c55, he⟩
  ·
   refine w_then rfl c55 <| wR rfl <| wA (.bool false) rfl rfl <| wA (errV 48 none) rfl rfl <| w_done ?_
   obtain rfl := sj he
   refine w_return fn_16 rs_16 (.tmp (v := .bool false) rfl (.tmp (v := errV 48 none) rfl .nil)) <| ⟨⟨[_, _, _, _, _], rfl⟩, hle.trans e10, rfl⟩
  ·
   refine w_else rfl (Bool.eq_false_iff.2 c55) <| w_skip <| wR rfl <| wA (.int .i64 0) rfl rfl <| wE <| wR rfl <| wM v1_tracks rfl rfl <| w_d rfl (d_len Try.underlying29 rfl (h1_tracks.mono e10).th.th.th.th.th) <| wM (.int .i64 0) rfl rfl ?_
   refine w_done <| w_block <| w_loop <| w_del (.there (.there (.there (.there .here)))) <| w_del (.there (.there (.there .here))) <| w_del (.there (.there .here)) <| w_del (.there .here) <| w_del .here <| w_sl 2 (v2_plots) rfl <| w_sl 3 (.int .i64 total) rfl <| w_sl 8 (.bool false) rfl <| w_sl 9 (errV 48 none) rfl ?_
   refine w_sl 12 (.int .i64 0) rfl <| w_sl 59 (v1_tracks) rfl <| w_sl 60 (.int .i64 (tracks.length : Int)) rfl <| w_sl 61 (.int .i64 0) rfl <| hh.l0 (hle.trans e10) he (h2_plots.mono e10) (h1_tracks.mono e10)
noncomputable def radomelaw22_sure.C : Code := (Try.f12.body).getD .skip
def radomelaw22_sure.out (r : Bool) (H : Hp) (v : Value) : Prop := v = .bool r
noncomputable def radomelaw22_sure.f (k : Nat)  : Option Bool := (best_Run.f k (⟨[[5, 1], [2, 1]], 100⟩ : cost_Costs)).bind fun y20 => (best_Proof.f k (⟨[[5, 1], [2, 1]], 100⟩ : cost_Costs)).bind fun y26 => (best_Shows.f k (⟨[[5, 1], [2, 1]], 100⟩ : cost_Costs) y26.1 y26.2.1 3).bind fun y34 => (best_Shows.f k (⟨[[5, 1], [2, 1]], 100⟩ : cost_Costs) y26.1 y26.2.1 4).bind fun y38 => if (((((y20.2.2.isNone && y26.2.2.isNone) && y34.2.isNone) && y38.2.isNone) && (decide (y20.2.1 = 3))) && (decide ((y20.1.length : Int) = 2))) = true → (0 : Int) ≤ 0 ∧ 0 < (y20.1.length : Int) then (some ((((((((y20.2.2.isNone && y26.2.2.isNone) && y34.2.isNone) && y38.2.isNone) && (decide (y20.2.1 = 3))) && (decide ((y20.1.length : Int) = 2))) && (decide ((rd y20.1 0) = 1))) && y34.1) && (!y38.1))) else none
theorem radomelaw22_sure.mono : ∀ k, LeO (radomelaw22_sure.f k) (radomelaw22_sure.f (k + 1)) := fun k => by unfold radomelaw22_sure.f; exact (LeO.bind (best_Run.mono k _) fun _ => LeO.bind (best_Proof.mono k _) fun _ => LeO.bind (best_Shows.mono k _ _ _ _) fun _ => LeO.bind (best_Shows.mono k _ _ _ _) fun _ => LeO.ite (LeO.refl _) (LeO.refl _))
theorem radomelaw22_sure.calls (k : Nat) {H : Hp} {L : Items} {r : Bool} (he : radomelaw22_sure.f k  = some r) : Ct Try.prog 12 ⟨[]⟩ H L (fun v H' L' => L = L' ∧ H = H' ∧ v = .bool r) := by
 refine ct_outs (O := radomelaw22_sure.out r) (fun _ _ h => h) ?_
 have hle : H.le H := .refl _
 unfold radomelaw22_sure.f at he
 refine ct_enter (args := []) fn_12 rfl nt_12 rfl <| wR rfl <| wA (.bool false) rfl rfl <| wQ rfl <| w_a rfl (o_buildSlice' (kd := kI64) (css := [[.int .i64 5], [.int .i64 1]]) (xs := [5, 1]) (parts := [(0, .int .i64 5), (1, .int .i64 1)]) Try.underlying29 ti2 rfl ⟨_, _, rfl, rfl, ⟨_, _, rfl, rfl, rfl⟩⟩ ⟨rfl, ⟨rfl, trivial⟩⟩ rfl (by decide)) ?_
 rintro v1 _ _ ⟨i2, rfl, rfl, h3⟩
 refine w_a rfl (o_buildSlice' (kd := kI64) (css := [[.int .i64 2], [.int .i64 1]]) (xs := [2, 1]) (parts := [(0, .int .i64 2), (1, .int .i64 1)]) Try.underlying29 ti2 rfl ⟨_, _, rfl, rfl, ⟨_, _, rfl, rfl, rfl⟩⟩ ⟨rfl, ⟨rfl, trivial⟩⟩ rfl (by decide)) ?_
 rintro v4 _ _ ⟨i5, rfl, rfl, h6⟩
 refine w_freeze h3 (.there .here) ?_
 intro H7 e8 h9
 refine w_freeze (h6.mono e8) .here ?_
 intro H10 e11 h12
 refine w_a rfl (o_buildSlice' (kd := (Kd.slice kI64)) (css := [[v1], [v4]]) (xs := [[5, 1], [2, 1]]) (parts := [(0, v1), (1, v4)]) Try.underlying22 ti29 rfl ⟨_, _, rfl, h9.cells, ⟨_, _, rfl, h12.cells, rfl⟩⟩ ⟨⟨_, rfl, (h9.mono e11)⟩, ⟨⟨_, rfl, h12⟩, trivial⟩⟩ rfl (by decide)) ?_
 rintro v13 _ _ ⟨i14, rfl, rfl, h15⟩
 refine w_d rfl (d_build (cs' := [v13, .int .i64 100]) Try.underlying25 zr25 rfl (by kernel_rfl) (parts := [(0, v13), (1, .int .i64 100)]) rfl (.cons (place_of rfl sz22 rfl) h15.cells rfl u1 (.cons (place_of rfl sz2 rfl) rfl rfl (.there u1) .nil))) <| w_a rfl (o_alloc zr25 rfl) ?_
 rintro _ _ _ ⟨b16, rfl, rfl, rfl⟩
 refine w_a0 rfl (o_store (v := .agg ⟨[v13, .int .i64 100]⟩) sz25 rfl rfl rfl rfl (oc (h15.one) (oc rfl oz)) .here u2) ?_
 rintro _ _ _ ⟨rfl, rfl, rfl⟩
 refine wQ rfl <| wL (.agg ⟨[v13, .int .i64 100]⟩) ty25 rfl rfl .here rfl rfl <| w_freeze h15 (.there .here) ?_
 intro H17 e18 h19
 obtain ⟨y20, hy21, he⟩ := bs he
 refine w_a rfl (o_call co13 (vs := [.agg ⟨[v13, .int .i64 100]⟩]) rfl (best_Run.calls k (c_ := ⟨[[5, 1], [2, 1]], 100⟩) hy21 h19)) ?_
 rintro _ H22 _ ⟨rfl, e23, ⟨v24, rfl, h25⟩⟩
 refine wM (.tuple ⟨[v24, .int .i64 y20.2.1, errV 48 y20.2.2]⟩) rfl rfl <| w_d rfl (d_ext (vs := [v24, .int .i64 y20.2.1, errV 48 y20.2.2]) rfl rfl) <| w_d rfl (d_ext (vs := [v24, .int .i64 y20.2.1, errV 48 y20.2.2]) rfl rfl) <| w_d rfl (d_ext (vs := [v24, .int .i64 y20.2.1, errV 48 y20.2.2]) rfl rfl) <| wA v24 rfl rfl <| wA (.int .i64 y20.2.1) rfl rfl <| wA (errV 48 y20.2.2) rfl rfl <| wQ rfl <| wL (.agg ⟨[v13, .int .i64 100]⟩) ty25 rfl rfl .here rfl rfl ?_
 obtain ⟨y26, hy27, he⟩ := bs he
 refine w_a rfl (o_call co14 (vs := [.agg ⟨[v13, .int .i64 100]⟩]) rfl (best_Proof.calls k (c_ := ⟨[[5, 1], [2, 1]], 100⟩) hy27 (h19.mono e23))) ?_
 rintro _ H28 _ ⟨rfl, e29, ⟨v30, v32, rfl, h31, h33⟩⟩
 refine wM (.tuple ⟨[v30, v32, errV 48 y26.2.2]⟩) rfl rfl <| w_d rfl (d_ext (vs := [v30, v32, errV 48 y26.2.2]) rfl rfl) <| w_d rfl (d_ext (vs := [v30, v32, errV 48 y26.2.2]) rfl rfl) <| w_d rfl (d_ext (vs := [v30, v32, errV 48 y26.2.2]) rfl rfl) <| wA v30 rfl rfl <| wA v32 rfl rfl <| wA (errV 48 y26.2.2) rfl rfl <| wQ rfl <| wL (.agg ⟨[v13, .int .i64 100]⟩) ty25 rfl rfl .here rfl rfl <| wM v30 rfl rfl ?_
 refine wM v32 rfl rfl ?_
 obtain ⟨y34, hy35, he⟩ := bs he
 refine w_d rfl (call_d (o_call co16 (vs := [.agg ⟨[v13, .int .i64 100]⟩, v30, v32, .int .i64 3]) rfl (best_Shows.calls k (c_ := ⟨[[5, 1], [2, 1]], 100⟩) hy35 (h19.mono (e23.trans e29)) h31.src h33.src))) <| wM (.tuple ⟨[.bool y34.1, errV 48 y34.2]⟩) rfl rfl <| w_d rfl (d_ext (vs := [.bool y34.1, errV 48 y34.2]) rfl rfl) <| w_d rfl (d_ext (vs := [.bool y34.1, errV 48 y34.2]) rfl rfl) <| wA (.bool y34.1) rfl rfl <| wA (errV 48 y34.2) rfl rfl <| wQ rfl <| wL (.agg ⟨[v13, .int .i64 100]⟩) ty25 rfl rfl .here rfl rfl <| wM v30 rfl rfl <| wM v32 rfl rfl ?_
 obtain ⟨y38, hy39, he⟩ := bs he
 refine w_d rfl (call_d (o_call co16 (vs := [.agg ⟨[v13, .int .i64 100]⟩, v30, v32, .int .i64 4]) rfl (best_Shows.calls k (c_ := ⟨[[5, 1], [2, 1]], 100⟩) hy39 (h19.mono (e23.trans e29)) h31.src h33.src))) <| wM (.tuple ⟨[.bool y38.1, errV 48 y38.2]⟩) rfl rfl <| w_d rfl (d_ext (vs := [.bool y38.1, errV 48 y38.2]) rfl rfl) <| w_d rfl (d_ext (vs := [.bool y38.1, errV 48 y38.2]) rfl rfl) <| wA (.bool y38.1) rfl rfl <| wA (errV 48 y38.2) rfl rfl <| wQ rfl <| wM (errV 48 y20.2.2) rfl rfl <| w_d rfl (d_eqnil (e := y20.2.2) Try.underlying27 rfl) <| wM (.bool y20.2.2.isNone) rfl rfl ?_
 refine w_g (g := y20.2.2.isNone) rfl rfl rfl wn_t (fun g42 => d_move (v := errV 48 y26.2.2) rfl) <| w_g (g := y20.2.2.isNone) rfl rfl rfl wn_t (fun g43 => d_eqnil (e := y26.2.2) Try.underlying27 (cvt g43)) <| w_d rfl (d_and' (b := y20.2.2.isNone) (p := y26.2.2.isNone) rfl rfl rfl) <| wM (.bool (y20.2.2.isNone && y26.2.2.isNone)) rfl rfl <| w_g (g := y20.2.2.isNone && y26.2.2.isNone) rfl rfl rfl wn_t (fun g44 => d_move (v := errV 48 y34.2) rfl) <| w_g (g := y20.2.2.isNone && y26.2.2.isNone) rfl rfl rfl wn_t (fun g45 => d_eqnil (e := y34.2) Try.underlying27 (cvt g45)) <| w_d rfl (d_and' (b := (y20.2.2.isNone && y26.2.2.isNone)) (p := y34.2.isNone) rfl rfl rfl) <| wM (.bool ((y20.2.2.isNone && y26.2.2.isNone) && y34.2.isNone)) rfl rfl <| w_g (g := (y20.2.2.isNone && y26.2.2.isNone) && y34.2.isNone) rfl rfl rfl wn_t (fun g46 => d_move (v := errV 48 y38.2) rfl) <| w_g (g := (y20.2.2.isNone && y26.2.2.isNone) && y34.2.isNone) rfl rfl rfl wn_t (fun g47 => d_eqnil (e := y38.2) Try.underlying27 (cvt g47)) <| w_d rfl (d_and' (b := ((y20.2.2.isNone && y26.2.2.isNone) && y34.2.isNone)) (p := y38.2.isNone) rfl rfl rfl) <| wM (.bool (((y20.2.2.isNone && y26.2.2.isNone) && y34.2.isNone) && y38.2.isNone)) rfl rfl ?_
 refine w_g (g := ((y20.2.2.isNone && y26.2.2.isNone) && y34.2.isNone) && y38.2.isNone) rfl rfl rfl wn_t (fun g48 => d_move (v := .int .i64 y20.2.1) rfl) <| w_g (g := ((y20.2.2.isNone && y26.2.2.isNone) && y34.2.isNone) && y38.2.isNone) rfl rfl rfl wn_t (fun g49 => d_eql (cvt g49) rfl) <| w_d rfl (d_and' (b := (((y20.2.2.isNone && y26.2.2.isNone) && y34.2.isNone) && y38.2.isNone)) (p := (decide (y20.2.1 = 3))) rfl rfl rfl) <| wM (.bool ((((y20.2.2.isNone && y26.2.2.isNone) && y34.2.isNone) && y38.2.isNone) && (decide (y20.2.1 = 3)))) rfl rfl <| w_g (g := (((y20.2.2.isNone && y26.2.2.isNone) && y34.2.isNone) && y38.2.isNone) && (decide (y20.2.1 = 3))) rfl rfl rfl wn_t (fun g50 => d_move (v := v24) rfl) <| w_g (g := (((y20.2.2.isNone && y26.2.2.isNone) && y34.2.isNone) && y38.2.isNone) && (decide (y20.2.1 = 3))) rfl rfl rfl wn_t (fun g51 => d_len Try.underlying31 (cvt g51) (h25.mono e29).src) <| w_g (g := (((y20.2.2.isNone && y26.2.2.isNone) && y34.2.isNone) && y38.2.isNone) && (decide (y20.2.1 = 3))) rfl rfl rfl wn_t (fun g52 => d_eql (cvt g52) rfl) <| w_d rfl (d_and' (b := ((((y20.2.2.isNone && y26.2.2.isNone) && y34.2.isNone) && y38.2.isNone) && (decide (y20.2.1 = 3)))) (p := (decide ((y20.1.length : Int) = 2))) rfl rfl rfl) <| wM (.bool (((((y20.2.2.isNone && y26.2.2.isNone) && y34.2.isNone) && y38.2.isNone) && (decide (y20.2.1 = 3))) && (decide ((y20.1.length : Int) = 2)))) rfl rfl <| w_g (g := ((((y20.2.2.isNone && y26.2.2.isNone) && y34.2.isNone) && y38.2.isNone) && (decide (y20.2.1 = 3))) && (decide ((y20.1.length : Int) = 2))) rfl rfl rfl wn_t (fun g53 => d_move (v := v24) rfl) ?_
 obtain ⟨c55, he⟩ := rq he
 refine w_g (g := ((((y20.2.2.isNone && y26.2.2.isNone) && y34.2.isNone) && y38.2.isNone) && (decide (y20.2.1 = 3))) && (decide ((y20.1.length : Int) = 2))) rfl rfl rfl wn_t (fun g54 => d_index (sz := 1) Try.underlying31 sz3 (cvt g54) (h25.mono e29).src rfl (c55 g54)) <| w_g (g := ((((y20.2.2.isNone && y26.2.2.isNone) && y34.2.isNone) && y38.2.isNone) && (decide (y20.2.1 = 3))) && (decide ((y20.1.length : Int) = 2))) rfl rfl rfl wn_t (fun g56 => d_ldint ty3 (cvt g56) (h25.mono e29).src (c55 g56)) <| w_g (g := ((((y20.2.2.isNone && y26.2.2.isNone) && y34.2.isNone) && y38.2.isNone) && (decide (y20.2.1 = 3))) && (decide ((y20.1.length : Int) = 2))) rfl rfl rfl wn_t (fun g57 => d_eql (cvt g57) rfl) <| w_d rfl (d_and' (b := (((((y20.2.2.isNone && y26.2.2.isNone) && y34.2.isNone) && y38.2.isNone) && (decide (y20.2.1 = 3))) && (decide ((y20.1.length : Int) = 2)))) (p := (decide ((rd y20.1 0) = 1))) rfl rfl rfl) <| wM (.bool ((((((y20.2.2.isNone && y26.2.2.isNone) && y34.2.isNone) && y38.2.isNone) && (decide (y20.2.1 = 3))) && (decide ((y20.1.length : Int) = 2))) && (decide ((rd y20.1 0) = 1)))) rfl rfl <| w_g (g := (((((y20.2.2.isNone && y26.2.2.isNone) && y34.2.isNone) && y38.2.isNone) && (decide (y20.2.1 = 3))) && (decide ((y20.1.length : Int) = 2))) && (decide ((rd y20.1 0) = 1))) rfl rfl rfl wn_t (fun g58 => d_move (v := .bool y34.1) rfl) <| w_d rfl (d_and' (b := ((((((y20.2.2.isNone && y26.2.2.isNone) && y34.2.isNone) && y38.2.isNone) && (decide (y20.2.1 = 3))) && (decide ((y20.1.length : Int) = 2))) && (decide ((rd y20.1 0) = 1)))) (p := y34.1) rfl rfl rfl) <| wM (.bool (((((((y20.2.2.isNone && y26.2.2.isNone) && y34.2.isNone) && y38.2.isNone) && (decide (y20.2.1 = 3))) && (decide ((y20.1.length : Int) = 2))) && (decide ((rd y20.1 0) = 1))) && y34.1)) rfl rfl <| w_g (g := ((((((y20.2.2.isNone && y26.2.2.isNone) && y34.2.isNone) && y38.2.isNone) && (decide (y20.2.1 = 3))) && (decide ((y20.1.length : Int) = 2))) && (decide ((rd y20.1 0) = 1))) && y34.1) rfl rfl rfl wn_t (fun g59 => d_move (v := .bool y38.1) rfl) <| w_g (g := ((((((y20.2.2.isNone && y26.2.2.isNone) && y34.2.isNone) && y38.2.isNone) && (decide (y20.2.1 = 3))) && (decide ((y20.1.length : Int) = 2))) && (decide ((rd y20.1 0) = 1))) && y34.1) rfl rfl rfl wn_t (fun g60 => d_not (b := y38.1) (cvt g60)) <| w_d rfl (d_and' (b := (((((((y20.2.2.isNone && y26.2.2.isNone) && y34.2.isNone) && y38.2.isNone) && (decide (y20.2.1 = 3))) && (decide ((y20.1.length : Int) = 2))) && (decide ((rd y20.1 0) = 1))) && y34.1)) (p := (!y38.1)) rfl rfl rfl) <| wA (.bool ((((((((y20.2.2.isNone && y26.2.2.isNone) && y34.2.isNone) && y38.2.isNone) && (decide (y20.2.1 = 3))) && (decide ((y20.1.length : Int) = 2))) && (decide ((rd y20.1 0) = 1))) && y34.1) && (!y38.1))) rfl rfl ?_
 refine w_done ?_
 obtain rfl := sj he
 refine w_return fn_12 rs_12 (.tmp (v := .bool ((((((((y20.2.2.isNone && y26.2.2.isNone) && y34.2.isNone) && y38.2.isNone) && (decide (y20.2.1 = 3))) && (decide ((y20.1.length : Int) = 2))) && (decide ((rd y20.1 0) = 1))) && y34.1) && (!y38.1))) rfl .nil) <| ⟨⟨[_, _, _, _], rfl⟩, hle.trans ((((e8.trans e11).trans e18).trans e23).trans e29), rfl⟩
noncomputable def radomeref22_plots.C : Code := (Try.f23.body).getD .skip
def radomeref22_plots.out (r : Int) (H : Hp) (v : Value) : Prop := v = .int .i64 r
noncomputable def radomeref22_plots.f (k : Nat) (c_ : radomeref20_Costs) : Option Int := if (c_.f_Rows.length : Int) = 0 then (some (0)) else (if (0 : Int) ≤ 0 ∧ 0 < (c_.f_Rows.length : Int) then (some (((rd c_.f_Rows 0).length : Int))) else none)
theorem radomeref22_plots.calls (k : Nat) {H : Hp} {L : Items} {c_ : radomeref20_Costs} {v0_c_ : Value} {r : Int} (he : radomeref22_plots.f k c_ = some r) (h0_c_ : Ro (Kd.slice kI64) H v0_c_ c_.f_Rows) : Ct Try.prog 23 ⟨[.agg ⟨[v0_c_, .int .i64 c_.f_Miss]⟩]⟩ H L (fun v H' L' => L = L' ∧ H = H' ∧ v = .int .i64 r) := by
 refine ct_outs (O := radomeref22_plots.out r) (fun _ _ h => h) ?_
 have hle : H.le H := .refl _
 unfold radomeref22_plots.f at he
 refine ct_enter (args := [.agg ⟨[v0_c_, .int .i64 c_.f_Miss]⟩]) fn_23 rfl nt_23 rfl <| wR rfl <| w_a rfl (o_box (v := .agg ⟨[v0_c_, .int .i64 c_.f_Miss]⟩) rfl rfl) ?_
 rintro _ _ _ ⟨b1, rfl, rfl, rfl⟩
 refine wA (.int .i64 0) rfl rfl <| wE <| wR rfl <| w_d rfl (d_fld (o' := 0) Try.underlying24 rfl sz22 rfl rfl rfl) <| wL v0_c_ ty22 rfl rfl .here rfl rfl <| w_d rfl (d_len Try.underlying22 rfl h0_c_.src) <| w_d rfl (d_eql rfl rfl) <| w_done ?_
 rcases its he with ⟨c2, he⟩ | ⟨c2, he⟩
 ·
  refine w_then rfl (dt c2) <| wR rfl <| wA (.int .i64 0) rfl rfl <| w_done ?_
  obtain rfl := sj he
  refine w_return fn_23 rs_23 (.tmp (v := .int .i64 0) rfl .nil) <| ⟨⟨[_], rfl⟩, hle, rfl⟩
 ·
  refine w_else rfl (df c2) <| w_skip <| wR rfl <| w_d rfl (d_fld (o' := 0) Try.underlying24 rfl sz22 rfl rfl rfl) <| wL v0_c_ ty22 rfl rfl .here rfl rfl ?_
  obtain ⟨c3, he⟩ := rq he
  refine w_d rfl (d_index (sz := 1) Try.underlying22 sz29 rfl h0_c_.src rfl c3) ?_
  obtain ⟨_, l4, r5⟩ := el_ro (kd := (Kd.slice kI64)) h0_c_ c3
  obtain ⟨v6, rfl, h7⟩ := r5
  refine w_d rfl (d_load (v := v6) (cs := [v6]) ty29 rfl rfl (by decide) (l4).lies rfl) <| w_d rfl (d_len Try.underlying29 rfl h7.src) <| wA (.int .i64 ((rd c_.f_Rows 0).length : Int)) rfl rfl <| w_done ?_
  obtain rfl := sj he
  refine w_return fn_23 rs_23 (.tmp (v := .int .i64 ((rd c_.f_Rows 0).length : Int)) rfl .nil) <| ⟨⟨[_], rfl⟩, hle, rfl⟩
noncomputable def radomeref01_Of.C : Code := (Try.f25.body).getD .skip
def radomeref01_Of.out (r : radomeref01_Num) (H : Hp) (v : Value) : Prop := ∃ v0, v = .agg ⟨[.bool r.f_Neg, v0]⟩ ∧ Ro kI64 H v0 r.f_D
theorem radomeref01_Of.out_mono (r : radomeref01_Num) {H H' : Hp} {v : Value} (hle : H.le H') (h : radomeref01_Of.out r H v) : radomeref01_Of.out r H' v := by
 obtain ⟨v0, rfl, h0⟩ := h; exact ⟨v0, rfl, h0.mono hle⟩
abbrev radomeref01_Of.R (H0 : Hp) (L : Items) (r : radomeref01_Num) := fR H0 L (radomeref01_Of.out r)
structure radomeref01_Of.Hs where
 l0 : Int → Int → (List Int) → Option radomeref01_Num
noncomputable def radomeref01_Of.j1 (k : Nat) (h : radomeref01_Of.Hs)  (n : Int) (v_ : Int) : Option radomeref01_Num := h.l0 n v_ []
noncomputable def radomeref01_Of.b0 (k : Nat) (h : radomeref01_Of.Hs)  (n : Int) (v_ : Int) (d : List Int) : Option radomeref01_Num := if 0 < v_ then (if d.length + 1 ≤ 17592186044288 then (h.l0 n ((Int.tdiv v_ 10) % 18446744073709551616) (d ++ [w64 (Int.tmod v_ 10)])) else none) else (some ((⟨decide (n < 0), d⟩ : radomeref01_Num)))
noncomputable def radomeref01_Of.hs : Nat → radomeref01_Of.Hs
 | 0 => ⟨fun _ _ _ => none⟩
 | k + 1 => ⟨fun x0 x1 x2 => radomeref01_Of.b0 k (radomeref01_Of.hs k) x0 x1 x2⟩
noncomputable def radomeref01_Of.f (k : Nat) (n : Int) : Option radomeref01_Num := (fun h : radomeref01_Of.Hs => if n < 0 then (radomeref01_Of.j1 k h n ((0 - ((n) % 18446744073709551616)) % 18446744073709551616)) else (radomeref01_Of.j1 k h n ((n) % 18446744073709551616))) (radomeref01_Of.hs k)
noncomputable def radomeref01_Of.Kj1 : List Item := .code (seqR (seqR (seqR radomeref01_Of.C))) :: []
noncomputable def radomeref01_Of.Kl0 : List Item := .code (lopB (blkB (seqL (seqR (seqR (seqR (seqR radomeref01_Of.C))))))) :: .inLoop (lopB (blkB (seqL (seqR (seqR (seqR (seqR radomeref01_Of.C))))))) :: .inBlock 0 :: .code (seqR (seqR (seqR (seqR (seqR radomeref01_Of.C))))) :: []
structure radomeref01_Of.OK (h : radomeref01_Of.Hs) : Prop where
 l0 : ∀ {H0 H : Hp} {L : Items} {r : radomeref01_Num} {jk_ : Nat → Value} {n : Int} {v_ : Int} {d : List Int} {v_d : Value} {i_d : Item'} {b_t2 : Nat} (_ : H0.le H) (_he : h.l0 n v_ d = some r) (_h_d : Sl kI64 H 3 i_d v_d d), Wp Try.prog 25 25 radomeref01_Of.Kl0 (upd (upd (upd (upd jk_ 0 (.int .i64 n)) 2 (.pointer (some ⟨b_t2, 0, none⟩))) 3 (.int .u64 v_)) 4 (v_d)) H (i_d :: some (b_t2, .cells ⟨[.bool false, .slice none 0 0]⟩ 65 (0, 0)) :: L) (radomeref01_Of.R H0 L r)
theorem radomeref01_Of.j1_ok {k : Nat} {h : radomeref01_Of.Hs} (hh : radomeref01_Of.OK h) {H0 H : Hp} {L : Items} {r : radomeref01_Num} {jk_ : Nat → Value} {n : Int} {v_ : Int} {b_t2 : Nat} (hle : H0.le H) (he : radomeref01_Of.j1 k h n v_ = some r) : Wp Try.prog 25 25 radomeref01_Of.Kj1 (upd (upd (upd jk_ 0 (.int .i64 n)) 2 (.pointer (some ⟨b_t2, 0, none⟩))) 3 (.int .u64 v_)) H (some (b_t2, .cells ⟨[.bool false, .slice none 0 0]⟩ 65 (0, 0)) :: L) (radomeref01_Of.R H0 L r) := by
 unfold radomeref01_Of.j1 at he
 unfold radomeref01_Of.Kj1
 refine wR rfl <| wA (.slice none 0 0) rfl rfl <| wE <| w_block <| w_loop <| w_none <| w_sl 0 (.int .i64 n) rfl <| w_sl 2 (.pointer (some ⟨b_t2, 0, none⟩)) rfl <| w_sl 3 (.int .u64 v_) rfl <| w_sl 4 (.slice none 0 0) rfl <| hh.l0 hle he (sl_nil _ _ _)
theorem radomeref01_Of.b0_ok {k : Nat} {h : radomeref01_Of.Hs} (hh : radomeref01_Of.OK h) {H0 H : Hp} {L : Items} {r : radomeref01_Num} {jk_ : Nat → Value} {n : Int} {v_ : Int} {d : List Int} {v_d : Value} {i_d : Item'} {b_t2 : Nat} (hle : H0.le H) (he : radomeref01_Of.b0 k h n v_ d = some r) (h_d : Sl kI64 H 3 i_d v_d d) : Wp Try.prog 25 25 radomeref01_Of.Kl0 (upd (upd (upd (upd jk_ 0 (.int .i64 n)) 2 (.pointer (some ⟨b_t2, 0, none⟩))) 3 (.int .u64 v_)) 4 (v_d)) H (i_d :: some (b_t2, .cells ⟨[.bool false, .slice none 0 0]⟩ 65 (0, 0)) :: L) (radomeref01_Of.R H0 L r) := by
 unfold radomeref01_Of.b0 at he
 unfold radomeref01_Of.Kl0
 refine w_seq <| wR rfl <| wM (.int .u64 v_) rfl rfl <| w_d rfl (d_gtr rfl rfl) <| w_done ?_
 rcases its he with ⟨c3, he⟩ | ⟨c3, he⟩
 ·
  refine w_then rfl (dt c3) <| w_skip <| w_block <| wR rfl <| wM v_d rfl rfl <| wM (.int .u64 v_) rfl rfl <| w_d rfl (d_rem rfl rfl (by decide)) <| w_d rfl (d_conv (c := w64 (Int.tmod v_ 10)) Try.underlying79 Try.underlying3 rfl rfl) <| w_a rfl (o_buildSlice' (kd := kI64) (css := [[.int .i64 (w64 (Int.tmod v_ 10))]]) (xs := [w64 (Int.tmod v_ 10)]) (parts := [(0, .int .i64 (w64 (Int.tmod v_ 10)))]) Try.underlying31 ti3 rfl ⟨_, _, rfl, rfl, rfl⟩ ⟨rfl, trivial⟩ rfl (by decide)) ?_
  rintro v4 _ _ ⟨i5, rfl, rfl, h6⟩
  obtain ⟨c7, he⟩ := rq he
  refine w_a rfl (o_append' (kd := kI64) (F := fun z_ => i5 :: z_ :: some (b_t2, .cells ⟨[.bool false, .slice none 0 0]⟩ 65 (0, 0)) :: L) Try.underlying31 Try.underlying31 ti3 rfl (by first | omega | (simp only [List.nil_append, List.length_cons, List.length_nil]; omega)) rfl rfl h_d (h6.src .here) (fun _ => (.there .here))) ?_
  rintro v8 _ _ ⟨i9, rfl, rfl, h10⟩
  refine wA v8 rfl rfl <| w_done <| w_region rfl <| wM (.int .u64 v_) rfl rfl <| w_d rfl (d_quo (c := (Int.tdiv v_ 10) % 18446744073709551616) rfl rfl (by decide) rfl) <| wA (.int .u64 ((Int.tdiv v_ 10) % 18446744073709551616)) rfl rfl <| w_done <| w_inBlock <| w_inLoop <| w_del .here <| w_sl 0 (.int .i64 n) rfl <| w_sl 2 (.pointer (some ⟨b_t2, 0, none⟩)) rfl ?_
  refine w_sl 3 (.int .u64 ((Int.tdiv v_ 10) % 18446744073709551616)) rfl <| w_sl 4 (v8) rfl <| hh.l0 hle he h10
 ·
  refine w_else rfl (df c3) <| w_exit rfl <| wR rfl <| wM (.int .i64 n) rfl rfl <| w_d rfl (d_lss rfl rfl) <| wM v_d rfl rfl <| w_d rfl (d_build (cs' := [.bool (decide (n < 0)), v_d]) Try.underlying65 zr65 rfl (by kernel_rfl) (parts := [(0, .bool (decide (n < 0))), (1, v_d)]) rfl (.cons (place_of rfl sz4 rfl) rfl rfl u1 (.cons (place_of rfl sz31 rfl) h_d.cells rfl (.there u1) .nil))) <| w_a0 rfl (o_store (v := .agg ⟨[.bool (decide (n < 0)), v_d]⟩) sz65 rfl rfl rfl rfl (oc rfl (oc (h_d.one) oz)) (.there .here) u2) ?_
  rintro _ _ _ ⟨rfl, rfl, rfl⟩
  refine w_done <| w_freeze h_d .here ?_
  intro H11 e12 h13
  obtain rfl := sj he
  refine w_return fn_25 rs_25 (.box (v := .agg ⟨[.bool (decide (n < 0)), v_d]⟩) rfl ty65 rfl rfl (.there .here) rfl .nil) <| ⟨⟨[_, _], rfl⟩, hle.trans e12, ⟨v_d, rfl, h13⟩⟩
theorem radomeref01_Of.ok : ∀ k, radomeref01_Of.OK (radomeref01_Of.hs k)
 | 0 => ⟨(by intros; exact nomatch (show none = some _ from by assumption))⟩
 | k + 1 => ⟨radomeref01_Of.b0_ok (k := k) (radomeref01_Of.ok k)⟩
theorem radomeref01_Of.calls (k : Nat) {H : Hp} {L : Items} {n : Int} {r : radomeref01_Num} (he : radomeref01_Of.f k n = some r) : Ct Try.prog 25 ⟨[.int .i64 n]⟩ H L (cR H L (radomeref01_Of.out r)) := by
 refine ct_out (O := radomeref01_Of.out r) ?_
 have hle : H.le H := .refl _
 have hh := radomeref01_Of.ok k
 unfold radomeref01_Of.f at he
 refine ct_enter (args := [.int .i64 n]) fn_25 rfl nt_25 rfl <| wR rfl <| w_a rfl (o_alloc zr65 rfl) ?_
 rintro _ _ _ ⟨b1, rfl, rfl, rfl⟩
 refine wQ rfl <| wM (.int .i64 n) rfl rfl <| w_d rfl (d_conv (c := (n) % 18446744073709551616) Try.underlying2 Try.underlying79 rfl rfl) <| wA (.int .u64 ((n) % 18446744073709551616)) rfl rfl <| wE <| wR rfl <| wM (.int .i64 n) rfl rfl <| w_d rfl (d_lss rfl rfl) ?_
 refine w_done ?_
 rcases its he with ⟨c2, he⟩ | ⟨c2, he⟩
 ·
  refine w_then rfl (dt c2) <| w_region rfl <| wM (.int .u64 ((n) % 18446744073709551616)) rfl rfl <| w_d rfl (d_sub (c := (0 - ((n) % 18446744073709551616)) % 18446744073709551616) rfl rfl rfl) <| wA (.int .u64 ((0 - ((n) % 18446744073709551616)) % 18446744073709551616)) rfl rfl <| w_done <| w_sl 0 (.int .i64 n) rfl <| w_sl 2 (.pointer (some ⟨b1, 0, none⟩)) rfl <| w_sl 3 (.int .u64 ((0 - ((n) % 18446744073709551616)) % 18446744073709551616)) rfl <| radomeref01_Of.j1_ok (k := k) hh hle he
 ·
  refine w_else rfl (df c2) <| w_skip <| w_sl 0 (.int .i64 n) rfl <| w_sl 2 (.pointer (some ⟨b1, 0, none⟩)) rfl <| w_sl 3 (.int .u64 ((n) % 18446744073709551616)) rfl <| radomeref01_Of.j1_ok (k := k) hh hle he
noncomputable def radomeref01_trim.C : Code := (Try.f47.body).getD .skip
abbrev radomeref01_trim.out (r : (List Int)) (H : Hp) (v : Value) : Prop := Ro kI64 H v r
abbrev radomeref01_trim.R (H0 : Hp) (L : Items) (r : (List Int)) := fR H0 L (radomeref01_trim.out r)
structure radomeref01_trim.Hs where
 l0 : (List Int) → Option (List Int)
noncomputable def radomeref01_trim.b0 (k : Nat) (h : radomeref01_trim.Hs)  (d : List Int) : Option (List Int) := if (decide (0 < (d.length : Int))) = true → (0 : Int) ≤ w64 ((d.length : Int) - 1) ∧ w64 ((d.length : Int) - 1) < (d.length : Int) then (if ((decide (0 < (d.length : Int))) && (decide ((rd d (w64 ((d.length : Int) - 1))) = 0))) = true then (if (0 : Int) ≤ 0 ∧ (0 : Int) ≤ w64 ((d.length : Int) - 1) ∧ w64 ((d.length : Int) - 1) ≤ (d.length : Int) then (h.l0 (cut d 0 (w64 ((d.length : Int) - 1)))) else none) else (some (d))) else none
noncomputable def radomeref01_trim.hs : Nat → radomeref01_trim.Hs
 | 0 => ⟨fun _ => none⟩
 | k + 1 => ⟨fun x0 => radomeref01_trim.b0 k (radomeref01_trim.hs k) x0⟩
noncomputable def radomeref01_trim.f (k : Nat) (d : List Int) : Option (List Int) := (fun h : radomeref01_trim.Hs => h.l0 d) (radomeref01_trim.hs k)
noncomputable def radomeref01_trim.Kl0 : List Item := .code (lopB (blkB (seqL (seqR radomeref01_trim.C)))) :: .inLoop (lopB (blkB (seqL (seqR radomeref01_trim.C)))) :: .inBlock 0 :: .code (seqR (seqR radomeref01_trim.C)) :: []
structure radomeref01_trim.OK (h : radomeref01_trim.Hs) : Prop where
 l0 : ∀ {H0 H : Hp} {L : Items} {r : (List Int)} {jk_ : Nat → Value} {d : List Int} {v_d : Value} (_ : H0.le H) (_he : h.l0 d = some r) (_h_d : Ro kI64 H v_d d), Wp Try.prog 47 21 radomeref01_trim.Kl0 (upd (upd jk_ 0 (v_d)) 2 (.slice none 0 0)) H (L) (radomeref01_trim.R H0 L r)
theorem radomeref01_trim.b0_ok {k : Nat} {h : radomeref01_trim.Hs} (hh : radomeref01_trim.OK h) {H0 H : Hp} {L : Items} {r : (List Int)} {jk_ : Nat → Value} {d : List Int} {v_d : Value} (hle : H0.le H) (he : radomeref01_trim.b0 k h d = some r) (h_d : Ro kI64 H v_d d) : Wp Try.prog 47 21 radomeref01_trim.Kl0 (upd (upd jk_ 0 (v_d)) 2 (.slice none 0 0)) H (L) (radomeref01_trim.R H0 L r) := by
 unfold radomeref01_trim.b0 at he
 unfold radomeref01_trim.Kl0
 refine w_seq <| wR rfl <| wM v_d rfl rfl <| w_d rfl (d_len Try.underlying31 rfl h_d.src) <| w_d rfl (d_gtr rfl rfl) <| wM (.bool (decide (0 < (d.length : Int)))) rfl rfl <| w_g (g := decide (0 < (d.length : Int))) rfl rfl rfl wn_t (fun g1 => d_move (v := v_d) rfl) <| w_g (g := decide (0 < (d.length : Int))) rfl rfl rfl wn_t (fun g2 => d_move (v := v_d) rfl) <| w_g (g := decide (0 < (d.length : Int))) rfl rfl rfl wn_t (fun g3 => d_len Try.underlying31 (cvt g3) h_d.src) <| w_g (g := decide (0 < (d.length : Int))) rfl rfl rfl wn_t (fun g4 => d_sub (c := w64 ((d.length : Int) - 1)) (cvt g4) rfl rfl) ?_
 obtain ⟨c6, he⟩ := rq he
 refine w_g (g := decide (0 < (d.length : Int))) rfl rfl rfl wn_t (fun g5 => d_index (sz := 1) Try.underlying31 sz3 (cvt g5) h_d.src (cvt g5) (c6 g5)) <| w_g (g := decide (0 < (d.length : Int))) rfl rfl rfl wn_t (fun g7 => d_ldint ty3 (cvt g7) h_d.src (c6 g7)) <| w_g (g := decide (0 < (d.length : Int))) rfl rfl rfl wn_t (fun g8 => d_eql (cvt g8) rfl) <| w_d rfl (d_and' (b := (decide (0 < (d.length : Int)))) (p := (decide ((rd d (w64 ((d.length : Int) - 1))) = 0))) rfl rfl rfl) <| w_done ?_
 rcases its he with ⟨c9, he⟩ | ⟨c9, he⟩
 ·
  refine w_then rfl c9 <| w_skip <| w_block <| w_region rfl <| wM v_d rfl rfl <| wM v_d rfl rfl <| w_d rfl (d_len Try.underlying31 rfl h_d.src) <| w_d rfl (d_sub (c := w64 ((d.length : Int) - 1)) rfl rfl rfl) ?_
  obtain ⟨c10, he⟩ := rq he
  refine w_a rfl (o_cut (kd := kI64) Try.underlying31 sz3 rfl h_d (.inl ⟨rfl, rfl⟩) (.inr ⟨_, _, rfl, rfl⟩) c10) ?_
  rintro v11 _ _ ⟨h12, rfl, rfl⟩
  refine wA v11 rfl rfl <| w_done <| w_inBlock <| w_inLoop <| w_sl 0 (v11) rfl <| w_sl 2 (.slice none 0 0) rfl <| hh.l0 hle he h12
 ·
  refine w_else rfl (Bool.eq_false_iff.2 c9) <| w_exit rfl <| wR rfl <| wM v_d rfl rfl <| wA v_d rfl rfl <| w_done ?_
  obtain rfl := sj he
  refine w_return fn_47 rs_47 (.tmp (v := v_d) rfl .nil) <| ⟨⟨[], rfl⟩, hle, h_d⟩
theorem radomeref01_trim.ok : ∀ k, radomeref01_trim.OK (radomeref01_trim.hs k)
 | 0 => ⟨(by intros; exact nomatch (show none = some _ from by assumption))⟩
 | k + 1 => ⟨radomeref01_trim.b0_ok (k := k) (radomeref01_trim.ok k)⟩
theorem radomeref01_trim.calls (k : Nat) {H : Hp} {L : Items} {d : List Int} {v0_d : Value} {r : (List Int)} (he : radomeref01_trim.f k d = some r) (h0_d : Ro kI64 H v0_d d) : Ct Try.prog 47 ⟨[v0_d]⟩ H L (cR H L (radomeref01_trim.out r)) := by
 refine ct_out (O := radomeref01_trim.out r) ?_
 have hle : H.le H := .refl _
 have hh := radomeref01_trim.ok k
 unfold radomeref01_trim.f at he
 refine ct_enter (args := [v0_d]) fn_47 rfl nt_47 rfl <| wR rfl <| wA (.slice none 0 0) rfl rfl <| wE <| w_block <| w_loop <| w_sl 0 (v0_d) rfl <| w_sl 2 (.slice none 0 0) rfl <| hh.l0 hle he h0_d
noncomputable def radomeref01_plus.C : Code := (Try.f34.body).getD .skip
abbrev radomeref01_plus.out (r : (List Int)) (H : Hp) (v : Value) : Prop := Ro kI64 H v r
abbrev radomeref01_plus.R (H0 : Hp) (L : Items) (r : (List Int)) := fR H0 L (radomeref01_plus.out r)
structure radomeref01_plus.Hs where
 l0 : (List Int) → (List Int) → (List Int) → Int → Int → Option (List Int)
noncomputable def radomeref01_plus.j3 (k : Nat) (h : radomeref01_plus.Hs)  (a : List Int) (b : List Int) (out : List Int) (c_ : Int) (i : Int) : Option (List Int) := if out.length + 1 ≤ 17592186044288 then (h.l0 a b (out ++ [Int.tmod c_ 10]) (w64 (Int.tdiv c_ 10)) (w64 (i + 1))) else none
noncomputable def radomeref01_plus.j2 (k : Nat) (h : radomeref01_plus.Hs)  (a : List Int) (b : List Int) (out : List Int) (c_ : Int) (i : Int) : Option (List Int) := if i < (b.length : Int) then (if (0 : Int) ≤ i ∧ i < (b.length : Int) then (radomeref01_plus.j3 k h a b out (w64 (c_ + (rd b i))) i) else none) else (radomeref01_plus.j3 k h a b out c_ i)
noncomputable def radomeref01_plus.b0 (k : Nat) (h : radomeref01_plus.Hs)  (a : List Int) (b : List Int) (out : List Int) (c_ : Int) (i : Int) : Option (List Int) := if ((decide (i < (a.length : Int))) || (decide (i < (b.length : Int)))) = true then (if i < (a.length : Int) then (if (0 : Int) ≤ i ∧ i < (a.length : Int) then (radomeref01_plus.j2 k h a b out (w64 (c_ + (rd a i))) i) else none) else (radomeref01_plus.j2 k h a b out c_ i)) else (if out.length + 1 ≤ 17592186044288 then ((radomeref01_trim.f k (out ++ [c_])).bind fun y18 => some (y18)) else none)
noncomputable def radomeref01_plus.hs : Nat → radomeref01_plus.Hs
 | 0 => ⟨fun _ _ _ _ _ => none⟩
 | k + 1 => ⟨fun x0 x1 x2 x3 x4 => radomeref01_plus.b0 k (radomeref01_plus.hs k) x0 x1 x2 x3 x4⟩
noncomputable def radomeref01_plus.f (k : Nat) (a : List Int) (b : List Int) : Option (List Int) := (fun h : radomeref01_plus.Hs => h.l0 a b [] 0 0) (radomeref01_plus.hs k)
noncomputable def radomeref01_plus.Kl0 : List Item := .code (lopB (blkB (seqR (seqL (seqR (seqR (seqR radomeref01_plus.C))))))) :: .inLoop (lopB (blkB (seqR (seqL (seqR (seqR (seqR radomeref01_plus.C))))))) :: .inBlock 0 :: .code (seqR (seqR (seqR (seqR radomeref01_plus.C)))) :: []
noncomputable def radomeref01_plus.Kj2 : List Item := .code (seqR (blkB (seqL (seqR (lopB (blkB (seqR (seqL (seqR (seqR (seqR radomeref01_plus.C))))))))))) :: .inBlock 1 :: .code (seqR (seqR (lopB (blkB (seqR (seqL (seqR (seqR (seqR radomeref01_plus.C))))))))) :: .inLoop (lopB (blkB (seqR (seqL (seqR (seqR (seqR radomeref01_plus.C))))))) :: .inBlock 0 :: .code (seqR (seqR (seqR (seqR radomeref01_plus.C)))) :: []
noncomputable def radomeref01_plus.Kj3 : List Item := .code (seqR (seqR (blkB (seqL (seqR (lopB (blkB (seqR (seqL (seqR (seqR (seqR radomeref01_plus.C)))))))))))) :: .inBlock 1 :: .code (seqR (seqR (lopB (blkB (seqR (seqL (seqR (seqR (seqR radomeref01_plus.C))))))))) :: .inLoop (lopB (blkB (seqR (seqL (seqR (seqR (seqR radomeref01_plus.C))))))) :: .inBlock 0 :: .code (seqR (seqR (seqR (seqR radomeref01_plus.C)))) :: []
structure radomeref01_plus.OK (h : radomeref01_plus.Hs) : Prop where
 l0 : ∀ {H0 H : Hp} {L : Items} {r : (List Int)} {jk_ : Nat → Value} {a : List Int} {b : List Int} {out : List Int} {c_ : Int} {i : Int} {v_a : Value} {v_b : Value} {v_out : Value} {i_out : Item'} (_ : H0.le H) (_he : h.l0 a b out c_ i = some r) (_h_a : Src kI64 H L v_a a) (_h_b : Src kI64 H L v_b b) (_h_out : Sl kI64 H 3 i_out v_out out), Wp Try.prog 34 52 radomeref01_plus.Kl0 (upd (upd (upd (upd (upd (upd jk_ 0 (v_a)) 1 (v_b)) 4 (.slice none 0 0)) 5 (v_out)) 6 (.int .i64 c_)) 7 (.int .i64 i)) H (i_out :: L) (radomeref01_plus.R H0 L r)
theorem radomeref01_plus.j3_ok {k : Nat} {h : radomeref01_plus.Hs} (hh : radomeref01_plus.OK h) {H0 H : Hp} {L : Items} {r : (List Int)} {jk_ : Nat → Value} {a : List Int} {b : List Int} {out : List Int} {c_ : Int} {i : Int} {v_a : Value} {v_b : Value} {v_out : Value} {i_out : Item'} (hle : H0.le H) (he : radomeref01_plus.j3 k h a b out c_ i = some r) (h_a : Src kI64 H L v_a a) (h_b : Src kI64 H L v_b b) (h_out : Sl kI64 H 3 i_out v_out out) : Wp Try.prog 34 52 radomeref01_plus.Kj3 (upd (upd (upd (upd (upd (upd jk_ 0 (v_a)) 1 (v_b)) 4 (.slice none 0 0)) 5 (v_out)) 6 (.int .i64 c_)) 7 (.int .i64 i)) H (i_out :: L) (radomeref01_plus.R H0 L r) := by
 unfold radomeref01_plus.j3 at he
 unfold radomeref01_plus.Kj3
 refine wR rfl <| wM v_out rfl rfl <| wM (.int .i64 c_) rfl rfl <| w_d rfl (d_rem rfl rfl (by decide)) <| w_a rfl (o_buildSlice' (kd := kI64) (css := [[.int .i64 (Int.tmod c_ 10)]]) (xs := [Int.tmod c_ 10]) (parts := [(0, .int .i64 (Int.tmod c_ 10))]) Try.underlying31 ti3 rfl ⟨_, _, rfl, rfl, rfl⟩ ⟨rfl, trivial⟩ rfl (by decide)) ?_
 rintro v26 _ _ ⟨i27, rfl, rfl, h28⟩
 obtain ⟨c29, he⟩ := rq he
 refine w_a rfl (o_append' (kd := kI64) (F := fun z_ => i27 :: z_ :: L) Try.underlying31 Try.underlying31 ti3 rfl (by first | omega | (simp only [List.nil_append, List.length_cons, List.length_nil]; omega)) rfl rfl h_out (h28.src .here) (fun _ => (.there .here))) ?_
 rintro v30 _ _ ⟨i31, rfl, rfl, h32⟩
 refine wA v30 rfl rfl <| w_done <| w_region rfl <| wM (.int .i64 c_) rfl rfl <| w_d rfl (d_quo (c := w64 (Int.tdiv c_ 10)) rfl rfl (by decide) rfl) <| wA (.int .i64 (w64 (Int.tdiv c_ 10))) rfl rfl <| w_done <| w_inBlock <| w_region rfl <| wM (.int .i64 i) rfl rfl <| w_d rfl (d_add (c := w64 (i + 1)) rfl rfl rfl) <| wA (.int .i64 (w64 (i + 1))) rfl rfl ?_
 refine w_done <| w_inLoop <| w_del .here <| w_sl 0 (v_a) rfl <| w_sl 1 (v_b) rfl <| w_sl 4 (.slice none 0 0) rfl <| w_sl 5 (v30) rfl <| w_sl 6 (.int .i64 (w64 (Int.tdiv c_ 10))) rfl <| w_sl 7 (.int .i64 (w64 (i + 1))) rfl <| hh.l0 hle he h_a h_b h32
theorem radomeref01_plus.j2_ok {k : Nat} {h : radomeref01_plus.Hs} (hh : radomeref01_plus.OK h) {H0 H : Hp} {L : Items} {r : (List Int)} {jk_ : Nat → Value} {a : List Int} {b : List Int} {out : List Int} {c_ : Int} {i : Int} {v_a : Value} {v_b : Value} {v_out : Value} {i_out : Item'} (hle : H0.le H) (he : radomeref01_plus.j2 k h a b out c_ i = some r) (h_a : Src kI64 H L v_a a) (h_b : Src kI64 H L v_b b) (h_out : Sl kI64 H 3 i_out v_out out) : Wp Try.prog 34 52 radomeref01_plus.Kj2 (upd (upd (upd (upd (upd (upd jk_ 0 (v_a)) 1 (v_b)) 4 (.slice none 0 0)) 5 (v_out)) 6 (.int .i64 c_)) 7 (.int .i64 i)) H (i_out :: L) (radomeref01_plus.R H0 L r) := by
 unfold radomeref01_plus.j2 at he
 unfold radomeref01_plus.Kj2
 refine w_seq <| wR rfl <| wM (.int .i64 i) rfl rfl <| wM v_b rfl rfl <| w_d rfl (d_len Try.underlying31 rfl h_b.th) <| w_d rfl (d_lss rfl rfl) <| w_done ?_
 rcases its he with ⟨c24, he⟩ | ⟨c24, he⟩
 ·
  refine w_then rfl (dt c24) <| w_region rfl <| wM (.int .i64 c_) rfl rfl <| wM v_b rfl rfl <| wM (.int .i64 i) rfl rfl ?_
  obtain ⟨c25, he⟩ := rq he
  refine w_d rfl (d_index (sz := 1) Try.underlying31 sz3 rfl h_b.th rfl c25) <| w_d rfl (d_ldint ty3 rfl h_b.th c25) <| w_d rfl (d_add (c := w64 (c_ + (rd b i))) rfl rfl rfl) <| wA (.int .i64 (w64 (c_ + (rd b i)))) rfl rfl <| w_done <| w_sl 0 (v_a) rfl <| w_sl 1 (v_b) rfl <| w_sl 4 (.slice none 0 0) rfl <| w_sl 5 (v_out) rfl <| w_sl 6 (.int .i64 (w64 (c_ + (rd b i)))) rfl <| w_sl 7 (.int .i64 i) rfl <| radomeref01_plus.j3_ok (k := k) hh hle he h_a h_b h_out
 ·
  refine w_else rfl (df c24) <| w_skip <| w_sl 0 (v_a) rfl <| w_sl 1 (v_b) rfl <| w_sl 4 (.slice none 0 0) rfl <| w_sl 5 (v_out) rfl <| w_sl 6 (.int .i64 c_) rfl <| w_sl 7 (.int .i64 i) rfl <| radomeref01_plus.j3_ok (k := k) hh hle he h_a h_b h_out
theorem radomeref01_plus.b0_ok {k : Nat} {h : radomeref01_plus.Hs} (hh : radomeref01_plus.OK h) {H0 H : Hp} {L : Items} {r : (List Int)} {jk_ : Nat → Value} {a : List Int} {b : List Int} {out : List Int} {c_ : Int} {i : Int} {v_a : Value} {v_b : Value} {v_out : Value} {i_out : Item'} (hle : H0.le H) (he : radomeref01_plus.b0 k h a b out c_ i = some r) (h_a : Src kI64 H L v_a a) (h_b : Src kI64 H L v_b b) (h_out : Sl kI64 H 3 i_out v_out out) : Wp Try.prog 34 52 radomeref01_plus.Kl0 (upd (upd (upd (upd (upd (upd jk_ 0 (v_a)) 1 (v_b)) 4 (.slice none 0 0)) 5 (v_out)) 6 (.int .i64 c_)) 7 (.int .i64 i)) H (i_out :: L) (radomeref01_plus.R H0 L r) := by
 unfold radomeref01_plus.b0 at he
 unfold radomeref01_plus.Kl0
 refine w_seq <| wR rfl <| wM (.int .i64 i) rfl rfl <| wM v_a rfl rfl <| w_d rfl (d_len Try.underlying31 rfl h_a.th) <| w_d rfl (d_lss rfl rfl) <| wM (.bool (decide (i < (a.length : Int)))) rfl rfl <| w_g (g := !(decide (i < (a.length : Int)))) rfl rfl rfl wn_f (fun g1 => d_move (v := .int .i64 i) rfl) <| w_g (g := !(decide (i < (a.length : Int)))) rfl rfl rfl wn_f (fun g2 => d_move (v := v_b) rfl) <| w_g (g := !(decide (i < (a.length : Int)))) rfl rfl rfl wn_f (fun g3 => d_len Try.underlying31 (cvt g3) h_b.th) <| w_g (g := !(decide (i < (a.length : Int)))) rfl rfl rfl wn_f (fun g4 => d_lss (cvt g4) (cvt g4)) ?_
 refine w_d rfl (d_or' (b := (decide (i < (a.length : Int)))) (p := (decide (i < (b.length : Int)))) rfl rfl rfl) <| w_done ?_
 rcases its he with ⟨c5, he⟩ | ⟨c5, he⟩
 ·
  refine w_then rfl c5 <| w_skip <| w_seq <| w_block <| w_seq <| wR rfl <| wM (.int .i64 i) rfl rfl <| wM v_a rfl rfl <| w_d rfl (d_len Try.underlying31 rfl h_a.th) <| w_d rfl (d_lss rfl rfl) <| w_done ?_
  rcases its he with ⟨c6, he⟩ | ⟨c6, he⟩
  ·
   refine w_then rfl (dt c6) <| w_region rfl <| wM (.int .i64 c_) rfl rfl <| wM v_a rfl rfl <| wM (.int .i64 i) rfl rfl ?_
   obtain ⟨c7, he⟩ := rq he
   refine w_d rfl (d_index (sz := 1) Try.underlying31 sz3 rfl h_a.th rfl c7) <| w_d rfl (d_ldint ty3 rfl h_a.th c7) <| w_d rfl (d_add (c := w64 (c_ + (rd a i))) rfl rfl rfl) <| wA (.int .i64 (w64 (c_ + (rd a i)))) rfl rfl <| w_done <| w_sl 0 (v_a) rfl <| w_sl 1 (v_b) rfl <| w_sl 4 (.slice none 0 0) rfl <| w_sl 5 (v_out) rfl <| w_sl 6 (.int .i64 (w64 (c_ + (rd a i)))) rfl <| w_sl 7 (.int .i64 i) rfl <| radomeref01_plus.j2_ok (k := k) hh hle he h_a h_b h_out
  ·
   refine w_else rfl (df c6) <| w_skip <| w_sl 0 (v_a) rfl <| w_sl 1 (v_b) rfl <| w_sl 4 (.slice none 0 0) rfl <| w_sl 5 (v_out) rfl <| w_sl 6 (.int .i64 c_) rfl <| w_sl 7 (.int .i64 i) rfl <| radomeref01_plus.j2_ok (k := k) hh hle he h_a h_b h_out
 ·
  refine w_else rfl (Bool.eq_false_iff.2 c5) <| w_exit rfl <| wR rfl <| wM v_out rfl rfl <| wM (.int .i64 c_) rfl rfl <| w_a rfl (o_buildSlice' (kd := kI64) (css := [[.int .i64 c_]]) (xs := [c_]) (parts := [(0, .int .i64 c_)]) Try.underlying31 ti3 rfl ⟨_, _, rfl, rfl, rfl⟩ ⟨rfl, trivial⟩ rfl (by decide)) ?_
  rintro v8 _ _ ⟨i9, rfl, rfl, h10⟩
  obtain ⟨c11, he⟩ := rq he
  refine w_a rfl (o_append' (kd := kI64) (F := fun z_ => i9 :: z_ :: L) Try.underlying31 Try.underlying31 ti3 rfl (by first | omega | (simp only [List.nil_append, List.length_cons, List.length_nil]; omega)) rfl rfl h_out (h10.src .here) (fun _ => (.there .here))) ?_
  rintro v12 _ _ ⟨i13, rfl, rfl, h14⟩
  refine w_freeze h14 (.there .here) ?_
  intro H15 e16 h17
  obtain ⟨y18, hy19, he⟩ := bs he
  refine w_a rfl (o_call co47 (vs := [v12]) rfl (radomeref01_trim.calls k hy19 h17)) ?_
  rintro v22 H20 _ ⟨rfl, e21, h23⟩
  refine wA v22 rfl rfl <| w_done ?_
  obtain rfl := sj he
  refine w_return fn_34 rs_34 (.tmp (v := v22) rfl .nil) <| ⟨⟨[_, _], rfl⟩, hle.trans (e16.trans e21), h23⟩
theorem radomeref01_plus.ok : ∀ k, radomeref01_plus.OK (radomeref01_plus.hs k)
 | 0 => ⟨(by intros; exact nomatch (show none = some _ from by assumption))⟩
 | k + 1 => ⟨radomeref01_plus.b0_ok (k := k) (radomeref01_plus.ok k)⟩
theorem radomeref01_plus.calls (k : Nat) {H : Hp} {L : Items} {a : List Int} {b : List Int} {v0_a : Value} {v1_b : Value} {r : (List Int)} (he : radomeref01_plus.f k a b = some r) (h0_a : Src kI64 H L v0_a a) (h1_b : Src kI64 H L v1_b b) : Ct Try.prog 34 ⟨[v0_a, v1_b]⟩ H L (cR H L (radomeref01_plus.out r)) := by
 refine ct_out (O := radomeref01_plus.out r) ?_
 have hle : H.le H := .refl _
 have hh := radomeref01_plus.ok k
 unfold radomeref01_plus.f at he
 refine ct_enter (args := [v0_a, v1_b]) fn_34 rfl nt_34 rfl <| wR rfl <| wA (.slice none 0 0) rfl rfl <| wQ rfl <| wA (.slice none 0 0) rfl rfl <| wQ rfl <| wA (.int .i64 0) rfl rfl ?_
 refine wE <| wR rfl <| wA (.int .i64 0) rfl rfl <| w_done <| w_block <| w_loop <| w_none <| w_sl 0 (v0_a) rfl <| w_sl 1 (v1_b) rfl <| w_sl 4 (.slice none 0 0) rfl ?_
 refine w_sl 5 (.slice none 0 0) rfl <| w_sl 6 (.int .i64 0) rfl <| w_sl 7 (.int .i64 0) rfl <| hh.l0 hle he h0_a h1_b (sl_nil _ _ _)
noncomputable def radomeref01_num.C : Code := (Try.f33.body).getD .skip
def radomeref01_num.out (r : radomeref01_Num) (H : Hp) (v : Value) : Prop := ∃ v0, v = .agg ⟨[.bool r.f_Neg, v0]⟩ ∧ Ro kI64 H v0 r.f_D
noncomputable def radomeref01_num.f (k : Nat) (neg : Bool) (d : List Int) : Option radomeref01_Num := some ((⟨neg && (decide (0 < (d.length : Int))), d⟩ : radomeref01_Num))
theorem radomeref01_num.calls (k : Nat) {H : Hp} {L : Items} {neg : Bool} {d : List Int} {v0_d : Value} {r : radomeref01_Num} (he : radomeref01_num.f k neg d = some r) (h0_d : Ro kI64 H v0_d d) : Ct Try.prog 33 ⟨[.bool neg, v0_d]⟩ H L (cR H L (radomeref01_num.out r)) := by
 refine ct_out (O := radomeref01_num.out r) ?_
 have hle : H.le H := .refl _
 unfold radomeref01_num.f at he
 refine ct_enter (args := [.bool neg, v0_d]) fn_33 rfl nt_33 rfl <| wR rfl <| w_a rfl (o_alloc zr65 rfl) ?_
 rintro _ _ _ ⟨b1, rfl, rfl, rfl⟩
 refine wQ rfl <| wM (.bool neg) rfl rfl <| wM (.bool neg) rfl rfl <| w_g (g := neg) rfl rfl rfl wn_t (fun g2 => d_move (v := v0_d) rfl) <| w_g (g := neg) rfl rfl rfl wn_t (fun g3 => d_len Try.underlying31 (cvt g3) h0_d.src) <| w_g (g := neg) rfl rfl rfl wn_t (fun g4 => d_gtr (cvt g4) rfl) <| w_d rfl (d_and' (b := neg) (p := (decide (0 < (d.length : Int)))) rfl rfl rfl) <| wM v0_d rfl rfl <| w_d rfl (d_build (cs' := [.bool (neg && (decide (0 < (d.length : Int)))), v0_d]) Try.underlying65 zr65 rfl (by kernel_rfl) (parts := [(0, .bool (neg && (decide (0 < (d.length : Int))))), (1, v0_d)]) rfl (.cons (place_of rfl sz4 rfl) rfl rfl u1 (.cons (place_of rfl sz31 rfl) h0_d.cells rfl (.there u1) .nil))) <| w_a0 rfl (o_store (v := .agg ⟨[.bool (neg && (decide (0 < (d.length : Int)))), v0_d]⟩) sz65 rfl rfl rfl rfl (oc rfl (oc (h0_d.one) oz)) .here u2) ?_
 rintro _ _ _ ⟨rfl, rfl, rfl⟩
 refine w_done ?_
 obtain rfl := sj he
 refine w_return fn_33 rs_33 (.box (v := .agg ⟨[.bool (neg && (decide (0 < (d.length : Int)))), v0_d]⟩) rfl ty65 rfl rfl .here rfl .nil) <| ⟨⟨[_], rfl⟩, hle, ⟨v0_d, rfl, h0_d⟩⟩
noncomputable def radomeref01_Less.C : Code := (Try.f35.body).getD .skip
def radomeref01_Less.out (r : Bool) (H : Hp) (v : Value) : Prop := v = .bool r
abbrev radomeref01_Less.R (H0 : Hp) (L : Items) (r : Bool) := fR H0 L (radomeref01_Less.out r)
structure radomeref01_Less.Hs where
 l0 : (List Int) → (List Int) → Bool → Int → Option Bool
noncomputable def radomeref01_Less.b0 (k : Nat) (h : radomeref01_Less.Hs)  (a : List Int) (b : List Int) (t4 : Bool) (i : Int) : Option Bool := if 0 ≤ i then (if (0 : Int) ≤ i ∧ i < (a.length : Int) then (if (0 : Int) ≤ i ∧ i < (b.length : Int) then (if (rd a i) = (rd b i) then (h.l0 a b t4 (w64 (i - 1))) else (if (0 : Int) ≤ i ∧ i < (a.length : Int) then (if (0 : Int) ≤ i ∧ i < (b.length : Int) then (some (decide ((rd a i) < (rd b i)))) else none) else none)) else none) else none) else (some (false))
noncomputable def radomeref01_Less.hs : Nat → radomeref01_Less.Hs
 | 0 => ⟨fun _ _ _ _ => none⟩
 | k + 1 => ⟨fun x0 x1 x2 x3 => radomeref01_Less.b0 k (radomeref01_Less.hs k) x0 x1 x2 x3⟩
noncomputable def radomeref01_Less.f (k : Nat) (a : List Int) (b : List Int) : Option Bool := (fun h : radomeref01_Less.Hs => if (a.length : Int) = (b.length : Int) then (h.l0 a b false (w64 ((a.length : Int) - 1))) else (some (decide ((a.length : Int) < (b.length : Int))))) (radomeref01_Less.hs k)
noncomputable def radomeref01_Less.Kl0 : List Item := .code (lopB (blkB (seqR (seqL (seqR (seqR radomeref01_Less.C)))))) :: .inLoop (lopB (blkB (seqR (seqL (seqR (seqR radomeref01_Less.C)))))) :: .inBlock 0 :: .code (seqR (seqR (seqR radomeref01_Less.C))) :: []
structure radomeref01_Less.OK (h : radomeref01_Less.Hs) : Prop where
 l0 : ∀ {H0 H : Hp} {L : Items} {r : Bool} {jk_ : Nat → Value} {a : List Int} {b : List Int} {t4 : Bool} {i : Int} {v_a : Value} {v_b : Value} (_ : H0.le H) (_he : h.l0 a b t4 i = some r) (_h_a : Src kI64 H L v_a a) (_h_b : Src kI64 H L v_b b), Wp Try.prog 35 41 radomeref01_Less.Kl0 (upd (upd (upd (upd jk_ 0 (v_a)) 1 (v_b)) 4 (.bool t4)) 5 (.int .i64 i)) H (L) (radomeref01_Less.R H0 L r)
theorem radomeref01_Less.b0_ok {k : Nat} {h : radomeref01_Less.Hs} (hh : radomeref01_Less.OK h) {H0 H : Hp} {L : Items} {r : Bool} {jk_ : Nat → Value} {a : List Int} {b : List Int} {t4 : Bool} {i : Int} {v_a : Value} {v_b : Value} (hle : H0.le H) (he : radomeref01_Less.b0 k h a b t4 i = some r) (h_a : Src kI64 H L v_a a) (h_b : Src kI64 H L v_b b) : Wp Try.prog 35 41 radomeref01_Less.Kl0 (upd (upd (upd (upd jk_ 0 (v_a)) 1 (v_b)) 4 (.bool t4)) 5 (.int .i64 i)) H (L) (radomeref01_Less.R H0 L r) := by
 unfold radomeref01_Less.b0 at he
 unfold radomeref01_Less.Kl0
 refine w_seq <| wR rfl <| wM (.int .i64 i) rfl rfl <| w_d rfl (d_geq rfl rfl) <| w_done ?_
 rcases its he with ⟨c2, he⟩ | ⟨c2, he⟩
 ·
  refine w_then rfl (dt c2) <| w_skip <| w_seq <| w_block <| w_seq ?_
  obtain ⟨c3, he⟩ := rq he
  obtain ⟨c4, he⟩ := rq he
  refine w_drawn (p := 8) (tl := [8]) [[], [], [(0, some 23), (1, some 24)], [(2, some 25)], [], [], [(4, some 27), (5, some 28)], [(6, some 29)]] [some 23, some 24, some 25, some 26, some 27, some 28, some 29, some 30] (fctF (.is (v_a) :: .is (.int .i64 i) :: .is (.pointer (some (pel v_a i 1))) :: .is (.int .i64 (rd a i)) :: .is (v_b) :: .is (.int .i64 i) :: .is (.pointer (some (pel v_b i 1))) :: .is (.int .i64 (rd b i)) :: [])) (fun m_ => L) (fun _ => none) mixed (by kernel_rfl) (by kernel_rfl) rfl (fct_mono (by kernel_rfl)) ⟨(fun H' m_ hH hm_ hu_ => dn <| s_d (m_ 0) rfl (d_move (v := v_a) rfl) (by exact rfl) rfl), (fun H' m_ hH hm_ hu_ => dn <| s_d (m_ 1) rfl (d_move (v := .int .i64 i) rfl) (by exact rfl) rfl), (by rintro H' m_ hH hm_ hu_ _ rfl _ rfl; exact dn <| s_d (m_ 2) rfl (d_index (sz := 1) Try.underlying31 sz3 rfl (h_a.mono hH) rfl c3) (by exact rfl) rfl), (by rintro H' m_ hH hm_ hu_ _ rfl; exact dn <| s_d (m_ 3) rfl (d_ldint ty3 rfl (h_a.mono hH) c3) (by exact rfl) rfl), (fun H' m_ hH hm_ hu_ => dn <| s_d (m_ 4) rfl (d_move (v := v_b) rfl) (by exact rfl) rfl), (fun H' m_ hH hm_ hu_ => dn <| s_d (m_ 5) rfl (d_move (v := .int .i64 i) rfl) (by exact rfl) rfl), (by rintro H' m_ hH hm_ hu_ _ rfl _ rfl; exact dn <| s_d (m_ 6) rfl (d_index (sz := 1) Try.underlying31 sz3 rfl (h_b.mono hH) rfl c4) (by exact rfl) rfl), (by rintro H' m_ hH hm_ hu_ _ rfl; exact dn <| s_d (m_ 7) rfl (d_ldint ty3 rfl (h_b.mono hH) c4) (by exact rfl) rfl), trivial⟩ ?_
  intro H5 e6
  rintro _ _ rfl _ _ rfl _ _ rfl _ _ rfl _ _ rfl _ _ rfl _ _ rfl _ _ rfl
  refine w_d rfl (d_neq rfl rfl) <| w_done ?_
  rcases its he with ⟨c7, he⟩ | ⟨c7, he⟩
  ·
   refine w_else rfl (nd_t c7) <| w_skip <| w_inBlock <| w_region rfl <| wM (.int .i64 i) rfl rfl <| w_d rfl (d_sub (c := w64 (i - 1)) rfl rfl rfl) <| wA (.int .i64 (w64 (i - 1))) rfl rfl <| w_done <| w_inLoop <| w_sl 0 (v_a) rfl <| w_sl 1 (v_b) rfl <| w_sl 4 (.bool t4) rfl ?_
   refine w_sl 5 (.int .i64 (w64 (i - 1))) rfl <| hh.l0 (hle.trans e6) he (h_a.mono e6) (h_b.mono e6)
  ·
   refine w_then rfl (nd_f c7) <| w_seq ?_
   obtain ⟨c8, he⟩ := rq he
   obtain ⟨c9, he⟩ := rq he
   refine w_drawn (p := 8) (tl := [8, 9]) [[], [], [(0, some 32), (1, some 33)], [(2, some 34)], [], [], [(4, some 36), (5, some 37)], [(6, some 38)]] [some 32, some 33, some 34, some 35, some 36, some 37, some 38, some 39] (fctF (.is (v_a) :: .is (.int .i64 i) :: .is (.pointer (some (pel v_a i 1))) :: .is (.int .i64 (rd a i)) :: .is (v_b) :: .is (.int .i64 i) :: .is (.pointer (some (pel v_b i 1))) :: .is (.int .i64 (rd b i)) :: [])) (fun m_ => L) (fun _ => none) mixed (by kernel_rfl) (by kernel_rfl) rfl (fct_mono (by kernel_rfl)) ⟨(fun H' m_ hH hm_ hu_ => dn <| s_d (m_ 0) rfl (d_move (v := v_a) rfl) (by exact rfl) rfl), (fun H' m_ hH hm_ hu_ => dn <| s_d (m_ 1) rfl (d_move (v := .int .i64 i) rfl) (by exact rfl) rfl), (by rintro H' m_ hH hm_ hu_ _ rfl _ rfl; exact dn <| s_d (m_ 2) rfl (d_index (sz := 1) Try.underlying31 sz3 rfl (h_a.mono (e6.trans hH)) rfl c8) (by exact rfl) rfl), (by rintro H' m_ hH hm_ hu_ _ rfl; exact dn <| s_d (m_ 3) rfl (d_ldint ty3 rfl (h_a.mono (e6.trans hH)) c8) (by exact rfl) rfl), (fun H' m_ hH hm_ hu_ => dn <| s_d (m_ 4) rfl (d_move (v := v_b) rfl) (by exact rfl) rfl), (fun H' m_ hH hm_ hu_ => dn <| s_d (m_ 5) rfl (d_move (v := .int .i64 i) rfl) (by exact rfl) rfl), (by rintro H' m_ hH hm_ hu_ _ rfl _ rfl; exact dn <| s_d (m_ 6) rfl (d_index (sz := 1) Try.underlying31 sz3 rfl (h_b.mono (e6.trans hH)) rfl c9) (by exact rfl) rfl), (by rintro H' m_ hH hm_ hu_ _ rfl; exact dn <| s_d (m_ 7) rfl (d_ldint ty3 rfl (h_b.mono (e6.trans hH)) c9) (by exact rfl) rfl), trivial⟩ ?_
   intro H10 e11
   rintro _ _ rfl _ _ rfl _ _ rfl _ _ rfl _ _ rfl _ _ rfl _ _ rfl _ _ rfl
   refine w_d rfl (d_lss rfl rfl) <| wA (.bool (decide ((rd a i) < (rd b i)))) rfl rfl <| w_done ?_
   obtain rfl := sj he
   refine w_return fn_35 rs_35 (.tmp (v := .bool (decide ((rd a i) < (rd b i)))) rfl .nil) <| ⟨⟨[], rfl⟩, hle.trans (e6.trans e11), rfl⟩
 ·
  refine w_else rfl (df c2) <| w_exit rfl <| wR rfl <| wA (.bool false) rfl rfl <| w_done ?_
  obtain rfl := sj he
  refine w_return fn_35 rs_35 (.tmp (v := .bool false) rfl .nil) <| ⟨⟨[], rfl⟩, hle, rfl⟩
theorem radomeref01_Less.ok : ∀ k, radomeref01_Less.OK (radomeref01_Less.hs k)
 | 0 => ⟨(by intros; exact nomatch (show none = some _ from by assumption))⟩
 | k + 1 => ⟨radomeref01_Less.b0_ok (k := k) (radomeref01_Less.ok k)⟩
theorem radomeref01_Less.calls (k : Nat) {H : Hp} {L : Items} {a : List Int} {b : List Int} {v0_a : Value} {v1_b : Value} {r : Bool} (he : radomeref01_Less.f k a b = some r) (h0_a : Src kI64 H L v0_a a) (h1_b : Src kI64 H L v1_b b) : Ct Try.prog 35 ⟨[v0_a, v1_b]⟩ H L (fun v H' L' => L = L' ∧ H = H' ∧ v = .bool r) := by
 refine ct_outs (O := radomeref01_Less.out r) (fun _ _ h => h) ?_
 have hle : H.le H := .refl _
 have hh := radomeref01_Less.ok k
 unfold radomeref01_Less.f at he
 refine ct_enter (args := [v0_a, v1_b]) fn_35 rfl nt_35 rfl <| wR rfl <| wA (.bool false) rfl rfl <| wE <| wR rfl <| wM v0_a rfl rfl <| w_d rfl (d_len Try.underlying31 rfl h0_a) <| wM v1_b rfl rfl <| w_d rfl (d_len Try.underlying31 rfl h1_b) ?_
 refine w_d rfl (d_neq rfl rfl) <| w_done ?_
 rcases its he with ⟨c1, he⟩ | ⟨c1, he⟩
 ·
  refine w_else rfl (nd_t c1) <| w_skip <| w_seq <| wR rfl <| wM v0_a rfl rfl <| w_d rfl (d_len Try.underlying31 rfl h0_a) <| w_d rfl (d_sub (c := w64 ((a.length : Int) - 1)) rfl rfl rfl) <| wA (.int .i64 (w64 ((a.length : Int) - 1))) rfl rfl <| w_done <| w_block <| w_loop ?_
  refine w_sl 0 (v0_a) rfl <| w_sl 1 (v1_b) rfl <| w_sl 4 (.bool false) rfl <| w_sl 5 (.int .i64 (w64 ((a.length : Int) - 1))) rfl <| hh.l0 hle he h0_a h1_b
 ·
  refine w_then rfl (nd_f c1) <| wR rfl <| wM v0_a rfl rfl <| w_d rfl (d_len Try.underlying31 rfl h0_a) <| wM v1_b rfl rfl <| w_d rfl (d_len Try.underlying31 rfl h1_b) <| w_d rfl (d_lss rfl rfl) <| wA (.bool (decide ((a.length : Int) < (b.length : Int)))) rfl rfl <| w_done ?_
  obtain rfl := sj he
  refine w_return fn_35 rs_35 (.tmp (v := .bool (decide ((a.length : Int) < (b.length : Int)))) rfl .nil) <| ⟨⟨[], rfl⟩, hle, rfl⟩
noncomputable def radomeref01_minus.C : Code := (Try.f36.body).getD .skip
abbrev radomeref01_minus.out (r : (List Int)) (H : Hp) (v : Value) : Prop := Ro kI64 H v r
abbrev radomeref01_minus.R (H0 : Hp) (L : Items) (r : (List Int)) := fR H0 L (radomeref01_minus.out r)
structure radomeref01_minus.Hs where
 l0 : (List Int) → (List Int) → (List Int) → Int → Int → Option (List Int)
noncomputable def radomeref01_minus.j3 (k : Nat) (h : radomeref01_minus.Hs)  (a : List Int) (b : List Int) (out : List Int) (c_ : Int) (i : Int) (v_ : Int) : Option (List Int) := if out.length + 1 ≤ 17592186044288 then (h.l0 a b (out ++ [v_]) c_ (w64 (i + 1))) else none
noncomputable def radomeref01_minus.j2 (k : Nat) (h : radomeref01_minus.Hs)  (a : List Int) (b : List Int) (out : List Int) (c_ : Int) (i : Int) (v_ : Int) : Option (List Int) := if v_ < 0 then (radomeref01_minus.j3 k h a b out 1 i (w64 (v_ + 10))) else (radomeref01_minus.j3 k h a b out 0 i v_)
noncomputable def radomeref01_minus.b0 (k : Nat) (h : radomeref01_minus.Hs)  (a : List Int) (b : List Int) (out : List Int) (c_ : Int) (i : Int) : Option (List Int) := if i < (a.length : Int) then (if (0 : Int) ≤ i ∧ i < (a.length : Int) then (if i < (b.length : Int) then (if (0 : Int) ≤ i ∧ i < (b.length : Int) then (radomeref01_minus.j2 k h a b out c_ i (w64 ((w64 ((rd a i) - c_)) - (rd b i)))) else none) else (radomeref01_minus.j2 k h a b out c_ i (w64 ((rd a i) - c_)))) else none) else ((radomeref01_trim.f k out).bind fun y8 => some (y8))
noncomputable def radomeref01_minus.hs : Nat → radomeref01_minus.Hs
 | 0 => ⟨fun _ _ _ _ _ => none⟩
 | k + 1 => ⟨fun x0 x1 x2 x3 x4 => radomeref01_minus.b0 k (radomeref01_minus.hs k) x0 x1 x2 x3 x4⟩
noncomputable def radomeref01_minus.f (k : Nat) (a : List Int) (b : List Int) : Option (List Int) := (fun h : radomeref01_minus.Hs => h.l0 a b [] 0 0) (radomeref01_minus.hs k)
noncomputable def radomeref01_minus.Kl0 : List Item := .code (lopB (blkB (seqR (seqL (seqR (seqR (seqR radomeref01_minus.C))))))) :: .inLoop (lopB (blkB (seqR (seqL (seqR (seqR (seqR radomeref01_minus.C))))))) :: .inBlock 0 :: .code (seqR (seqR (seqR (seqR radomeref01_minus.C)))) :: []
noncomputable def radomeref01_minus.Kj2 : List Item := .code (seqR (seqR (blkB (seqL (seqR (lopB (blkB (seqR (seqL (seqR (seqR (seqR radomeref01_minus.C)))))))))))) :: .inBlock 1 :: .code (seqR (seqR (lopB (blkB (seqR (seqL (seqR (seqR (seqR radomeref01_minus.C))))))))) :: .inLoop (lopB (blkB (seqR (seqL (seqR (seqR (seqR radomeref01_minus.C))))))) :: .inBlock 0 :: .code (seqR (seqR (seqR (seqR radomeref01_minus.C)))) :: []
noncomputable def radomeref01_minus.Kj3 : List Item := .code (seqR (seqR (seqR (seqR (blkB (seqL (seqR (lopB (blkB (seqR (seqL (seqR (seqR (seqR radomeref01_minus.C)))))))))))))) :: .inBlock 1 :: .code (seqR (seqR (lopB (blkB (seqR (seqL (seqR (seqR (seqR radomeref01_minus.C))))))))) :: .inLoop (lopB (blkB (seqR (seqL (seqR (seqR (seqR radomeref01_minus.C))))))) :: .inBlock 0 :: .code (seqR (seqR (seqR (seqR radomeref01_minus.C)))) :: []
structure radomeref01_minus.OK (h : radomeref01_minus.Hs) : Prop where
 l0 : ∀ {H0 H : Hp} {L : Items} {r : (List Int)} {jk_ : Nat → Value} {a : List Int} {b : List Int} {out : List Int} {c_ : Int} {i : Int} {v_a : Value} {v_b : Value} {v_out : Value} {i_out : Item'} (_ : H0.le H) (_he : h.l0 a b out c_ i = some r) (_h_a : Src kI64 H L v_a a) (_h_b : Src kI64 H L v_b b) (_h_out : Sl kI64 H 3 i_out v_out out), Wp Try.prog 36 41 radomeref01_minus.Kl0 (upd (upd (upd (upd (upd (upd jk_ 0 (v_a)) 1 (v_b)) 4 (.slice none 0 0)) 5 (v_out)) 6 (.int .i64 c_)) 7 (.int .i64 i)) H (i_out :: L) (radomeref01_minus.R H0 L r)
theorem radomeref01_minus.j3_ok {k : Nat} {h : radomeref01_minus.Hs} (hh : radomeref01_minus.OK h) {H0 H : Hp} {L : Items} {r : (List Int)} {jk_ : Nat → Value} {a : List Int} {b : List Int} {out : List Int} {c_ : Int} {i : Int} {v_ : Int} {v_a : Value} {v_b : Value} {v_out : Value} {i_out : Item'} (hle : H0.le H) (he : radomeref01_minus.j3 k h a b out c_ i v_ = some r) (h_a : Src kI64 H L v_a a) (h_b : Src kI64 H L v_b b) (h_out : Sl kI64 H 3 i_out v_out out) : Wp Try.prog 36 41 radomeref01_minus.Kj3 (upd (upd (upd (upd (upd (upd (upd jk_ 0 (v_a)) 1 (v_b)) 4 (.slice none 0 0)) 5 (v_out)) 6 (.int .i64 c_)) 7 (.int .i64 i)) 8 (.int .i64 v_)) H (i_out :: L) (radomeref01_minus.R H0 L r) := by
 unfold radomeref01_minus.j3 at he
 unfold radomeref01_minus.Kj3
 refine w_region rfl <| wM v_out rfl rfl <| wM (.int .i64 v_) rfl rfl <| w_a rfl (o_buildSlice' (kd := kI64) (css := [[.int .i64 v_]]) (xs := [v_]) (parts := [(0, .int .i64 v_)]) Try.underlying31 ti3 rfl ⟨_, _, rfl, rfl, rfl⟩ ⟨rfl, trivial⟩ rfl (by decide)) ?_
 rintro v15 _ _ ⟨i16, rfl, rfl, h17⟩
 obtain ⟨c18, he⟩ := rq he
 refine w_a rfl (o_append' (kd := kI64) (F := fun z_ => i16 :: z_ :: L) Try.underlying31 Try.underlying31 ti3 rfl (by first | omega | (simp only [List.nil_append, List.length_cons, List.length_nil]; omega)) rfl rfl h_out (h17.src .here) (fun _ => (.there .here))) ?_
 rintro v19 _ _ ⟨i20, rfl, rfl, h21⟩
 refine wA v19 rfl rfl <| w_done <| w_inBlock <| w_region rfl <| wM (.int .i64 i) rfl rfl <| w_d rfl (d_add (c := w64 (i + 1)) rfl rfl rfl) <| wA (.int .i64 (w64 (i + 1))) rfl rfl <| w_done <| w_inLoop <| w_del .here <| w_sl 0 (v_a) rfl <| w_sl 1 (v_b) rfl ?_
 refine w_sl 4 (.slice none 0 0) rfl <| w_sl 5 (v19) rfl <| w_sl 6 (.int .i64 c_) rfl <| w_sl 7 (.int .i64 (w64 (i + 1))) rfl <| hh.l0 hle he h_a h_b h21
theorem radomeref01_minus.j2_ok {k : Nat} {h : radomeref01_minus.Hs} (hh : radomeref01_minus.OK h) {H0 H : Hp} {L : Items} {r : (List Int)} {jk_ : Nat → Value} {a : List Int} {b : List Int} {out : List Int} {c_ : Int} {i : Int} {v_ : Int} {v_a : Value} {v_b : Value} {v_out : Value} {i_out : Item'} (hle : H0.le H) (he : radomeref01_minus.j2 k h a b out c_ i v_ = some r) (h_a : Src kI64 H L v_a a) (h_b : Src kI64 H L v_b b) (h_out : Sl kI64 H 3 i_out v_out out) : Wp Try.prog 36 41 radomeref01_minus.Kj2 (upd (upd (upd (upd (upd (upd (upd jk_ 0 (v_a)) 1 (v_b)) 4 (.slice none 0 0)) 5 (v_out)) 6 (.int .i64 c_)) 7 (.int .i64 i)) 8 (.int .i64 v_)) H (i_out :: L) (radomeref01_minus.R H0 L r) := by
 unfold radomeref01_minus.j2 at he
 unfold radomeref01_minus.Kj2
 refine wR rfl <| wA (.int .i64 0) rfl rfl <| wE <| wR rfl <| wM (.int .i64 v_) rfl rfl <| w_d rfl (d_lss rfl rfl) <| w_done ?_
 rcases its he with ⟨c14, he⟩ | ⟨c14, he⟩
 ·
  refine w_then rfl (dt c14) <| wR rfl <| wM (.int .i64 v_) rfl rfl <| w_d rfl (d_add (c := w64 (v_ + 10)) rfl rfl rfl) <| wA (.int .i64 (w64 (v_ + 10))) rfl rfl <| w_done <| w_region rfl <| wA (.int .i64 1) rfl rfl <| w_done <| w_sl 0 (v_a) rfl <| w_sl 1 (v_b) rfl ?_
  refine w_sl 4 (.slice none 0 0) rfl <| w_sl 5 (v_out) rfl <| w_sl 6 (.int .i64 1) rfl <| w_sl 7 (.int .i64 i) rfl <| w_sl 8 (.int .i64 (w64 (v_ + 10))) rfl <| radomeref01_minus.j3_ok (k := k) hh hle he h_a h_b h_out
 ·
  refine w_else rfl (df c14) <| w_skip <| w_sl 0 (v_a) rfl <| w_sl 1 (v_b) rfl <| w_sl 4 (.slice none 0 0) rfl <| w_sl 5 (v_out) rfl <| w_sl 6 (.int .i64 0) rfl <| w_sl 7 (.int .i64 i) rfl <| w_sl 8 (.int .i64 v_) rfl <| radomeref01_minus.j3_ok (k := k) hh hle he h_a h_b h_out
theorem radomeref01_minus.b0_ok {k : Nat} {h : radomeref01_minus.Hs} (hh : radomeref01_minus.OK h) {H0 H : Hp} {L : Items} {r : (List Int)} {jk_ : Nat → Value} {a : List Int} {b : List Int} {out : List Int} {c_ : Int} {i : Int} {v_a : Value} {v_b : Value} {v_out : Value} {i_out : Item'} (hle : H0.le H) (he : radomeref01_minus.b0 k h a b out c_ i = some r) (h_a : Src kI64 H L v_a a) (h_b : Src kI64 H L v_b b) (h_out : Sl kI64 H 3 i_out v_out out) : Wp Try.prog 36 41 radomeref01_minus.Kl0 (upd (upd (upd (upd (upd (upd jk_ 0 (v_a)) 1 (v_b)) 4 (.slice none 0 0)) 5 (v_out)) 6 (.int .i64 c_)) 7 (.int .i64 i)) H (i_out :: L) (radomeref01_minus.R H0 L r) := by
 unfold radomeref01_minus.b0 at he
 unfold radomeref01_minus.Kl0
 refine w_seq <| wR rfl <| wM (.int .i64 i) rfl rfl <| wM v_a rfl rfl <| w_d rfl (d_len Try.underlying31 rfl h_a.th) <| w_d rfl (d_lss rfl rfl) <| w_done ?_
 rcases its he with ⟨c1, he⟩ | ⟨c1, he⟩
 ·
  refine w_then rfl (dt c1) <| w_skip <| w_seq <| w_block <| wR rfl <| wM v_a rfl rfl <| wM (.int .i64 i) rfl rfl ?_
  obtain ⟨c2, he⟩ := rq he
  refine w_d rfl (d_index (sz := 1) Try.underlying31 sz3 rfl h_a.th rfl c2) <| w_d rfl (d_ldint ty3 rfl h_a.th c2) <| wM (.int .i64 c_) rfl rfl <| w_d rfl (d_sub (c := w64 ((rd a i) - c_)) rfl rfl rfl) <| wA (.int .i64 (w64 ((rd a i) - c_))) rfl rfl <| wE <| wR rfl <| wM (.int .i64 i) rfl rfl <| wM v_b rfl rfl <| w_d rfl (d_len Try.underlying31 rfl h_b.th) ?_
  refine w_d rfl (d_lss rfl rfl) <| w_done ?_
  rcases its he with ⟨c3, he⟩ | ⟨c3, he⟩
  ·
   refine w_then rfl (dt c3) <| w_region rfl <| wM (.int .i64 (w64 ((rd a i) - c_))) rfl rfl <| wM v_b rfl rfl <| wM (.int .i64 i) rfl rfl ?_
   obtain ⟨c4, he⟩ := rq he
   refine w_d rfl (d_index (sz := 1) Try.underlying31 sz3 rfl h_b.th rfl c4) <| w_d rfl (d_ldint ty3 rfl h_b.th c4) <| w_d rfl (d_sub (c := w64 ((w64 ((rd a i) - c_)) - (rd b i))) rfl rfl rfl) <| wA (.int .i64 (w64 ((w64 ((rd a i) - c_)) - (rd b i)))) rfl rfl <| w_done <| w_sl 0 (v_a) rfl <| w_sl 1 (v_b) rfl <| w_sl 4 (.slice none 0 0) rfl <| w_sl 5 (v_out) rfl <| w_sl 6 (.int .i64 c_) rfl <| w_sl 7 (.int .i64 i) rfl <| w_sl 8 (.int .i64 (w64 ((w64 ((rd a i) - c_)) - (rd b i)))) rfl <| radomeref01_minus.j2_ok (k := k) hh hle he h_a h_b h_out
  ·
   refine w_else rfl (df c3) <| w_skip <| w_sl 0 (v_a) rfl <| w_sl 1 (v_b) rfl <| w_sl 4 (.slice none 0 0) rfl <| w_sl 5 (v_out) rfl <| w_sl 6 (.int .i64 c_) rfl <| w_sl 7 (.int .i64 i) rfl <| w_sl 8 (.int .i64 (w64 ((rd a i) - c_))) rfl <| radomeref01_minus.j2_ok (k := k) hh hle he h_a h_b h_out
 ·
  refine w_else rfl (df c1) <| w_exit rfl <| wR rfl <| wM v_out rfl rfl <| w_freeze h_out .here ?_
  intro H5 e6 h7
  obtain ⟨y8, hy9, he⟩ := bs he
  refine w_a rfl (o_call co47 (vs := [v_out]) rfl (radomeref01_trim.calls k hy9 h7)) ?_
  rintro v12 H10 _ ⟨rfl, e11, h13⟩
  refine wA v12 rfl rfl <| w_done ?_
  obtain rfl := sj he
  refine w_return fn_36 rs_36 (.tmp (v := v12) rfl .nil) <| ⟨⟨[_], rfl⟩, hle.trans (e6.trans e11), h13⟩
theorem radomeref01_minus.ok : ∀ k, radomeref01_minus.OK (radomeref01_minus.hs k)
 | 0 => ⟨(by intros; exact nomatch (show none = some _ from by assumption))⟩
 | k + 1 => ⟨radomeref01_minus.b0_ok (k := k) (radomeref01_minus.ok k)⟩
theorem radomeref01_minus.calls (k : Nat) {H : Hp} {L : Items} {a : List Int} {b : List Int} {v0_a : Value} {v1_b : Value} {r : (List Int)} (he : radomeref01_minus.f k a b = some r) (h0_a : Src kI64 H L v0_a a) (h1_b : Src kI64 H L v1_b b) : Ct Try.prog 36 ⟨[v0_a, v1_b]⟩ H L (cR H L (radomeref01_minus.out r)) := by
 refine ct_out (O := radomeref01_minus.out r) ?_
 have hle : H.le H := .refl _
 have hh := radomeref01_minus.ok k
 unfold radomeref01_minus.f at he
 refine ct_enter (args := [v0_a, v1_b]) fn_36 rfl nt_36 rfl <| wR rfl <| wA (.slice none 0 0) rfl rfl <| wQ rfl <| wA (.slice none 0 0) rfl rfl <| wQ rfl <| wA (.int .i64 0) rfl rfl ?_
 refine wE <| wR rfl <| wA (.int .i64 0) rfl rfl <| w_done <| w_block <| w_loop <| w_none <| w_sl 0 (v0_a) rfl <| w_sl 1 (v1_b) rfl <| w_sl 4 (.slice none 0 0) rfl ?_
 refine w_sl 5 (.slice none 0 0) rfl <| w_sl 6 (.int .i64 0) rfl <| w_sl 7 (.int .i64 0) rfl <| hh.l0 hle he h0_a h1_b (sl_nil _ _ _)
noncomputable def radomeref01_Add.C : Code := (Try.f24.body).getD .skip
def radomeref01_Add.out (r : radomeref01_Num) (H : Hp) (v : Value) : Prop := ∃ v0, v = .agg ⟨[.bool r.f_Neg, v0]⟩ ∧ Ro kI64 H v0 r.f_D
noncomputable def radomeref01_Add.f (k : Nat) (a : radomeref01_Num) (b : radomeref01_Num) : Option radomeref01_Num := if (a.f_Neg == b.f_Neg) = true then ((radomeref01_plus.f k a.f_D b.f_D).bind fun y5 => (radomeref01_num.f k a.f_Neg y5).bind fun y13 => some (y13)) else ((radomeref01_Less.f k a.f_D b.f_D).bind fun y19 => if y19 = true then ((radomeref01_minus.f k b.f_D a.f_D).bind fun y24 => (radomeref01_num.f k b.f_Neg y24).bind fun y32 => some (y32)) else ((radomeref01_minus.f k a.f_D b.f_D).bind fun y38 => (radomeref01_num.f k a.f_Neg y38).bind fun y46 => some (y46)))
theorem radomeref01_Add.calls (k : Nat) {H : Hp} {L : Items} {a : radomeref01_Num} {b : radomeref01_Num} {v0_a : Value} {v1_b : Value} {r : radomeref01_Num} (he : radomeref01_Add.f k a b = some r) (h0_a : Ro kI64 H v0_a a.f_D) (h1_b : Ro kI64 H v1_b b.f_D) : Ct Try.prog 24 ⟨[.agg ⟨[.bool a.f_Neg, v0_a]⟩, .agg ⟨[.bool b.f_Neg, v1_b]⟩]⟩ H L (cR H L (radomeref01_Add.out r)) := by
 refine ct_out (O := radomeref01_Add.out r) ?_
 have hle : H.le H := .refl _
 unfold radomeref01_Add.f at he
 refine ct_enter (args := [.agg ⟨[.bool a.f_Neg, v0_a]⟩, .agg ⟨[.bool b.f_Neg, v1_b]⟩]) fn_24 rfl nt_24 rfl <| wR rfl <| w_a rfl (o_box (v := .agg ⟨[.bool a.f_Neg, v0_a]⟩) rfl rfl) ?_
 rintro _ _ _ ⟨b1, rfl, rfl, rfl⟩
 refine w_a rfl (o_box (v := .agg ⟨[.bool b.f_Neg, v1_b]⟩) rfl rfl) ?_
 rintro _ _ _ ⟨b2, rfl, rfl, rfl⟩
 refine w_a rfl (o_alloc zr65 rfl) ?_
 rintro _ _ _ ⟨b3, rfl, rfl, rfl⟩
 refine wE <| wR rfl <| w_d rfl (d_fld (o' := 0) Try.underlying65 rfl sz4 rfl rfl rfl) <| wL (.bool a.f_Neg) ty4 rfl rfl (.there (.there .here)) rfl rfl <| w_d rfl (d_fld (o' := 0) Try.underlying65 rfl sz4 rfl rfl rfl) <| wL (.bool b.f_Neg) ty4 rfl rfl (.there .here) rfl rfl <| w_d rfl (d_eqb (a := a.f_Neg) (b := b.f_Neg) Try.underlying4 rfl rfl) <| w_done ?_
 rcases its he with ⟨c4, he⟩ | ⟨c4, he⟩
 ·
  refine w_then rfl c4 <| w_seq ?_
  obtain ⟨y5, hy6, he⟩ := bs he
  refine w_drawn (p := 7) (tl := [7, 8]) [[], [(0, some 10)], [], [(2, some 12)], [], [(4, some 14)], [(3, some 13), (5, some 15)]] [some 10, some 11, some 12, some 13, some 14, some 15, some 16] (fctF (.is (.pointer (some ⟨b1, 0, none⟩)) :: .is (.bool a.f_Neg) :: .is (.pointer (some ⟨b1, 1, none⟩)) :: .is (v0_a) :: .is (.pointer (some ⟨b2, 1, none⟩)) :: .is (v1_b) :: .ro kI64 (y5) :: [])) (fun m_ => some (b3, .cells ⟨[.bool false, .slice none 0 0]⟩ 65 (0, 0)) :: some (b2, .cells ⟨[.bool b.f_Neg, v1_b]⟩ 65 (0, 0)) :: some (b1, .cells ⟨[.bool a.f_Neg, v0_a]⟩ 65 (0, 0)) :: L) (fun _ => none) mixed (by kernel_rfl) (by kernel_rfl) rfl (fct_mono (by kernel_rfl)) ⟨(fun H' m_ hH hm_ hu_ => dn <| s_d (m_ 0) rfl (d_fld (o' := 0) Try.underlying65 rfl sz4 rfl rfl rfl) (by exact rfl) rfl), (by rintro H' m_ hH hm_ hu_ _ rfl; exact dn <| s_d (m_ 1) rfl (d_loado (v := .bool a.f_Neg) ty4 rfl (.there (.there .here)) rfl rfl rfl rfl) (by exact rfl) rfl), (fun H' m_ hH hm_ hu_ => dn <| s_d (m_ 2) rfl (d_fld (o' := 1) Try.underlying65 rfl sz31 rfl rfl rfl) (by exact rfl) rfl), (by rintro H' m_ hH hm_ hu_ _ rfl; exact dn <| s_d (m_ 3) rfl (d_loado (v := v0_a) ty31 rfl (.there (.there .here)) rfl rfl rfl rfl) (by exact rfl) rfl), (fun H' m_ hH hm_ hu_ => dn <| s_d (m_ 4) rfl (d_fld (o' := 1) Try.underlying65 rfl sz31 rfl rfl rfl) (by exact rfl) rfl), (by rintro H' m_ hH hm_ hu_ _ rfl; exact dn <| s_d (m_ 5) rfl (d_loado (v := v1_b) ty31 rfl (.there .here) rfl rfl rfl rfl) (by exact rfl) rfl), (by rintro H' m_ hH hm_ hu_ _ rfl _ rfl; exact dn <| s_k (m_ 6) rfl (o_call co34 (vs := [v0_a, v1_b]) rfl (radomeref01_plus.calls k hy6 ((h0_a.mono hH).src) ((h1_b.mono hH).src))) rfl (by rintro v_ H_ _ ⟨rfl, e_, h_⟩; exact ⟨rfl, e_, h_⟩)), trivial⟩ ?_
  intro H11 e12
  rintro _ _ rfl _ _ rfl _ _ rfl _ _ rfl _ _ rfl _ _ rfl v9 _ (h10 : Ro kI64 H11 v9 y5)
  obtain ⟨y13, hy14, he⟩ := bs he
  refine w_a rfl (o_call co33 (vs := [.bool a.f_Neg, v9]) rfl (radomeref01_num.calls k hy14 h10)) ?_
  rintro _ H15 _ ⟨rfl, e16, ⟨v17, rfl, h18⟩⟩
  refine w_a0 rfl (o_store (v := .agg ⟨[.bool y13.f_Neg, v17]⟩) sz65 rfl rfl rfl rfl (oc rfl (oc (h18.one) oz)) .here u2) ?_
  rintro _ _ _ ⟨rfl, rfl, rfl⟩
  refine w_done ?_
  obtain rfl := sj he
  refine w_return fn_24 rs_24 (.box (v := .agg ⟨[.bool y13.f_Neg, v17]⟩) rfl ty65 rfl rfl .here rfl .nil) <| ⟨⟨[_, _, _], rfl⟩, hle.trans (e12.trans e16), ⟨v17, rfl, h18⟩⟩
 ·
  refine w_else rfl (Bool.eq_false_iff.2 c4) <| w_skip <| w_seq <| wR rfl <| w_d rfl (d_fld (o' := 1) Try.underlying65 rfl sz31 rfl rfl rfl) <| wL v0_a ty31 rfl rfl (.there (.there .here)) rfl rfl <| w_d rfl (d_fld (o' := 1) Try.underlying65 rfl sz31 rfl rfl rfl) <| wL v1_b ty31 rfl rfl (.there .here) rfl rfl ?_
  obtain ⟨y19, hy20, he⟩ := bs he
  refine w_d rfl (call_d (o_call co35 (vs := [v0_a, v1_b]) rfl (radomeref01_Less.calls k hy20 h0_a.src h1_b.src))) <| w_done ?_
  rcases its he with ⟨c23, he⟩ | ⟨c23, he⟩
  ·
   refine w_then rfl c23 <| w_seq ?_
   obtain ⟨y24, hy25, he⟩ := bs he
   refine w_drawn (p := 7) (tl := [7, 8]) [[], [(0, some 23)], [], [(2, some 25)], [], [(4, some 27)], [(3, some 26), (5, some 28)]] [some 23, some 24, some 25, some 26, some 27, some 28, some 29] (fctF (.is (.pointer (some ⟨b2, 0, none⟩)) :: .is (.bool b.f_Neg) :: .is (.pointer (some ⟨b2, 1, none⟩)) :: .is (v1_b) :: .is (.pointer (some ⟨b1, 1, none⟩)) :: .is (v0_a) :: .ro kI64 (y24) :: [])) (fun m_ => some (b3, .cells ⟨[.bool false, .slice none 0 0]⟩ 65 (0, 0)) :: some (b2, .cells ⟨[.bool b.f_Neg, v1_b]⟩ 65 (0, 0)) :: some (b1, .cells ⟨[.bool a.f_Neg, v0_a]⟩ 65 (0, 0)) :: L) (fun _ => none) mixed (by kernel_rfl) (by kernel_rfl) rfl (fct_mono (by kernel_rfl)) ⟨(fun H' m_ hH hm_ hu_ => dn <| s_d (m_ 0) rfl (d_fld (o' := 0) Try.underlying65 rfl sz4 rfl rfl rfl) (by exact rfl) rfl), (by rintro H' m_ hH hm_ hu_ _ rfl; exact dn <| s_d (m_ 1) rfl (d_loado (v := .bool b.f_Neg) ty4 rfl (.there .here) rfl rfl rfl rfl) (by exact rfl) rfl), (fun H' m_ hH hm_ hu_ => dn <| s_d (m_ 2) rfl (d_fld (o' := 1) Try.underlying65 rfl sz31 rfl rfl rfl) (by exact rfl) rfl), (by rintro H' m_ hH hm_ hu_ _ rfl; exact dn <| s_d (m_ 3) rfl (d_loado (v := v1_b) ty31 rfl (.there .here) rfl rfl rfl rfl) (by exact rfl) rfl), (fun H' m_ hH hm_ hu_ => dn <| s_d (m_ 4) rfl (d_fld (o' := 1) Try.underlying65 rfl sz31 rfl rfl rfl) (by exact rfl) rfl), (by rintro H' m_ hH hm_ hu_ _ rfl; exact dn <| s_d (m_ 5) rfl (d_loado (v := v0_a) ty31 rfl (.there (.there .here)) rfl rfl rfl rfl) (by exact rfl) rfl), (by rintro H' m_ hH hm_ hu_ _ rfl _ rfl; exact dn <| s_k (m_ 6) rfl (o_call co36 (vs := [v1_b, v0_a]) rfl (radomeref01_minus.calls k hy25 ((h1_b.mono hH).src) ((h0_a.mono hH).src))) rfl (by rintro v_ H_ _ ⟨rfl, e_, h_⟩; exact ⟨rfl, e_, h_⟩)), trivial⟩ ?_
   intro H30 e31
   rintro _ _ rfl _ _ rfl _ _ rfl _ _ rfl _ _ rfl _ _ rfl v28 _ (h29 : Ro kI64 H30 v28 y24)
   obtain ⟨y32, hy33, he⟩ := bs he
   refine w_a rfl (o_call co33 (vs := [.bool b.f_Neg, v28]) rfl (radomeref01_num.calls k hy33 h29)) ?_
   rintro _ H34 _ ⟨rfl, e35, ⟨v36, rfl, h37⟩⟩
   refine w_a0 rfl (o_store (v := .agg ⟨[.bool y32.f_Neg, v36]⟩) sz65 rfl rfl rfl rfl (oc rfl (oc (h37.one) oz)) .here u2) ?_
   rintro _ _ _ ⟨rfl, rfl, rfl⟩
   refine w_done ?_
   obtain rfl := sj he
   refine w_return fn_24 rs_24 (.box (v := .agg ⟨[.bool y32.f_Neg, v36]⟩) rfl ty65 rfl rfl .here rfl .nil) <| ⟨⟨[_, _, _], rfl⟩, hle.trans (e31.trans e35), ⟨v36, rfl, h37⟩⟩
  ·
   refine w_else rfl (Bool.eq_false_iff.2 c23) <| w_skip <| w_seq ?_
   obtain ⟨y38, hy39, he⟩ := bs he
   refine w_drawn (p := 7) (tl := [7, 8]) [[], [(0, some 31)], [], [(2, some 33)], [], [(4, some 35)], [(3, some 34), (5, some 36)]] [some 31, some 32, some 33, some 34, some 35, some 36, some 37] (fctF (.is (.pointer (some ⟨b1, 0, none⟩)) :: .is (.bool a.f_Neg) :: .is (.pointer (some ⟨b1, 1, none⟩)) :: .is (v0_a) :: .is (.pointer (some ⟨b2, 1, none⟩)) :: .is (v1_b) :: .ro kI64 (y38) :: [])) (fun m_ => some (b3, .cells ⟨[.bool false, .slice none 0 0]⟩ 65 (0, 0)) :: some (b2, .cells ⟨[.bool b.f_Neg, v1_b]⟩ 65 (0, 0)) :: some (b1, .cells ⟨[.bool a.f_Neg, v0_a]⟩ 65 (0, 0)) :: L) (fun _ => none) mixed (by kernel_rfl) (by kernel_rfl) rfl (fct_mono (by kernel_rfl)) ⟨(fun H' m_ hH hm_ hu_ => dn <| s_d (m_ 0) rfl (d_fld (o' := 0) Try.underlying65 rfl sz4 rfl rfl rfl) (by exact rfl) rfl), (by rintro H' m_ hH hm_ hu_ _ rfl; exact dn <| s_d (m_ 1) rfl (d_loado (v := .bool a.f_Neg) ty4 rfl (.there (.there .here)) rfl rfl rfl rfl) (by exact rfl) rfl), (fun H' m_ hH hm_ hu_ => dn <| s_d (m_ 2) rfl (d_fld (o' := 1) Try.underlying65 rfl sz31 rfl rfl rfl) (by exact rfl) rfl), (by rintro H' m_ hH hm_ hu_ _ rfl; exact dn <| s_d (m_ 3) rfl (d_loado (v := v0_a) ty31 rfl (.there (.there .here)) rfl rfl rfl rfl) (by exact rfl) rfl), (fun H' m_ hH hm_ hu_ => dn <| s_d (m_ 4) rfl (d_fld (o' := 1) Try.underlying65 rfl sz31 rfl rfl rfl) (by exact rfl) rfl), (by rintro H' m_ hH hm_ hu_ _ rfl; exact dn <| s_d (m_ 5) rfl (d_loado (v := v1_b) ty31 rfl (.there .here) rfl rfl rfl rfl) (by exact rfl) rfl), (by rintro H' m_ hH hm_ hu_ _ rfl _ rfl; exact dn <| s_k (m_ 6) rfl (o_call co36 (vs := [v0_a, v1_b]) rfl (radomeref01_minus.calls k hy39 ((h0_a.mono hH).src) ((h1_b.mono hH).src))) rfl (by rintro v_ H_ _ ⟨rfl, e_, h_⟩; exact ⟨rfl, e_, h_⟩)), trivial⟩ ?_
   intro H44 e45
   rintro _ _ rfl _ _ rfl _ _ rfl _ _ rfl _ _ rfl _ _ rfl v42 _ (h43 : Ro kI64 H44 v42 y38)
   obtain ⟨y46, hy47, he⟩ := bs he
   refine w_a rfl (o_call co33 (vs := [.bool a.f_Neg, v42]) rfl (radomeref01_num.calls k hy47 h43)) ?_
   rintro _ H48 _ ⟨rfl, e49, ⟨v50, rfl, h51⟩⟩
   refine w_a0 rfl (o_store (v := .agg ⟨[.bool y46.f_Neg, v50]⟩) sz65 rfl rfl rfl rfl (oc rfl (oc (h51.one) oz)) .here u2) ?_
   rintro _ _ _ ⟨rfl, rfl, rfl⟩
   refine w_done ?_
   obtain rfl := sj he
   refine w_return fn_24 rs_24 (.box (v := .agg ⟨[.bool y46.f_Neg, v50]⟩) rfl ty65 rfl rfl .here rfl .nil) <| ⟨⟨[_, _, _], rfl⟩, hle.trans (e45.trans e49), ⟨v50, rfl, h51⟩⟩
noncomputable def radomeref01_Neg.C : Code := (Try.f48.body).getD .skip
def radomeref01_Neg.out (r : radomeref01_Num) (H : Hp) (v : Value) : Prop := ∃ v0, v = .agg ⟨[.bool r.f_Neg, v0]⟩ ∧ Ro kI64 H v0 r.f_D
theorem radomeref01_Neg.out_mono (r : radomeref01_Num) {H H' : Hp} {v : Value} (hle : H.le H') (h : radomeref01_Neg.out r H v) : radomeref01_Neg.out r H' v := by
 obtain ⟨v0, rfl, h0⟩ := h; exact ⟨v0, rfl, h0.mono hle⟩
noncomputable def radomeref01_Neg.f (k : Nat) (a : radomeref01_Num) : Option radomeref01_Num := (radomeref01_num.f k (!a.f_Neg) a.f_D).bind fun y3 => some (y3)
theorem radomeref01_Neg.calls (k : Nat) {H : Hp} {L : Items} {a : radomeref01_Num} {v0_a : Value} {r : radomeref01_Num} (he : radomeref01_Neg.f k a = some r) (h0_a : Ro kI64 H v0_a a.f_D) : Ct Try.prog 48 ⟨[.agg ⟨[.bool a.f_Neg, v0_a]⟩]⟩ H L (cR H L (radomeref01_Neg.out r)) := by
 refine ct_out (O := radomeref01_Neg.out r) ?_
 have hle : H.le H := .refl _
 unfold radomeref01_Neg.f at he
 refine ct_enter (args := [.agg ⟨[.bool a.f_Neg, v0_a]⟩]) fn_48 rfl nt_48 rfl <| wR rfl <| w_a rfl (o_box (v := .agg ⟨[.bool a.f_Neg, v0_a]⟩) rfl rfl) ?_
 rintro _ _ _ ⟨b1, rfl, rfl, rfl⟩
 refine w_a rfl (o_alloc zr65 rfl) ?_
 rintro _ _ _ ⟨b2, rfl, rfl, rfl⟩
 refine wQ rfl <| w_d rfl (d_fld (o' := 0) Try.underlying65 rfl sz4 rfl rfl rfl) <| wL (.bool a.f_Neg) ty4 rfl rfl (.there .here) rfl rfl <| w_d rfl (d_not (b := a.f_Neg) rfl) <| w_d rfl (d_fld (o' := 1) Try.underlying65 rfl sz31 rfl rfl rfl) <| wL v0_a ty31 rfl rfl (.there .here) rfl rfl ?_
 obtain ⟨y3, hy4, he⟩ := bs he
 refine w_a rfl (o_call co33 (vs := [.bool (!a.f_Neg), v0_a]) rfl (radomeref01_num.calls k hy4 h0_a)) ?_
 rintro _ H5 _ ⟨rfl, e6, ⟨v7, rfl, h8⟩⟩
 refine w_a0 rfl (o_store (v := .agg ⟨[.bool y3.f_Neg, v7]⟩) sz65 rfl rfl rfl rfl (oc rfl (oc (h8.one) oz)) .here u2) ?_
 rintro _ _ _ ⟨rfl, rfl, rfl⟩
 refine w_done ?_
 obtain rfl := sj he
 refine w_return fn_48 rs_48 (.box (v := .agg ⟨[.bool y3.f_Neg, v7]⟩) rfl ty65 rfl rfl .here rfl .nil) <| ⟨⟨[_, _], rfl⟩, hle.trans e6, ⟨v7, rfl, h8⟩⟩
noncomputable def radomeref01_Sub.C : Code := (Try.f38.body).getD .skip
def radomeref01_Sub.out (r : radomeref01_Num) (H : Hp) (v : Value) : Prop := ∃ v0, v = .agg ⟨[.bool r.f_Neg, v0]⟩ ∧ Ro kI64 H v0 r.f_D
noncomputable def radomeref01_Sub.f (k : Nat) (a : radomeref01_Num) (b : radomeref01_Num) : Option radomeref01_Num := (radomeref01_Neg.f k b).bind fun y4 => (radomeref01_Add.f k a y4).bind fun y12 => some (y12)
theorem radomeref01_Sub.calls (k : Nat) {H : Hp} {L : Items} {a : radomeref01_Num} {b : radomeref01_Num} {v0_a : Value} {v1_b : Value} {r : radomeref01_Num} (he : radomeref01_Sub.f k a b = some r) (h0_a : Ro kI64 H v0_a a.f_D) (h1_b : Ro kI64 H v1_b b.f_D) : Ct Try.prog 38 ⟨[.agg ⟨[.bool a.f_Neg, v0_a]⟩, .agg ⟨[.bool b.f_Neg, v1_b]⟩]⟩ H L (cR H L (radomeref01_Sub.out r)) := by
 refine ct_out (O := radomeref01_Sub.out r) ?_
 have hle : H.le H := .refl _
 unfold radomeref01_Sub.f at he
 refine ct_enter (args := [.agg ⟨[.bool a.f_Neg, v0_a]⟩, .agg ⟨[.bool b.f_Neg, v1_b]⟩]) fn_38 rfl nt_38 rfl <| wR rfl <| w_a rfl (o_box (v := .agg ⟨[.bool a.f_Neg, v0_a]⟩) rfl rfl) ?_
 rintro _ _ _ ⟨b1, rfl, rfl, rfl⟩
 refine w_a rfl (o_box (v := .agg ⟨[.bool b.f_Neg, v1_b]⟩) rfl rfl) ?_
 rintro _ _ _ ⟨b2, rfl, rfl, rfl⟩
 refine w_a rfl (o_alloc zr65 rfl) ?_
 rintro _ _ _ ⟨b3, rfl, rfl, rfl⟩
 refine wE ?_
 obtain ⟨y4, hy5, he⟩ := bs he
 refine w_drawn (p := 3) (tl := [3, 4]) [[], [], [(1, some 6)]] [some 5, some 6, some 7] (fctF (.is (.agg ⟨[.bool a.f_Neg, v0_a]⟩) :: .is (.agg ⟨[.bool b.f_Neg, v1_b]⟩) :: .of (radomeref01_Neg.out y4) (radomeref01_Neg.out_mono _) :: [])) (fun m_ => some (b3, .cells ⟨[.bool false, .slice none 0 0]⟩ 65 (0, 0)) :: some (b2, .cells ⟨[.bool b.f_Neg, v1_b]⟩ 65 (0, 0)) :: some (b1, .cells ⟨[.bool a.f_Neg, v0_a]⟩ 65 (0, 0)) :: L) (fun _ => none) mixed (by kernel_rfl) (by kernel_rfl) rfl (fct_mono (by kernel_rfl)) ⟨(fun H' m_ hH hm_ hu_ => dn <| s_d (m_ 0) rfl (d_loado (v := .agg ⟨[.bool a.f_Neg, v0_a]⟩) ty65 rfl (.there (.there .here)) rfl rfl rfl rfl) (by exact rfl) rfl), (fun H' m_ hH hm_ hu_ => dn <| s_d (m_ 1) rfl (d_loado (v := .agg ⟨[.bool b.f_Neg, v1_b]⟩) ty65 rfl (.there .here) rfl rfl rfl rfl) (by exact rfl) rfl), (by rintro H' m_ hH hm_ hu_ _ rfl; exact dn <| s_k (m_ 2) rfl (o_call co48 (vs := [.agg ⟨[.bool b.f_Neg, v1_b]⟩]) rfl (radomeref01_Neg.calls k (a := b) hy5 (h1_b.mono hH))) rfl (by rintro v_ H_ _ ⟨rfl, e_, h_⟩; exact ⟨rfl, e_, h_⟩)), trivial⟩ ?_
 intro H10 e11
 rintro _ _ rfl _ _ rfl _ _ ⟨v8, rfl, h9⟩
 obtain ⟨y12, hy13, he⟩ := bs he
 refine w_a rfl (o_call co24 (vs := [.agg ⟨[.bool a.f_Neg, v0_a]⟩, .agg ⟨[.bool y4.f_Neg, v8]⟩]) rfl (radomeref01_Add.calls k (a := a) (b := y4) hy13 (h0_a.mono e11) h9)) ?_
 rintro _ H14 _ ⟨rfl, e15, ⟨v16, rfl, h17⟩⟩
 refine w_a0 rfl (o_store (v := .agg ⟨[.bool y12.f_Neg, v16]⟩) sz65 rfl rfl rfl rfl (oc rfl (oc (h17.one) oz)) .here u2) ?_
 rintro _ _ _ ⟨rfl, rfl, rfl⟩
 refine w_done ?_
 obtain rfl := sj he
 refine w_return fn_38 rs_38 (.box (v := .agg ⟨[.bool y12.f_Neg, v16]⟩) rfl ty65 rfl rfl .here rfl .nil) <| ⟨⟨[_, _, _], rfl⟩, hle.trans (e11.trans e15), ⟨v16, rfl, h17⟩⟩
noncomputable def radomeref01_Sign.C : Code := (Try.f37.body).getD .skip
def radomeref01_Sign.out (r : Int) (H : Hp) (v : Value) : Prop := v = .int .i64 r
noncomputable def radomeref01_Sign.f (k : Nat) (a : radomeref01_Num) : Option Int := if (a.f_D.length : Int) = 0 then (some (0)) else (if a.f_Neg = true then (some ((-1))) else (some (1)))
theorem radomeref01_Sign.calls (k : Nat) {H : Hp} {L : Items} {a : radomeref01_Num} {v0_a : Value} {r : Int} (he : radomeref01_Sign.f k a = some r) (h0_a : Ro kI64 H v0_a a.f_D) : Ct Try.prog 37 ⟨[.agg ⟨[.bool a.f_Neg, v0_a]⟩]⟩ H L (fun v H' L' => L = L' ∧ H = H' ∧ v = .int .i64 r) := by
 refine ct_outs (O := radomeref01_Sign.out r) (fun _ _ h => h) ?_
 have hle : H.le H := .refl _
 unfold radomeref01_Sign.f at he
 refine ct_enter (args := [.agg ⟨[.bool a.f_Neg, v0_a]⟩]) fn_37 rfl nt_37 rfl <| wR rfl <| w_a rfl (o_box (v := .agg ⟨[.bool a.f_Neg, v0_a]⟩) rfl rfl) ?_
 rintro _ _ _ ⟨b1, rfl, rfl, rfl⟩
 refine wA (.int .i64 0) rfl rfl <| wE <| wR rfl <| w_d rfl (d_fld (o' := 1) Try.underlying65 rfl sz31 rfl rfl rfl) <| wL v0_a ty31 rfl rfl .here rfl rfl <| w_d rfl (d_len Try.underlying31 rfl h0_a.src) <| w_d rfl (d_eql rfl rfl) <| w_done ?_
 rcases its he with ⟨c2, he⟩ | ⟨c2, he⟩
 ·
  refine w_then rfl (dt c2) <| wR rfl <| wA (.int .i64 0) rfl rfl <| w_done ?_
  obtain rfl := sj he
  refine w_return fn_37 rs_37 (.tmp (v := .int .i64 0) rfl .nil) <| ⟨⟨[_], rfl⟩, hle, rfl⟩
 ·
  refine w_else rfl (df c2) <| w_skip <| w_seq <| wR rfl <| w_d rfl (d_fld (o' := 0) Try.underlying65 rfl sz4 rfl rfl rfl) <| wL (.bool a.f_Neg) ty4 rfl rfl .here rfl rfl <| w_done ?_
  rcases its he with ⟨c3, he⟩ | ⟨c3, he⟩
  ·
   refine w_then rfl c3 <| wR rfl <| wA (.int .i64 (-1)) rfl rfl <| w_done ?_
   obtain rfl := sj he
   refine w_return fn_37 rs_37 (.tmp (v := .int .i64 (-1)) rfl .nil) <| ⟨⟨[_], rfl⟩, hle, rfl⟩
  ·
   refine w_else rfl (Bool.eq_false_iff.2 c3) <| w_skip <| wR rfl <| wA (.int .i64 1) rfl rfl <| w_done ?_
   obtain rfl := sj he
   refine w_return fn_37 rs_37 (.tmp (v := .int .i64 1) rfl .nil) <| ⟨⟨[_], rfl⟩, hle, rfl⟩
noncomputable def radomeref01_Cmp.C : Code := (Try.f26.body).getD .skip
def radomeref01_Cmp.out (r : Int) (H : Hp) (v : Value) : Prop := v = .int .i64 r
noncomputable def radomeref01_Cmp.f (k : Nat) (a : radomeref01_Num) (b : radomeref01_Num) : Option Int := (radomeref01_Sub.f k a b).bind fun y3 => (radomeref01_Sign.f k y3).bind fun y9 => some (y9)
theorem radomeref01_Cmp.calls (k : Nat) {H : Hp} {L : Items} {a : radomeref01_Num} {b : radomeref01_Num} {v0_a : Value} {v1_b : Value} {r : Int} (he : radomeref01_Cmp.f k a b = some r) (h0_a : Ro kI64 H v0_a a.f_D) (h1_b : Ro kI64 H v1_b b.f_D) : Ct Try.prog 26 ⟨[.agg ⟨[.bool a.f_Neg, v0_a]⟩, .agg ⟨[.bool b.f_Neg, v1_b]⟩]⟩ H L (fun v H' L' => L = L' ∧ H = H' ∧ v = .int .i64 r) := by
 refine ct_outs (O := radomeref01_Cmp.out r) (fun _ _ h => h) ?_
 have hle : H.le H := .refl _
 unfold radomeref01_Cmp.f at he
 refine ct_enter (args := [.agg ⟨[.bool a.f_Neg, v0_a]⟩, .agg ⟨[.bool b.f_Neg, v1_b]⟩]) fn_26 rfl nt_26 rfl <| wR rfl <| w_a rfl (o_box (v := .agg ⟨[.bool a.f_Neg, v0_a]⟩) rfl rfl) ?_
 rintro _ _ _ ⟨b1, rfl, rfl, rfl⟩
 refine w_a rfl (o_box (v := .agg ⟨[.bool b.f_Neg, v1_b]⟩) rfl rfl) ?_
 rintro _ _ _ ⟨b2, rfl, rfl, rfl⟩
 refine wA (.int .i64 0) rfl rfl <| wQ rfl <| wL (.agg ⟨[.bool a.f_Neg, v0_a]⟩) ty65 rfl rfl (.there .here) rfl rfl <| wL (.agg ⟨[.bool b.f_Neg, v1_b]⟩) ty65 rfl rfl .here rfl rfl ?_
 obtain ⟨y3, hy4, he⟩ := bs he
 refine w_a rfl (o_call co38 (vs := [.agg ⟨[.bool a.f_Neg, v0_a]⟩, .agg ⟨[.bool b.f_Neg, v1_b]⟩]) rfl (radomeref01_Sub.calls k (a := a) (b := b) hy4 h0_a h1_b)) ?_
 rintro _ H5 _ ⟨rfl, e6, ⟨v7, rfl, h8⟩⟩
 obtain ⟨y9, hy10, he⟩ := bs he
 refine w_d rfl (call_d (o_call co37 (vs := [.agg ⟨[.bool y3.f_Neg, v7]⟩]) rfl (radomeref01_Sign.calls k (a := y3) hy10 h8))) <| wA (.int .i64 y9) rfl rfl <| w_done ?_
 obtain rfl := sj he
 refine w_return fn_26 rs_26 (.tmp (v := .int .i64 y9) rfl .nil) <| ⟨⟨[_, _], rfl⟩, hle.trans e6, rfl⟩
end Go.Proofs.Ytacbficpehmlnaa.GBQ

/- printed by gen.py -/
import Derived.Test.YtacbficpehmlnaaDoorGBNx1
namespace Go.Proofs.YtacbficpehmlnaaDoor.GBN
open Go Go.RowKit Go.Proofs.YtacbficpehmlnaaDoorK Go.Proofs.YtacbficpehmlnaaDoor
set_option maxRecDepth 100000
set_option maxHeartbeats 2000000
set_option linter.unusedVariables false
set_option linter.unusedSimpArgs false
noncomputable def slices_IndexFunc_int64_int64_best_bounded_1.C : Code := (Tryd.f60.body).getD .skip
def slices_IndexFunc_int64_int64_best_bounded_1.out (r : Int) (H : Hp) (v : Value) : Prop := v = .int .i64 r
abbrev slices_IndexFunc_int64_int64_best_bounded_1.R (H0 : Hp) (L : Items) (r : Int) := fR H0 L (slices_IndexFunc_int64_int64_best_bounded_1.out r)
structure slices_IndexFunc_int64_int64_best_bounded_1.Hs where
 l0 : (List Int) → Int → Int → Int → Int → Option Int
noncomputable def slices_IndexFunc_int64_int64_best_bounded_1.b0 (k : Nat) (h : slices_IndexFunc_int64_int64_best_bounded_1.Hs)  (s : List Int) (f_c0_1 : Int) (t4 : Int) (t7 : Int) (t8 : Int) : Option Int := if t8 < t7 then (if (0 : Int) ≤ t8 ∧ t8 < (s.length : Int) then ((best_bounded_1.f k (rd s t8) f_c0_1).bind fun y3 => if y3 = true then (some (t8)) else (h.l0 s f_c0_1 t4 t7 (w64 (t8 + 1)))) else none) else (some ((-1)))
noncomputable def slices_IndexFunc_int64_int64_best_bounded_1.hs : Nat → slices_IndexFunc_int64_int64_best_bounded_1.Hs
 | 0 => ⟨fun _ _ _ _ _ => none⟩
 | k + 1 => ⟨fun x0 x1 x2 x3 x4 => slices_IndexFunc_int64_int64_best_bounded_1.b0 k (slices_IndexFunc_int64_int64_best_bounded_1.hs k) x0 x1 x2 x3 x4⟩
noncomputable def slices_IndexFunc_int64_int64_best_bounded_1.f (k : Nat) (s : List Int) (c1_0 : Int) : Option Int := (fun h : slices_IndexFunc_int64_int64_best_bounded_1.Hs => h.l0 s c1_0 0 (s.length : Int) 0) (slices_IndexFunc_int64_int64_best_bounded_1.hs k)
structure slices_IndexFunc_int64_int64_best_bounded_1.LE (h h' : slices_IndexFunc_int64_int64_best_bounded_1.Hs) : Prop where
 l0 : ∀ y0 y1 y2 y3 y4, LeO (h.l0 y0 y1 y2 y3 y4) (h'.l0 y0 y1 y2 y3 y4)
theorem slices_IndexFunc_int64_int64_best_bounded_1.b0_mono {k : Nat} {h h' : slices_IndexFunc_int64_int64_best_bounded_1.Hs} (hl : slices_IndexFunc_int64_int64_best_bounded_1.LE h h') : ∀ y0 y1 y2 y3 y4, LeO (slices_IndexFunc_int64_int64_best_bounded_1.b0 k h y0 y1 y2 y3 y4) (slices_IndexFunc_int64_int64_best_bounded_1.b0 (k + 1) h' y0 y1 y2 y3 y4) := fun _ _ _ _ _ => (LeO.ite (LeO.ite (LeO.bind (best_bounded_1.mono k _ _) fun _ => LeO.ite (LeO.refl _) (hl.l0 _ _ _ _ _)) (LeO.refl _)) (LeO.refl _))
theorem slices_IndexFunc_int64_int64_best_bounded_1.hs_mono : ∀ k, slices_IndexFunc_int64_int64_best_bounded_1.LE (slices_IndexFunc_int64_int64_best_bounded_1.hs k) (slices_IndexFunc_int64_int64_best_bounded_1.hs (k + 1))
 | 0 => ⟨fun _ _ _ _ _ => LeO.none _⟩
 | k + 1 => ⟨slices_IndexFunc_int64_int64_best_bounded_1.b0_mono (k := k) (slices_IndexFunc_int64_int64_best_bounded_1.hs_mono k)⟩
theorem slices_IndexFunc_int64_int64_best_bounded_1.mono : ∀ k y0 y1, LeO (slices_IndexFunc_int64_int64_best_bounded_1.f k y0 y1) (slices_IndexFunc_int64_int64_best_bounded_1.f (k + 1) y0 y1) := fun k _ _ => have hl := slices_IndexFunc_int64_int64_best_bounded_1.hs_mono k; by unfold slices_IndexFunc_int64_int64_best_bounded_1.f; exact (hl.l0 _ _ _ _ _)
noncomputable def slices_IndexFunc_int64_int64_best_bounded_1.Kl0 : List Item := .code (lopB (blkB (seqR (seqL (seqR slices_IndexFunc_int64_int64_best_bounded_1.C))))) :: .inLoop (lopB (blkB (seqR (seqL (seqR slices_IndexFunc_int64_int64_best_bounded_1.C))))) :: .inBlock 0 :: .code (seqR (seqR slices_IndexFunc_int64_int64_best_bounded_1.C)) :: []
structure slices_IndexFunc_int64_int64_best_bounded_1.OK (h : slices_IndexFunc_int64_int64_best_bounded_1.Hs) : Prop where
 l0 : ∀ {H0 H : Hp} {L : Items} {r : Int} {jk_ : Nat → Value} {s : List Int} {f_c0_1 : Int} {t4 : Int} {t7 : Int} {t8 : Int} {v_s : Value} {b_c1_0 : Nat} (_ : H0.le H) (_he : h.l0 s f_c0_1 t4 t7 t8 = some r) (_h_s : Src kI64 H L v_s s) (hl_f_c0 : Lies H L ⟨b_c1_0, 0, none⟩ [.int .i64 f_c0_1]), Wp Tryd.prog 60 19 slices_IndexFunc_int64_int64_best_bounded_1.Kl0 (upd (upd (upd (upd (upd jk_ 0 (v_s)) 1 (.func (.func 44) #[] #[.pointer (some ⟨b_c1_0, 0, none⟩)])) 4 (.int .i64 t4)) 7 (.int .i64 t7)) 8 (.int .i64 t8)) H (L) (slices_IndexFunc_int64_int64_best_bounded_1.R H0 L r)
theorem slices_IndexFunc_int64_int64_best_bounded_1.b0_ok {k : Nat} {h : slices_IndexFunc_int64_int64_best_bounded_1.Hs} (hh : slices_IndexFunc_int64_int64_best_bounded_1.OK h) {H0 H : Hp} {L : Items} {r : Int} {jk_ : Nat → Value} {s : List Int} {f_c0_1 : Int} {t4 : Int} {t7 : Int} {t8 : Int} {v_s : Value} {b_c1_0 : Nat} (hle : H0.le H) (he : slices_IndexFunc_int64_int64_best_bounded_1.b0 k h s f_c0_1 t4 t7 t8 = some r) (h_s : Src kI64 H L v_s s) (hl_f_c0 : Lies H L ⟨b_c1_0, 0, none⟩ [.int .i64 f_c0_1]) : Wp Tryd.prog 60 19 slices_IndexFunc_int64_int64_best_bounded_1.Kl0 (upd (upd (upd (upd (upd jk_ 0 (v_s)) 1 (.func (.func 44) #[] #[.pointer (some ⟨b_c1_0, 0, none⟩)])) 4 (.int .i64 t4)) 7 (.int .i64 t7)) 8 (.int .i64 t8)) H (L) (slices_IndexFunc_int64_int64_best_bounded_1.R H0 L r) := by
 unfold slices_IndexFunc_int64_int64_best_bounded_1.b0 at he
 unfold slices_IndexFunc_int64_int64_best_bounded_1.Kl0
 refine wR rfl <| w_d rfl (d_lss rfl rfl) <| wE ?_
 rcases its he with ⟨c1, he⟩ | ⟨c1, he⟩
 ·
  refine w_then rfl (dt c1) <| w_skip <| w_seq <| w_block <| wR rfl <| wM (.int .i64 t8) rfl rfl <| wA (.int .i64 t8) rfl rfl <| wQ rfl <| wM (.func (.func 44) #[] #[.pointer (some ⟨b_c1_0, 0, none⟩)]) rfl rfl ?_
  refine wM v_s rfl rfl <| wM (.int .i64 t8) rfl rfl ?_
  obtain ⟨c2, he⟩ := rq he
  refine w_d rfl (d_index (sz := 1) Tryd.underlying32 sz2 rfl h_s rfl c2) <| w_d rfl (d_ldint ty2 rfl h_s c2) ?_
  obtain ⟨y3, hy4, he⟩ := bs he
  refine w_d rfl (call_d (o_callc rfl co44 (vs := [.int .i64 (rd s t8)]) (ws := [.int .i64 (rd s t8), .pointer (some ⟨b_c1_0, 0, none⟩)]) rfl rfl (best_bounded_1.calls k (a1 := f_c0_1) hy4 (hl_f_c0)))) <| w_done ?_
  rcases its he with ⟨c7, he⟩ | ⟨c7, he⟩
  ·
   refine w_then rfl c7 <| wR rfl <| wM (.int .i64 t8) rfl rfl <| wA (.int .i64 t8) rfl rfl <| w_done ?_
   obtain rfl := sj he
   refine w_return fn_60 rs_60 (.tmp (v := .int .i64 t8) rfl .nil) <| ⟨⟨[], rfl⟩, hle, rfl⟩
  ·
   refine w_else rfl (Bool.eq_false_iff.2 c7) <| w_skip <| w_inBlock <| w_region rfl <| w_d rfl (d_add (c := w64 (t8 + 1)) rfl rfl rfl) <| wM (.int .i64 (w64 (t8 + 1))) rfl rfl <| w_done <| w_inLoop <| w_sl 0 (v_s) rfl <| w_sl 1 (.func (.func 44) #[] #[.pointer (some ⟨b_c1_0, 0, none⟩)]) rfl <| w_sl 4 (.int .i64 t4) rfl <| w_sl 7 (.int .i64 t7) rfl ?_
   refine w_sl 8 (.int .i64 (w64 (t8 + 1))) rfl <| hh.l0 hle he h_s hl_f_c0
 ·
  refine w_else rfl (df c1) <| w_exit rfl <| wR rfl <| wA (.int .i64 (-1)) rfl rfl <| w_done ?_
  obtain rfl := sj he
  refine w_return fn_60 rs_60 (.tmp (v := .int .i64 (-1)) rfl .nil) <| ⟨⟨[], rfl⟩, hle, rfl⟩
theorem slices_IndexFunc_int64_int64_best_bounded_1.ok : ∀ k, slices_IndexFunc_int64_int64_best_bounded_1.OK (slices_IndexFunc_int64_int64_best_bounded_1.hs k)
 | 0 => ⟨(by intros; exact nomatch (show none = some _ from by assumption))⟩
 | k + 1 => ⟨slices_IndexFunc_int64_int64_best_bounded_1.b0_ok (k := k) (slices_IndexFunc_int64_int64_best_bounded_1.ok k)⟩
theorem slices_IndexFunc_int64_int64_best_bounded_1.calls (k : Nat) {H : Hp} {L : Items} {s : List Int} {c1_0 : Int} {v0_s : Value} {b_c1_0 : Nat} {r : Int} (he : slices_IndexFunc_int64_int64_best_bounded_1.f k s c1_0 = some r) (h0_s : Src kI64 H L v0_s s) (hl_c1_0 : Lies H L ⟨b_c1_0, 0, none⟩ [.int .i64 c1_0]) : Ct Tryd.prog 60 ⟨[v0_s, .func (.func 44) #[] #[.pointer (some ⟨b_c1_0, 0, none⟩)]]⟩ H L (fun v H' L' => L = L' ∧ H = H' ∧ v = .int .i64 r) := by
 refine ct_outs (O := slices_IndexFunc_int64_int64_best_bounded_1.out r) (fun _ _ h => h) ?_
 have hle : H.le H := .refl _
 have hh := slices_IndexFunc_int64_int64_best_bounded_1.ok k
 unfold slices_IndexFunc_int64_int64_best_bounded_1.f at he
 refine ct_enter (args := [v0_s, .func (.func 44) #[] #[.pointer (some ⟨b_c1_0, 0, none⟩)]]) fn_60 rfl nt_60 rfl <| wR rfl <| wA (.int .i64 0) rfl rfl <| wE <| wR rfl <| wM v0_s rfl rfl <| w_d rfl (d_len Tryd.underlying32 rfl h0_s) <| wM (.int .i64 0) rfl rfl <| w_done ?_
 refine w_block <| w_loop <| w_sl 0 (v0_s) rfl <| w_sl 1 (.func (.func 44) #[] #[.pointer (some ⟨b_c1_0, 0, none⟩)]) rfl <| w_sl 4 (.int .i64 0) rfl <| w_sl 7 (.int .i64 (s.length : Int)) rfl <| w_sl 8 (.int .i64 0) rfl <| hh.l0 hle he h0_s hl_c1_0
noncomputable def slices_ContainsFunc_int64_int64_best_bounded_1.C : Code := (Tryd.f43.body).getD .skip
def slices_ContainsFunc_int64_int64_best_bounded_1.out (r : Bool) (H : Hp) (v : Value) : Prop := v = .bool r
noncomputable def slices_ContainsFunc_int64_int64_best_bounded_1.f (k : Nat) (s : List Int) (c1_0 : Int) : Option Bool := (slices_IndexFunc_int64_int64_best_bounded_1.f k s c1_0).bind fun y1 => some (decide (0 ≤ y1))
theorem slices_ContainsFunc_int64_int64_best_bounded_1.mono : ∀ k y0 y1, LeO (slices_ContainsFunc_int64_int64_best_bounded_1.f k y0 y1) (slices_ContainsFunc_int64_int64_best_bounded_1.f (k + 1) y0 y1) := fun k _ _ => by unfold slices_ContainsFunc_int64_int64_best_bounded_1.f; exact (LeO.bind (slices_IndexFunc_int64_int64_best_bounded_1.mono k _ _) fun _ => LeO.refl _)
theorem slices_ContainsFunc_int64_int64_best_bounded_1.calls (k : Nat) {H : Hp} {L : Items} {s : List Int} {c1_0 : Int} {v0_s : Value} {b_c1_0 : Nat} {r : Bool} (he : slices_ContainsFunc_int64_int64_best_bounded_1.f k s c1_0 = some r) (h0_s : Src kI64 H L v0_s s) (hl_c1_0 : Lies H L ⟨b_c1_0, 0, none⟩ [.int .i64 c1_0]) : Ct Tryd.prog 43 ⟨[v0_s, .func (.func 44) #[] #[.pointer (some ⟨b_c1_0, 0, none⟩)]]⟩ H L (fun v H' L' => L = L' ∧ H = H' ∧ v = .bool r) := by
 refine ct_outs (O := slices_ContainsFunc_int64_int64_best_bounded_1.out r) (fun _ _ h => h) ?_
 have hle : H.le H := .refl _
 unfold slices_ContainsFunc_int64_int64_best_bounded_1.f at he
 refine ct_enter (args := [v0_s, .func (.func 44) #[] #[.pointer (some ⟨b_c1_0, 0, none⟩)]]) fn_43 rfl nt_43 rfl <| wR rfl <| wA (.bool false) rfl rfl <| wQ rfl <| wM v0_s rfl rfl <| wM (.func (.func 44) #[] #[.pointer (some ⟨b_c1_0, 0, none⟩)]) rfl rfl ?_
 obtain ⟨y1, hy2, he⟩ := bs he
 refine w_d rfl (call_d (o_call co60 (vs := [v0_s, .func (.func 44) #[] #[.pointer (some ⟨b_c1_0, 0, none⟩)]]) rfl (slices_IndexFunc_int64_int64_best_bounded_1.calls k hy2 h0_s (hl_c1_0)))) <| w_d rfl (d_geq rfl rfl) <| wA (.bool (decide (0 ≤ y1))) rfl rfl <| w_done ?_
 obtain rfl := sj he
 refine w_return fn_43 rs_43 (.tmp (v := .bool (decide (0 ≤ y1))) rfl .nil) <| ⟨⟨[], rfl⟩, hle, rfl⟩
noncomputable def best_bounded.C : Code := (Tryd.f30.body).getD .skip
def best_bounded.out (r : Bool) (H : Hp) (v : Value) : Prop := v = .bool r
noncomputable def best_bounded.f (k : Nat) (l : List Int) (most : Int) : Option Bool := (slices_ContainsFunc_int64_int64_best_bounded_1.f k l most).bind fun y2 => some (!y2)
theorem best_bounded.mono : ∀ k y0 y1, LeO (best_bounded.f k y0 y1) (best_bounded.f (k + 1) y0 y1) := fun k _ _ => by unfold best_bounded.f; exact (LeO.bind (slices_ContainsFunc_int64_int64_best_bounded_1.mono k _ _) fun _ => LeO.refl _)
theorem best_bounded.calls (k : Nat) {H : Hp} {L : Items} {l : List Int} {most : Int} {v0_l : Value} {r : Bool} (he : best_bounded.f k l most = some r) (h0_l : Src kI64 H L v0_l l) : Ct Tryd.prog 30 ⟨[v0_l, .int .i64 most]⟩ H L (fun v H' L' => L = L' ∧ H = H' ∧ v = .bool r) := by
 refine ct_outs (O := best_bounded.out r) (fun _ _ h => h) ?_
 have hle : H.le H := .refl _
 unfold best_bounded.f at he
 refine ct_enter (args := [v0_l, .int .i64 most]) fn_30 rfl nt_30 rfl <| wR rfl <| w_a rfl (o_box (v := .int .i64 most) rfl rfl) ?_
 rintro _ _ _ ⟨b1, rfl, rfl, rfl⟩
 refine wA (.bool false) rfl rfl <| wQ rfl <| wM v0_l rfl rfl <| w_d rfl (d_makeFunc (fs := []) (cs := [.pointer (some ⟨b1, 0, none⟩)]) rfl rfl) ?_
 obtain ⟨y2, hy3, he⟩ := bs he
 refine w_d rfl (call_d (o_call co43 (vs := [v0_l, .func (.func 44) #[] #[.pointer (some ⟨b1, 0, none⟩)]]) rfl (slices_ContainsFunc_int64_int64_best_bounded_1.calls k hy3 h0_l.th (lies_own .here)))) <| w_d rfl (d_not (b := y2) rfl) <| wA (.bool (!y2)) rfl rfl <| w_done ?_
 obtain rfl := sj he
 refine w_return fn_30 rs_30 (.tmp (v := .bool (!y2)) rfl .nil) <| ⟨⟨[_], rfl⟩, hle, rfl⟩
noncomputable def best_under.C : Code := (Tryd.f31.body).getD .skip
def best_under.out (r : Bool) (H : Hp) (v : Value) : Prop := v = .bool r
abbrev best_under.R (H0 : Hp) (L : Items) (r : Bool) := fR H0 L (best_under.out r)
structure best_under.Hs where
 l0 : (List Int) → (List (List Int)) → Int → Bool → (List Int) → Int → Int → Option Bool
 l1 : (List Int) → (List (List Int)) → Int → Bool → Int → Int → (List Int) → Int → Int → (List Int) → Int → Int → Option Bool
noncomputable def best_under.b0 (k : Nat) (h : best_under.Hs)  (plots : List Int) (c_0 : List (List Int)) (c_1 : Int) (t6 : Bool) (t12 : List Int) (t13 : Int) (t14 : Int) : Option Bool := if t14 < t13 then (if (0 : Int) ≤ t14 ∧ t14 < (t12.length : Int) then (h.l1 plots c_0 c_1 t6 t14 (rd t12 t14) t12 t13 t14 plots (plots.length : Int) 0) else none) else (some (true))
noncomputable def best_under.b1 (k : Nat) (h : best_under.Hs)  (plots : List Int) (c_0 : List (List Int)) (c_1 : Int) (t6 : Bool) (t : Int) (u : Int) (t12 : List Int) (t13 : Int) (t14 : Int) (t19 : List Int) (t20 : Int) (t21 : Int) : Option Bool := if t21 < t20 then (if (0 : Int) ≤ t21 ∧ t21 < (t19.length : Int) then (if (0 : Int) ≤ t ∧ t < (c_0.length : Int) then (if (0 : Int) ≤ t21 ∧ t21 < ((rd c_0 t).length : Int) then (if ((decide (0 ≤ (rd (rd c_0 t) t21))) && (decide ((w64 ((rd (rd c_0 t) t21) - (rd t19 t21))) < u))) = true then (some (false)) else (h.l1 plots c_0 c_1 t6 t u t12 t13 t14 t19 t20 (w64 (t21 + 1)))) else none) else none) else none) else (h.l0 plots c_0 c_1 t6 t12 t13 (w64 (t14 + 1)))
noncomputable def best_under.hs : Nat → best_under.Hs
 | 0 => ⟨fun _ _ _ _ _ _ _ => none, fun _ _ _ _ _ _ _ _ _ _ _ _ => none⟩
 | k + 1 => ⟨fun x0 x1 x2 x3 x4 x5 x6 => best_under.b0 k (best_under.hs k) x0 x1 x2 x3 x4 x5 x6, fun x0 x1 x2 x3 x4 x5 x6 x7 x8 x9 x10 x11 => best_under.b1 k (best_under.hs k) x0 x1 x2 x3 x4 x5 x6 x7 x8 x9 x10 x11⟩
noncomputable def best_under.f (k : Nat) (c_ : cost_Costs) (tracks : List Int) (plots : List Int) : Option Bool := (fun h : best_under.Hs => h.l0 plots c_.f_Rows c_.f_Miss false tracks (tracks.length : Int) 0) (best_under.hs k)
structure best_under.LE (h h' : best_under.Hs) : Prop where
 l0 : ∀ y0 y1 y2 y3 y4 y5 y6, LeO (h.l0 y0 y1 y2 y3 y4 y5 y6) (h'.l0 y0 y1 y2 y3 y4 y5 y6)
 l1 : ∀ y0 y1 y2 y3 y4 y5 y6 y7 y8 y9 y10 y11, LeO (h.l1 y0 y1 y2 y3 y4 y5 y6 y7 y8 y9 y10 y11) (h'.l1 y0 y1 y2 y3 y4 y5 y6 y7 y8 y9 y10 y11)
theorem best_under.b0_mono {k : Nat} {h h' : best_under.Hs} (hl : best_under.LE h h') : ∀ y0 y1 y2 y3 y4 y5 y6, LeO (best_under.b0 k h y0 y1 y2 y3 y4 y5 y6) (best_under.b0 (k + 1) h' y0 y1 y2 y3 y4 y5 y6) := fun _ _ _ _ _ _ _ => (LeO.ite (LeO.ite (hl.l1 _ _ _ _ _ _ _ _ _ _ _ _) (LeO.refl _)) (LeO.refl _))
theorem best_under.b1_mono {k : Nat} {h h' : best_under.Hs} (hl : best_under.LE h h') : ∀ y0 y1 y2 y3 y4 y5 y6 y7 y8 y9 y10 y11, LeO (best_under.b1 k h y0 y1 y2 y3 y4 y5 y6 y7 y8 y9 y10 y11) (best_under.b1 (k + 1) h' y0 y1 y2 y3 y4 y5 y6 y7 y8 y9 y10 y11) := fun _ _ _ _ _ _ _ _ _ _ _ _ => (LeO.ite (LeO.ite (LeO.ite (LeO.ite (LeO.ite (LeO.refl _) (hl.l1 _ _ _ _ _ _ _ _ _ _ _ _)) (LeO.refl _)) (LeO.refl _)) (LeO.refl _)) (hl.l0 _ _ _ _ _ _ _))
theorem best_under.hs_mono : ∀ k, best_under.LE (best_under.hs k) (best_under.hs (k + 1))
 | 0 => ⟨fun _ _ _ _ _ _ _ => LeO.none _, fun _ _ _ _ _ _ _ _ _ _ _ _ => LeO.none _⟩
 | k + 1 => ⟨best_under.b0_mono (k := k) (best_under.hs_mono k), best_under.b1_mono (k := k) (best_under.hs_mono k)⟩
theorem best_under.mono : ∀ k y0 y1 y2, LeO (best_under.f k y0 y1 y2) (best_under.f (k + 1) y0 y1 y2) := fun k _ _ _ => have hl := best_under.hs_mono k; by unfold best_under.f; exact (hl.l0 _ _ _ _ _ _ _)
noncomputable def best_under.Kl0 : List Item := .code (lopB (blkB (seqR (seqL (seqR best_under.C))))) :: .inLoop (lopB (blkB (seqR (seqL (seqR best_under.C))))) :: .inBlock 0 :: .code (seqR (seqR best_under.C)) :: []
noncomputable def best_under.Kl1 : List Item := .code (lopB (blkB (seqR (seqR (blkB (seqL (seqR (seqR (lopB (blkB (seqR (seqL (seqR best_under.C))))))))))))) :: .inLoop (lopB (blkB (seqR (seqR (blkB (seqL (seqR (seqR (lopB (blkB (seqR (seqL (seqR best_under.C))))))))))))) :: .inBlock 2 :: .inBlock 1 :: .code (seqR (seqR (seqR (lopB (blkB (seqR (seqL (seqR best_under.C)))))))) :: .inLoop (lopB (blkB (seqR (seqL (seqR best_under.C))))) :: .inBlock 0 :: .code (seqR (seqR best_under.C)) :: []
structure best_under.OK (h : best_under.Hs) : Prop where
 l0 : ∀ {H0 H : Hp} {L : Items} {r : Bool} {jk_ : Nat → Value} {plots : List Int} {c_0 : List (List Int)} {c_1 : Int} {t6 : Bool} {t12 : List Int} {t13 : Int} {t14 : Int} {v_plots : Value} {v_c_0 : Value} {v_t12 : Value} {b_c_ : Nat} (_ : H0.le H) (_he : h.l0 plots c_0 c_1 t6 t12 t13 t14 = some r) (_h_plots : Src kI64 H L v_plots plots) (_h_c_0 : Ro (Kd.slice kI64) H v_c_0 c_0) (_h_t12 : Src kI64 H L v_t12 t12), Wp Tryd.prog 31 45 best_under.Kl0 (upd (upd (upd (upd (upd (upd jk_ 2 (v_plots)) 3 (.pointer (some ⟨b_c_, 0, none⟩))) 6 (.bool t6)) 12 (v_t12)) 13 (.int .i64 t13)) 14 (.int .i64 t14)) H (some (b_c_, .cells ⟨[v_c_0, .int .i64 c_1]⟩ 37 (0, 0)) :: L) (best_under.R H0 L r)
 l1 : ∀ {H0 H : Hp} {L : Items} {r : Bool} {jk_ : Nat → Value} {plots : List Int} {c_0 : List (List Int)} {c_1 : Int} {t6 : Bool} {t : Int} {u : Int} {t12 : List Int} {t13 : Int} {t14 : Int} {t19 : List Int} {t20 : Int} {t21 : Int} {v_plots : Value} {v_c_0 : Value} {v_t12 : Value} {v_t19 : Value} {b_c_ : Nat} (_ : H0.le H) (_he : h.l1 plots c_0 c_1 t6 t u t12 t13 t14 t19 t20 t21 = some r) (_h_plots : Src kI64 H L v_plots plots) (_h_c_0 : Ro (Kd.slice kI64) H v_c_0 c_0) (_h_t12 : Src kI64 H L v_t12 t12) (_h_t19 : Src kI64 H L v_t19 t19), Wp Tryd.prog 31 45 best_under.Kl1 (upd (upd (upd (upd (upd (upd (upd (upd (upd (upd (upd jk_ 2 (v_plots)) 3 (.pointer (some ⟨b_c_, 0, none⟩))) 6 (.bool t6)) 7 (.int .i64 t)) 8 (.int .i64 u)) 12 (v_t12)) 13 (.int .i64 t13)) 14 (.int .i64 t14)) 19 (v_t19)) 20 (.int .i64 t20)) 21 (.int .i64 t21)) H (some (b_c_, .cells ⟨[v_c_0, .int .i64 c_1]⟩ 37 (0, 0)) :: L) (best_under.R H0 L r)
theorem best_under.b0_ok {k : Nat} {h : best_under.Hs} (hh : best_under.OK h) {H0 H : Hp} {L : Items} {r : Bool} {jk_ : Nat → Value} {plots : List Int} {c_0 : List (List Int)} {c_1 : Int} {t6 : Bool} {t12 : List Int} {t13 : Int} {t14 : Int} {v_plots : Value} {v_c_0 : Value} {v_t12 : Value} {b_c_ : Nat} (hle : H0.le H) (he : best_under.b0 k h plots c_0 c_1 t6 t12 t13 t14 = some r) (h_plots : Src kI64 H L v_plots plots) (h_c_0 : Ro (Kd.slice kI64) H v_c_0 c_0) (h_t12 : Src kI64 H L v_t12 t12) : Wp Tryd.prog 31 45 best_under.Kl0 (upd (upd (upd (upd (upd (upd jk_ 2 (v_plots)) 3 (.pointer (some ⟨b_c_, 0, none⟩))) 6 (.bool t6)) 12 (v_t12)) 13 (.int .i64 t13)) 14 (.int .i64 t14)) H (some (b_c_, .cells ⟨[v_c_0, .int .i64 c_1]⟩ 37 (0, 0)) :: L) (best_under.R H0 L r) := by
 unfold best_under.b0 at he
 unfold best_under.Kl0
 refine wR rfl <| w_d rfl (d_lss rfl rfl) <| wE ?_
 rcases its he with ⟨c2, he⟩ | ⟨c2, he⟩
 ·
  refine w_then rfl (dt c2) <| w_skip <| w_seq <| w_block <| wR rfl <| wM (.int .i64 t14) rfl rfl ?_
  obtain ⟨c3, he⟩ := rq he
  refine w_d rfl (d_index (sz := 1) Tryd.underlying32 sz2 rfl h_t12.th rfl c3) <| w_d rfl (d_ldint ty2 rfl h_t12.th c3) <| wA (.int .i64 t14) rfl rfl <| wA (.int .i64 (rd t12 t14)) rfl rfl <| wQ rfl <| wM v_plots rfl rfl <| w_d rfl (d_len Tryd.underlying32 rfl h_plots.th) <| wM (.int .i64 0) rfl rfl <| w_done <| w_block ?_
  refine w_loop <| w_sl 2 (v_plots) rfl <| w_sl 3 (.pointer (some ⟨b_c_, 0, none⟩)) rfl <| w_sl 6 (.bool t6) rfl <| w_sl 7 (.int .i64 t14) rfl <| w_sl 8 (.int .i64 (rd t12 t14)) rfl <| w_sl 12 (v_t12) rfl <| w_sl 13 (.int .i64 t13) rfl <| w_sl 14 (.int .i64 t14) rfl <| w_sl 19 (v_plots) rfl <| w_sl 20 (.int .i64 (plots.length : Int)) rfl <| w_sl 21 (.int .i64 0) rfl <| hh.l1 hle he h_plots h_c_0 h_t12 h_plots
 ·
  refine w_else rfl (df c2) <| w_exit rfl <| wR rfl <| wA (.bool true) rfl rfl <| w_done ?_
  obtain rfl := sj he
  refine w_return fn_31 rs_31 (.tmp (v := .bool true) rfl .nil) <| ⟨⟨[_], rfl⟩, hle, rfl⟩
theorem best_under.b1_ok {k : Nat} {h : best_under.Hs} (hh : best_under.OK h) {H0 H : Hp} {L : Items} {r : Bool} {jk_ : Nat → Value} {plots : List Int} {c_0 : List (List Int)} {c_1 : Int} {t6 : Bool} {t : Int} {u : Int} {t12 : List Int} {t13 : Int} {t14 : Int} {t19 : List Int} {t20 : Int} {t21 : Int} {v_plots : Value} {v_c_0 : Value} {v_t12 : Value} {v_t19 : Value} {b_c_ : Nat} (hle : H0.le H) (he : best_under.b1 k h plots c_0 c_1 t6 t u t12 t13 t14 t19 t20 t21 = some r) (h_plots : Src kI64 H L v_plots plots) (h_c_0 : Ro (Kd.slice kI64) H v_c_0 c_0) (h_t12 : Src kI64 H L v_t12 t12) (h_t19 : Src kI64 H L v_t19 t19) : Wp Tryd.prog 31 45 best_under.Kl1 (upd (upd (upd (upd (upd (upd (upd (upd (upd (upd (upd jk_ 2 (v_plots)) 3 (.pointer (some ⟨b_c_, 0, none⟩))) 6 (.bool t6)) 7 (.int .i64 t)) 8 (.int .i64 u)) 12 (v_t12)) 13 (.int .i64 t13)) 14 (.int .i64 t14)) 19 (v_t19)) 20 (.int .i64 t20)) 21 (.int .i64 t21)) H (some (b_c_, .cells ⟨[v_c_0, .int .i64 c_1]⟩ 37 (0, 0)) :: L) (best_under.R H0 L r) := by
 unfold best_under.b1 at he
 unfold best_under.Kl1
 refine wR rfl <| w_d rfl (d_lss rfl rfl) <| wE ?_
 rcases its he with ⟨c4, he⟩ | ⟨c4, he⟩
 ·
  refine w_then rfl (dt c4) <| w_skip <| w_seq <| w_block <| wR rfl <| wM (.int .i64 t21) rfl rfl ?_
  obtain ⟨c5, he⟩ := rq he
  refine w_d rfl (d_index (sz := 1) Tryd.underlying32 sz2 rfl h_t19.th rfl c5) <| w_d rfl (d_ldint ty2 rfl h_t19.th c5) <| wA (.int .i64 t21) rfl rfl <| wA (.int .i64 (rd t19 t21)) rfl rfl <| wQ rfl <| w_d rfl (d_fld (o' := 0) Tryd.underlying37 rfl sz22 rfl rfl rfl) <| wL v_c_0 ty22 rfl rfl .here rfl rfl <| wM (.int .i64 t) rfl rfl ?_
  obtain ⟨c6, he⟩ := rq he
  refine w_d rfl (d_index (sz := 1) Tryd.underlying22 sz32 rfl h_c_0.src rfl c6) ?_
  obtain ⟨_, l7, r8⟩ := el_ro (kd := (Kd.slice kI64)) h_c_0 c6
  obtain ⟨v9, rfl, h10⟩ := r8
  refine w_d rfl (d_load (v := v9) (cs := [v9]) ty32 rfl rfl (by decide) (l7).lies rfl) <| wM (.int .i64 t21) rfl rfl ?_
  obtain ⟨c11, he⟩ := rq he
  refine w_d rfl (d_index (sz := 1) Tryd.underlying32 sz2 rfl h10.src rfl c11) <| w_d rfl (d_ldint ty2 rfl h10.src c11) <| wA (.int .i64 (rd (rd c_0 t) t21)) rfl rfl <| wQ rfl <| wM (.int .i64 (rd (rd c_0 t) t21)) rfl rfl <| w_d rfl (d_geq rfl rfl) <| wM (.bool (decide (0 ≤ (rd (rd c_0 t) t21)))) rfl rfl <| w_g (g := decide (0 ≤ (rd (rd c_0 t) t21))) rfl rfl rfl wn_t (fun g12 => d_move (v := .int .i64 u) rfl) <| w_g (g := decide (0 ≤ (rd (rd c_0 t) t21))) rfl rfl rfl wn_t (fun g13 => d_move (v := .int .i64 (rd (rd c_0 t) t21)) rfl) <| w_g (g := decide (0 ≤ (rd (rd c_0 t) t21))) rfl rfl rfl wn_t (fun g14 => d_move (v := .int .i64 (rd t19 t21)) rfl) ?_
  refine w_g (g := decide (0 ≤ (rd (rd c_0 t) t21))) rfl rfl rfl wn_t (fun g15 => d_sub (c := w64 ((rd (rd c_0 t) t21) - (rd t19 t21))) (cvt g15) (cvt g15) rfl) <| w_g (g := decide (0 ≤ (rd (rd c_0 t) t21))) rfl rfl rfl wn_t (fun g16 => d_gtr (cvt g16) (cvt g16)) <| w_d rfl (d_and' (b := (decide (0 ≤ (rd (rd c_0 t) t21)))) (p := (decide ((w64 ((rd (rd c_0 t) t21) - (rd t19 t21))) < u))) rfl rfl rfl) <| w_done ?_
  rcases its he with ⟨c17, he⟩ | ⟨c17, he⟩
  ·
   refine w_then rfl c17 <| wR rfl <| wA (.bool false) rfl rfl <| w_done ?_
   obtain rfl := sj he
   refine w_return fn_31 rs_31 (.tmp (v := .bool false) rfl .nil) <| ⟨⟨[_], rfl⟩, hle, rfl⟩
  ·
   refine w_else rfl (Bool.eq_false_iff.2 c17) <| w_skip <| w_inBlock <| w_region rfl <| w_d rfl (d_add (c := w64 (t21 + 1)) rfl rfl rfl) <| wM (.int .i64 (w64 (t21 + 1))) rfl rfl <| w_done <| w_inLoop <| w_sl 2 (v_plots) rfl <| w_sl 3 (.pointer (some ⟨b_c_, 0, none⟩)) rfl <| w_sl 6 (.bool t6) rfl <| w_sl 7 (.int .i64 t) rfl ?_
   refine w_sl 8 (.int .i64 u) rfl <| w_sl 12 (v_t12) rfl <| w_sl 13 (.int .i64 t13) rfl <| w_sl 14 (.int .i64 t14) rfl <| w_sl 19 (v_t19) rfl <| w_sl 20 (.int .i64 t20) rfl <| w_sl 21 (.int .i64 (w64 (t21 + 1))) rfl <| hh.l1 hle he h_plots h_c_0 h_t12 h_t19
 ·
  refine w_else rfl (df c4) <| w_exit rfl <| w_inBlock <| w_region rfl <| w_d rfl (d_add (c := w64 (t14 + 1)) rfl rfl rfl) <| wM (.int .i64 (w64 (t14 + 1))) rfl rfl <| w_done <| w_inLoop <| w_sl 2 (v_plots) rfl <| w_sl 3 (.pointer (some ⟨b_c_, 0, none⟩)) rfl <| w_sl 6 (.bool t6) rfl <| w_sl 12 (v_t12) rfl ?_
  refine w_sl 13 (.int .i64 t13) rfl <| w_sl 14 (.int .i64 (w64 (t14 + 1))) rfl <| hh.l0 hle he h_plots h_c_0 h_t12
theorem best_under.ok : ∀ k, best_under.OK (best_under.hs k)
 | 0 => ⟨(by intros; exact nomatch (show none = some _ from by assumption)), (by intros; exact nomatch (show none = some _ from by assumption))⟩
 | k + 1 => ⟨best_under.b0_ok (k := k) (best_under.ok k), best_under.b1_ok (k := k) (best_under.ok k)⟩
theorem best_under.calls (k : Nat) {H : Hp} {L : Items} {c_ : cost_Costs} {tracks : List Int} {plots : List Int} {v0_c_ : Value} {v1_tracks : Value} {v2_plots : Value} {r : Bool} (he : best_under.f k c_ tracks plots = some r) (h0_c_ : Ro (Kd.slice kI64) H v0_c_ c_.f_Rows) (h1_tracks : Src kI64 H L v1_tracks tracks) (h2_plots : Src kI64 H L v2_plots plots) : Ct Tryd.prog 31 ⟨[.agg ⟨[v0_c_, .int .i64 c_.f_Miss]⟩, v1_tracks, v2_plots]⟩ H L (fun v H' L' => L = L' ∧ H = H' ∧ v = .bool r) := by
 refine ct_outs (O := best_under.out r) (fun _ _ h => h) ?_
 have hle : H.le H := .refl _
 have hh := best_under.ok k
 unfold best_under.f at he
 refine ct_enter (args := [.agg ⟨[v0_c_, .int .i64 c_.f_Miss]⟩, v1_tracks, v2_plots]) fn_31 rfl nt_31 rfl <| wR rfl <| w_a rfl (o_box (v := .agg ⟨[v0_c_, .int .i64 c_.f_Miss]⟩) rfl rfl) ?_
 rintro _ _ _ ⟨b1, rfl, rfl, rfl⟩
 refine wA (.bool false) rfl rfl <| wE <| wR rfl <| wM v1_tracks rfl rfl <| w_d rfl (d_len Tryd.underlying32 rfl h1_tracks.th) <| wM (.int .i64 0) rfl rfl <| w_done <| w_block <| w_loop <| w_sl 2 (v2_plots) rfl ?_
 refine w_sl 3 (.pointer (some ⟨b1, 0, none⟩)) rfl <| w_sl 6 (.bool false) rfl <| w_sl 12 (v1_tracks) rfl <| w_sl 13 (.int .i64 (tracks.length : Int)) rfl <| w_sl 14 (.int .i64 0) rfl <| hh.l0 hle he h2_plots h0_c_ h1_tracks
noncomputable def best_Shows.C : Code := (Tryd.f18.body).getD .skip
def best_Shows.out (r : Bool × (Option Int)) (H : Hp) (v : Value) : Prop := v = .tuple ⟨[.bool r.1, errV 51 r.2]⟩
abbrev best_Shows.R (H0 : Hp) (L : Items) (r : Bool × (Option Int)) := fR H0 L (best_Shows.out r)
structure best_Shows.Hs where
 l0 : (List Int) → Int → Int → (List Int) → Int → Int → Option (Bool × (Option Int))
 l1 : Int → Int → (List Int) → Int → Int → Option (Bool × (Option Int))
noncomputable def best_Shows.b0 (k : Nat) (h : best_Shows.Hs)  (plots : List Int) (total : Int) (sum : Int) (t59 : List Int) (t60 : Int) (t61 : Int) : Option (Bool × (Option Int)) := if t61 < t60 then (if (0 : Int) ≤ t61 ∧ t61 < (t59.length : Int) then (h.l0 plots total (w64 (sum + (rd t59 t61))) t59 t60 (w64 (t61 + 1))) else none) else (h.l1 total sum plots (plots.length : Int) 0)
noncomputable def best_Shows.b1 (k : Nat) (h : best_Shows.Hs)  (total : Int) (sum : Int) (t69 : List Int) (t70 : Int) (t71 : Int) : Option (Bool × (Option Int)) := if t71 < t70 then (if (0 : Int) ≤ t71 ∧ t71 < (t69.length : Int) then (h.l1 total (w64 (sum + (rd t69 t71))) t69 t70 (w64 (t71 + 1))) else none) else (some (decide (sum = total), none))
noncomputable def best_Shows.hs : Nat → best_Shows.Hs
 | 0 => ⟨fun _ _ _ _ _ _ => none, fun _ _ _ _ _ => none⟩
 | k + 1 => ⟨fun x0 x1 x2 x3 x4 x5 => best_Shows.b0 k (best_Shows.hs k) x0 x1 x2 x3 x4 x5, fun x0 x1 x2 x3 x4 => best_Shows.b1 k (best_Shows.hs k) x0 x1 x2 x3 x4⟩
noncomputable def best_Shows.f (k : Nat) (c_ : cost_Costs) (tracks : List Int) (plots : List Int) (total : Int) : Option (Bool × (Option Int)) := (fun h : best_Shows.Hs => (cost_Check.f k c_).bind fun y2 => if y2.isSome = true then (some (false, y2)) else ((best_begun.f k c_).bind fun y7 => (gd (!((!decide ((tracks.length : Int) = y7.f_tracks)) || (!decide ((plots.length : Int) = y7.f_plots)))) (best_bounded.f k tracks c_.f_Miss) (false)).bind fun y34 => (gd (!(((!decide ((tracks.length : Int) = y7.f_tracks)) || (!decide ((plots.length : Int) = y7.f_plots))) || (!y34))) (best_bounded.f k plots 0) (false)).bind fun y41 => (gd (!((((!decide ((tracks.length : Int) = y7.f_tracks)) || (!decide ((plots.length : Int) = y7.f_plots))) || (!y34)) || (!y41))) (best_under.f k c_ tracks plots) (false)).bind fun y50 => if (((((!decide ((tracks.length : Int) = y7.f_tracks)) || (!decide ((plots.length : Int) = y7.f_plots))) || (!y34)) || (!y41)) || (!y50)) = true then (some (false, none)) else (h.l0 plots total 0 tracks (tracks.length : Int) 0))) (best_Shows.hs k)
structure best_Shows.LE (h h' : best_Shows.Hs) : Prop where
 l0 : ∀ y0 y1 y2 y3 y4 y5, LeO (h.l0 y0 y1 y2 y3 y4 y5) (h'.l0 y0 y1 y2 y3 y4 y5)
 l1 : ∀ y0 y1 y2 y3 y4, LeO (h.l1 y0 y1 y2 y3 y4) (h'.l1 y0 y1 y2 y3 y4)
theorem best_Shows.b0_mono {k : Nat} {h h' : best_Shows.Hs} (hl : best_Shows.LE h h') : ∀ y0 y1 y2 y3 y4 y5, LeO (best_Shows.b0 k h y0 y1 y2 y3 y4 y5) (best_Shows.b0 (k + 1) h' y0 y1 y2 y3 y4 y5) := fun _ _ _ _ _ _ => (LeO.ite (LeO.ite (hl.l0 _ _ _ _ _ _) (LeO.refl _)) (hl.l1 _ _ _ _ _))
theorem best_Shows.b1_mono {k : Nat} {h h' : best_Shows.Hs} (hl : best_Shows.LE h h') : ∀ y0 y1 y2 y3 y4, LeO (best_Shows.b1 k h y0 y1 y2 y3 y4) (best_Shows.b1 (k + 1) h' y0 y1 y2 y3 y4) := fun _ _ _ _ _ => (LeO.ite (LeO.ite (hl.l1 _ _ _ _ _) (LeO.refl _)) (LeO.refl _))
theorem best_Shows.hs_mono : ∀ k, best_Shows.LE (best_Shows.hs k) (best_Shows.hs (k + 1))
 | 0 => ⟨fun _ _ _ _ _ _ => LeO.none _, fun _ _ _ _ _ => LeO.none _⟩
 | k + 1 => ⟨best_Shows.b0_mono (k := k) (best_Shows.hs_mono k), best_Shows.b1_mono (k := k) (best_Shows.hs_mono k)⟩
theorem best_Shows.mono : ∀ k y0 y1 y2 y3, LeO (best_Shows.f k y0 y1 y2 y3) (best_Shows.f (k + 1) y0 y1 y2 y3) := fun k _ _ _ _ => have hl := best_Shows.hs_mono k; by unfold best_Shows.f; exact (LeO.bind (cost_Check.mono k _) fun _ => LeO.ite (LeO.refl _) (LeO.bind (best_begun.mono k _) fun _ => LeO.bind (LeO.gd (best_bounded.mono k _ _)) fun _ => LeO.bind (LeO.gd (best_bounded.mono k _ _)) fun _ => LeO.bind (LeO.gd (best_under.mono k _ _ _)) fun _ => LeO.ite (LeO.refl _) (hl.l0 _ _ _ _ _ _)))
noncomputable def best_Shows.Kl0 : List Item := .code (lopB (blkB (seqR (seqL (seqR (seqR (seqR (seqR (seqR best_Shows.C))))))))) :: .inLoop (lopB (blkB (seqR (seqL (seqR (seqR (seqR (seqR (seqR best_Shows.C))))))))) :: .inBlock 0 :: .code (seqR (seqR (seqR (seqR (seqR (seqR best_Shows.C)))))) :: []
noncomputable def best_Shows.Kl1 : List Item := .code (lopB (blkB (seqR (seqL (seqR (seqR (seqR (seqR (seqR (seqR best_Shows.C)))))))))) :: .inLoop (lopB (blkB (seqR (seqL (seqR (seqR (seqR (seqR (seqR (seqR best_Shows.C)))))))))) :: .inBlock 2 :: .code (seqR (seqR (seqR (seqR (seqR (seqR (seqR best_Shows.C))))))) :: []
structure best_Shows.OK (h : best_Shows.Hs) : Prop where
 l0 : ∀ {H0 H : Hp} {L : Items} {r : Bool × (Option Int)} {jk_ : Nat → Value} {plots : List Int} {total : Int} {sum : Int} {t59 : List Int} {t60 : Int} {t61 : Int} {v_plots : Value} {v_t59 : Value} (_ : H0.le H) (_he : h.l0 plots total sum t59 t60 t61 = some r) (_h_plots : Src kI64 H L v_plots plots) (_h_t59 : Src kI64 H L v_t59 t59), Wp Tryd.prog 18 82 best_Shows.Kl0 (upd (upd (upd (upd (upd (upd (upd (upd jk_ 2 (v_plots)) 3 (.int .i64 total)) 8 (.bool false)) 9 (errV 51 none)) 12 (.int .i64 sum)) 59 (v_t59)) 60 (.int .i64 t60)) 61 (.int .i64 t61)) H (L) (best_Shows.R H0 L r)
 l1 : ∀ {H0 H : Hp} {L : Items} {r : Bool × (Option Int)} {jk_ : Nat → Value} {total : Int} {sum : Int} {t69 : List Int} {t70 : Int} {t71 : Int} {v_t69 : Value} (_ : H0.le H) (_he : h.l1 total sum t69 t70 t71 = some r) (_h_t69 : Src kI64 H L v_t69 t69), Wp Tryd.prog 18 82 best_Shows.Kl1 (upd (upd (upd (upd (upd (upd (upd jk_ 3 (.int .i64 total)) 8 (.bool false)) 9 (errV 51 none)) 12 (.int .i64 sum)) 69 (v_t69)) 70 (.int .i64 t70)) 71 (.int .i64 t71)) H (L) (best_Shows.R H0 L r)
theorem best_Shows.b0_ok {k : Nat} {h : best_Shows.Hs} (hh : best_Shows.OK h) {H0 H : Hp} {L : Items} {r : Bool × (Option Int)} {jk_ : Nat → Value} {plots : List Int} {total : Int} {sum : Int} {t59 : List Int} {t60 : Int} {t61 : Int} {v_plots : Value} {v_t59 : Value} (hle : H0.le H) (he : best_Shows.b0 k h plots total sum t59 t60 t61 = some r) (h_plots : Src kI64 H L v_plots plots) (h_t59 : Src kI64 H L v_t59 t59) : Wp Tryd.prog 18 82 best_Shows.Kl0 (upd (upd (upd (upd (upd (upd (upd (upd jk_ 2 (v_plots)) 3 (.int .i64 total)) 8 (.bool false)) 9 (errV 51 none)) 12 (.int .i64 sum)) 59 (v_t59)) 60 (.int .i64 t60)) 61 (.int .i64 t61)) H (L) (best_Shows.R H0 L r) := by
 unfold best_Shows.b0 at he
 unfold best_Shows.Kl0
 refine wR rfl <| w_d rfl (d_lss rfl rfl) <| wE ?_
 rcases its he with ⟨c56, he⟩ | ⟨c56, he⟩
 ·
  refine w_then rfl (dt c56) <| w_skip <| w_seq <| w_block <| wR rfl ?_
  obtain ⟨c57, he⟩ := rq he
  refine w_d rfl (d_index (sz := 1) Tryd.underlying32 sz2 rfl h_t59 rfl c57) <| w_d rfl (d_ldint ty2 rfl h_t59 c57) <| wA (.int .i64 (rd t59 t61)) rfl rfl <| w_done <| w_region rfl <| wM (.int .i64 sum) rfl rfl <| wM (.int .i64 (rd t59 t61)) rfl rfl <| w_d rfl (d_add (c := w64 (sum + (rd t59 t61))) rfl rfl rfl) <| wA (.int .i64 (w64 (sum + (rd t59 t61)))) rfl rfl <| w_done <| w_inBlock <| w_region rfl ?_
  refine w_d rfl (d_add (c := w64 (t61 + 1)) rfl rfl rfl) <| wM (.int .i64 (w64 (t61 + 1))) rfl rfl <| w_done <| w_inLoop <| w_sl 2 (v_plots) rfl <| w_sl 3 (.int .i64 total) rfl <| w_sl 8 (.bool false) rfl <| w_sl 9 (errV 51 none) rfl <| w_sl 12 (.int .i64 (w64 (sum + (rd t59 t61)))) rfl <| w_sl 59 (v_t59) rfl <| w_sl 60 (.int .i64 t60) rfl <| w_sl 61 (.int .i64 (w64 (t61 + 1))) rfl <| hh.l0 hle he h_plots h_t59
 ·
  refine w_else rfl (df c56) <| w_exit rfl <| w_seq <| wR rfl <| wM v_plots rfl rfl <| w_d rfl (d_len Tryd.underlying32 rfl h_plots) <| wM (.int .i64 0) rfl rfl <| w_done <| w_block <| w_loop <| w_sl 3 (.int .i64 total) rfl ?_
  refine w_sl 8 (.bool false) rfl <| w_sl 9 (errV 51 none) rfl <| w_sl 12 (.int .i64 sum) rfl <| w_sl 69 (v_plots) rfl <| w_sl 70 (.int .i64 (plots.length : Int)) rfl <| w_sl 71 (.int .i64 0) rfl <| hh.l1 hle he h_plots
theorem best_Shows.b1_ok {k : Nat} {h : best_Shows.Hs} (hh : best_Shows.OK h) {H0 H : Hp} {L : Items} {r : Bool × (Option Int)} {jk_ : Nat → Value} {total : Int} {sum : Int} {t69 : List Int} {t70 : Int} {t71 : Int} {v_t69 : Value} (hle : H0.le H) (he : best_Shows.b1 k h total sum t69 t70 t71 = some r) (h_t69 : Src kI64 H L v_t69 t69) : Wp Tryd.prog 18 82 best_Shows.Kl1 (upd (upd (upd (upd (upd (upd (upd jk_ 3 (.int .i64 total)) 8 (.bool false)) 9 (errV 51 none)) 12 (.int .i64 sum)) 69 (v_t69)) 70 (.int .i64 t70)) 71 (.int .i64 t71)) H (L) (best_Shows.R H0 L r) := by
 unfold best_Shows.b1 at he
 unfold best_Shows.Kl1
 refine wR rfl <| w_d rfl (d_lss rfl rfl) <| wE ?_
 rcases its he with ⟨c58, he⟩ | ⟨c58, he⟩
 ·
  refine w_then rfl (dt c58) <| w_skip <| w_seq <| w_block <| wR rfl ?_
  obtain ⟨c59, he⟩ := rq he
  refine w_d rfl (d_index (sz := 1) Tryd.underlying32 sz2 rfl h_t69 rfl c59) <| w_d rfl (d_ldint ty2 rfl h_t69 c59) <| wA (.int .i64 (rd t69 t71)) rfl rfl <| w_done <| w_region rfl <| wM (.int .i64 sum) rfl rfl <| wM (.int .i64 (rd t69 t71)) rfl rfl <| w_d rfl (d_add (c := w64 (sum + (rd t69 t71))) rfl rfl rfl) <| wA (.int .i64 (w64 (sum + (rd t69 t71)))) rfl rfl <| w_done <| w_inBlock <| w_region rfl ?_
  refine w_d rfl (d_add (c := w64 (t71 + 1)) rfl rfl rfl) <| wM (.int .i64 (w64 (t71 + 1))) rfl rfl <| w_done <| w_inLoop <| w_sl 3 (.int .i64 total) rfl <| w_sl 8 (.bool false) rfl <| w_sl 9 (errV 51 none) rfl <| w_sl 12 (.int .i64 (w64 (sum + (rd t69 t71)))) rfl <| w_sl 69 (v_t69) rfl <| w_sl 70 (.int .i64 t70) rfl <| w_sl 71 (.int .i64 (w64 (t71 + 1))) rfl <| hh.l1 hle he h_t69
 ·
  refine w_else rfl (df c58) <| w_exit rfl <| wR rfl <| wM (.int .i64 sum) rfl rfl <| wM (.int .i64 total) rfl rfl <| w_d rfl (d_eql rfl rfl) <| wA (.bool (decide (sum = total))) rfl rfl <| wA (errV 51 none) rfl rfl <| w_done ?_
  obtain rfl := sj he
  refine w_return fn_18 rs_18 (.tmp (v := .bool (decide (sum = total))) rfl (.tmp (v := errV 51 none) rfl .nil)) <| ⟨⟨[], rfl⟩, hle, rfl⟩
theorem best_Shows.ok : ∀ k, best_Shows.OK (best_Shows.hs k)
 | 0 => ⟨(by intros; exact nomatch (show none = some _ from by assumption)), (by intros; exact nomatch (show none = some _ from by assumption))⟩
 | k + 1 => ⟨best_Shows.b0_ok (k := k) (best_Shows.ok k), best_Shows.b1_ok (k := k) (best_Shows.ok k)⟩
theorem best_Shows.calls (k : Nat) {H : Hp} {L : Items} {c_ : cost_Costs} {tracks : List Int} {plots : List Int} {total : Int} {v0_c_ : Value} {v1_tracks : Value} {v2_plots : Value} {r : Bool × (Option Int)} (he : best_Shows.f k c_ tracks plots total = some r) (h0_c_ : Ro (Kd.slice kI64) H v0_c_ c_.f_Rows) (h1_tracks : Src kI64 H L v1_tracks tracks) (h2_plots : Src kI64 H L v2_plots plots) : Ct Tryd.prog 18 ⟨[.agg ⟨[v0_c_, .int .i64 c_.f_Miss]⟩, v1_tracks, v2_plots, .int .i64 total]⟩ H L (fun v H' L' => L = L' ∧ H = H' ∧ v = .tuple ⟨[.bool r.1, errV 51 r.2]⟩) := by
 refine ct_outs (O := best_Shows.out r) (fun _ _ h => h) ?_
 have hle : H.le H := .refl _
 have hh := best_Shows.ok k
 unfold best_Shows.f at he
 refine ct_enter (args := [.agg ⟨[v0_c_, .int .i64 c_.f_Miss]⟩, v1_tracks, v2_plots, .int .i64 total]) fn_18 rfl nt_18 rfl <| wR rfl <| w_a rfl (o_box (v := .agg ⟨[v0_c_, .int .i64 c_.f_Miss]⟩) rfl rfl) ?_
 rintro _ _ _ ⟨b1, rfl, rfl, rfl⟩
 refine wA (.bool false) rfl rfl <| wA (errV 51 none) rfl rfl <| wE <| wR rfl <| wL (.agg ⟨[v0_c_, .int .i64 c_.f_Miss]⟩) ty37 rfl rfl .here rfl rfl ?_
 obtain ⟨y2, hy3, he⟩ := bs he
 refine w_d rfl (call_d (o_call co21 (vs := [.agg ⟨[v0_c_, .int .i64 c_.f_Miss]⟩]) rfl (cost_Check.calls k (c_ := c_) hy3 h0_c_))) <| wA (errV 51 y2) rfl rfl <| wQ rfl <| wM (errV 51 y2) rfl rfl <| w_d rfl (d_nenil (e := y2) Tryd.underlying27 rfl) <| w_done ?_
 rcases its he with ⟨c6, he⟩ | ⟨c6, he⟩
 ·
  refine w_then rfl c6 <| wR rfl <| wM (errV 51 y2) rfl rfl <| wA (.bool false) rfl rfl <| wA (errV 51 y2) rfl rfl <| w_done ?_
  obtain rfl := sj he
  refine w_return fn_18 rs_18 (.tmp (v := .bool false) rfl (.tmp (v := errV 51 y2) rfl .nil)) <| ⟨⟨[_], rfl⟩, hle, rfl⟩
 ·
  refine w_else rfl (Bool.eq_false_iff.2 c6) <| w_skip <| wR rfl <| wL (.agg ⟨[v0_c_, .int .i64 c_.f_Miss]⟩) ty37 rfl rfl .here rfl rfl ?_
  obtain ⟨y7, hy8, he⟩ := bs he
  refine w_a rfl (o_call co29 (vs := [.agg ⟨[v0_c_, .int .i64 c_.f_Miss]⟩]) rfl (best_begun.calls k (c_ := c_) hy8 h0_c_)) ?_
  rintro _ H9 _ ⟨_, rfl, e10, ⟨b11, v12, v14, i15, v17, i18, v20, i21, rfl, rfl, h13, h16, h19, h22⟩⟩
  refine w_it (L' := some (b11, .cells ⟨[v12, .int .i64 y7.f_c.f_Miss, .int .i64 y7.f_tracks, .int .i64 y7.f_plots, v14, v17, v20]⟩ 67 (0, 0)) :: i15 :: i18 :: i21 :: some (b1, .cells ⟨[v0_c_, .int .i64 c_.f_Miss]⟩ 37 (0, 0)) :: L) rfl <| wA (.pointer (some ⟨b11, 0, none⟩)) rfl rfl <| wE <| wR rfl <| wM v1_tracks rfl rfl <| w_d rfl (d_len Tryd.underlying32 rfl (h1_tracks.mono e10).th.th.th.th.th) <| wM (.pointer (some ⟨b11, 0, none⟩)) rfl rfl <| w_d rfl (d_nilCheck (p := ⟨b11, 0, none⟩) rfl) <| w_d rfl (d_fld (o' := 2) Tryd.underlying67 rfl sz3 rfl rfl rfl) <| wL (.int .i64 y7.f_tracks) ty3 rfl rfl .here rfl rfl ?_
  refine w_d rfl (d_neq rfl rfl) <| wM (.bool (!decide ((tracks.length : Int) = y7.f_tracks))) rfl rfl <| w_g (g := !(!decide ((tracks.length : Int) = y7.f_tracks))) rfl rfl rfl wn_f (fun g23 => d_move (v := v2_plots) rfl) <| w_g (g := !(!decide ((tracks.length : Int) = y7.f_tracks))) rfl rfl rfl wn_f (fun g24 => d_len Tryd.underlying32 (cvt g24) (h2_plots.mono e10).th.th.th.th.th) <| w_g (g := !(!decide ((tracks.length : Int) = y7.f_tracks))) rfl rfl rfl wn_f (fun g25 => d_move (v := .pointer (some ⟨b11, 0, none⟩)) rfl) <| w_g (g := !(!decide ((tracks.length : Int) = y7.f_tracks))) rfl rfl rfl wn_f (fun g26 => d_nilCheck (p := ⟨b11, 0, none⟩) (cvt g26)) <| w_g (g := !(!decide ((tracks.length : Int) = y7.f_tracks))) rfl rfl rfl wn_f (fun g27 => d_fld (o' := 3) Tryd.underlying67 rfl sz3 rfl (cvt g27) rfl) <| w_g (g := !(!decide ((tracks.length : Int) = y7.f_tracks))) rfl rfl rfl wn_f (fun g28 => d_loado (v := .int .i64 y7.f_plots) ty3 (cvt g28) .here rfl rfl rfl rfl) <| w_g (g := !(!decide ((tracks.length : Int) = y7.f_tracks))) rfl rfl rfl wn_f (fun g29 => d_neq (cvt g29) (cvt g29)) <| w_d rfl (d_or' (b := (!decide ((tracks.length : Int) = y7.f_tracks))) (p := (!decide ((plots.length : Int) = y7.f_plots))) rfl rfl rfl) <| wM (.bool ((!decide ((tracks.length : Int) = y7.f_tracks)) || (!decide ((plots.length : Int) = y7.f_plots)))) rfl rfl <| w_g (g := !((!decide ((tracks.length : Int) = y7.f_tracks)) || (!decide ((plots.length : Int) = y7.f_plots)))) rfl rfl rfl wn_f (fun g30 => d_move (v := v1_tracks) rfl) ?_
  refine w_g (g := !((!decide ((tracks.length : Int) = y7.f_tracks)) || (!decide ((plots.length : Int) = y7.f_plots)))) rfl rfl rfl wn_f (fun g31 => d_fld (o' := 1) Tryd.underlying37 rfl sz2 rfl rfl rfl) <| w_g (g := !((!decide ((tracks.length : Int) = y7.f_tracks)) || (!decide ((plots.length : Int) = y7.f_plots)))) rfl rfl rfl wn_f (fun g32 => d_loado (v := .int .i64 c_.f_Miss) ty2 (cvt g32) (.there (.there (.there (.there .here)))) rfl rfl rfl rfl) ?_
  obtain ⟨y34, hy35, he⟩ := bs he
  refine w_g (g := !((!decide ((tracks.length : Int) = y7.f_tracks)) || (!decide ((plots.length : Int) = y7.f_plots)))) rfl rfl rfl wn_f (fun g33 => call_d (o_call co30 (vs := [v1_tracks, .int .i64 c_.f_Miss]) (acons (cvt g33) (acons (cvt g33) (anil))) (best_bounded.calls k (gd_t g33 hy35) ((h1_tracks.mono e10).th.th.th.th.th)))) <| w_g (g := !((!decide ((tracks.length : Int) = y7.f_tracks)) || (!decide ((plots.length : Int) = y7.f_plots)))) rfl rfl rfl wn_f (fun g38 => d_not (b := y34) (cvt g38)) <| w_d rfl (d_or' (b := ((!decide ((tracks.length : Int) = y7.f_tracks)) || (!decide ((plots.length : Int) = y7.f_plots)))) (p := (!y34)) rfl rfl rfl) <| wM (.bool (((!decide ((tracks.length : Int) = y7.f_tracks)) || (!decide ((plots.length : Int) = y7.f_plots))) || (!y34))) rfl rfl <| w_g (g := !(((!decide ((tracks.length : Int) = y7.f_tracks)) || (!decide ((plots.length : Int) = y7.f_plots))) || (!y34))) rfl rfl rfl wn_f (fun g39 => d_move (v := v2_plots) rfl) ?_
  obtain ⟨y41, hy42, he⟩ := bs he
  refine w_g (g := !(((!decide ((tracks.length : Int) = y7.f_tracks)) || (!decide ((plots.length : Int) = y7.f_plots))) || (!y34))) rfl rfl rfl wn_f (fun g40 => call_d (o_call co30 (vs := [v2_plots, .int .i64 0]) (acons (cvt g40) (acons rfl (anil))) (best_bounded.calls k (gd_t g40 hy42) ((h2_plots.mono e10).th.th.th.th.th)))) <| w_g (g := !(((!decide ((tracks.length : Int) = y7.f_tracks)) || (!decide ((plots.length : Int) = y7.f_plots))) || (!y34))) rfl rfl rfl wn_f (fun g45 => d_not (b := y41) (cvt g45)) <| w_d rfl (d_or' (b := (((!decide ((tracks.length : Int) = y7.f_tracks)) || (!decide ((plots.length : Int) = y7.f_plots))) || (!y34))) (p := (!y41)) rfl rfl rfl) <| wM (.bool ((((!decide ((tracks.length : Int) = y7.f_tracks)) || (!decide ((plots.length : Int) = y7.f_plots))) || (!y34)) || (!y41))) rfl rfl <| w_g (g := !((((!decide ((tracks.length : Int) = y7.f_tracks)) || (!decide ((plots.length : Int) = y7.f_plots))) || (!y34)) || (!y41))) rfl rfl rfl wn_f (fun g46 => d_loado (v := .agg ⟨[v0_c_, .int .i64 c_.f_Miss]⟩) ty37 rfl (.there (.there (.there (.there .here)))) rfl rfl rfl rfl) <| w_g (g := !((((!decide ((tracks.length : Int) = y7.f_tracks)) || (!decide ((plots.length : Int) = y7.f_plots))) || (!y34)) || (!y41))) rfl rfl rfl wn_f (fun g47 => d_move (v := v1_tracks) rfl) <| w_g (g := !((((!decide ((tracks.length : Int) = y7.f_tracks)) || (!decide ((plots.length : Int) = y7.f_plots))) || (!y34)) || (!y41))) rfl rfl rfl wn_f (fun g48 => d_move (v := v2_plots) rfl) ?_
  obtain ⟨y50, hy51, he⟩ := bs he
  refine w_g (g := !((((!decide ((tracks.length : Int) = y7.f_tracks)) || (!decide ((plots.length : Int) = y7.f_plots))) || (!y34)) || (!y41))) rfl rfl rfl wn_f (fun g49 => call_d (o_call co31 (vs := [.agg ⟨[v0_c_, .int .i64 c_.f_Miss]⟩, v1_tracks, v2_plots]) (acons (cvt g49) (acons (cvt g49) (acons (cvt g49) (anil)))) (best_under.calls k (c_ := c_) (gd_t g49 hy51) (h0_c_.mono e10) ((h1_tracks.mono e10).th.th.th.th.th) ((h2_plots.mono e10).th.th.th.th.th)))) <| w_g (g := !((((!decide ((tracks.length : Int) = y7.f_tracks)) || (!decide ((plots.length : Int) = y7.f_plots))) || (!y34)) || (!y41))) rfl rfl rfl wn_f (fun g54 => d_not (b := y50) (cvt g54)) <| w_d rfl (d_or' (b := ((((!decide ((tracks.length : Int) = y7.f_tracks)) || (!decide ((plots.length : Int) = y7.f_plots))) || (!y34)) || (!y41))) (p := (!y50)) rfl rfl rfl) <| w_done ?_
  rcases its he with ⟨c55, he⟩ | ⟨c55, he⟩
  ·
   refine w_then rfl c55 <| wR rfl <| wA (.bool false) rfl rfl <| wA (errV 51 none) rfl rfl <| w_done ?_
   obtain rfl := sj he
   refine w_return fn_18 rs_18 (.tmp (v := .bool false) rfl (.tmp (v := errV 51 none) rfl .nil)) <| ⟨⟨[_, _, _, _, _], rfl⟩, hle.trans e10, rfl⟩
  ·
   refine w_else rfl (Bool.eq_false_iff.2 c55) <| w_skip <| wR rfl <| wA (.int .i64 0) rfl rfl <| wE <| wR rfl <| wM v1_tracks rfl rfl <| w_d rfl (d_len Tryd.underlying32 rfl (h1_tracks.mono e10).th.th.th.th.th) <| wM (.int .i64 0) rfl rfl ?_
   refine w_done <| w_block <| w_loop <| w_del (.there (.there (.there (.there .here)))) <| w_del (.there (.there (.there .here))) <| w_del (.there (.there .here)) <| w_del (.there .here) <| w_del .here <| w_sl 2 (v2_plots) rfl <| w_sl 3 (.int .i64 total) rfl <| w_sl 8 (.bool false) rfl <| w_sl 9 (errV 51 none) rfl ?_
   refine w_sl 12 (.int .i64 0) rfl <| w_sl 59 (v1_tracks) rfl <| w_sl 60 (.int .i64 (tracks.length : Int)) rfl <| w_sl 61 (.int .i64 0) rfl <| hh.l0 (hle.trans e10) he (h2_plots.mono e10) (h1_tracks.mono e10)
noncomputable def radomelaw22_sure.C : Code := (Tryd.f13.body).getD .skip
def radomelaw22_sure.out (r : Bool) (H : Hp) (v : Value) : Prop := v = .bool r
noncomputable def radomelaw22_sure.f (k : Nat)  : Option Bool := (best_Run.f k (⟨[[5, 1], [2, 1]], 100⟩ : cost_Costs)).bind fun y20 => (best_Proof.f k (⟨[[5, 1], [2, 1]], 100⟩ : cost_Costs)).bind fun y26 => (best_Shows.f k (⟨[[5, 1], [2, 1]], 100⟩ : cost_Costs) y26.1 y26.2.1 3).bind fun y34 => (best_Shows.f k (⟨[[5, 1], [2, 1]], 100⟩ : cost_Costs) y26.1 y26.2.1 4).bind fun y38 => if (((((y20.2.2.isNone && y26.2.2.isNone) && y34.2.isNone) && y38.2.isNone) && (decide (y20.2.1 = 3))) && (decide ((y20.1.length : Int) = 2))) = true → (0 : Int) ≤ 0 ∧ 0 < (y20.1.length : Int) then (some ((((((((y20.2.2.isNone && y26.2.2.isNone) && y34.2.isNone) && y38.2.isNone) && (decide (y20.2.1 = 3))) && (decide ((y20.1.length : Int) = 2))) && (decide ((rd y20.1 0) = 1))) && y34.1) && (!y38.1))) else none
theorem radomelaw22_sure.mono : ∀ k, LeO (radomelaw22_sure.f k) (radomelaw22_sure.f (k + 1)) := fun k => by unfold radomelaw22_sure.f; exact (LeO.bind (best_Run.mono k _) fun _ => LeO.bind (best_Proof.mono k _) fun _ => LeO.bind (best_Shows.mono k _ _ _ _) fun _ => LeO.bind (best_Shows.mono k _ _ _ _) fun _ => LeO.ite (LeO.refl _) (LeO.refl _))
theorem radomelaw22_sure.calls (k : Nat) {H : Hp} {L : Items} {r : Bool} (he : radomelaw22_sure.f k  = some r) : Ct Tryd.prog 13 ⟨[]⟩ H L (fun v H' L' => L = L' ∧ H = H' ∧ v = .bool r) := by
 refine ct_outs (O := radomelaw22_sure.out r) (fun _ _ h => h) ?_
 have hle : H.le H := .refl _
 unfold radomelaw22_sure.f at he
 refine ct_enter (args := []) fn_13 rfl nt_13 rfl <| wR rfl <| wA (.bool false) rfl rfl <| wQ rfl <| w_a rfl (o_buildSlice' (kd := kI64) (css := [[.int .i64 5], [.int .i64 1]]) (xs := [5, 1]) (parts := [(0, .int .i64 5), (1, .int .i64 1)]) Tryd.underlying32 ti2 rfl ⟨_, _, rfl, rfl, ⟨_, _, rfl, rfl, rfl⟩⟩ ⟨rfl, ⟨rfl, trivial⟩⟩ rfl (by decide)) ?_
 rintro v1 _ _ ⟨i2, rfl, rfl, h3⟩
 refine w_a rfl (o_buildSlice' (kd := kI64) (css := [[.int .i64 2], [.int .i64 1]]) (xs := [2, 1]) (parts := [(0, .int .i64 2), (1, .int .i64 1)]) Tryd.underlying32 ti2 rfl ⟨_, _, rfl, rfl, ⟨_, _, rfl, rfl, rfl⟩⟩ ⟨rfl, ⟨rfl, trivial⟩⟩ rfl (by decide)) ?_
 rintro v4 _ _ ⟨i5, rfl, rfl, h6⟩
 refine w_freeze h3 (.there .here) ?_
 intro H7 e8 h9
 refine w_freeze (h6.mono e8) .here ?_
 intro H10 e11 h12
 refine w_a rfl (o_buildSlice' (kd := (Kd.slice kI64)) (css := [[v1], [v4]]) (xs := [[5, 1], [2, 1]]) (parts := [(0, v1), (1, v4)]) Tryd.underlying22 ti32 rfl ⟨_, _, rfl, h9.cells, ⟨_, _, rfl, h12.cells, rfl⟩⟩ ⟨⟨_, rfl, (h9.mono e11)⟩, ⟨⟨_, rfl, h12⟩, trivial⟩⟩ rfl (by decide)) ?_
 rintro v13 _ _ ⟨i14, rfl, rfl, h15⟩
 refine w_d rfl (d_build (cs' := [v13, .int .i64 100]) Tryd.underlying37 zr37 rfl (by kernel_rfl) (parts := [(0, v13), (1, .int .i64 100)]) rfl (.cons (place_of rfl sz22 rfl) h15.cells rfl u1 (.cons (place_of rfl sz2 rfl) rfl rfl (.there u1) .nil))) <| w_a rfl (o_alloc zr37 rfl) ?_
 rintro _ _ _ ⟨b16, rfl, rfl, rfl⟩
 refine w_a0 rfl (o_store (v := .agg ⟨[v13, .int .i64 100]⟩) sz37 rfl rfl rfl rfl (oc (h15.one) (oc rfl oz)) .here u2) ?_
 rintro _ _ _ ⟨rfl, rfl, rfl⟩
 refine wQ rfl <| wL (.agg ⟨[v13, .int .i64 100]⟩) ty37 rfl rfl .here rfl rfl <| w_freeze h15 (.there .here) ?_
 intro H17 e18 h19
 obtain ⟨y20, hy21, he⟩ := bs he
 refine w_a rfl (o_call co14 (vs := [.agg ⟨[v13, .int .i64 100]⟩]) rfl (best_Run.calls k (c_ := ⟨[[5, 1], [2, 1]], 100⟩) hy21 h19)) ?_
 rintro _ H22 _ ⟨rfl, e23, ⟨v24, rfl, h25⟩⟩
 refine wM (.tuple ⟨[v24, .int .i64 y20.2.1, errV 51 y20.2.2]⟩) rfl rfl <| w_d rfl (d_ext (vs := [v24, .int .i64 y20.2.1, errV 51 y20.2.2]) rfl rfl) <| w_d rfl (d_ext (vs := [v24, .int .i64 y20.2.1, errV 51 y20.2.2]) rfl rfl) <| w_d rfl (d_ext (vs := [v24, .int .i64 y20.2.1, errV 51 y20.2.2]) rfl rfl) <| wA v24 rfl rfl <| wA (.int .i64 y20.2.1) rfl rfl <| wA (errV 51 y20.2.2) rfl rfl <| wQ rfl <| wL (.agg ⟨[v13, .int .i64 100]⟩) ty37 rfl rfl .here rfl rfl ?_
 obtain ⟨y26, hy27, he⟩ := bs he
 refine w_a rfl (o_call co24 (vs := [.agg ⟨[v13, .int .i64 100]⟩]) rfl (best_Proof.calls k (c_ := ⟨[[5, 1], [2, 1]], 100⟩) hy27 (h19.mono e23))) ?_
 rintro _ H28 _ ⟨rfl, e29, ⟨v30, v32, rfl, h31, h33⟩⟩
 refine wM (.tuple ⟨[v30, v32, errV 51 y26.2.2]⟩) rfl rfl <| w_d rfl (d_ext (vs := [v30, v32, errV 51 y26.2.2]) rfl rfl) <| w_d rfl (d_ext (vs := [v30, v32, errV 51 y26.2.2]) rfl rfl) <| w_d rfl (d_ext (vs := [v30, v32, errV 51 y26.2.2]) rfl rfl) <| wA v30 rfl rfl <| wA v32 rfl rfl <| wA (errV 51 y26.2.2) rfl rfl <| wQ rfl <| wL (.agg ⟨[v13, .int .i64 100]⟩) ty37 rfl rfl .here rfl rfl <| wM v30 rfl rfl ?_
 refine wM v32 rfl rfl ?_
 obtain ⟨y34, hy35, he⟩ := bs he
 refine w_d rfl (call_d (o_call co18 (vs := [.agg ⟨[v13, .int .i64 100]⟩, v30, v32, .int .i64 3]) rfl (best_Shows.calls k (c_ := ⟨[[5, 1], [2, 1]], 100⟩) hy35 (h19.mono (e23.trans e29)) h31.src h33.src))) <| wM (.tuple ⟨[.bool y34.1, errV 51 y34.2]⟩) rfl rfl <| w_d rfl (d_ext (vs := [.bool y34.1, errV 51 y34.2]) rfl rfl) <| w_d rfl (d_ext (vs := [.bool y34.1, errV 51 y34.2]) rfl rfl) <| wA (.bool y34.1) rfl rfl <| wA (errV 51 y34.2) rfl rfl <| wQ rfl <| wL (.agg ⟨[v13, .int .i64 100]⟩) ty37 rfl rfl .here rfl rfl <| wM v30 rfl rfl <| wM v32 rfl rfl ?_
 obtain ⟨y38, hy39, he⟩ := bs he
 refine w_d rfl (call_d (o_call co18 (vs := [.agg ⟨[v13, .int .i64 100]⟩, v30, v32, .int .i64 4]) rfl (best_Shows.calls k (c_ := ⟨[[5, 1], [2, 1]], 100⟩) hy39 (h19.mono (e23.trans e29)) h31.src h33.src))) <| wM (.tuple ⟨[.bool y38.1, errV 51 y38.2]⟩) rfl rfl <| w_d rfl (d_ext (vs := [.bool y38.1, errV 51 y38.2]) rfl rfl) <| w_d rfl (d_ext (vs := [.bool y38.1, errV 51 y38.2]) rfl rfl) <| wA (.bool y38.1) rfl rfl <| wA (errV 51 y38.2) rfl rfl <| wQ rfl <| wM (errV 51 y20.2.2) rfl rfl <| w_d rfl (d_eqnil (e := y20.2.2) Tryd.underlying27 rfl) <| wM (.bool y20.2.2.isNone) rfl rfl ?_
 refine w_g (g := y20.2.2.isNone) rfl rfl rfl wn_t (fun g42 => d_move (v := errV 51 y26.2.2) rfl) <| w_g (g := y20.2.2.isNone) rfl rfl rfl wn_t (fun g43 => d_eqnil (e := y26.2.2) Tryd.underlying27 (cvt g43)) <| w_d rfl (d_and' (b := y20.2.2.isNone) (p := y26.2.2.isNone) rfl rfl rfl) <| wM (.bool (y20.2.2.isNone && y26.2.2.isNone)) rfl rfl <| w_g (g := y20.2.2.isNone && y26.2.2.isNone) rfl rfl rfl wn_t (fun g44 => d_move (v := errV 51 y34.2) rfl) <| w_g (g := y20.2.2.isNone && y26.2.2.isNone) rfl rfl rfl wn_t (fun g45 => d_eqnil (e := y34.2) Tryd.underlying27 (cvt g45)) <| w_d rfl (d_and' (b := (y20.2.2.isNone && y26.2.2.isNone)) (p := y34.2.isNone) rfl rfl rfl) <| wM (.bool ((y20.2.2.isNone && y26.2.2.isNone) && y34.2.isNone)) rfl rfl <| w_g (g := (y20.2.2.isNone && y26.2.2.isNone) && y34.2.isNone) rfl rfl rfl wn_t (fun g46 => d_move (v := errV 51 y38.2) rfl) <| w_g (g := (y20.2.2.isNone && y26.2.2.isNone) && y34.2.isNone) rfl rfl rfl wn_t (fun g47 => d_eqnil (e := y38.2) Tryd.underlying27 (cvt g47)) <| w_d rfl (d_and' (b := ((y20.2.2.isNone && y26.2.2.isNone) && y34.2.isNone)) (p := y38.2.isNone) rfl rfl rfl) <| wM (.bool (((y20.2.2.isNone && y26.2.2.isNone) && y34.2.isNone) && y38.2.isNone)) rfl rfl ?_
 refine w_g (g := ((y20.2.2.isNone && y26.2.2.isNone) && y34.2.isNone) && y38.2.isNone) rfl rfl rfl wn_t (fun g48 => d_move (v := .int .i64 y20.2.1) rfl) <| w_g (g := ((y20.2.2.isNone && y26.2.2.isNone) && y34.2.isNone) && y38.2.isNone) rfl rfl rfl wn_t (fun g49 => d_eql (cvt g49) rfl) <| w_d rfl (d_and' (b := (((y20.2.2.isNone && y26.2.2.isNone) && y34.2.isNone) && y38.2.isNone)) (p := (decide (y20.2.1 = 3))) rfl rfl rfl) <| wM (.bool ((((y20.2.2.isNone && y26.2.2.isNone) && y34.2.isNone) && y38.2.isNone) && (decide (y20.2.1 = 3)))) rfl rfl <| w_g (g := (((y20.2.2.isNone && y26.2.2.isNone) && y34.2.isNone) && y38.2.isNone) && (decide (y20.2.1 = 3))) rfl rfl rfl wn_t (fun g50 => d_move (v := v24) rfl) <| w_g (g := (((y20.2.2.isNone && y26.2.2.isNone) && y34.2.isNone) && y38.2.isNone) && (decide (y20.2.1 = 3))) rfl rfl rfl wn_t (fun g51 => d_len Tryd.underlying34 (cvt g51) (h25.mono e29).src) <| w_g (g := (((y20.2.2.isNone && y26.2.2.isNone) && y34.2.isNone) && y38.2.isNone) && (decide (y20.2.1 = 3))) rfl rfl rfl wn_t (fun g52 => d_eql (cvt g52) rfl) <| w_d rfl (d_and' (b := ((((y20.2.2.isNone && y26.2.2.isNone) && y34.2.isNone) && y38.2.isNone) && (decide (y20.2.1 = 3)))) (p := (decide ((y20.1.length : Int) = 2))) rfl rfl rfl) <| wM (.bool (((((y20.2.2.isNone && y26.2.2.isNone) && y34.2.isNone) && y38.2.isNone) && (decide (y20.2.1 = 3))) && (decide ((y20.1.length : Int) = 2)))) rfl rfl <| w_g (g := ((((y20.2.2.isNone && y26.2.2.isNone) && y34.2.isNone) && y38.2.isNone) && (decide (y20.2.1 = 3))) && (decide ((y20.1.length : Int) = 2))) rfl rfl rfl wn_t (fun g53 => d_move (v := v24) rfl) ?_
 obtain ⟨c55, he⟩ := rq he
 refine w_g (g := ((((y20.2.2.isNone && y26.2.2.isNone) && y34.2.isNone) && y38.2.isNone) && (decide (y20.2.1 = 3))) && (decide ((y20.1.length : Int) = 2))) rfl rfl rfl wn_t (fun g54 => d_index (sz := 1) Tryd.underlying34 sz3 (cvt g54) (h25.mono e29).src rfl (c55 g54)) <| w_g (g := ((((y20.2.2.isNone && y26.2.2.isNone) && y34.2.isNone) && y38.2.isNone) && (decide (y20.2.1 = 3))) && (decide ((y20.1.length : Int) = 2))) rfl rfl rfl wn_t (fun g56 => d_ldint ty3 (cvt g56) (h25.mono e29).src (c55 g56)) <| w_g (g := ((((y20.2.2.isNone && y26.2.2.isNone) && y34.2.isNone) && y38.2.isNone) && (decide (y20.2.1 = 3))) && (decide ((y20.1.length : Int) = 2))) rfl rfl rfl wn_t (fun g57 => d_eql (cvt g57) rfl) <| w_d rfl (d_and' (b := (((((y20.2.2.isNone && y26.2.2.isNone) && y34.2.isNone) && y38.2.isNone) && (decide (y20.2.1 = 3))) && (decide ((y20.1.length : Int) = 2)))) (p := (decide ((rd y20.1 0) = 1))) rfl rfl rfl) <| wM (.bool ((((((y20.2.2.isNone && y26.2.2.isNone) && y34.2.isNone) && y38.2.isNone) && (decide (y20.2.1 = 3))) && (decide ((y20.1.length : Int) = 2))) && (decide ((rd y20.1 0) = 1)))) rfl rfl <| w_g (g := (((((y20.2.2.isNone && y26.2.2.isNone) && y34.2.isNone) && y38.2.isNone) && (decide (y20.2.1 = 3))) && (decide ((y20.1.length : Int) = 2))) && (decide ((rd y20.1 0) = 1))) rfl rfl rfl wn_t (fun g58 => d_move (v := .bool y34.1) rfl) <| w_d rfl (d_and' (b := ((((((y20.2.2.isNone && y26.2.2.isNone) && y34.2.isNone) && y38.2.isNone) && (decide (y20.2.1 = 3))) && (decide ((y20.1.length : Int) = 2))) && (decide ((rd y20.1 0) = 1)))) (p := y34.1) rfl rfl rfl) <| wM (.bool (((((((y20.2.2.isNone && y26.2.2.isNone) && y34.2.isNone) && y38.2.isNone) && (decide (y20.2.1 = 3))) && (decide ((y20.1.length : Int) = 2))) && (decide ((rd y20.1 0) = 1))) && y34.1)) rfl rfl <| w_g (g := ((((((y20.2.2.isNone && y26.2.2.isNone) && y34.2.isNone) && y38.2.isNone) && (decide (y20.2.1 = 3))) && (decide ((y20.1.length : Int) = 2))) && (decide ((rd y20.1 0) = 1))) && y34.1) rfl rfl rfl wn_t (fun g59 => d_move (v := .bool y38.1) rfl) <| w_g (g := ((((((y20.2.2.isNone && y26.2.2.isNone) && y34.2.isNone) && y38.2.isNone) && (decide (y20.2.1 = 3))) && (decide ((y20.1.length : Int) = 2))) && (decide ((rd y20.1 0) = 1))) && y34.1) rfl rfl rfl wn_t (fun g60 => d_not (b := y38.1) (cvt g60)) <| w_d rfl (d_and' (b := (((((((y20.2.2.isNone && y26.2.2.isNone) && y34.2.isNone) && y38.2.isNone) && (decide (y20.2.1 = 3))) && (decide ((y20.1.length : Int) = 2))) && (decide ((rd y20.1 0) = 1))) && y34.1)) (p := (!y38.1)) rfl rfl rfl) <| wA (.bool ((((((((y20.2.2.isNone && y26.2.2.isNone) && y34.2.isNone) && y38.2.isNone) && (decide (y20.2.1 = 3))) && (decide ((y20.1.length : Int) = 2))) && (decide ((rd y20.1 0) = 1))) && y34.1) && (!y38.1))) rfl rfl ?_
 refine w_done ?_
 obtain rfl := sj he
 refine w_return fn_13 rs_13 (.tmp (v := .bool ((((((((y20.2.2.isNone && y26.2.2.isNone) && y34.2.isNone) && y38.2.isNone) && (decide (y20.2.1 = 3))) && (decide ((y20.1.length : Int) = 2))) && (decide ((rd y20.1 0) = 1))) && y34.1) && (!y38.1))) rfl .nil) <| ⟨⟨[_, _, _, _], rfl⟩, hle.trans ((((e8.trans e11).trans e18).trans e23).trans e29), rfl⟩
noncomputable def radomeref22_plots.C : Code := (Tryd.f28.body).getD .skip
def radomeref22_plots.out (r : Int) (H : Hp) (v : Value) : Prop := v = .int .i64 r
noncomputable def radomeref22_plots.f (k : Nat) (c_ : radomeref20_Costs) : Option Int := if (c_.f_Rows.length : Int) = 0 then (some (0)) else (if (0 : Int) ≤ 0 ∧ 0 < (c_.f_Rows.length : Int) then (some (((rd c_.f_Rows 0).length : Int))) else none)
theorem radomeref22_plots.calls (k : Nat) {H : Hp} {L : Items} {c_ : radomeref20_Costs} {v0_c_ : Value} {r : Int} (he : radomeref22_plots.f k c_ = some r) (h0_c_ : Ro (Kd.slice kI64) H v0_c_ c_.f_Rows) : Ct Tryd.prog 28 ⟨[.agg ⟨[v0_c_, .int .i64 c_.f_Miss]⟩]⟩ H L (fun v H' L' => L = L' ∧ H = H' ∧ v = .int .i64 r) := by
 refine ct_outs (O := radomeref22_plots.out r) (fun _ _ h => h) ?_
 have hle : H.le H := .refl _
 unfold radomeref22_plots.f at he
 refine ct_enter (args := [.agg ⟨[v0_c_, .int .i64 c_.f_Miss]⟩]) fn_28 rfl nt_28 rfl <| wR rfl <| w_a rfl (o_box (v := .agg ⟨[v0_c_, .int .i64 c_.f_Miss]⟩) rfl rfl) ?_
 rintro _ _ _ ⟨b1, rfl, rfl, rfl⟩
 refine wA (.int .i64 0) rfl rfl <| wE <| wR rfl <| w_d rfl (d_fld (o' := 0) Tryd.underlying24 rfl sz22 rfl rfl rfl) <| wL v0_c_ ty22 rfl rfl .here rfl rfl <| w_d rfl (d_len Tryd.underlying22 rfl h0_c_.src) <| w_d rfl (d_eql rfl rfl) <| w_done ?_
 rcases its he with ⟨c2, he⟩ | ⟨c2, he⟩
 ·
  refine w_then rfl (dt c2) <| wR rfl <| wA (.int .i64 0) rfl rfl <| w_done ?_
  obtain rfl := sj he
  refine w_return fn_28 rs_28 (.tmp (v := .int .i64 0) rfl .nil) <| ⟨⟨[_], rfl⟩, hle, rfl⟩
 ·
  refine w_else rfl (df c2) <| w_skip <| wR rfl <| w_d rfl (d_fld (o' := 0) Tryd.underlying24 rfl sz22 rfl rfl rfl) <| wL v0_c_ ty22 rfl rfl .here rfl rfl ?_
  obtain ⟨c3, he⟩ := rq he
  refine w_d rfl (d_index (sz := 1) Tryd.underlying22 sz32 rfl h0_c_.src rfl c3) ?_
  obtain ⟨_, l4, r5⟩ := el_ro (kd := (Kd.slice kI64)) h0_c_ c3
  obtain ⟨v6, rfl, h7⟩ := r5
  refine w_d rfl (d_load (v := v6) (cs := [v6]) ty32 rfl rfl (by decide) (l4).lies rfl) <| w_d rfl (d_len Tryd.underlying32 rfl h7.src) <| wA (.int .i64 ((rd c_.f_Rows 0).length : Int)) rfl rfl <| w_done ?_
  obtain rfl := sj he
  refine w_return fn_28 rs_28 (.tmp (v := .int .i64 ((rd c_.f_Rows 0).length : Int)) rfl .nil) <| ⟨⟨[_], rfl⟩, hle, rfl⟩
noncomputable def radomeref21_Least.C : Code := (Tryd.f27.body).getD .skip
def radomeref21_Least.out (r : Int) (H : Hp) (v : Value) : Prop := v = .int .i64 r
abbrev radomeref21_Least.R (H0 : Hp) (L : Items) (r : Int) := fR H0 L (radomeref21_Least.out r)
structure radomeref21_Least.Hs where
 l0 : Int → (List Bool) → (List (List Int)) → Int → Int → Int → Option Int
 slf : radomeref20_Costs → Int → (List Bool) → Option Int
noncomputable def radomeref21_Least.b0 (k : Nat) (h : radomeref21_Least.Hs)  (from_ : Int) (taken : List Bool) (c_0 : List (List Int)) (c_1 : Int) (best : Int) (p : Int) : Option Int := if (0 : Int) ≤ from_ ∧ from_ < (c_0.length : Int) then (if p < ((rd c_0 from_).length : Int) then (if (0 : Int) ≤ from_ ∧ from_ < (c_0.length : Int) then (if (0 : Int) ≤ p ∧ p < ((rd c_0 from_).length : Int) then (if (!(decide ((rd (rd c_0 from_) p) < 0))) = true → (0 : Int) ≤ p ∧ p < (taken.length : Int) then (if ((decide ((rd (rd c_0 from_) p) < 0)) || (rd taken p)) = true then (h.l0 from_ taken c_0 c_1 best (w64 (p + 1))) else (if 0 + taken.length ≤ 140737488355200 then (if (0 : Int) ≤ p ∧ p < (taken.length : Int) then (if (0 : Int) ≤ from_ ∧ from_ < (c_0.length : Int) then (if (0 : Int) ≤ p ∧ p < ((rd c_0 from_).length : Int) then ((h.slf (⟨c_0, c_1⟩ : radomeref20_Costs) (w64 (from_ + 1)) (taken.set (p : Int).toNat true)).bind fun y40 => if (w64 ((rd (rd c_0 from_) p) + y40)) < best then (h.l0 from_ taken c_0 c_1 (w64 ((rd (rd c_0 from_) p) + y40)) (w64 (p + 1))) else (h.l0 from_ taken c_0 c_1 best (w64 (p + 1)))) else none) else none) else none) else none)) else none) else none) else none) else (some (best))) else none
noncomputable def radomeref21_Least.brec (k : Nat) (h : radomeref21_Least.Hs) (c_ : radomeref20_Costs) (from_ : Int) (taken : List Bool) : Option Int := if (c_.f_Rows.length : Int) ≤ from_ then (some (0)) else ((h.slf c_ (w64 (from_ + 1)) taken).bind fun y3 => h.l0 from_ taken c_.f_Rows c_.f_Miss (w64 (c_.f_Miss + y3)) 0)
noncomputable def radomeref21_Least.hs : Nat → radomeref21_Least.Hs
 | 0 => ⟨fun _ _ _ _ _ _ => none, fun _ _ _ => none⟩
 | k + 1 => ⟨fun x0 x1 x2 x3 x4 x5 => radomeref21_Least.b0 k (radomeref21_Least.hs k) x0 x1 x2 x3 x4 x5, fun x0 x1 x2 => radomeref21_Least.brec k (radomeref21_Least.hs k) x0 x1 x2⟩
noncomputable def radomeref21_Least.f (k : Nat) (c_ : radomeref20_Costs) (from_ : Int) (taken : List Bool) : Option Int := radomeref21_Least.brec k (radomeref21_Least.hs k) c_ from_ taken
noncomputable def radomeref21_Least.Kl0 : List Item := .code (lopB (blkB (seqR (seqL (seqR (seqR (seqR radomeref21_Least.C))))))) :: .inLoop (lopB (blkB (seqR (seqL (seqR (seqR (seqR radomeref21_Least.C))))))) :: .inBlock 0 :: .code (seqR (seqR (seqR (seqR radomeref21_Least.C)))) :: []
structure radomeref21_Least.OK (h : radomeref21_Least.Hs) : Prop where
 l0 : ∀ {H0 H : Hp} {L : Items} {r : Int} {jk_ : Nat → Value} {from_ : Int} {taken : List Bool} {c_0 : List (List Int)} {c_1 : Int} {best : Int} {p : Int} {v_taken : Value} {v_c_0 : Value} {b_c_ : Nat} (_ : H0.le H) (_he : h.l0 from_ taken c_0 c_1 best p = some r) (_h_taken : Src Kd.bool H L v_taken taken) (_h_c_0 : Ro (Kd.slice kI64) H v_c_0 c_0), Wp Tryd.prog 27 74 radomeref21_Least.Kl0 (upd (upd (upd (upd (upd (upd jk_ 1 (.int .i64 from_)) 2 (v_taken)) 3 (.pointer (some ⟨b_c_, 0, none⟩))) 6 (.int .i64 0)) 7 (.int .i64 best)) 8 (.int .i64 p)) H (some (b_c_, .cells ⟨[v_c_0, .int .i64 c_1]⟩ 24 (0, 0)) :: L) (radomeref21_Least.R H0 L r)
 slf : ∀ {H : Hp} {L : Items} {c_ : radomeref20_Costs} {from_ : Int} {taken : List Bool} {v0_c_ : Value} {v1_taken : Value} {r : Int} (_he : h.slf c_ from_ taken = some r) (h0_c_ : Ro (Kd.slice kI64) H v0_c_ c_.f_Rows) (h1_taken : Src Kd.bool H L v1_taken taken), Ct Tryd.prog 27 ⟨[.agg ⟨[v0_c_, .int .i64 c_.f_Miss]⟩, .int .i64 from_, v1_taken]⟩ H L (fun v H' L' => L = L' ∧ H = H' ∧ v = .int .i64 r)
theorem radomeref21_Least.b0_ok {k : Nat} {h : radomeref21_Least.Hs} (hh : radomeref21_Least.OK h) {H0 H : Hp} {L : Items} {r : Int} {jk_ : Nat → Value} {from_ : Int} {taken : List Bool} {c_0 : List (List Int)} {c_1 : Int} {best : Int} {p : Int} {v_taken : Value} {v_c_0 : Value} {b_c_ : Nat} (hle : H0.le H) (he : radomeref21_Least.b0 k h from_ taken c_0 c_1 best p = some r) (h_taken : Src Kd.bool H L v_taken taken) (h_c_0 : Ro (Kd.slice kI64) H v_c_0 c_0) : Wp Tryd.prog 27 74 radomeref21_Least.Kl0 (upd (upd (upd (upd (upd (upd jk_ 1 (.int .i64 from_)) 2 (v_taken)) 3 (.pointer (some ⟨b_c_, 0, none⟩))) 6 (.int .i64 0)) 7 (.int .i64 best)) 8 (.int .i64 p)) H (some (b_c_, .cells ⟨[v_c_0, .int .i64 c_1]⟩ 24 (0, 0)) :: L) (radomeref21_Least.R H0 L r) := by
 unfold radomeref21_Least.b0 at he
 unfold radomeref21_Least.Kl0
 refine w_seq <| wR rfl <| wM (.int .i64 p) rfl rfl <| w_d rfl (d_fld (o' := 0) Tryd.underlying24 rfl sz22 rfl rfl rfl) <| wL v_c_0 ty22 rfl rfl .here rfl rfl <| wM (.int .i64 from_) rfl rfl ?_
 obtain ⟨c9, he⟩ := rq he
 refine w_d rfl (d_index (sz := 1) Tryd.underlying22 sz32 rfl h_c_0.src rfl c9) ?_
 obtain ⟨_, l10, r11⟩ := el_ro (kd := (Kd.slice kI64)) h_c_0 c9
 obtain ⟨v12, rfl, h13⟩ := r11
 refine w_d rfl (d_load (v := v12) (cs := [v12]) ty32 rfl rfl (by decide) (l10).lies rfl) <| w_d rfl (d_len Tryd.underlying32 rfl h13.src) <| w_d rfl (d_lss rfl rfl) <| w_done ?_
 rcases its he with ⟨c14, he⟩ | ⟨c14, he⟩
 ·
  refine w_then rfl (dt c14) <| w_skip <| w_seq <| w_block <| w_seq <| wR rfl <| w_d rfl (d_fld (o' := 0) Tryd.underlying24 rfl sz22 rfl rfl rfl) <| wL v_c_0 ty22 rfl rfl .here rfl rfl <| wM (.int .i64 from_) rfl rfl ?_
  obtain ⟨c15, he⟩ := rq he
  refine w_d rfl (d_index (sz := 1) Tryd.underlying22 sz32 rfl h_c_0.src rfl c15) ?_
  obtain ⟨_, l16, r17⟩ := el_ro (kd := (Kd.slice kI64)) h_c_0 c15
  obtain ⟨v18, rfl, h19⟩ := r17
  refine w_d rfl (d_load (v := v18) (cs := [v18]) ty32 rfl rfl (by decide) (l16).lies rfl) <| wM (.int .i64 p) rfl rfl ?_
  obtain ⟨c20, he⟩ := rq he
  refine w_d rfl (d_index (sz := 1) Tryd.underlying32 sz2 rfl h19.src rfl c20) <| w_d rfl (d_ldint ty2 rfl h19.src c20) <| w_d rfl (d_lss rfl rfl) <| wM (.bool (decide ((rd (rd c_0 from_) p) < 0))) rfl rfl <| w_g (g := !(decide ((rd (rd c_0 from_) p) < 0))) rfl rfl rfl wn_f (fun g21 => d_move (v := v_taken) rfl) <| w_g (g := !(decide ((rd (rd c_0 from_) p) < 0))) rfl rfl rfl wn_f (fun g22 => d_move (v := .int .i64 p) rfl) ?_
  obtain ⟨c24, he⟩ := rq he
  refine w_g (g := !(decide ((rd (rd c_0 from_) p) < 0))) rfl rfl rfl wn_f (fun g23 => d_index (sz := 1) Tryd.underlying70 sz4 (cvt g23) h_taken.th (cvt g23) (c24 g23)) <| w_g (g := !(decide ((rd (rd c_0 from_) p) < 0))) rfl rfl rfl wn_f (fun g25 => d_ldbool ty4 (cvt g25) h_taken.th (c24 g25)) <| w_d rfl (d_or' (b := (decide ((rd (rd c_0 from_) p) < 0))) (p := (rd taken p)) rfl rfl rfl) <| w_done ?_
  rcases its he with ⟨c26, he⟩ | ⟨c26, he⟩
  ·
   refine w_then rfl c26 <| w_exit rfl <| w_region rfl <| wM (.int .i64 p) rfl rfl <| w_d rfl (d_add (c := w64 (p + 1)) rfl rfl rfl) <| wA (.int .i64 (w64 (p + 1))) rfl rfl <| w_done <| w_inLoop <| w_sl 1 (.int .i64 from_) rfl <| w_sl 2 (v_taken) rfl <| w_sl 3 (.pointer (some ⟨b_c_, 0, none⟩)) rfl <| w_sl 6 (.int .i64 0) rfl ?_
   refine w_sl 7 (.int .i64 best) rfl <| w_sl 8 (.int .i64 (w64 (p + 1))) rfl <| hh.l0 hle he h_taken h_c_0
  ·
   refine w_else rfl (Bool.eq_false_iff.2 c26) <| w_skip <| wR rfl <| wA (.slice none 0 0) rfl rfl <| wQ rfl <| wM (.slice none 0 0) rfl rfl <| wM v_taken rfl rfl <| w_none ?_
   obtain ⟨c27, he⟩ := rq he
   refine w_a rfl (o_append' (kd := Kd.bool) (F := fun z_ => z_ :: some (b_c_, .cells ⟨[v_c_0, .int .i64 c_1]⟩ 24 (0, 0)) :: L) Tryd.underlying70 Tryd.underlying70 ti4 rfl (by first | omega | (simp only [List.nil_append, List.length_cons, List.length_nil]; omega)) rfl rfl (sl_nil _ _ _) h_taken.th.th (fun _ => .here)) ?_
   rintro v28 _ _ ⟨i29, rfl, rfl, h30⟩
   refine wA v28 rfl rfl <| wQ rfl <| wM v28 rfl rfl <| wM (.int .i64 p) rfl rfl ?_
   obtain ⟨c31, he⟩ := rq he
   refine w_d rfl (d_indexS (sz := 1) Tryd.underlying70 sz4 rfl h30.shp rfl c31) <| w_a0 rfl (o_storeEl (kd := Kd.bool) (v := .bool true) (F := fun z_ => z_ :: some (b_c_, .cells ⟨[v_c_0, .int .i64 c_1]⟩ 24 (0, 0)) :: L) sz4 rfl rfl rfl rfl h30 c31 (fun _ => .here)) ?_
   rintro _ _ _ ⟨i32, rfl, rfl, rfl, h33⟩
   refine wE ?_
   obtain ⟨c34, he⟩ := rq he
   obtain ⟨_, l35, r36⟩ := el_ro (kd := (Kd.slice kI64)) h_c_0 c34
   obtain ⟨v37, rfl, h38⟩ := r36
   obtain ⟨c39, he⟩ := rq he
   obtain ⟨y40, hy41, he⟩ := bs he
   refine w_drawn (p := 13) (tl := [13, 14]) [[], [(0, some 55)], [], [(1, some 56), (2, some 57)], [(3, some 58)], [], [(4, some 59), (5, some 60)], [(6, some 61)], [], [], [(9, some 64)], [], [(8, some 63), (10, some 65), (11, some 66)]] [some 55, some 56, some 57, some 58, some 59, some 60, some 61, some 62, some 63, some 64, some 65, some 66, some 67] (fctF (.is (.pointer (some ⟨b_c_, 0, none⟩)) :: .is (v_c_0) :: .is (.int .i64 from_) :: .is (.pointer (some (pel v_c_0 from_ 1))) :: .is (v37) :: .is (.int .i64 p) :: .is (.pointer (some (pel v37 p 1))) :: .is (.int .i64 (rd (rd c_0 from_) p)) :: .is (.agg ⟨[v_c_0, .int .i64 c_1]⟩) :: .is (.int .i64 from_) :: .is (.int .i64 (w64 (from_ + 1))) :: .is (v28) :: .is (.int .i64 y40) :: [])) (fun m_ => i32 :: some (b_c_, .cells ⟨[v_c_0, .int .i64 c_1]⟩ 24 (0, 0)) :: L) (fun _ => none) mixed (by kernel_rfl) (by kernel_rfl) rfl (fct_mono (by kernel_rfl)) ⟨(fun H' m_ hH hm_ hu_ => dn <| s_d (m_ 0) rfl (d_fld (o' := 0) Tryd.underlying24 rfl sz22 rfl rfl rfl) (by exact rfl) rfl), (by rintro H' m_ hH hm_ hu_ _ rfl; exact dn <| s_d (m_ 1) rfl (d_loado (v := v_c_0) ty22 rfl (.there .here) rfl rfl rfl rfl) (by exact rfl) rfl), (fun H' m_ hH hm_ hu_ => dn <| s_d (m_ 2) rfl (d_move (v := .int .i64 from_) rfl) (by exact rfl) rfl), (by rintro H' m_ hH hm_ hu_ _ rfl _ rfl; exact dn <| s_d (m_ 3) rfl (d_index (sz := 1) Tryd.underlying22 sz32 rfl (h_c_0.mono hH).src rfl c34) (by exact rfl) rfl), (by rintro H' m_ hH hm_ hu_ _ rfl; exact dn <| s_d (m_ 4) rfl (d_load (v := v37) (cs := [v37]) ty32 rfl rfl (by decide) (l35.mono hH).lies rfl) (by exact rfl) rfl), (fun H' m_ hH hm_ hu_ => dn <| s_d (m_ 5) rfl (d_move (v := .int .i64 p) rfl) (by exact rfl) rfl), (by rintro H' m_ hH hm_ hu_ _ rfl _ rfl; exact dn <| s_d (m_ 6) rfl (d_index (sz := 1) Tryd.underlying32 sz2 rfl (h38.mono hH).src rfl c39) (by exact rfl) rfl), (by rintro H' m_ hH hm_ hu_ _ rfl; exact dn <| s_d (m_ 7) rfl (d_ldint ty2 rfl (h38.mono hH).src c39) (by exact rfl) rfl), (fun H' m_ hH hm_ hu_ => dn <| s_d (m_ 8) rfl (d_loado (v := .agg ⟨[v_c_0, .int .i64 c_1]⟩) ty24 rfl (.there .here) rfl rfl rfl rfl) (by exact rfl) rfl), (fun H' m_ hH hm_ hu_ => dn <| s_d (m_ 9) rfl (d_move (v := .int .i64 from_) rfl) (by exact rfl) rfl), (by rintro H' m_ hH hm_ hu_ _ rfl; exact dn <| s_d (m_ 10) rfl (d_add (c := w64 (from_ + 1)) rfl rfl rfl) (by exact rfl) rfl), (fun H' m_ hH hm_ hu_ => dn <| s_d (m_ 11) rfl (d_move (v := v28) rfl) (by exact rfl) rfl), (by rintro H' m_ hH hm_ hu_ _ rfl _ rfl _ rfl; exact dn <| s_d (m_ 12) rfl (call_d (o_call co27 (vs := [.agg ⟨[v_c_0, .int .i64 c_1]⟩, .int .i64 (w64 (from_ + 1)), v28]) rfl (hh.slf (c_ := ⟨c_0, c_1⟩) hy41 (h_c_0.mono hH) ((h33.mono hH).src .here)))) (by exact rfl) rfl), trivial⟩ ?_
   intro H44 e45
   rintro _ _ rfl _ _ rfl _ _ rfl _ _ rfl _ _ rfl _ _ rfl _ _ rfl _ _ rfl _ _ rfl _ _ rfl _ _ rfl _ _ rfl _ _ rfl
   refine w_d rfl (d_add (c := w64 ((rd (rd c_0 from_) p) + y40)) rfl rfl rfl) <| wA (.int .i64 (w64 ((rd (rd c_0 from_) p) + y40))) rfl rfl <| wQ rfl <| wM (.int .i64 (w64 ((rd (rd c_0 from_) p) + y40))) rfl rfl <| wM (.int .i64 best) rfl rfl <| w_d rfl (d_lss rfl rfl) <| w_done ?_
   rcases its he with ⟨c46, he⟩ | ⟨c46, he⟩
   ·
    refine w_then rfl (dt c46) <| w_region rfl <| wM (.int .i64 (w64 ((rd (rd c_0 from_) p) + y40))) rfl rfl <| wA (.int .i64 (w64 ((rd (rd c_0 from_) p) + y40))) rfl rfl <| w_done <| w_inBlock <| w_region rfl <| wM (.int .i64 p) rfl rfl <| w_d rfl (d_add (c := w64 (p + 1)) rfl rfl rfl) <| wA (.int .i64 (w64 (p + 1))) rfl rfl <| w_done <| w_inLoop ?_
    refine w_del .here <| w_sl 1 (.int .i64 from_) rfl <| w_sl 2 (v_taken) rfl <| w_sl 3 (.pointer (some ⟨b_c_, 0, none⟩)) rfl <| w_sl 6 (.int .i64 0) rfl <| w_sl 7 (.int .i64 (w64 ((rd (rd c_0 from_) p) + y40))) rfl <| w_sl 8 (.int .i64 (w64 (p + 1))) rfl <| hh.l0 (hle.trans e45) he (h_taken.mono e45) (h_c_0.mono e45)
   ·
    refine w_else rfl (df c46) <| w_skip <| w_inBlock <| w_region rfl <| wM (.int .i64 p) rfl rfl <| w_d rfl (d_add (c := w64 (p + 1)) rfl rfl rfl) <| wA (.int .i64 (w64 (p + 1))) rfl rfl <| w_done <| w_inLoop <| w_del .here <| w_sl 1 (.int .i64 from_) rfl <| w_sl 2 (v_taken) rfl ?_
    refine w_sl 3 (.pointer (some ⟨b_c_, 0, none⟩)) rfl <| w_sl 6 (.int .i64 0) rfl <| w_sl 7 (.int .i64 best) rfl <| w_sl 8 (.int .i64 (w64 (p + 1))) rfl <| hh.l0 (hle.trans e45) he (h_taken.mono e45) (h_c_0.mono e45)
 ·
  refine w_else rfl (df c14) <| w_exit rfl <| wR rfl <| wM (.int .i64 best) rfl rfl <| wA (.int .i64 best) rfl rfl <| w_done ?_
  obtain rfl := sj he
  refine w_return fn_27 rs_27 (.tmp (v := .int .i64 best) rfl .nil) <| ⟨⟨[_], rfl⟩, hle, rfl⟩
theorem radomeref21_Least.brec_ok {k : Nat} {h : radomeref21_Least.Hs} (hh : radomeref21_Least.OK h) {H : Hp} {L : Items} {c_ : radomeref20_Costs} {from_ : Int} {taken : List Bool} {v0_c_ : Value} {v1_taken : Value} {r : Int} (he : radomeref21_Least.brec k h c_ from_ taken = some r) (h0_c_ : Ro (Kd.slice kI64) H v0_c_ c_.f_Rows) (h1_taken : Src Kd.bool H L v1_taken taken) : Ct Tryd.prog 27 ⟨[.agg ⟨[v0_c_, .int .i64 c_.f_Miss]⟩, .int .i64 from_, v1_taken]⟩ H L (fun v H' L' => L = L' ∧ H = H' ∧ v = .int .i64 r) := by
 refine ct_outs (O := radomeref21_Least.out r) (fun _ _ h => h) ?_
 have hle : H.le H := .refl _
 unfold radomeref21_Least.brec at he
 refine ct_enter (args := [.agg ⟨[v0_c_, .int .i64 c_.f_Miss]⟩, .int .i64 from_, v1_taken]) fn_27 rfl nt_27 rfl <| wR rfl <| w_a rfl (o_box (v := .agg ⟨[v0_c_, .int .i64 c_.f_Miss]⟩) rfl rfl) ?_
 rintro _ _ _ ⟨b1, rfl, rfl, rfl⟩
 refine wA (.int .i64 0) rfl rfl <| wE <| wR rfl <| wM (.int .i64 from_) rfl rfl <| w_d rfl (d_fld (o' := 0) Tryd.underlying24 rfl sz22 rfl rfl rfl) <| wL v0_c_ ty22 rfl rfl .here rfl rfl <| w_d rfl (d_len Tryd.underlying22 rfl h0_c_.src) <| w_d rfl (d_geq rfl rfl) <| w_done ?_
 rcases its he with ⟨c2, he⟩ | ⟨c2, he⟩
 ·
  refine w_then rfl (dt c2) <| wR rfl <| wA (.int .i64 0) rfl rfl <| w_done ?_
  obtain rfl := sj he
  refine w_return fn_27 rs_27 (.tmp (v := .int .i64 0) rfl .nil) <| ⟨⟨[_], rfl⟩, hle, rfl⟩
 ·
  refine w_else rfl (df c2) <| w_skip <| w_seq ?_
  obtain ⟨y3, hy4, he⟩ := bs he
  refine w_drawn (p := 7) (tl := [7, 8]) [[], [(0, some 16)], [], [], [(3, some 19)], [], [(2, some 18), (4, some 20), (5, some 21)]] [some 16, some 17, some 18, some 19, some 20, some 21, some 22] (fctF (.is (.pointer (some ⟨b1, 1, none⟩)) :: .is (.int .i64 c_.f_Miss) :: .is (.agg ⟨[v0_c_, .int .i64 c_.f_Miss]⟩) :: .is (.int .i64 from_) :: .is (.int .i64 (w64 (from_ + 1))) :: .is (v1_taken) :: .is (.int .i64 y3) :: [])) (fun m_ => some (b1, .cells ⟨[v0_c_, .int .i64 c_.f_Miss]⟩ 24 (0, 0)) :: L) (fun _ => none) mixed (by kernel_rfl) (by kernel_rfl) rfl (fct_mono (by kernel_rfl)) ⟨(fun H' m_ hH hm_ hu_ => dn <| s_d (m_ 0) rfl (d_fld (o' := 1) Tryd.underlying24 rfl sz2 rfl rfl rfl) (by exact rfl) rfl), (by rintro H' m_ hH hm_ hu_ _ rfl; exact dn <| s_d (m_ 1) rfl (d_loado (v := .int .i64 c_.f_Miss) ty2 rfl .here rfl rfl rfl rfl) (by exact rfl) rfl), (fun H' m_ hH hm_ hu_ => dn <| s_d (m_ 2) rfl (d_loado (v := .agg ⟨[v0_c_, .int .i64 c_.f_Miss]⟩) ty24 rfl .here rfl rfl rfl rfl) (by exact rfl) rfl), (fun H' m_ hH hm_ hu_ => dn <| s_d (m_ 3) rfl (d_move (v := .int .i64 from_) rfl) (by exact rfl) rfl), (by rintro H' m_ hH hm_ hu_ _ rfl; exact dn <| s_d (m_ 4) rfl (d_add (c := w64 (from_ + 1)) rfl rfl rfl) (by exact rfl) rfl), (fun H' m_ hH hm_ hu_ => dn <| s_d (m_ 5) rfl (d_move (v := v1_taken) rfl) (by exact rfl) rfl), (by rintro H' m_ hH hm_ hu_ _ rfl _ rfl _ rfl; exact dn <| s_d (m_ 6) rfl (call_d (o_call co27 (vs := [.agg ⟨[v0_c_, .int .i64 c_.f_Miss]⟩, .int .i64 (w64 (from_ + 1)), v1_taken]) rfl (hh.slf (c_ := c_) hy4 (h0_c_.mono hH) ((h1_taken.mono hH).th)))) (by exact rfl) rfl), trivial⟩ ?_
  intro H7 e8
  rintro _ _ rfl _ _ rfl _ _ rfl _ _ rfl _ _ rfl _ _ rfl _ _ rfl
  refine w_d rfl (d_add (c := w64 (c_.f_Miss + y3)) rfl rfl rfl) <| wA (.int .i64 (w64 (c_.f_Miss + y3))) rfl rfl <| wE <| wR rfl <| wA (.int .i64 0) rfl rfl <| w_done <| w_block <| w_loop <| w_sl 1 (.int .i64 from_) rfl <| w_sl 2 (v1_taken) rfl ?_
  refine w_sl 3 (.pointer (some ⟨b1, 0, none⟩)) rfl <| w_sl 6 (.int .i64 0) rfl <| w_sl 7 (.int .i64 (w64 (c_.f_Miss + y3))) rfl <| w_sl 8 (.int .i64 0) rfl <| hh.l0 (hle.trans e8) he (h1_taken.mono e8) (h0_c_.mono e8)
theorem radomeref21_Least.ok : ∀ k, radomeref21_Least.OK (radomeref21_Least.hs k)
 | 0 => ⟨(by intros; exact nomatch (show none = some _ from by assumption)), (by intros; exact nomatch (show none = some _ from by assumption))⟩
 | k + 1 => ⟨radomeref21_Least.b0_ok (k := k) (radomeref21_Least.ok k), radomeref21_Least.brec_ok (k := k) (radomeref21_Least.ok k)⟩
theorem radomeref21_Least.calls (k : Nat) {H : Hp} {L : Items} {c_ : radomeref20_Costs} {from_ : Int} {taken : List Bool} {v0_c_ : Value} {v1_taken : Value} {r : Int} (he : radomeref21_Least.f k c_ from_ taken = some r) (h0_c_ : Ro (Kd.slice kI64) H v0_c_ c_.f_Rows) (h1_taken : Src Kd.bool H L v1_taken taken) : Ct Tryd.prog 27 ⟨[.agg ⟨[v0_c_, .int .i64 c_.f_Miss]⟩, .int .i64 from_, v1_taken]⟩ H L (fun v H' L' => L = L' ∧ H = H' ∧ v = .int .i64 r) := radomeref21_Least.brec_ok (radomeref21_Least.ok k) he h0_c_ h1_taken
noncomputable def radomeref22_Least.C : Code := (Tryd.f17.body).getD .skip
def radomeref22_Least.out (r : Int) (H : Hp) (v : Value) : Prop := v = .int .i64 r
noncomputable def radomeref22_Least.f (k : Nat) (c_ : radomeref20_Costs) : Option Int := (radomeref22_plots.f k c_).bind fun y2 => if 0 ≤ y2 ∧ y2 ≤ 281474976710656 then ((radomeref21_Least.f k c_ 0 (List.replicate (y2 : Int).toNat false)).bind fun y12 => some (y12)) else none
theorem radomeref22_Least.calls (k : Nat) {H : Hp} {L : Items} {c_ : radomeref20_Costs} {v0_c_ : Value} {r : Int} (he : radomeref22_Least.f k c_ = some r) (h0_c_ : Ro (Kd.slice kI64) H v0_c_ c_.f_Rows) : Ct Tryd.prog 17 ⟨[.agg ⟨[v0_c_, .int .i64 c_.f_Miss]⟩]⟩ H L (fun v H' L' => L = L' ∧ H = H' ∧ v = .int .i64 r) := by
 refine ct_outs (O := radomeref22_Least.out r) (fun _ _ h => h) ?_
 have hle : H.le H := .refl _
 unfold radomeref22_Least.f at he
 refine ct_enter (args := [.agg ⟨[v0_c_, .int .i64 c_.f_Miss]⟩]) fn_17 rfl nt_17 rfl <| wR rfl <| w_a rfl (o_box (v := .agg ⟨[v0_c_, .int .i64 c_.f_Miss]⟩) rfl rfl) ?_
 rintro _ _ _ ⟨b1, rfl, rfl, rfl⟩
 refine wA (.int .i64 0) rfl rfl <| wE ?_
 obtain ⟨y2, hy3, he⟩ := bs he
 obtain ⟨c6, he⟩ := rq he
 refine w_none (?_)
 refine w_drawn (p := 4) (tl := [4, 5]) [[], [], [(1, some 4)], [(2, some 5)]] [some 3, some 4, some 5, some 6] (fctF (.is (.agg ⟨[v0_c_, .int .i64 c_.f_Miss]⟩) :: .is (.agg ⟨[v0_c_, .int .i64 c_.f_Miss]⟩) :: .is (.int .i64 y2) :: .sl Kd.bool 4 (List.replicate (y2 : Int).toNat false) :: [])) (fun m_ => m_ 3 :: some (b1, .cells ⟨[v0_c_, .int .i64 c_.f_Miss]⟩ 24 (0, 0)) :: L) (fun _ => none) mixed (by kernel_rfl) (by kernel_rfl) rfl (fct_mono (by kernel_rfl)) ⟨(fun H' m_ hH hm_ hu_ => dn <| s_d (m_ 0) rfl (d_loado (v := .agg ⟨[v0_c_, .int .i64 c_.f_Miss]⟩) ty24 rfl (.there .here) rfl rfl rfl rfl) (by exact rfl) rfl), (fun H' m_ hH hm_ hu_ => dn <| s_d (m_ 1) rfl (d_loado (v := .agg ⟨[v0_c_, .int .i64 c_.f_Miss]⟩) ty24 rfl (.there .here) rfl rfl rfl rfl) (by exact rfl) rfl), (by rintro H' m_ hH hm_ hu_ _ rfl; exact dn <| s_d (m_ 2) rfl (call_d (o_call co28 (vs := [.agg ⟨[v0_c_, .int .i64 c_.f_Miss]⟩]) rfl (radomeref22_plots.calls k (c_ := c_) hy3 (h0_c_.mono hH)))) (by exact rfl) rfl), (by rintro H' m_ hH hm_ hu_ _ rfl; exact dn <| s_sl hm_ rfl rfl (o_make' (kd := Kd.bool) (z0 := false) Tryd.underlying70 ti4 (zp4 _) rfl rfl (by omega) (by omega) (by omega)) rfl (fun _ => .here) (by exact fun _ _ h_ => h_)), trivial⟩ ?_
 intro H10 e11
 rintro _ _ rfl _ _ rfl _ _ rfl v7 i8 (h9 : Sl Kd.bool H10 4 i8 v7 (List.replicate (y2 : Int).toNat false))
 obtain ⟨y12, hy13, he⟩ := bs he
 refine w_d rfl (call_d (o_call co27 (vs := [.agg ⟨[v0_c_, .int .i64 c_.f_Miss]⟩, .int .i64 0, v7]) rfl (radomeref21_Least.calls k (c_ := c_) hy13 (h0_c_.mono e11) (h9.src .here)))) <| wA (.int .i64 y12) rfl rfl <| w_done ?_
 obtain rfl := sj he
 refine w_return fn_17 rs_17 (.tmp (v := .int .i64 y12) rfl .nil) <| ⟨⟨[_, _], rfl⟩, hle.trans e11, rfl⟩
noncomputable def radomelaw22_BestRuns.C : Code := (Tryd.f4.body).getD .skip
def radomelaw22_BestRuns.out (r : Bool) (H : Hp) (v : Value) : Prop := v = .bool r
noncomputable def radomelaw22_BestRuns.f (k : Nat) (c_ : radomeref20_Costs) : Option Bool := (radomeref20_May.f k c_).bind fun y2 => if ((y2 && (decide (0 < (c_.f_Rows.length : Int)))) && (!(decide (6 < (c_.f_Rows.length : Int))))) = true → (0 : Int) ≤ 0 ∧ 0 < (c_.f_Rows.length : Int) then (if ((y2 && (decide (0 < (c_.f_Rows.length : Int)))) && ((decide (6 < (c_.f_Rows.length : Int))) || (decide (6 < ((rd c_.f_Rows 0).length : Int))))) = true then ((radomelaw22_sure.f k).bind fun y27 => some (y27)) else ((best_Run.f k (⟨c_.f_Rows, c_.f_Miss⟩ : cost_Costs)).bind fun y32 => (radomeref20_May.f k c_).bind fun y38 => if (!y38) = true then ((gd (((decide ((errN y32.2.2) = 1)) && (decide ((y32.1.length : Int) = 0))) && (decide (y32.2.1 = 0))) (radomelaw22_sure.f k) (false)).bind fun y49 => some ((((decide ((errN y32.2.2) = 1)) && (decide ((y32.1.length : Int) = 0))) && (decide (y32.2.1 = 0))) && y49)) else ((cost_Total.f k (⟨c_.f_Rows, c_.f_Miss⟩ : cost_Costs) y32.1).bind fun y53 => (gd ((y32.2.2.isNone && y53.2.isNone) && (decide (y53.1 = y32.2.1))) (radomeref22_Least.f k c_) (0)).bind fun y65 => (gd (((y32.2.2.isNone && y53.2.isNone) && (decide (y53.1 = y32.2.1))) && (decide (y32.2.1 = y65))) (radomelaw22_sure.f k) (false)).bind fun y71 => some ((((y32.2.2.isNone && y53.2.isNone) && (decide (y53.1 = y32.2.1))) && (decide (y32.2.1 = y65))) && y71)))) else none
theorem radomelaw22_BestRuns.calls (k : Nat) {H : Hp} {L : Items} {c_ : radomeref20_Costs} {v0_c_ : Value} {r : Bool} (hG : GH H) (he : radomelaw22_BestRuns.f k c_ = some r) (h0_c_ : Ro (Kd.slice kI64) H v0_c_ c_.f_Rows) : Ct Tryd.prog 4 ⟨[.agg ⟨[v0_c_, .int .i64 c_.f_Miss]⟩]⟩ H L (fun v H' L' => L = L' ∧ H = H' ∧ v = .bool r) := by
 refine ct_outs (O := radomelaw22_BestRuns.out r) (fun _ _ h => h) ?_
 have hle : H.le H := .refl _
 unfold radomelaw22_BestRuns.f at he
 refine ct_enter (args := [.agg ⟨[v0_c_, .int .i64 c_.f_Miss]⟩]) fn_4 rfl nt_4 rfl <| wR rfl <| w_a rfl (o_box (v := .agg ⟨[v0_c_, .int .i64 c_.f_Miss]⟩) rfl rfl) ?_
 rintro _ _ _ ⟨b1, rfl, rfl, rfl⟩
 refine wA (.bool false) rfl rfl <| wE <| wR rfl <| wL (.agg ⟨[v0_c_, .int .i64 c_.f_Miss]⟩) ty24 rfl rfl .here rfl rfl ?_
 obtain ⟨y2, hy3, he⟩ := bs he
 refine w_d rfl (call_d (o_call co8 (vs := [.agg ⟨[v0_c_, .int .i64 c_.f_Miss]⟩]) rfl (radomeref20_May.calls k (c_ := c_) hy3 h0_c_))) <| wM (.bool y2) rfl rfl <| w_g (g := y2) rfl rfl rfl wn_t (fun g6 => d_fld (o' := 0) Tryd.underlying24 rfl sz22 rfl rfl rfl) <| w_g (g := y2) rfl rfl rfl wn_t (fun g7 => d_loado (v := v0_c_) ty22 (cvt g7) .here rfl rfl rfl rfl) <| w_g (g := y2) rfl rfl rfl wn_t (fun g8 => d_len Tryd.underlying22 (cvt g8) h0_c_.src) <| w_g (g := y2) rfl rfl rfl wn_t (fun g9 => d_gtr (cvt g9) rfl) <| w_d rfl (d_and' (b := y2) (p := (decide (0 < (c_.f_Rows.length : Int)))) rfl rfl rfl) <| wM (.bool (y2 && (decide (0 < (c_.f_Rows.length : Int))))) rfl rfl <| w_g (g := y2 && (decide (0 < (c_.f_Rows.length : Int)))) rfl rfl rfl wn_t (fun g10 => d_fld (o' := 0) Tryd.underlying24 rfl sz22 rfl rfl rfl) <| w_g (g := y2 && (decide (0 < (c_.f_Rows.length : Int)))) rfl rfl rfl wn_t (fun g11 => d_loado (v := v0_c_) ty22 (cvt g11) .here rfl rfl rfl rfl) <| w_g (g := y2 && (decide (0 < (c_.f_Rows.length : Int)))) rfl rfl rfl wn_t (fun g12 => d_len Tryd.underlying22 (cvt g12) h0_c_.src) <| w_g (g := y2 && (decide (0 < (c_.f_Rows.length : Int)))) rfl rfl rfl wn_t (fun g13 => d_gtr (cvt g13) rfl) ?_
 refine w_g (g := y2 && (decide (0 < (c_.f_Rows.length : Int)))) rfl rfl rfl wn_t (fun g14 => d_move (v := .bool (decide (6 < (c_.f_Rows.length : Int)))) (cvt g14)) <| w_g (g := (y2 && (decide (0 < (c_.f_Rows.length : Int)))) && (!(decide (6 < (c_.f_Rows.length : Int))))) rfl rfl rfl wn_gf (fun g15 => d_fld (o' := 0) Tryd.underlying24 rfl sz22 rfl rfl rfl) <| w_g (g := (y2 && (decide (0 < (c_.f_Rows.length : Int)))) && (!(decide (6 < (c_.f_Rows.length : Int))))) rfl rfl rfl wn_gf (fun g16 => d_loado (v := v0_c_) ty22 (cvt g16) .here rfl rfl rfl rfl) ?_
 obtain ⟨c18, he⟩ := rq he
 refine w_g (g := (y2 && (decide (0 < (c_.f_Rows.length : Int)))) && (!(decide (6 < (c_.f_Rows.length : Int))))) rfl rfl rfl wn_gf (fun g17 => d_index (sz := 1) Tryd.underlying22 sz32 (cvt g17) h0_c_.src rfl (c18 g17)) ?_
 obtain ⟨v21, l20, h22⟩ : ∃ v21 : Value, (((y2 && (decide (0 < (c_.f_Rows.length : Int)))) && (!(decide (6 < (c_.f_Rows.length : Int))))) = true → Cells H (pel v0_c_ 0 1) [v21]) ∧ (((y2 && (decide (0 < (c_.f_Rows.length : Int)))) && (!(decide (6 < (c_.f_Rows.length : Int))))) = true → Ro kI64 H v21 (rd c_.f_Rows 0)) := if g_ : ((y2 && (decide (0 < (c_.f_Rows.length : Int)))) && (!(decide (6 < (c_.f_Rows.length : Int))))) = true then (by obtain ⟨_, l_, r_⟩ := el_ro (kd := (Kd.slice kI64)) h0_c_ (c18 g_); obtain ⟨v21, rfl, h22⟩ := r_; exact ⟨v21, fun _ => l_, fun _ => h22⟩) else ⟨undef, fun h_ => absurd h_ g_, fun h_ => absurd h_ g_⟩
 refine w_g (g := (y2 && (decide (0 < (c_.f_Rows.length : Int)))) && (!(decide (6 < (c_.f_Rows.length : Int))))) rfl rfl rfl wn_gf (fun g19 => d_load (v := v21) (cs := [v21]) ty32 (cvt g19) rfl (by decide) ((l20 g19)).lies rfl) <| w_g (g := (y2 && (decide (0 < (c_.f_Rows.length : Int)))) && (!(decide (6 < (c_.f_Rows.length : Int))))) rfl rfl rfl wn_gf (fun g23 => d_len Tryd.underlying32 (cvt g23) (h22 g23).src) <| w_g (g := (y2 && (decide (0 < (c_.f_Rows.length : Int)))) && (!(decide (6 < (c_.f_Rows.length : Int))))) rfl rfl rfl wn_gf (fun g24 => d_gtr (cvt g24) rfl) <| w_g (g := y2 && (decide (0 < (c_.f_Rows.length : Int)))) rfl rfl rfl wn_t (fun g25 => d_or' (b := (decide (6 < (c_.f_Rows.length : Int)))) (p := (decide (6 < ((rd c_.f_Rows 0).length : Int)))) (cvt g25) rfl (cva g25)) <| w_d rfl (d_and' (b := (y2 && (decide (0 < (c_.f_Rows.length : Int))))) (p := ((decide (6 < (c_.f_Rows.length : Int))) || (decide (6 < ((rd c_.f_Rows 0).length : Int))))) rfl rfl rfl) <| w_done ?_
 rcases its he with ⟨c26, he⟩ | ⟨c26, he⟩
 ·
  refine w_then rfl c26 <| wR rfl ?_
  obtain ⟨y27, hy28, he⟩ := bs he
  refine w_d rfl (call_d (o_call co13 (vs := []) rfl (radomelaw22_sure.calls k hy28))) <| wA (.bool y27) rfl rfl <| w_done ?_
  obtain rfl := sj he
  refine w_return fn_4 rs_4 (.tmp (v := .bool y27) rfl .nil) <| ⟨⟨[_], rfl⟩, hle, rfl⟩
 ·
  refine w_else rfl (Bool.eq_false_iff.2 c26) <| w_skip <| wR rfl <| wL (.agg ⟨[v0_c_, .int .i64 c_.f_Miss]⟩) ty24 rfl rfl .here rfl rfl <| w_a rfl (o_alloc zr37 rfl) ?_
  rintro _ _ _ ⟨b31, rfl, rfl, rfl⟩
  refine w_a0 rfl (o_store (v := .agg ⟨[v0_c_, .int .i64 c_.f_Miss]⟩) sz37 rfl rfl rfl rfl (oc (h0_c_.one) (oc rfl oz)) .here u2) ?_
  rintro _ _ _ ⟨rfl, rfl, rfl⟩
  refine wQ rfl <| wL (.agg ⟨[v0_c_, .int .i64 c_.f_Miss]⟩) ty37 rfl rfl .here rfl rfl ?_
  obtain ⟨y32, hy33, he⟩ := bs he
  refine w_a rfl (o_call co14 (vs := [.agg ⟨[v0_c_, .int .i64 c_.f_Miss]⟩]) rfl (best_Run.calls k (c_ := ⟨c_.f_Rows, c_.f_Miss⟩) hy33 h0_c_)) ?_
  rintro _ H34 _ ⟨rfl, e35, ⟨v36, rfl, h37⟩⟩
  refine wM (.tuple ⟨[v36, .int .i64 y32.2.1, errV 51 y32.2.2]⟩) rfl rfl <| w_d rfl (d_ext (vs := [v36, .int .i64 y32.2.1, errV 51 y32.2.2]) rfl rfl) <| w_d rfl (d_ext (vs := [v36, .int .i64 y32.2.1, errV 51 y32.2.2]) rfl rfl) <| w_d rfl (d_ext (vs := [v36, .int .i64 y32.2.1, errV 51 y32.2.2]) rfl rfl) <| wA v36 rfl rfl <| wA (.int .i64 y32.2.1) rfl rfl <| wA (errV 51 y32.2.2) rfl rfl <| wE <| wR rfl <| wL (.agg ⟨[v0_c_, .int .i64 c_.f_Miss]⟩) ty24 rfl rfl (.there .here) rfl rfl ?_
  obtain ⟨y38, hy39, he⟩ := bs he
  refine w_d rfl (call_d (o_call co8 (vs := [.agg ⟨[v0_c_, .int .i64 c_.f_Miss]⟩]) rfl (radomeref20_May.calls k (c_ := c_) hy39 (h0_c_.mono e35)))) <| w_d rfl (d_not (b := y38) rfl) <| w_done ?_
  rcases its he with ⟨c42, he⟩ | ⟨c42, he⟩
  ·
   refine w_then rfl c42 <| wR rfl <| wM (errV 51 y32.2.2) rfl rfl <| w_d rfl (call_d (o_call co15 (vs := [errV 51 y32.2.2]) rfl (num15.calls (hG.mono e35) rfl))) <| w_d rfl (d_eql rfl rfl) <| wM (.bool (decide ((errN y32.2.2) = 1))) rfl rfl <| w_g (g := decide ((errN y32.2.2) = 1)) rfl rfl rfl wn_t (fun g43 => d_move (v := v36) rfl) <| w_g (g := decide ((errN y32.2.2) = 1)) rfl rfl rfl wn_t (fun g44 => d_len Tryd.underlying34 (cvt g44) h37.src) <| w_g (g := decide ((errN y32.2.2) = 1)) rfl rfl rfl wn_t (fun g45 => d_eql (cvt g45) rfl) <| w_d rfl (d_and' (b := (decide ((errN y32.2.2) = 1))) (p := (decide ((y32.1.length : Int) = 0))) rfl rfl rfl) <| wM (.bool ((decide ((errN y32.2.2) = 1)) && (decide ((y32.1.length : Int) = 0)))) rfl rfl ?_
   refine w_g (g := (decide ((errN y32.2.2) = 1)) && (decide ((y32.1.length : Int) = 0))) rfl rfl rfl wn_t (fun g46 => d_move (v := .int .i64 y32.2.1) rfl) <| w_g (g := (decide ((errN y32.2.2) = 1)) && (decide ((y32.1.length : Int) = 0))) rfl rfl rfl wn_t (fun g47 => d_eql (cvt g47) rfl) <| w_d rfl (d_and' (b := ((decide ((errN y32.2.2) = 1)) && (decide ((y32.1.length : Int) = 0)))) (p := (decide (y32.2.1 = 0))) rfl rfl rfl) <| wM (.bool (((decide ((errN y32.2.2) = 1)) && (decide ((y32.1.length : Int) = 0))) && (decide (y32.2.1 = 0)))) rfl rfl ?_
   obtain ⟨y49, hy50, he⟩ := bs he
   refine w_g (g := ((decide ((errN y32.2.2) = 1)) && (decide ((y32.1.length : Int) = 0))) && (decide (y32.2.1 = 0))) rfl rfl rfl wn_t (fun g48 => call_d (o_call co13 (vs := []) rfl (radomelaw22_sure.calls k (gd_t g48 hy50)))) <| w_d rfl (d_and' (b := (((decide ((errN y32.2.2) = 1)) && (decide ((y32.1.length : Int) = 0))) && (decide (y32.2.1 = 0)))) (p := y49) rfl rfl rfl) <| wA (.bool ((((decide ((errN y32.2.2) = 1)) && (decide ((y32.1.length : Int) = 0))) && (decide (y32.2.1 = 0))) && y49)) rfl rfl <| w_done ?_
   obtain rfl := sj he
   refine w_return fn_4 rs_4 (.tmp (v := .bool ((((decide ((errN y32.2.2) = 1)) && (decide ((y32.1.length : Int) = 0))) && (decide (y32.2.1 = 0))) && y49)) rfl .nil) <| ⟨⟨[_, _], rfl⟩, hle.trans e35, rfl⟩
  ·
   refine w_else rfl (Bool.eq_false_iff.2 c42) <| w_skip <| wR rfl <| wL (.agg ⟨[v0_c_, .int .i64 c_.f_Miss]⟩) ty37 rfl rfl .here rfl rfl <| wM v36 rfl rfl ?_
   obtain ⟨y53, hy54, he⟩ := bs he
   refine w_d rfl (call_d (o_call co16 (vs := [.agg ⟨[v0_c_, .int .i64 c_.f_Miss]⟩, v36]) rfl (cost_Total.calls k (c_ := ⟨c_.f_Rows, c_.f_Miss⟩) hy54 (h0_c_.mono e35) h37.src))) <| wM (.tuple ⟨[.int .i64 y53.1, errV 51 y53.2]⟩) rfl rfl <| w_d rfl (d_ext (vs := [.int .i64 y53.1, errV 51 y53.2]) rfl rfl) <| w_d rfl (d_ext (vs := [.int .i64 y53.1, errV 51 y53.2]) rfl rfl) <| wA (.int .i64 y53.1) rfl rfl <| wA (errV 51 y53.2) rfl rfl <| wQ rfl <| wM (errV 51 y32.2.2) rfl rfl <| w_d rfl (d_eqnil (e := y32.2.2) Tryd.underlying27 rfl) <| wM (.bool y32.2.2.isNone) rfl rfl ?_
   refine w_g (g := y32.2.2.isNone) rfl rfl rfl wn_t (fun g57 => d_move (v := errV 51 y53.2) rfl) <| w_g (g := y32.2.2.isNone) rfl rfl rfl wn_t (fun g58 => d_eqnil (e := y53.2) Tryd.underlying27 (cvt g58)) <| w_d rfl (d_and' (b := y32.2.2.isNone) (p := y53.2.isNone) rfl rfl rfl) <| wM (.bool (y32.2.2.isNone && y53.2.isNone)) rfl rfl <| w_g (g := y32.2.2.isNone && y53.2.isNone) rfl rfl rfl wn_t (fun g59 => d_move (v := .int .i64 y53.1) rfl) <| w_g (g := y32.2.2.isNone && y53.2.isNone) rfl rfl rfl wn_t (fun g60 => d_move (v := .int .i64 y32.2.1) rfl) <| w_g (g := y32.2.2.isNone && y53.2.isNone) rfl rfl rfl wn_t (fun g61 => d_eql (cvt g61) (cvt g61)) <| w_d rfl (d_and' (b := (y32.2.2.isNone && y53.2.isNone)) (p := (decide (y53.1 = y32.2.1))) rfl rfl rfl) <| wM (.bool ((y32.2.2.isNone && y53.2.isNone) && (decide (y53.1 = y32.2.1)))) rfl rfl <| w_g (g := (y32.2.2.isNone && y53.2.isNone) && (decide (y53.1 = y32.2.1))) rfl rfl rfl wn_t (fun g62 => d_move (v := .int .i64 y32.2.1) rfl) <| w_g (g := (y32.2.2.isNone && y53.2.isNone) && (decide (y53.1 = y32.2.1))) rfl rfl rfl wn_t (fun g63 => d_loado (v := .agg ⟨[v0_c_, .int .i64 c_.f_Miss]⟩) ty24 rfl (.there .here) rfl rfl rfl rfl) ?_
   obtain ⟨y65, hy66, he⟩ := bs he
   refine w_g (g := (y32.2.2.isNone && y53.2.isNone) && (decide (y53.1 = y32.2.1))) rfl rfl rfl wn_t (fun g64 => call_d (o_call co17 (vs := [.agg ⟨[v0_c_, .int .i64 c_.f_Miss]⟩]) (acons (cvt g64) (anil)) (radomeref22_Least.calls k (c_ := c_) (gd_t g64 hy66) (h0_c_.mono e35)))) <| w_g (g := (y32.2.2.isNone && y53.2.isNone) && (decide (y53.1 = y32.2.1))) rfl rfl rfl wn_t (fun g69 => d_eql (cvt g69) (cvt g69)) <| w_d rfl (d_and' (b := ((y32.2.2.isNone && y53.2.isNone) && (decide (y53.1 = y32.2.1)))) (p := (decide (y32.2.1 = y65))) rfl rfl rfl) <| wM (.bool (((y32.2.2.isNone && y53.2.isNone) && (decide (y53.1 = y32.2.1))) && (decide (y32.2.1 = y65)))) rfl rfl ?_
   obtain ⟨y71, hy72, he⟩ := bs he
   refine w_g (g := ((y32.2.2.isNone && y53.2.isNone) && (decide (y53.1 = y32.2.1))) && (decide (y32.2.1 = y65))) rfl rfl rfl wn_t (fun g70 => call_d (o_call co13 (vs := []) rfl (radomelaw22_sure.calls k (gd_t g70 hy72)))) <| w_d rfl (d_and' (b := (((y32.2.2.isNone && y53.2.isNone) && (decide (y53.1 = y32.2.1))) && (decide (y32.2.1 = y65)))) (p := y71) rfl rfl rfl) <| wA (.bool ((((y32.2.2.isNone && y53.2.isNone) && (decide (y53.1 = y32.2.1))) && (decide (y32.2.1 = y65))) && y71)) rfl rfl <| w_done ?_
   obtain rfl := sj he
   refine w_return fn_4 rs_4 (.tmp (v := .bool ((((y32.2.2.isNone && y53.2.isNone) && (decide (y53.1 = y32.2.1))) && (decide (y32.2.1 = y65))) && y71)) rfl .nil) <| ⟨⟨[_, _], rfl⟩, hle.trans e35, rfl⟩
end Go.Proofs.YtacbficpehmlnaaDoor.GBN

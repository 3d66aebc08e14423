/- printed by gen.py -/
import Derived.Test.YtacbficpehmlnaaDoorGBSx1
namespace Go.Proofs.YtacbficpehmlnaaDoor.GBS
open Go Go.RowKit Go.Proofs.YtacbficpehmlnaaDoorK Go.Proofs.YtacbficpehmlnaaDoor
set_option maxRecDepth 100000
set_option maxHeartbeats 2000000
set_option linter.unusedVariables false
set_option linter.unusedSimpArgs false
noncomputable def cost_Total.C : Code := (Tryd.f16.body).getD .skip
def cost_Total.out (r : Int × (Option Int)) (H : Hp) (v : Value) : Prop := v = .tuple ⟨[.int .i64 r.1, errV 51 r.2]⟩
abbrev cost_Total.R (H0 : Hp) (L : Items) (r : Int × (Option Int)) := fR H0 L (cost_Total.out r)
structure cost_Total.Hs where
 l0 : (List (List Int)) → Int → Int → (Option Int) → (List (Int × Bool)) → Int → (List Int) → Int → Int → Option (Int × (Option Int))
noncomputable def cost_Total.b0 (k : Nat) (h : cost_Total.Hs)  (c_0 : List (List Int)) (c_1 : Int) (t4 : Int) (t5 : Option Int) (taken : List (Int × Bool)) (sum : Int) (t24 : List Int) (t25 : Int) (t26 : Int) : Option (Int × (Option Int)) := if t26 < t25 then (if (0 : Int) ≤ t26 ∧ t26 < (t24.length : Int) then (if (rd t24 t26) = (-1) then (h.l0 c_0 c_1 t4 t5 taken (w64 (sum + c_1)) t24 t25 (w64 (t26 + 1))) else (if (!(decide ((rd t24 t26) < 0))) = true → (0 : Int) ≤ t26 ∧ t26 < (c_0.length : Int) then (if (!((decide ((rd t24 t26) < 0)) || (decide (((rd c_0 t26).length : Int) ≤ (rd t24 t26))))) = true → (0 : Int) ≤ t26 ∧ t26 < (c_0.length : Int) then (if (!((decide ((rd t24 t26) < 0)) || (decide (((rd c_0 t26).length : Int) ≤ (rd t24 t26))))) = true → (0 : Int) ≤ rd t24 t26 ∧ rd t24 t26 < ((rd c_0 t26).length : Int) then (if ((((decide ((rd t24 t26) < 0)) || (decide (((rd c_0 t26).length : Int) ≤ (rd t24 t26)))) || (decide ((rd (rd c_0 t26) (rd t24 t26)) < 0))) || (mget taken (rd t24 t26) false)) = true then (some (0, some 14)) else (if (0 : Int) ≤ t26 ∧ t26 < (c_0.length : Int) then (if (0 : Int) ≤ rd t24 t26 ∧ rd t24 t26 < ((rd c_0 t26).length : Int) then (h.l0 c_0 c_1 t4 t5 (mput taken (rd t24 t26) true) (w64 (sum + (rd (rd c_0 t26) (rd t24 t26)))) t24 t25 (w64 (t26 + 1))) else none) else none)) else none) else none) else none)) else none) else (some (sum, none))
noncomputable def cost_Total.hs : Nat → cost_Total.Hs
 | 0 => ⟨fun _ _ _ _ _ _ _ _ _ => none⟩
 | k + 1 => ⟨fun x0 x1 x2 x3 x4 x5 x6 x7 x8 => cost_Total.b0 k (cost_Total.hs k) x0 x1 x2 x3 x4 x5 x6 x7 x8⟩
noncomputable def cost_Total.f (k : Nat) (c_ : cost_Costs) (at_ : List Int) : Option (Int × (Option Int)) := (fun h : cost_Total.Hs => (cost_Check.f k c_).bind fun y2 => if y2.isSome = true then (some (0, y2)) else (if (at_.length : Int) = (c_.f_Rows.length : Int) then (h.l0 c_.f_Rows c_.f_Miss 0 none [] 0 at_ (at_.length : Int) 0) else (some (0, some 14)))) (cost_Total.hs k)
structure cost_Total.LE (h h' : cost_Total.Hs) : Prop where
 l0 : ∀ y0 y1 y2 y3 y4 y5 y6 y7 y8, LeO (h.l0 y0 y1 y2 y3 y4 y5 y6 y7 y8) (h'.l0 y0 y1 y2 y3 y4 y5 y6 y7 y8)
theorem cost_Total.b0_mono {k : Nat} {h h' : cost_Total.Hs} (hl : cost_Total.LE h h') : ∀ y0 y1 y2 y3 y4 y5 y6 y7 y8, LeO (cost_Total.b0 k h y0 y1 y2 y3 y4 y5 y6 y7 y8) (cost_Total.b0 (k + 1) h' y0 y1 y2 y3 y4 y5 y6 y7 y8) := fun _ _ _ _ _ _ _ _ _ => (LeO.ite (LeO.ite (LeO.ite (hl.l0 _ _ _ _ _ _ _ _ _) (LeO.ite (LeO.ite (LeO.ite (LeO.ite (LeO.refl _) (LeO.ite (LeO.ite (hl.l0 _ _ _ _ _ _ _ _ _) (LeO.refl _)) (LeO.refl _))) (LeO.refl _)) (LeO.refl _)) (LeO.refl _))) (LeO.refl _)) (LeO.refl _))
theorem cost_Total.hs_mono : ∀ k, cost_Total.LE (cost_Total.hs k) (cost_Total.hs (k + 1))
 | 0 => ⟨fun _ _ _ _ _ _ _ _ _ => LeO.none _⟩
 | k + 1 => ⟨cost_Total.b0_mono (k := k) (cost_Total.hs_mono k)⟩
theorem cost_Total.mono : ∀ k y0 y1, LeO (cost_Total.f k y0 y1) (cost_Total.f (k + 1) y0 y1) := fun k _ _ => have hl := cost_Total.hs_mono k; by unfold cost_Total.f; exact (LeO.bind (cost_Check.mono k _) fun _ => LeO.ite (LeO.refl _) (LeO.ite (hl.l0 _ _ _ _ _ _ _ _ _) (LeO.refl _)))
noncomputable def cost_Total.Kl0 : List Item := .code (lopB (blkB (seqR (seqL (seqR (seqR (seqR (seqR (seqR cost_Total.C))))))))) :: .inLoop (lopB (blkB (seqR (seqL (seqR (seqR (seqR (seqR (seqR cost_Total.C))))))))) :: .inBlock 0 :: .code (seqR (seqR (seqR (seqR (seqR (seqR cost_Total.C)))))) :: []
structure cost_Total.OK (h : cost_Total.Hs) : Prop where
 l0 : ∀ {H0 H : Hp} {L : Items} {r : Int × (Option Int)} {jk_ : Nat → Value} {c_0 : List (List Int)} {c_1 : Int} {t4 : Int} {t5 : Option Int} {taken : List (Int × Bool)} {sum : Int} {t24 : List Int} {t25 : Int} {t26 : Int} {v_c_0 : Value} {v_taken : Value} {v_t24 : Value} {i_taken : Item'} {b_c_ : Nat} (_ : H0.le H) (_he : h.l0 c_0 c_1 t4 t5 taken sum t24 t25 t26 = some r) (_h_c_0 : Ro (Kd.slice kI64) H v_c_0 c_0) (_h_taken : Mp (mkInt .i64 (fun b => .bool b)) H 68 i_taken v_taken taken) (_h_t24 : Src kI64 H L v_t24 t24), Wp Tryd.prog 16 82 cost_Total.Kl0 (upd (upd (upd (upd (upd (upd (upd (upd jk_ 2 (.pointer (some ⟨b_c_, 0, none⟩))) 4 (.int .i64 t4)) 5 (errV 51 t5)) 7 (v_taken)) 8 (.int .i64 sum)) 24 (v_t24)) 25 (.int .i64 t25)) 26 (.int .i64 t26)) H (i_taken :: some (b_c_, .cells ⟨[v_c_0, .int .i64 c_1]⟩ 37 (0, 0)) :: L) (cost_Total.R H0 L r)
theorem cost_Total.b0_ok {k : Nat} {h : cost_Total.Hs} (hh : cost_Total.OK h) {H0 H : Hp} {L : Items} {r : Int × (Option Int)} {jk_ : Nat → Value} {c_0 : List (List Int)} {c_1 : Int} {t4 : Int} {t5 : Option Int} {taken : List (Int × Bool)} {sum : Int} {t24 : List Int} {t25 : Int} {t26 : Int} {v_c_0 : Value} {v_taken : Value} {v_t24 : Value} {i_taken : Item'} {b_c_ : Nat} (hle : H0.le H) (he : cost_Total.b0 k h c_0 c_1 t4 t5 taken sum t24 t25 t26 = some r) (h_c_0 : Ro (Kd.slice kI64) H v_c_0 c_0) (h_taken : Mp (mkInt .i64 (fun b => .bool b)) H 68 i_taken v_taken taken) (h_t24 : Src kI64 H L v_t24 t24) : Wp Tryd.prog 16 82 cost_Total.Kl0 (upd (upd (upd (upd (upd (upd (upd (upd jk_ 2 (.pointer (some ⟨b_c_, 0, none⟩))) 4 (.int .i64 t4)) 5 (errV 51 t5)) 7 (v_taken)) 8 (.int .i64 sum)) 24 (v_t24)) 25 (.int .i64 t25)) 26 (.int .i64 t26)) H (i_taken :: some (b_c_, .cells ⟨[v_c_0, .int .i64 c_1]⟩ 37 (0, 0)) :: L) (cost_Total.R H0 L r) := by
 unfold cost_Total.b0 at he
 unfold cost_Total.Kl0
 refine wR rfl <| w_d rfl (d_lss rfl rfl) <| wE ?_
 rcases its he with ⟨c11, he⟩ | ⟨c11, he⟩
 ·
  refine w_then rfl (dt c11) <| w_skip <| w_seq <| w_block <| wR rfl <| wM (.int .i64 t26) rfl rfl ?_
  obtain ⟨c12, he⟩ := rq he
  refine w_d rfl (d_index (sz := 1) Tryd.underlying34 sz3 rfl h_t24.th.th rfl c12) <| w_d rfl (d_ldint ty3 rfl h_t24.th.th c12) <| wA (.int .i64 t26) rfl rfl <| wA (.int .i64 (rd t24 t26)) rfl rfl <| w_done <| w_block <| wR rfl <| wM (.int .i64 (rd t24 t26)) rfl rfl <| w_d rfl (d_eql rfl rfl) <| wA (.bool (decide ((rd t24 t26) = (-1)))) rfl rfl <| w_done ?_
  rcases its he with ⟨c13, he⟩ | ⟨c13, he⟩
  ·
   refine w_then rfl (dt c13) <| w_region rfl <| wM (.int .i64 sum) rfl rfl <| w_d rfl (d_fld (o' := 1) Tryd.underlying37 rfl sz2 rfl rfl rfl) <| wL (.int .i64 c_1) ty2 rfl rfl (.there .here) rfl rfl <| w_d rfl (d_add (c := w64 (sum + c_1)) rfl rfl rfl) <| wA (.int .i64 (w64 (sum + c_1))) rfl rfl <| w_done <| w_inBlock <| w_inBlock <| w_region rfl <| w_d rfl (d_add (c := w64 (t26 + 1)) rfl rfl rfl) ?_
   refine wM (.int .i64 (w64 (t26 + 1))) rfl rfl <| w_done <| w_inLoop <| w_sl 2 (.pointer (some ⟨b_c_, 0, none⟩)) rfl <| w_sl 4 (.int .i64 t4) rfl <| w_sl 5 (errV 51 t5) rfl <| w_sl 7 (v_taken) rfl <| w_sl 8 (.int .i64 (w64 (sum + c_1))) rfl <| w_sl 24 (v_t24) rfl <| w_sl 25 (.int .i64 t25) rfl <| w_sl 26 (.int .i64 (w64 (t26 + 1))) rfl <| hh.l0 hle he h_c_0 h_taken h_t24
  ·
   refine w_else rfl (df c13) <| wR rfl <| wM (.int .i64 (rd t24 t26)) rfl rfl <| w_d rfl (d_lss rfl rfl) <| wM (.bool (decide ((rd t24 t26) < 0))) rfl rfl <| w_g (g := !(decide ((rd t24 t26) < 0))) rfl rfl rfl wn_f (fun g14 => d_move (v := .int .i64 (rd t24 t26)) rfl) <| w_g (g := !(decide ((rd t24 t26) < 0))) rfl rfl rfl wn_f (fun g15 => d_fld (o' := 0) Tryd.underlying37 rfl sz22 rfl rfl rfl) <| w_g (g := !(decide ((rd t24 t26) < 0))) rfl rfl rfl wn_f (fun g16 => d_loado (v := v_c_0) ty22 (cvt g16) (.there .here) rfl rfl rfl rfl) <| w_g (g := !(decide ((rd t24 t26) < 0))) rfl rfl rfl wn_f (fun g17 => d_move (v := .int .i64 t26) rfl) ?_
   obtain ⟨c19, he⟩ := rq he
   refine w_g (g := !(decide ((rd t24 t26) < 0))) rfl rfl rfl wn_f (fun g18 => d_index (sz := 1) Tryd.underlying22 sz32 (cvt g18) h_c_0.src (cvt g18) (c19 g18)) ?_
   obtain ⟨v22, l21, h23⟩ : ∃ v22 : Value, ((!(decide ((rd t24 t26) < 0))) = true → Cells H (pel v_c_0 t26 1) [v22]) ∧ ((!(decide ((rd t24 t26) < 0))) = true → Ro kI64 H v22 (rd c_0 t26)) := if g_ : (!(decide ((rd t24 t26) < 0))) = true then (by obtain ⟨_, l_, r_⟩ := el_ro (kd := (Kd.slice kI64)) h_c_0 (c19 g_); obtain ⟨v22, rfl, h23⟩ := r_; exact ⟨v22, fun _ => l_, fun _ => h23⟩) else ⟨undef, fun h_ => absurd h_ g_, fun h_ => absurd h_ g_⟩
   refine w_g (g := !(decide ((rd t24 t26) < 0))) rfl rfl rfl wn_f (fun g20 => d_load (v := v22) (cs := [v22]) ty32 (cvt g20) rfl (by decide) ((l21 g20)).lies rfl) <| w_g (g := !(decide ((rd t24 t26) < 0))) rfl rfl rfl wn_f (fun g24 => d_len Tryd.underlying32 (cvt g24) (h23 g24).src) <| w_g (g := !(decide ((rd t24 t26) < 0))) rfl rfl rfl wn_f (fun g25 => d_geq (cvt g25) (cvt g25)) <| w_d rfl (d_or' (b := (decide ((rd t24 t26) < 0))) (p := (decide (((rd c_0 t26).length : Int) ≤ (rd t24 t26)))) rfl rfl rfl) <| wM (.bool ((decide ((rd t24 t26) < 0)) || (decide (((rd c_0 t26).length : Int) ≤ (rd t24 t26))))) rfl rfl <| w_g (g := !((decide ((rd t24 t26) < 0)) || (decide (((rd c_0 t26).length : Int) ≤ (rd t24 t26))))) rfl rfl rfl wn_f (fun g26 => d_fld (o' := 0) Tryd.underlying37 rfl sz22 rfl rfl rfl) <| w_g (g := !((decide ((rd t24 t26) < 0)) || (decide (((rd c_0 t26).length : Int) ≤ (rd t24 t26))))) rfl rfl rfl wn_f (fun g27 => d_loado (v := v_c_0) ty22 (cvt g27) (.there .here) rfl rfl rfl rfl) <| w_g (g := !((decide ((rd t24 t26) < 0)) || (decide (((rd c_0 t26).length : Int) ≤ (rd t24 t26))))) rfl rfl rfl wn_f (fun g28 => d_move (v := .int .i64 t26) rfl) ?_
   obtain ⟨c30, he⟩ := rq he
   refine w_g (g := !((decide ((rd t24 t26) < 0)) || (decide (((rd c_0 t26).length : Int) ≤ (rd t24 t26))))) rfl rfl rfl wn_f (fun g29 => d_index (sz := 1) Tryd.underlying22 sz32 (cvt g29) h_c_0.src (cvt g29) (c30 g29)) ?_
   obtain ⟨v33, l32, h34⟩ : ∃ v33 : Value, ((!((decide ((rd t24 t26) < 0)) || (decide (((rd c_0 t26).length : Int) ≤ (rd t24 t26))))) = true → Cells H (pel v_c_0 t26 1) [v33]) ∧ ((!((decide ((rd t24 t26) < 0)) || (decide (((rd c_0 t26).length : Int) ≤ (rd t24 t26))))) = true → Ro kI64 H v33 (rd c_0 t26)) := if g_ : (!((decide ((rd t24 t26) < 0)) || (decide (((rd c_0 t26).length : Int) ≤ (rd t24 t26))))) = true then (by obtain ⟨_, l_, r_⟩ := el_ro (kd := (Kd.slice kI64)) h_c_0 (c30 g_); obtain ⟨v33, rfl, h34⟩ := r_; exact ⟨v33, fun _ => l_, fun _ => h34⟩) else ⟨undef, fun h_ => absurd h_ g_, fun h_ => absurd h_ g_⟩
   refine w_g (g := !((decide ((rd t24 t26) < 0)) || (decide (((rd c_0 t26).length : Int) ≤ (rd t24 t26))))) rfl rfl rfl wn_f (fun g31 => d_load (v := v33) (cs := [v33]) ty32 (cvt g31) rfl (by decide) ((l32 g31)).lies rfl) <| w_g (g := !((decide ((rd t24 t26) < 0)) || (decide (((rd c_0 t26).length : Int) ≤ (rd t24 t26))))) rfl rfl rfl wn_f (fun g35 => d_move (v := .int .i64 (rd t24 t26)) rfl) ?_
   obtain ⟨c37, he⟩ := rq he
   refine w_g (g := !((decide ((rd t24 t26) < 0)) || (decide (((rd c_0 t26).length : Int) ≤ (rd t24 t26))))) rfl rfl rfl wn_f (fun g36 => d_index (sz := 1) Tryd.underlying32 sz2 (cvt g36) (h34 g36).src (cvt g36) (c37 g36)) <| w_g (g := !((decide ((rd t24 t26) < 0)) || (decide (((rd c_0 t26).length : Int) ≤ (rd t24 t26))))) rfl rfl rfl wn_f (fun g38 => d_ldint ty2 (cvt g38) (h34 g38).src (c37 g38)) <| w_g (g := !((decide ((rd t24 t26) < 0)) || (decide (((rd c_0 t26).length : Int) ≤ (rd t24 t26))))) rfl rfl rfl wn_f (fun g39 => d_lss (cvt g39) rfl) <| w_d rfl (d_or' (b := ((decide ((rd t24 t26) < 0)) || (decide (((rd c_0 t26).length : Int) ≤ (rd t24 t26))))) (p := (decide ((rd (rd c_0 t26) (rd t24 t26)) < 0))) rfl rfl rfl) <| wM (.bool (((decide ((rd t24 t26) < 0)) || (decide (((rd c_0 t26).length : Int) ≤ (rd t24 t26)))) || (decide ((rd (rd c_0 t26) (rd t24 t26)) < 0)))) rfl rfl <| w_g (g := !(((decide ((rd t24 t26) < 0)) || (decide (((rd c_0 t26).length : Int) ≤ (rd t24 t26)))) || (decide ((rd (rd c_0 t26) (rd t24 t26)) < 0)))) rfl rfl rfl wn_f (fun g40 => d_move (v := v_taken) rfl) <| w_g (g := !(((decide ((rd t24 t26) < 0)) || (decide (((rd c_0 t26).length : Int) ≤ (rd t24 t26)))) || (decide ((rd (rd c_0 t26) (rd t24 t26)) < 0)))) rfl rfl rfl wn_f (fun g41 => d_move (v := .int .i64 (rd t24 t26)) rfl) <| w_g (g := !(((decide ((rd t24 t26) < 0)) || (decide (((rd c_0 t26).length : Int) ≤ (rd t24 t26)))) || (decide ((rd (rd c_0 t26) (rd t24 t26)) < 0)))) rfl rfl rfl wn_f (fun g42 => d_lookup (mk := (mkInt .i64 (fun b => .bool b))) (a := rd t24 t26) (d := false) Tryd.underlying68 Tryd.underlying3 rfl (cvt g42) (cvt g42) h_taken .here) <| w_d rfl (d_or' (b := (((decide ((rd t24 t26) < 0)) || (decide (((rd c_0 t26).length : Int) ≤ (rd t24 t26)))) || (decide ((rd (rd c_0 t26) (rd t24 t26)) < 0)))) (p := (mget taken (rd t24 t26) false)) rfl rfl rfl) <| wA (.bool ((((decide ((rd t24 t26) < 0)) || (decide (((rd c_0 t26).length : Int) ≤ (rd t24 t26)))) || (decide ((rd (rd c_0 t26) (rd t24 t26)) < 0))) || (mget taken (rd t24 t26) false))) rfl rfl <| w_done ?_
   rcases its he with ⟨c43, he⟩ | ⟨c43, he⟩
   ·
    refine w_then rfl c43 <| wR rfl <| w_d rfl (d_iface (v := .int .i64 14) Tryd.underlying51 rfl rfl) <| wA (.int .i64 0) rfl rfl <| wA (errV 51 (some 14)) rfl rfl <| w_done ?_
    obtain rfl := sj he
    refine w_return fn_16 rs_16 (.tmp (v := .int .i64 0) rfl (.tmp (v := errV 51 (some 14)) rfl .nil)) <| ⟨⟨[_, _], rfl⟩, hle, rfl⟩
   ·
    refine w_else rfl (Bool.eq_false_iff.2 c43) <| wR rfl <| wM v_taken rfl rfl <| wM (.int .i64 (rd t24 t26)) rfl rfl <| w_a0 rfl (o_mapUpdate (mk := (mkInt .i64 (fun b => .bool b))) (a := rd t24 t26) (c := true) (F := fun z_ => z_ :: some (b_c_, .cells ⟨[v_c_0, .int .i64 c_1]⟩ 37 (0, 0)) :: L) Tryd.underlying68 Tryd.underlying3 rfl rfl rfl h_taken (fun _ => .here)) ?_
    rintro _ _ _ ⟨i44, rfl, rfl, rfl, h45⟩
    refine w_done <| w_region rfl <| wM (.int .i64 sum) rfl rfl <| w_d rfl (d_fld (o' := 0) Tryd.underlying37 rfl sz22 rfl rfl rfl) <| wL v_c_0 ty22 rfl rfl (.there .here) rfl rfl <| wM (.int .i64 t26) rfl rfl ?_
    obtain ⟨c46, he⟩ := rq he
    refine w_d rfl (d_index (sz := 1) Tryd.underlying22 sz32 rfl h_c_0.src rfl c46) ?_
    obtain ⟨_, l47, r48⟩ := el_ro (kd := (Kd.slice kI64)) h_c_0 c46
    obtain ⟨v49, rfl, h50⟩ := r48
    refine w_d rfl (d_load (v := v49) (cs := [v49]) ty32 rfl rfl (by decide) (l47).lies rfl) <| wM (.int .i64 (rd t24 t26)) rfl rfl ?_
    obtain ⟨c51, he⟩ := rq he
    refine w_d rfl (d_index (sz := 1) Tryd.underlying32 sz2 rfl h50.src rfl c51) <| w_d rfl (d_ldint ty2 rfl h50.src c51) <| w_d rfl (d_add (c := w64 (sum + (rd (rd c_0 t26) (rd t24 t26)))) rfl rfl rfl) <| wA (.int .i64 (w64 (sum + (rd (rd c_0 t26) (rd t24 t26))))) rfl rfl <| w_done <| w_inBlock <| w_inBlock <| w_region rfl <| w_d rfl (d_add (c := w64 (t26 + 1)) rfl rfl rfl) <| wM (.int .i64 (w64 (t26 + 1))) rfl rfl <| w_done <| w_inLoop ?_
    refine w_sl 2 (.pointer (some ⟨b_c_, 0, none⟩)) rfl <| w_sl 4 (.int .i64 t4) rfl <| w_sl 5 (errV 51 t5) rfl <| w_sl 7 (v_taken) rfl <| w_sl 8 (.int .i64 (w64 (sum + (rd (rd c_0 t26) (rd t24 t26))))) rfl <| w_sl 24 (v_t24) rfl <| w_sl 25 (.int .i64 t25) rfl <| w_sl 26 (.int .i64 (w64 (t26 + 1))) rfl <| hh.l0 hle he h_c_0 h45 h_t24
 ·
  refine w_else rfl (df c11) <| w_exit rfl <| wR rfl <| wM (.int .i64 sum) rfl rfl <| wA (.int .i64 sum) rfl rfl <| wA (errV 51 none) rfl rfl <| w_done ?_
  obtain rfl := sj he
  refine w_return fn_16 rs_16 (.tmp (v := .int .i64 sum) rfl (.tmp (v := errV 51 none) rfl .nil)) <| ⟨⟨[_, _], rfl⟩, hle, rfl⟩
theorem cost_Total.ok : ∀ k, cost_Total.OK (cost_Total.hs k)
 | 0 => ⟨(by intros; exact nomatch (show none = some _ from by assumption))⟩
 | k + 1 => ⟨cost_Total.b0_ok (k := k) (cost_Total.ok k)⟩
theorem cost_Total.calls (k : Nat) {H : Hp} {L : Items} {c_ : cost_Costs} {at_ : List Int} {v0_c_ : Value} {v1_at_ : Value} {r : Int × (Option Int)} (he : cost_Total.f k c_ at_ = some r) (h0_c_ : Ro (Kd.slice kI64) H v0_c_ c_.f_Rows) (h1_at_ : Src kI64 H L v1_at_ at_) : Ct Tryd.prog 16 ⟨[.agg ⟨[v0_c_, .int .i64 c_.f_Miss]⟩, v1_at_]⟩ H L (fun v H' L' => L = L' ∧ H = H' ∧ v = .tuple ⟨[.int .i64 r.1, errV 51 r.2]⟩) := by
 refine ct_outs (O := cost_Total.out r) (fun _ _ h => h) ?_
 have hle : H.le H := .refl _
 have hh := cost_Total.ok k
 unfold cost_Total.f at he
 refine ct_enter (args := [.agg ⟨[v0_c_, .int .i64 c_.f_Miss]⟩, v1_at_]) fn_16 rfl nt_16 rfl <| wR rfl <| w_a rfl (o_box (v := .agg ⟨[v0_c_, .int .i64 c_.f_Miss]⟩) rfl rfl) ?_
 rintro _ _ _ ⟨b1, rfl, rfl, rfl⟩
 refine wA (.int .i64 0) rfl rfl <| wA (errV 51 none) rfl rfl <| wE <| wR rfl <| wL (.agg ⟨[v0_c_, .int .i64 c_.f_Miss]⟩) ty37 rfl rfl .here rfl rfl ?_
 obtain ⟨y2, hy3, he⟩ := bs he
 refine w_d rfl (call_d (o_call co21 (vs := [.agg ⟨[v0_c_, .int .i64 c_.f_Miss]⟩]) rfl (cost_Check.calls k (c_ := c_) hy3 h0_c_))) <| wA (errV 51 y2) rfl rfl <| wQ rfl <| wM (errV 51 y2) rfl rfl <| w_d rfl (d_nenil (e := y2) Tryd.underlying27 rfl) <| w_done ?_
 rcases its he with ⟨c6, he⟩ | ⟨c6, he⟩
 ·
  refine w_then rfl c6 <| wR rfl <| wM (errV 51 y2) rfl rfl <| wA (.int .i64 0) rfl rfl <| wA (errV 51 y2) rfl rfl <| w_done ?_
  obtain rfl := sj he
  refine w_return fn_16 rs_16 (.tmp (v := .int .i64 0) rfl (.tmp (v := errV 51 y2) rfl .nil)) <| ⟨⟨[_], rfl⟩, hle, rfl⟩
 ·
  refine w_else rfl (Bool.eq_false_iff.2 c6) <| w_skip <| w_seq <| wR rfl <| wM v1_at_ rfl rfl <| w_d rfl (d_len Tryd.underlying34 rfl h1_at_.th) <| w_d rfl (d_fld (o' := 0) Tryd.underlying37 rfl sz22 rfl rfl rfl) <| wL v0_c_ ty22 rfl rfl .here rfl rfl <| w_d rfl (d_len Tryd.underlying22 rfl h0_c_.src) <| w_d rfl (d_neq rfl rfl) <| w_done ?_
  rcases its he with ⟨c7, he⟩ | ⟨c7, he⟩
  ·
   refine w_else rfl (nd_t c7) <| w_skip <| wR rfl <| w_a rfl (o_makeMap (mk := (mkInt .i64 (fun b => .bool b)))) ?_
   rintro v8 _ _ ⟨i9, rfl, rfl, h10⟩
   refine wA v8 rfl rfl <| wQ rfl <| wA (.int .i64 0) rfl rfl <| wE <| wR rfl <| wM v1_at_ rfl rfl <| w_d rfl (d_len Tryd.underlying34 rfl h1_at_.th.th) <| wM (.int .i64 0) rfl rfl ?_
   refine w_done <| w_block <| w_loop <| w_sl 2 (.pointer (some ⟨b1, 0, none⟩)) rfl <| w_sl 4 (.int .i64 0) rfl <| w_sl 5 (errV 51 none) rfl <| w_sl 7 (v8) rfl <| w_sl 8 (.int .i64 0) rfl <| w_sl 24 (v1_at_) rfl <| w_sl 25 (.int .i64 (at_.length : Int)) rfl <| w_sl 26 (.int .i64 0) rfl <| hh.l0 hle he h0_c_ h10 h1_at_
  ·
   refine w_then rfl (nd_f c7) <| wR rfl <| w_d rfl (d_iface (v := .int .i64 14) Tryd.underlying51 rfl rfl) <| wA (.int .i64 0) rfl rfl <| wA (errV 51 (some 14)) rfl rfl <| w_done ?_
   obtain rfl := sj he
   refine w_return fn_16 rs_16 (.tmp (v := .int .i64 0) rfl (.tmp (v := errV 51 (some 14)) rfl .nil)) <| ⟨⟨[_], rfl⟩, hle, rfl⟩
noncomputable def best_Run.C : Code := (Tryd.f14.body).getD .skip
def best_Run.out (r : (List Int) × Int × (Option Int)) (H : Hp) (v : Value) : Prop := ∃ v0, v = .tuple ⟨[v0, .int .i64 r.2.1, errV 51 r.2.2]⟩ ∧ Ro kI64 H v0 r.1
abbrev best_Run.R (H0 : Hp) (L : Items) (r : (List Int) × Int × (Option Int)) := fR H0 L (best_Run.out r)
structure best_Run.Hs where
 l0 : (List (List Int)) → Int → (List Int) → (List Int) → Int → Int → Option ((List Int) × Int × (Option Int))
noncomputable def best_Run.b0 (k : Nat) (h : best_Run.Hs)  (c_0 : List (List Int)) (c_1 : Int) (at_ : List Int) (t33 : List Int) (t34 : Int) (t35 : Int) : Option ((List Int) × Int × (Option Int)) := if t35 < t34 then (if (0 : Int) ≤ t35 ∧ t35 < (t33.length : Int) then (if (rd t33 t35) = (-1) then (h.l0 c_0 c_1 at_ t33 t34 (w64 (t35 + 1))) else (if (0 : Int) ≤ rd t33 t35 ∧ rd t33 t35 < (at_.length : Int) then (h.l0 c_0 c_1 (at_.set (rd t33 t35 : Int).toNat t35) t33 t34 (w64 (t35 + 1))) else none)) else none) else ((cost_Total.f k (⟨c_0, c_1⟩ : cost_Costs) at_).bind fun y57 => some (at_, y57.1, y57.2))
noncomputable def best_Run.hs : Nat → best_Run.Hs
 | 0 => ⟨fun _ _ _ _ _ _ => none⟩
 | k + 1 => ⟨fun x0 x1 x2 x3 x4 x5 => best_Run.b0 k (best_Run.hs k) x0 x1 x2 x3 x4 x5⟩
noncomputable def best_Run.f (k : Nat) (c_ : cost_Costs) : Option ((List Int) × Int × (Option Int)) := (fun h : best_Run.Hs => (best_solved.f k c_).bind fun y2 => oe y2.1 (if y2.2.isSome = true then (some ([], 0, y2.2)) else (none)) (fun z10 => if y2.2.isSome = true then (some ([], 0, y2.2)) else ((slices_Repeat_int_int.f k [(-1)] z10.f_tracks).bind fun y34 => if (0 : Int) ≤ 0 ∧ (0 : Int) ≤ z10.f_plots ∧ z10.f_plots ≤ (z10.f_owner.length : Int) then (h.l0 c_.f_Rows c_.f_Miss y34 (cut z10.f_owner 0 z10.f_plots) ((cut z10.f_owner 0 z10.f_plots).length : Int) 0) else none))) (best_Run.hs k)
structure best_Run.LE (h h' : best_Run.Hs) : Prop where
 l0 : ∀ y0 y1 y2 y3 y4 y5, LeO (h.l0 y0 y1 y2 y3 y4 y5) (h'.l0 y0 y1 y2 y3 y4 y5)
theorem best_Run.b0_mono {k : Nat} {h h' : best_Run.Hs} (hl : best_Run.LE h h') : ∀ y0 y1 y2 y3 y4 y5, LeO (best_Run.b0 k h y0 y1 y2 y3 y4 y5) (best_Run.b0 (k + 1) h' y0 y1 y2 y3 y4 y5) := fun _ _ _ _ _ _ => (LeO.ite (LeO.ite (LeO.ite (hl.l0 _ _ _ _ _ _) (LeO.ite (hl.l0 _ _ _ _ _ _) (LeO.refl _))) (LeO.refl _)) (LeO.bind (cost_Total.mono k _ _) fun _ => LeO.refl _))
theorem best_Run.hs_mono : ∀ k, best_Run.LE (best_Run.hs k) (best_Run.hs (k + 1))
 | 0 => ⟨fun _ _ _ _ _ _ => LeO.none _⟩
 | k + 1 => ⟨best_Run.b0_mono (k := k) (best_Run.hs_mono k)⟩
theorem best_Run.mono : ∀ k y0, LeO (best_Run.f k y0) (best_Run.f (k + 1) y0) := fun k _ => have hl := best_Run.hs_mono k; by unfold best_Run.f; exact (LeO.bind (best_solved.mono k _) fun _ => LeO.oe (LeO.ite (LeO.refl _) (LeO.refl _)) fun _ => LeO.ite (LeO.refl _) (LeO.bind (slices_Repeat_int_int.mono k _ _) fun _ => LeO.ite (hl.l0 _ _ _ _ _ _) (LeO.refl _)))
noncomputable def best_Run.Kl0 : List Item := .code (lopB (blkB (seqR (seqL (seqR (seqR (seqR (seqR best_Run.C)))))))) :: .inLoop (lopB (blkB (seqR (seqL (seqR (seqR (seqR (seqR best_Run.C)))))))) :: .inBlock 0 :: .code (seqR (seqR (seqR (seqR (seqR best_Run.C))))) :: []
structure best_Run.OK (h : best_Run.Hs) : Prop where
 l0 : ∀ {H0 H : Hp} {L : Items} {r : (List Int) × Int × (Option Int)} {jk_ : Nat → Value} {c_0 : List (List Int)} {c_1 : Int} {at_ : List Int} {t33 : List Int} {t34 : Int} {t35 : Int} {v_c_0 : Value} {v_at_ : Value} {v_t33 : Value} {i_at_ : Item'} {b_c_ : Nat} (_ : H0.le H) (_he : h.l0 c_0 c_1 at_ t33 t34 t35 = some r) (_h_c_0 : Ro (Kd.slice kI64) H v_c_0 c_0) (_h_at_ : Sl kI64 H 3 i_at_ v_at_ at_) (_h_t33 : Ro kI64 H v_t33 t33), Wp Tryd.prog 14 56 best_Run.Kl0 (upd (upd (upd (upd (upd (upd (upd (upd jk_ 1 (.pointer (some ⟨b_c_, 0, none⟩))) 2 (.slice none 0 0)) 3 (.int .i64 0)) 4 (errV 51 none)) 7 (v_at_)) 33 (v_t33)) 34 (.int .i64 t34)) 35 (.int .i64 t35)) H (i_at_ :: some (b_c_, .cells ⟨[v_c_0, .int .i64 c_1]⟩ 37 (0, 0)) :: L) (best_Run.R H0 L r)
theorem best_Run.b0_ok {k : Nat} {h : best_Run.Hs} (hh : best_Run.OK h) {H0 H : Hp} {L : Items} {r : (List Int) × Int × (Option Int)} {jk_ : Nat → Value} {c_0 : List (List Int)} {c_1 : Int} {at_ : List Int} {t33 : List Int} {t34 : Int} {t35 : Int} {v_c_0 : Value} {v_at_ : Value} {v_t33 : Value} {i_at_ : Item'} {b_c_ : Nat} (hle : H0.le H) (he : best_Run.b0 k h c_0 c_1 at_ t33 t34 t35 = some r) (h_c_0 : Ro (Kd.slice kI64) H v_c_0 c_0) (h_at_ : Sl kI64 H 3 i_at_ v_at_ at_) (h_t33 : Ro kI64 H v_t33 t33) : Wp Tryd.prog 14 56 best_Run.Kl0 (upd (upd (upd (upd (upd (upd (upd (upd jk_ 1 (.pointer (some ⟨b_c_, 0, none⟩))) 2 (.slice none 0 0)) 3 (.int .i64 0)) 4 (errV 51 none)) 7 (v_at_)) 33 (v_t33)) 34 (.int .i64 t34)) 35 (.int .i64 t35)) H (i_at_ :: some (b_c_, .cells ⟨[v_c_0, .int .i64 c_1]⟩ 37 (0, 0)) :: L) (best_Run.R H0 L r) := by
 unfold best_Run.b0 at he
 unfold best_Run.Kl0
 refine wR rfl <| w_d rfl (d_lss rfl rfl) <| wE ?_
 rcases its he with ⟨c51, he⟩ | ⟨c51, he⟩
 ·
  refine w_then rfl (dt c51) <| w_skip <| w_seq <| w_block <| wR rfl <| wM (.int .i64 t35) rfl rfl ?_
  obtain ⟨c52, he⟩ := rq he
  refine w_d rfl (d_index (sz := 1) Tryd.underlying34 sz3 rfl h_t33.src rfl c52) <| w_d rfl (d_ldint ty3 rfl h_t33.src c52) <| wA (.int .i64 t35) rfl rfl <| wA (.int .i64 (rd t33 t35)) rfl rfl <| wQ rfl <| wM (.int .i64 (rd t33 t35)) rfl rfl <| w_d rfl (d_neq rfl rfl) <| w_done ?_
  rcases its he with ⟨c53, he⟩ | ⟨c53, he⟩
  ·
   refine w_else rfl (nd_t c53) <| w_skip <| w_inBlock <| w_region rfl <| w_d rfl (d_add (c := w64 (t35 + 1)) rfl rfl rfl) <| wM (.int .i64 (w64 (t35 + 1))) rfl rfl <| w_done <| w_inLoop <| w_sl 1 (.pointer (some ⟨b_c_, 0, none⟩)) rfl <| w_sl 2 (.slice none 0 0) rfl <| w_sl 3 (.int .i64 0) rfl <| w_sl 4 (errV 51 none) rfl ?_
   refine w_sl 7 (v_at_) rfl <| w_sl 33 (v_t33) rfl <| w_sl 34 (.int .i64 t34) rfl <| w_sl 35 (.int .i64 (w64 (t35 + 1))) rfl <| hh.l0 hle he h_c_0 h_at_ h_t33
  ·
   refine w_then rfl (nd_f c53) <| w_region rfl <| wM v_at_ rfl rfl <| wM (.int .i64 (rd t33 t35)) rfl rfl <| wM (.int .i64 t35) rfl rfl ?_
   obtain ⟨c54, he⟩ := rq he
   refine w_d rfl (d_indexS (sz := 1) Tryd.underlying34 sz3 rfl h_at_.shp rfl c54) <| w_a0 rfl (o_storeEl (kd := kI64) (v := .int .i64 t35) (F := fun z_ => z_ :: some (b_c_, .cells ⟨[v_c_0, .int .i64 c_1]⟩ 37 (0, 0)) :: L) sz3 rfl rfl rfl rfl h_at_ c54 (fun _ => .here)) ?_
   rintro _ _ _ ⟨i55, rfl, rfl, rfl, h56⟩
   refine w_done <| w_inBlock <| w_region rfl <| w_d rfl (d_add (c := w64 (t35 + 1)) rfl rfl rfl) <| wM (.int .i64 (w64 (t35 + 1))) rfl rfl <| w_done <| w_inLoop <| w_sl 1 (.pointer (some ⟨b_c_, 0, none⟩)) rfl <| w_sl 2 (.slice none 0 0) rfl <| w_sl 3 (.int .i64 0) rfl <| w_sl 4 (errV 51 none) rfl <| w_sl 7 (v_at_) rfl ?_
   refine w_sl 33 (v_t33) rfl <| w_sl 34 (.int .i64 t34) rfl <| w_sl 35 (.int .i64 (w64 (t35 + 1))) rfl <| hh.l0 hle he h_c_0 h56 h_t33
 ·
  refine w_else rfl (df c51) <| w_exit rfl <| wR rfl <| wL (.agg ⟨[v_c_0, .int .i64 c_1]⟩) ty37 rfl rfl (.there .here) rfl rfl <| wM v_at_ rfl rfl ?_
  obtain ⟨y57, hy58, he⟩ := bs he
  refine w_d rfl (call_d (o_call co16 (vs := [.agg ⟨[v_c_0, .int .i64 c_1]⟩, v_at_]) rfl (cost_Total.calls k (c_ := ⟨c_0, c_1⟩) hy58 h_c_0 (h_at_.src .here)))) <| wM (.tuple ⟨[.int .i64 y57.1, errV 51 y57.2]⟩) rfl rfl <| w_d rfl (d_ext (vs := [.int .i64 y57.1, errV 51 y57.2]) rfl rfl) <| w_d rfl (d_ext (vs := [.int .i64 y57.1, errV 51 y57.2]) rfl rfl) <| wA (.int .i64 y57.1) rfl rfl <| wA (errV 51 y57.2) rfl rfl <| wQ rfl <| wM v_at_ rfl rfl <| wM (.int .i64 y57.1) rfl rfl <| wM (errV 51 y57.2) rfl rfl ?_
  refine wA v_at_ rfl rfl <| wA (.int .i64 y57.1) rfl rfl <| wA (errV 51 y57.2) rfl rfl <| w_done <| w_freeze h_at_ .here ?_
  intro H61 e62 h63
  obtain rfl := sj he
  refine w_return fn_14 rs_14 (.tmp (v := v_at_) rfl (.tmp (v := .int .i64 y57.1) rfl (.tmp (v := errV 51 y57.2) rfl .nil))) <| ⟨⟨[_, _], rfl⟩, hle.trans e62, ⟨v_at_, rfl, h63⟩⟩
theorem best_Run.ok : ∀ k, best_Run.OK (best_Run.hs k)
 | 0 => ⟨(by intros; exact nomatch (show none = some _ from by assumption))⟩
 | k + 1 => ⟨best_Run.b0_ok (k := k) (best_Run.ok k)⟩
theorem best_Run.calls (k : Nat) {H : Hp} {L : Items} {c_ : cost_Costs} {v0_c_ : Value} {r : (List Int) × Int × (Option Int)} (he : best_Run.f k c_ = some r) (h0_c_ : Ro (Kd.slice kI64) H v0_c_ c_.f_Rows) : Ct Tryd.prog 14 ⟨[.agg ⟨[v0_c_, .int .i64 c_.f_Miss]⟩]⟩ H L (cR H L (best_Run.out r)) := by
 refine ct_out (O := best_Run.out r) ?_
 have hle : H.le H := .refl _
 have hh := best_Run.ok k
 unfold best_Run.f at he
 refine ct_enter (args := [.agg ⟨[v0_c_, .int .i64 c_.f_Miss]⟩]) fn_14 rfl nt_14 rfl <| wR rfl <| w_a rfl (o_box (v := .agg ⟨[v0_c_, .int .i64 c_.f_Miss]⟩) rfl rfl) ?_
 rintro _ _ _ ⟨b1, rfl, rfl, rfl⟩
 refine wA (.slice none 0 0) rfl rfl <| wA (.int .i64 0) rfl rfl <| wA (errV 51 none) rfl rfl <| wQ rfl <| wL (.agg ⟨[v0_c_, .int .i64 c_.f_Miss]⟩) ty37 rfl rfl .here rfl rfl ?_
 obtain ⟨y2, hy3, he⟩ := bs he
 refine w_a rfl (o_call co25 (vs := [.agg ⟨[v0_c_, .int .i64 c_.f_Miss]⟩]) rfl (best_solved.calls k (c_ := c_) hy3 h0_c_)) ?_
 rintro _ H4 _ ⟨i7, rfl, e5, ⟨p6, rfl, h8, h9⟩⟩
 refine wM (.tuple ⟨[.pointer p6, errV 51 y2.2]⟩) rfl rfl <| w_d rfl (d_ext (vs := [.pointer p6, errV 51 y2.2]) rfl rfl) <| w_d rfl (d_ext (vs := [.pointer p6, errV 51 y2.2]) rfl rfl) <| wA (.pointer p6) rfl rfl <| wA (errV 51 y2.2) rfl rfl <| w_done ?_
 rcases oes he with ⟨q11, he⟩ | ⟨z10, q11, he⟩
 ·
  obtain ⟨_, rfl, rfl⟩ := h9.resolve_right (by rintro ⟨x_, _, _, _, _, _, _, _, _, hx_, _⟩; rw [q11] at hx_; cases hx_)
  refine w_it (L' := none :: none :: none :: none :: some (b1, .cells ⟨[v0_c_, .int .i64 c_.f_Miss]⟩ 37 (0, 0)) :: L) rfl <| w_seq <| wR rfl <| wM (errV 51 y2.2) rfl rfl <| w_d rfl (d_nenil (e := y2.2) Tryd.underlying27 rfl) <| w_done ?_
  rcases its he with ⟨c12, he⟩ | ⟨c12, he⟩
  ·
   refine w_then rfl c12 <| wR rfl <| wM (errV 51 y2.2) rfl rfl <| wA (.slice none 0 0) rfl rfl <| wA (.int .i64 0) rfl rfl <| wA (errV 51 y2.2) rfl rfl <| w_done ?_
   obtain rfl := sj he
   refine w_return fn_14 rs_14 (.tmp (v := .slice none 0 0) rfl (.tmp (v := .int .i64 0) rfl (.tmp (v := errV 51 y2.2) rfl .nil))) <| ⟨⟨[_, _, _, _, _], rfl⟩, hle.trans e5, ⟨.slice none 0 0, rfl, (ro_nil _ _)⟩⟩
  ·
   refine w_else rfl (Bool.eq_false_iff.2 c12) <| absurd he (by simp)
 ·
  obtain ⟨x28, b16, v17, v19, i20, v22, i23, v25, i26, h29, rfl, rfl, h18, h21, h24, h27⟩ := h9.resolve_left (by rintro ⟨hx_, _⟩; rw [q11] at hx_; cases hx_)
  obtain rfl := Option.some.inj (q11.symm.trans h29)
  refine w_it (L' := some (b16, .cells ⟨[v17, .int .i64 z10.f_c.f_Miss, .int .i64 z10.f_tracks, .int .i64 z10.f_plots, v19, v22, v25]⟩ 67 (0, 0)) :: i20 :: i23 :: i26 :: some (b1, .cells ⟨[v0_c_, .int .i64 c_.f_Miss]⟩ 37 (0, 0)) :: L) rfl <| w_seq <| wR rfl <| wM (errV 51 y2.2) rfl rfl <| w_d rfl (d_nenil (e := y2.2) Tryd.underlying27 rfl) <| w_done ?_
  rcases its he with ⟨c30, he⟩ | ⟨c30, he⟩
  ·
   refine w_then rfl c30 <| wR rfl <| wM (errV 51 y2.2) rfl rfl <| wA (.slice none 0 0) rfl rfl <| wA (.int .i64 0) rfl rfl <| wA (errV 51 y2.2) rfl rfl <| w_done ?_
   obtain rfl := sj he
   refine w_return fn_14 rs_14 (.tmp (v := .slice none 0 0) rfl (.tmp (v := .int .i64 0) rfl (.tmp (v := errV 51 y2.2) rfl .nil))) <| ⟨⟨[_, _, _, _, _], rfl⟩, hle.trans e5, ⟨.slice none 0 0, rfl, (ro_nil _ _)⟩⟩
  ·
   refine w_else rfl (Bool.eq_false_iff.2 c30) <| w_skip <| wR rfl <| w_a rfl (o_buildSlice' (kd := kI64) (css := [[.int .i64 (-1)]]) (xs := [(-1)]) (parts := [(0, .int .i64 (-1))]) Tryd.underlying34 ti3 rfl ⟨_, _, rfl, rfl, rfl⟩ ⟨rfl, trivial⟩ rfl (by decide)) ?_
   rintro v31 _ _ ⟨i32, rfl, rfl, h33⟩
   refine wM (.pointer (some ⟨b16, 0, none⟩)) rfl rfl <| w_d rfl (d_nilCheck (p := ⟨b16, 0, none⟩) rfl) <| w_d rfl (d_fld (o' := 2) Tryd.underlying67 rfl sz3 rfl rfl rfl) <| wL (.int .i64 z10.f_tracks) ty3 rfl rfl (.there .here) rfl rfl ?_
   obtain ⟨y34, hy35, he⟩ := bs he
   refine w_a rfl (o_call co26 (vs := [v31, .int .i64 z10.f_tracks]) rfl (slices_Repeat_int_int.calls k hy35 (h33.src .here))) ?_
   rintro v40 H36 _ ⟨i41, rfl, e37, h42⟩
   refine wA v40 rfl rfl <| wE <| w_seq <| w_freeze (h27.mono e37) (.there (.there (.there (.there (.there .here))))) ?_
   intro H43 e44 h45
   obtain ⟨c46, he⟩ := rq he
   refine w_drawn (p := 11) (tl := []) [[], [(0, some 25)], [(1, some 26)], [(2, some 27)], [], [(4, some 29)], [(5, some 30)], [(6, some 31)], [(3, some 28), (7, some 32)], [(8, some 33)], []] [some 25, some 26, some 27, some 28, some 29, some 30, some 31, some 32, some 33, some 34, some 35] (fctF (.is (.pointer (some ⟨b16, 0, none⟩)) :: .is (.pointer (some ⟨b16, 0, none⟩)) :: .is (.pointer (some ⟨b16, 6, none⟩)) :: .is (v25) :: .is (.pointer (some ⟨b16, 0, none⟩)) :: .is (.pointer (some ⟨b16, 0, none⟩)) :: .is (.pointer (some ⟨b16, 3, none⟩)) :: .is (.int .i64 z10.f_plots) :: .ro kI64 (cut z10.f_owner 0 z10.f_plots) :: .is (.int .i64 ((cut z10.f_owner 0 z10.f_plots).length : Int)) :: .is (.int .i64 0) :: [])) (fun m_ => i41 :: i32 :: some (b16, .cells ⟨[v17, .int .i64 z10.f_c.f_Miss, .int .i64 z10.f_tracks, .int .i64 z10.f_plots, v19, v22, v25]⟩ 67 (0, 0)) :: i20 :: i23 :: none :: some (b1, .cells ⟨[v0_c_, .int .i64 c_.f_Miss]⟩ 37 (0, 0)) :: L) (fun _ => none) mixed (by kernel_rfl) (by kernel_rfl) rfl (fct_mono (by kernel_rfl)) ⟨(fun H' m_ hH hm_ hu_ => dn <| s_d (m_ 0) rfl (d_move (v := .pointer (some ⟨b16, 0, none⟩)) rfl) (by exact rfl) rfl), (by rintro H' m_ hH hm_ hu_ _ rfl; exact dn <| s_d (m_ 1) rfl (d_nilCheck (p := ⟨b16, 0, none⟩) rfl) (by exact rfl) rfl), (by rintro H' m_ hH hm_ hu_ _ rfl; exact dn <| s_d (m_ 2) rfl (d_fld (o' := 6) Tryd.underlying67 rfl sz34 rfl rfl rfl) (by exact rfl) rfl), (by rintro H' m_ hH hm_ hu_ _ rfl; exact dn <| s_d (m_ 3) rfl (d_loado (v := v25) ty34 rfl (.there (.there .here)) rfl rfl rfl rfl) (by exact rfl) rfl), (fun H' m_ hH hm_ hu_ => dn <| s_d (m_ 4) rfl (d_move (v := .pointer (some ⟨b16, 0, none⟩)) rfl) (by exact rfl) rfl), (by rintro H' m_ hH hm_ hu_ _ rfl; exact dn <| s_d (m_ 5) rfl (d_nilCheck (p := ⟨b16, 0, none⟩) rfl) (by exact rfl) rfl), (by rintro H' m_ hH hm_ hu_ _ rfl; exact dn <| s_d (m_ 6) rfl (d_fld (o' := 3) Tryd.underlying67 rfl sz3 rfl rfl rfl) (by exact rfl) rfl), (by rintro H' m_ hH hm_ hu_ _ rfl; exact dn <| s_d (m_ 7) rfl (d_loado (v := .int .i64 z10.f_plots) ty3 rfl (.there (.there .here)) rfl rfl rfl rfl) (by exact rfl) rfl), (by rintro H' m_ hH hm_ hu_ _ rfl _ rfl; exact dn <| s_k (m_ 8) rfl (o_cut (kd := kI64) Tryd.underlying34 sz3 rfl (h45.mono hH) (.inl ⟨rfl, rfl⟩) (.inr ⟨_, _, rfl, rfl⟩) c46) rfl (by rintro v_ _ _ ⟨h_, rfl, rfl⟩; exact ⟨rfl, .refl _, h_⟩)), (by rintro H' m_ hH hm_ hu_ v47 (h48 : Ro kI64 H' v47 (cut z10.f_owner 0 z10.f_plots)); exact dn <| s_d (m_ 9) rfl (d_len Tryd.underlying34 rfl h48.src) (by exact rfl) rfl), (fun H' m_ hH hm_ hu_ => dn <| s_d (m_ 10) rfl (d_move (v := .int .i64 0) rfl) (by exact rfl) rfl), trivial⟩ ?_
   intro H49 e50
   rintro _ _ rfl _ _ rfl _ _ rfl _ _ rfl _ _ rfl _ _ rfl _ _ rfl _ _ rfl v47 _ (h48 : Ro kI64 H49 v47 (cut z10.f_owner 0 z10.f_plots)) _ _ rfl _ _ rfl
   refine w_done <| w_block <| w_loop <| w_del (.there (.there (.there (.there (.there .here))))) <| w_del (.there (.there (.there (.there .here)))) <| w_del (.there (.there (.there .here))) <| w_del (.there (.there .here)) <| w_del (.there .here) <| w_sl 1 (.pointer (some ⟨b1, 0, none⟩)) rfl <| w_sl 2 (.slice none 0 0) rfl <| w_sl 3 (.int .i64 0) rfl <| w_sl 4 (errV 51 none) rfl ?_
   refine w_sl 7 (v40) rfl <| w_sl 33 (v47) rfl <| w_sl 34 (.int .i64 ((cut z10.f_owner 0 z10.f_plots).length : Int)) rfl <| w_sl 35 (.int .i64 0) rfl <| hh.l0 (hle.trans (((e5.trans e37).trans e44).trans e50)) he (h0_c_.mono (((e5.trans e37).trans e44).trans e50)) (h42.mono (e44.trans e50)) h48
noncomputable def slices_Clone_int64_int64.C : Code := (Tryd.f40.body).getD .skip
abbrev slices_Clone_int64_int64.out (r : (List Int)) (H : Hp) (v : Value) : Prop := Ro kI64 H v r
noncomputable def slices_Clone_int64_int64.f (k : Nat) (s : List Int) : Option (List Int) := if 0 + s.length ≤ 17592186044288 then (some (s)) else none
theorem slices_Clone_int64_int64.mono : ∀ k y0, LeO (slices_Clone_int64_int64.f k y0) (slices_Clone_int64_int64.f (k + 1) y0) := fun k _ => by unfold slices_Clone_int64_int64.f; exact (LeO.ite (LeO.refl _) (LeO.refl _))
theorem slices_Clone_int64_int64.calls (k : Nat) {H : Hp} {L : Items} {s : List Int} {v0_s : Value} {r : (List Int)} (he : slices_Clone_int64_int64.f k s = some r) (h0_s : Ro kI64 H v0_s s) : Ct Tryd.prog 40 ⟨[v0_s]⟩ H L (fun v H' L' => ∃ it, L' = it :: L ∧ H.le H' ∧ Sl kI64 H' 2 it v r) := by
 refine ct_own ?_
 have hle : H.le H := .refl _
 unfold slices_Clone_int64_int64.f at he
 obtain ⟨A_, n_, rfl, hc_, h1_⟩ := h0_s
 cases A_ with
 | none =>
  have e_ : s = [] := h1_.elim id fun h => (by obtain ⟨_, _, h, _⟩ := h; cases h)
  subst e_
  obtain ⟨_, he⟩ := rq he
  refine ct_enter (args := [.slice none 0 n_]) fn_40 rfl nt_40 rfl <| wR rfl <| wA (.slice none 0 0) rfl rfl <| wE <| wR rfl <| wM (.slice none 0 n_) rfl rfl <| w_d rfl (d_eqnil_n Tryd.underlying32 rfl) <| w_done <| w_then rfl rfl ?_
  refine wR rfl <| wA (.slice none 0 0) rfl rfl <| w_done <| w_none ?_
  obtain rfl := sj he
  refine w_return fn_40 rs_40 (.tmp (v := .slice none 0 0) rfl .nil) <| ⟨⟨[], _, rfl, (sl_nil _ _ _)⟩, hle⟩
 | some a_ =>
  have h0_s : Ro kI64 H (.slice (some a_) s.length n_) s := ⟨some a_, n_, rfl, hc_, h1_⟩
  refine ct_enter (args := [.slice (some a_) s.length n_]) fn_40 rfl nt_40 rfl <| wR rfl <| wA (.slice none 0 0) rfl rfl <| wE <| wR rfl <| wM (.slice (some a_) s.length n_) rfl rfl <| w_d rfl (d_eqnil_sl Tryd.underlying32 rfl rfl) <| w_done <| w_else rfl rfl ?_
  refine w_skip <| wR rfl <| w_a rfl (o_buildSlice' (kd := kI64) (css := []) (xs := []) (parts := []) Tryd.underlying32 ti2 rfl rfl trivial rfl (by decide)) ?_
  rintro v1 _ _ ⟨i2, rfl, rfl, h3⟩
  refine wM (.slice (some a_) s.length n_) rfl rfl ?_
  obtain ⟨c4, he⟩ := rq he
  refine w_a rfl (o_append' (kd := kI64) (F := fun z_ => z_ :: L) Tryd.underlying32 Tryd.underlying32 ti2 rfl (by first | omega | (simp only [List.nil_append, List.length_cons, List.length_nil]; omega)) rfl rfl h3 h0_s.src (fun _ => .here)) ?_
  rintro v5 _ _ ⟨i6, rfl, rfl, h7⟩
  refine wA v5 rfl rfl <| w_done ?_
  obtain rfl := sj he
  refine w_return fn_40 rs_40 (.tmp (v := v5) rfl .nil) <| ⟨⟨[], _, rfl, h7⟩, hle⟩
theorem slices_Clone_int64_int64.callsR (k : Nat) {H : Hp} {L : Items} {s : List Int} {v0_s : Value} {r : (List Int)} (he : slices_Clone_int64_int64.f k s = some r) (h0_s : Ro kI64 H v0_s s) : Ct Tryd.prog 40 ⟨[v0_s]⟩ H L (cR H L (slices_Clone_int64_int64.out r)) := ct_ro (slices_Clone_int64_int64.calls k he h0_s)
noncomputable def best_Proof.C : Code := (Tryd.f24.body).getD .skip
def best_Proof.out (r : (List Int) × (List Int) × (Option Int)) (H : Hp) (v : Value) : Prop := ∃ v0, ∃ v1, v = .tuple ⟨[v0, v1, errV 51 r.2.2]⟩ ∧ Ro kI64 H v0 r.1 ∧ Ro kI64 H v1 r.2.1
noncomputable def best_Proof.f (k : Nat) (c_ : cost_Costs) : Option ((List Int) × (List Int) × (Option Int)) := (best_solved.f k c_).bind fun y2 => oe y2.1 (if y2.2.isSome = true then (some ([], [], y2.2)) else (none)) (fun z10 => if y2.2.isSome = true then (some ([], [], y2.2)) else ((slices_Clone_int64_int64.f k z10.f_u).bind fun y34 => if (0 : Int) ≤ 0 ∧ (0 : Int) ≤ z10.f_plots ∧ z10.f_plots ≤ (z10.f_v.length : Int) then ((slices_Clone_int64_int64.f k (cut z10.f_v 0 z10.f_plots)).bind fun y45 => some (y34, y45, none)) else none))
theorem best_Proof.mono : ∀ k y0, LeO (best_Proof.f k y0) (best_Proof.f (k + 1) y0) := fun k _ => by unfold best_Proof.f; exact (LeO.bind (best_solved.mono k _) fun _ => LeO.oe (LeO.ite (LeO.refl _) (LeO.refl _)) fun _ => LeO.ite (LeO.refl _) (LeO.bind (slices_Clone_int64_int64.mono k _) fun _ => LeO.ite (LeO.bind (slices_Clone_int64_int64.mono k _) fun _ => LeO.refl _) (LeO.refl _)))
theorem best_Proof.calls (k : Nat) {H : Hp} {L : Items} {c_ : cost_Costs} {v0_c_ : Value} {r : (List Int) × (List Int) × (Option Int)} (he : best_Proof.f k c_ = some r) (h0_c_ : Ro (Kd.slice kI64) H v0_c_ c_.f_Rows) : Ct Tryd.prog 24 ⟨[.agg ⟨[v0_c_, .int .i64 c_.f_Miss]⟩]⟩ H L (cR H L (best_Proof.out r)) := by
 refine ct_out (O := best_Proof.out r) ?_
 have hle : H.le H := .refl _
 unfold best_Proof.f at he
 refine ct_enter (args := [.agg ⟨[v0_c_, .int .i64 c_.f_Miss]⟩]) fn_24 rfl nt_24 rfl <| wR rfl <| w_a rfl (o_box (v := .agg ⟨[v0_c_, .int .i64 c_.f_Miss]⟩) rfl rfl) ?_
 rintro _ _ _ ⟨b1, rfl, rfl, rfl⟩
 refine wA (.slice none 0 0) rfl rfl <| wA (.slice none 0 0) rfl rfl <| wA (errV 51 none) rfl rfl <| wQ rfl <| wL (.agg ⟨[v0_c_, .int .i64 c_.f_Miss]⟩) ty37 rfl rfl .here rfl rfl ?_
 obtain ⟨y2, hy3, he⟩ := bs he
 refine w_a rfl (o_call co25 (vs := [.agg ⟨[v0_c_, .int .i64 c_.f_Miss]⟩]) rfl (best_solved.calls k (c_ := c_) hy3 h0_c_)) ?_
 rintro _ H4 _ ⟨i7, rfl, e5, ⟨p6, rfl, h8, h9⟩⟩
 refine wM (.tuple ⟨[.pointer p6, errV 51 y2.2]⟩) rfl rfl <| w_d rfl (d_ext (vs := [.pointer p6, errV 51 y2.2]) rfl rfl) <| w_d rfl (d_ext (vs := [.pointer p6, errV 51 y2.2]) rfl rfl) <| wA (.pointer p6) rfl rfl <| wA (errV 51 y2.2) rfl rfl <| w_done ?_
 rcases oes he with ⟨q11, he⟩ | ⟨z10, q11, he⟩
 ·
  obtain ⟨_, rfl, rfl⟩ := h9.resolve_right (by rintro ⟨x_, _, _, _, _, _, _, _, _, hx_, _⟩; rw [q11] at hx_; cases hx_)
  refine w_it (L' := none :: none :: none :: none :: some (b1, .cells ⟨[v0_c_, .int .i64 c_.f_Miss]⟩ 37 (0, 0)) :: L) rfl <| w_seq <| wR rfl <| wM (errV 51 y2.2) rfl rfl <| w_d rfl (d_nenil (e := y2.2) Tryd.underlying27 rfl) <| w_done ?_
  rcases its he with ⟨c12, he⟩ | ⟨c12, he⟩
  ·
   refine w_then rfl c12 <| wR rfl <| wM (errV 51 y2.2) rfl rfl <| wA (.slice none 0 0) rfl rfl <| wA (.slice none 0 0) rfl rfl <| wA (errV 51 y2.2) rfl rfl <| w_done ?_
   obtain rfl := sj he
   refine w_return fn_24 rs_24 (.tmp (v := .slice none 0 0) rfl (.tmp (v := .slice none 0 0) rfl (.tmp (v := errV 51 y2.2) rfl .nil))) <| ⟨⟨[_, _, _, _, _], rfl⟩, hle.trans e5, ⟨.slice none 0 0, .slice none 0 0, rfl, (ro_nil _ _), (ro_nil _ _)⟩⟩
  ·
   refine w_else rfl (Bool.eq_false_iff.2 c12) <| absurd he (by simp)
 ·
  obtain ⟨x25, b13, v14, v16, i17, v19, i20, v22, i23, h26, rfl, rfl, h15, h18, h21, h24⟩ := h9.resolve_left (by rintro ⟨hx_, _⟩; rw [q11] at hx_; cases hx_)
  obtain rfl := Option.some.inj (q11.symm.trans h26)
  refine w_it (L' := some (b13, .cells ⟨[v14, .int .i64 z10.f_c.f_Miss, .int .i64 z10.f_tracks, .int .i64 z10.f_plots, v16, v19, v22]⟩ 67 (0, 0)) :: i17 :: i20 :: i23 :: some (b1, .cells ⟨[v0_c_, .int .i64 c_.f_Miss]⟩ 37 (0, 0)) :: L) rfl <| w_seq <| wR rfl <| wM (errV 51 y2.2) rfl rfl <| w_d rfl (d_nenil (e := y2.2) Tryd.underlying27 rfl) <| w_done ?_
  rcases its he with ⟨c27, he⟩ | ⟨c27, he⟩
  ·
   refine w_then rfl c27 <| wR rfl <| wM (errV 51 y2.2) rfl rfl <| wA (.slice none 0 0) rfl rfl <| wA (.slice none 0 0) rfl rfl <| wA (errV 51 y2.2) rfl rfl <| w_done ?_
   obtain rfl := sj he
   refine w_return fn_24 rs_24 (.tmp (v := .slice none 0 0) rfl (.tmp (v := .slice none 0 0) rfl (.tmp (v := errV 51 y2.2) rfl .nil))) <| ⟨⟨[_, _, _, _, _], rfl⟩, hle.trans e5, ⟨.slice none 0 0, .slice none 0 0, rfl, (ro_nil _ _), (ro_nil _ _)⟩⟩
  ·
   refine w_else rfl (Bool.eq_false_iff.2 c27) <| w_skip <| w_seq <| w_freeze h18 (.there .here) ?_
   intro H28 e29 h30
   refine w_freeze (h21.mono e29) (.there (.there .here)) ?_
   intro H31 e32 h33
   obtain ⟨y34, hy35, he⟩ := bs he
   obtain ⟨c40, he⟩ := rq he
   refine w_drawn (p := 14) (tl := [14, 15, 16, 17]) [[], [(0, some 15)], [(1, some 16)], [(2, some 17)], [(3, some 18)], [], [(5, some 20)], [(6, some 21)], [(7, some 22)], [], [(9, some 24)], [(10, some 25)], [(11, some 26)], [(8, some 23), (12, some 27)]] [some 15, some 16, some 17, some 18, some 19, some 20, some 21, some 22, some 23, some 24, some 25, some 26, some 27, some 28] (fctF (.is (.pointer (some ⟨b13, 0, none⟩)) :: .is (.pointer (some ⟨b13, 0, none⟩)) :: .is (.pointer (some ⟨b13, 4, none⟩)) :: .is (v16) :: .ro kI64 (y34) :: .is (.pointer (some ⟨b13, 0, none⟩)) :: .is (.pointer (some ⟨b13, 0, none⟩)) :: .is (.pointer (some ⟨b13, 5, none⟩)) :: .is (v19) :: .is (.pointer (some ⟨b13, 0, none⟩)) :: .is (.pointer (some ⟨b13, 0, none⟩)) :: .is (.pointer (some ⟨b13, 3, none⟩)) :: .is (.int .i64 z10.f_plots) :: .ro kI64 (cut z10.f_v 0 z10.f_plots) :: [])) (fun m_ => some (b13, .cells ⟨[v14, .int .i64 z10.f_c.f_Miss, .int .i64 z10.f_tracks, .int .i64 z10.f_plots, v16, v19, v22]⟩ 67 (0, 0)) :: none :: none :: i23 :: some (b1, .cells ⟨[v0_c_, .int .i64 c_.f_Miss]⟩ 37 (0, 0)) :: L) (fun _ => none) mixed (by kernel_rfl) (by kernel_rfl) rfl (fct_mono (by kernel_rfl)) ⟨(fun H' m_ hH hm_ hu_ => dn <| s_d (m_ 0) rfl (d_move (v := .pointer (some ⟨b13, 0, none⟩)) rfl) (by exact rfl) rfl), (by rintro H' m_ hH hm_ hu_ _ rfl; exact dn <| s_d (m_ 1) rfl (d_nilCheck (p := ⟨b13, 0, none⟩) rfl) (by exact rfl) rfl), (by rintro H' m_ hH hm_ hu_ _ rfl; exact dn <| s_d (m_ 2) rfl (d_fld (o' := 4) Tryd.underlying67 rfl sz32 rfl rfl rfl) (by exact rfl) rfl), (by rintro H' m_ hH hm_ hu_ _ rfl; exact dn <| s_d (m_ 3) rfl (d_loado (v := v16) ty32 rfl .here rfl rfl rfl rfl) (by exact rfl) rfl), (by rintro H' m_ hH hm_ hu_ _ rfl; exact dn <| s_k (m_ 4) rfl (o_call co40 (vs := [v16]) rfl (slices_Clone_int64_int64.callsR k hy35 (h30.mono (e32.trans hH)))) rfl (by rintro v_ H_ _ ⟨rfl, e_, h_⟩; exact ⟨rfl, e_, h_⟩)), (fun H' m_ hH hm_ hu_ => dn <| s_d (m_ 5) rfl (d_move (v := .pointer (some ⟨b13, 0, none⟩)) rfl) (by exact rfl) rfl), (by rintro H' m_ hH hm_ hu_ _ rfl; exact dn <| s_d (m_ 6) rfl (d_nilCheck (p := ⟨b13, 0, none⟩) rfl) (by exact rfl) rfl), (by rintro H' m_ hH hm_ hu_ _ rfl; exact dn <| s_d (m_ 7) rfl (d_fld (o' := 5) Tryd.underlying67 rfl sz32 rfl rfl rfl) (by exact rfl) rfl), (by rintro H' m_ hH hm_ hu_ _ rfl; exact dn <| s_d (m_ 8) rfl (d_loado (v := v19) ty32 rfl .here rfl rfl rfl rfl) (by exact rfl) rfl), (fun H' m_ hH hm_ hu_ => dn <| s_d (m_ 9) rfl (d_move (v := .pointer (some ⟨b13, 0, none⟩)) rfl) (by exact rfl) rfl), (by rintro H' m_ hH hm_ hu_ _ rfl; exact dn <| s_d (m_ 10) rfl (d_nilCheck (p := ⟨b13, 0, none⟩) rfl) (by exact rfl) rfl), (by rintro H' m_ hH hm_ hu_ _ rfl; exact dn <| s_d (m_ 11) rfl (d_fld (o' := 3) Tryd.underlying67 rfl sz3 rfl rfl rfl) (by exact rfl) rfl), (by rintro H' m_ hH hm_ hu_ _ rfl; exact dn <| s_d (m_ 12) rfl (d_loado (v := .int .i64 z10.f_plots) ty3 rfl .here rfl rfl rfl rfl) (by exact rfl) rfl), (by rintro H' m_ hH hm_ hu_ _ rfl _ rfl; exact dn <| s_k (m_ 13) rfl (o_cut (kd := kI64) Tryd.underlying32 sz2 rfl (h33.mono hH) (.inl ⟨rfl, rfl⟩) (.inr ⟨_, _, rfl, rfl⟩) c40) rfl (by rintro v_ _ _ ⟨h_, rfl, rfl⟩; exact ⟨rfl, .refl _, h_⟩)), trivial⟩ ?_
   intro H43 e44
   rintro _ _ rfl _ _ rfl _ _ rfl _ _ rfl v38 _ (h39 : Ro kI64 H43 v38 y34) _ _ rfl _ _ rfl _ _ rfl _ _ rfl _ _ rfl _ _ rfl _ _ rfl _ _ rfl v41 _ (h42 : Ro kI64 H43 v41 (cut z10.f_v 0 z10.f_plots))
   obtain ⟨y45, hy46, he⟩ := bs he
   refine w_a rfl (o_call co40 (vs := [v41]) rfl (slices_Clone_int64_int64.calls k hy46 h42)) ?_
   rintro v51 H47 _ ⟨i52, rfl, e48, h53⟩
   refine wA v38 rfl rfl <| wA v51 rfl rfl <| wA (errV 51 none) rfl rfl <| w_done <| w_freeze h53 .here ?_
   intro H54 e55 h56
   obtain rfl := sj he
   refine w_return fn_24 rs_24 (.tmp (v := v38) rfl (.tmp (v := v51) rfl (.tmp (v := errV 51 none) rfl .nil))) <| ⟨⟨[_, _, _, _, _, _], rfl⟩, hle.trans (((((e5.trans e29).trans e32).trans e44).trans e48).trans e55), ⟨v38, v51, rfl, (h39.mono (e48.trans e55)), h56⟩⟩
noncomputable def radomelaw22_sure.C : Code := (Tryd.f13.body).getD .skip
def radomelaw22_sure.out (r : Bool) (H : Hp) (v : Value) : Prop := v = .bool r
noncomputable def radomelaw22_sure.f (k : Nat)  : Option Bool := (best_Run.f k (⟨[[5, 1], [2, 1]], 100⟩ : cost_Costs)).bind fun y20 => (best_Proof.f k (⟨[[5, 1], [2, 1]], 100⟩ : cost_Costs)).bind fun y26 => (best_Shows.f k (⟨[[5, 1], [2, 1]], 100⟩ : cost_Costs) y26.1 y26.2.1 3).bind fun y34 => (best_Shows.f k (⟨[[5, 1], [2, 1]], 100⟩ : cost_Costs) y26.1 y26.2.1 4).bind fun y38 => if (((((y20.2.2.isNone && y26.2.2.isNone) && y34.2.isNone) && y38.2.isNone) && (decide (y20.2.1 = 3))) && (decide ((y20.1.length : Int) = 2))) = true → (0 : Int) ≤ 0 ∧ 0 < (y20.1.length : Int) then (some ((((((((y20.2.2.isNone && y26.2.2.isNone) && y34.2.isNone) && y38.2.isNone) && (decide (y20.2.1 = 3))) && (decide ((y20.1.length : Int) = 2))) && (decide ((rd y20.1 0) = 1))) && y34.1) && (!y38.1))) else none
theorem radomelaw22_sure.mono : ∀ k, LeO (radomelaw22_sure.f k) (radomelaw22_sure.f (k + 1)) := fun k => by unfold radomelaw22_sure.f; exact (LeO.bind (best_Run.mono k _) fun _ => LeO.bind (best_Proof.mono k _) fun _ => LeO.bind (best_Shows.mono k _ _ _ _) fun _ => LeO.bind (best_Shows.mono k _ _ _ _) fun _ => LeO.ite (LeO.refl _) (LeO.refl _))
theorem radomelaw22_sure.calls (k : Nat) {H : Hp} {L : Items} {r : Bool} (he : radomelaw22_sure.f k  = some r) : Ct Tryd.prog 13 ⟨[]⟩ H L (fun v H' L' => L = L' ∧ H = H' ∧ v = .bool r) := by
 refine ct_outs (O := radomelaw22_sure.out r) (fun _ _ h => h) ?_
 have hle : H.le H := .refl _
 unfold radomelaw22_sure.f at he
 refine ct_enter (args := []) fn_13 rfl nt_13 rfl <| wR rfl <| wA (.bool false) rfl rfl <| wQ rfl <| w_a rfl (o_buildSlice' (kd := kI64) (css := [[.int .i64 5], [.int .i64 1]]) (xs := [5, 1]) (parts := [(0, .int .i64 5), (1, .int .i64 1)]) Tryd.underlying32 ti2 rfl ⟨_, _, rfl, rfl, ⟨_, _, rfl, rfl, rfl⟩⟩ ⟨rfl, ⟨rfl, trivial⟩⟩ rfl (by decide)) ?_
 rintro v1 _ _ ⟨i2, rfl, rfl, h3⟩
 refine w_a rfl (o_buildSlice' (kd := kI64) (css := [[.int .i64 2], [.int .i64 1]]) (xs := [2, 1]) (parts := [(0, .int .i64 2), (1, .int .i64 1)]) Tryd.underlying32 ti2 rfl ⟨_, _, rfl, rfl, ⟨_, _, rfl, rfl, rfl⟩⟩ ⟨rfl, ⟨rfl, trivial⟩⟩ rfl (by decide)) ?_
 rintro v4 _ _ ⟨i5, rfl, rfl, h6⟩
 refine w_freeze h3 (.there .here) ?_
 intro H7 e8 h9
 refine w_freeze (h6.mono e8) .here ?_
 intro H10 e11 h12
 refine w_a rfl (o_buildSlice' (kd := (Kd.slice kI64)) (css := [[v1], [v4]]) (xs := [[5, 1], [2, 1]]) (parts := [(0, v1), (1, v4)]) Tryd.underlying22 ti32 rfl ⟨_, _, rfl, h9.cells, ⟨_, _, rfl, h12.cells, rfl⟩⟩ ⟨⟨_, rfl, (h9.mono e11)⟩, ⟨⟨_, rfl, h12⟩, trivial⟩⟩ rfl (by decide)) ?_
 rintro v13 _ _ ⟨i14, rfl, rfl, h15⟩
 refine w_d rfl (d_build (cs' := [v13, .int .i64 100]) Tryd.underlying37 zr37 rfl (by kernel_rfl) (parts := [(0, v13), (1, .int .i64 100)]) rfl (.cons (place_of rfl sz22 rfl) h15.cells rfl u1 (.cons (place_of rfl sz2 rfl) rfl rfl (.there u1) .nil))) <| w_a rfl (o_alloc zr37 rfl) ?_
 rintro _ _ _ ⟨b16, rfl, rfl, rfl⟩
 refine w_a0 rfl (o_store (v := .agg ⟨[v13, .int .i64 100]⟩) sz37 rfl rfl rfl rfl (oc (h15.one) (oc rfl oz)) .here u2) ?_
 rintro _ _ _ ⟨rfl, rfl, rfl⟩
 refine wQ rfl <| wL (.agg ⟨[v13, .int .i64 100]⟩) ty37 rfl rfl .here rfl rfl <| w_freeze h15 (.there .here) ?_
 intro H17 e18 h19
 obtain ⟨y20, hy21, he⟩ := bs he
 refine w_a rfl (o_call co14 (vs := [.agg ⟨[v13, .int .i64 100]⟩]) rfl (best_Run.calls k (c_ := ⟨[[5, 1], [2, 1]], 100⟩) hy21 h19)) ?_
 rintro _ H22 _ ⟨rfl, e23, ⟨v24, rfl, h25⟩⟩
 refine wM (.tuple ⟨[v24, .int .i64 y20.2.1, errV 51 y20.2.2]⟩) rfl rfl <| w_d rfl (d_ext (vs := [v24, .int .i64 y20.2.1, errV 51 y20.2.2]) rfl rfl) <| w_d rfl (d_ext (vs := [v24, .int .i64 y20.2.1, errV 51 y20.2.2]) rfl rfl) <| w_d rfl (d_ext (vs := [v24, .int .i64 y20.2.1, errV 51 y20.2.2]) rfl rfl) <| wA v24 rfl rfl <| wA (.int .i64 y20.2.1) rfl rfl <| wA (errV 51 y20.2.2) rfl rfl <| wQ rfl <| wL (.agg ⟨[v13, .int .i64 100]⟩) ty37 rfl rfl .here rfl rfl ?_
 obtain ⟨y26, hy27, he⟩ := bs he
 refine w_a rfl (o_call co24 (vs := [.agg ⟨[v13, .int .i64 100]⟩]) rfl (best_Proof.calls k (c_ := ⟨[[5, 1], [2, 1]], 100⟩) hy27 (h19.mono e23))) ?_
 rintro _ H28 _ ⟨rfl, e29, ⟨v30, v32, rfl, h31, h33⟩⟩
 refine wM (.tuple ⟨[v30, v32, errV 51 y26.2.2]⟩) rfl rfl <| w_d rfl (d_ext (vs := [v30, v32, errV 51 y26.2.2]) rfl rfl) <| w_d rfl (d_ext (vs := [v30, v32, errV 51 y26.2.2]) rfl rfl) <| w_d rfl (d_ext (vs := [v30, v32, errV 51 y26.2.2]) rfl rfl) <| wA v30 rfl rfl <| wA v32 rfl rfl <| wA (errV 51 y26.2.2) rfl rfl <| wQ rfl <| wL (.agg ⟨[v13, .int .i64 100]⟩) ty37 rfl rfl .here rfl rfl <| wM v30 rfl rfl ?_
 refine wM v32 rfl rfl ?_
 obtain ⟨y34, hy35, he⟩ := bs he
 refine w_d rfl (call_d (o_call co18 (vs := [.agg ⟨[v13, .int .i64 100]⟩, v30, v32, .int .i64 3]) rfl (best_Shows.calls k (c_ := ⟨[[5, 1], [2, 1]], 100⟩) hy35 (h19.mono (e23.trans e29)) h31.src h33.src))) <| wM (.tuple ⟨[.bool y34.1, errV 51 y34.2]⟩) rfl rfl <| w_d rfl (d_ext (vs := [.bool y34.1, errV 51 y34.2]) rfl rfl) <| w_d rfl (d_ext (vs := [.bool y34.1, errV 51 y34.2]) rfl rfl) <| wA (.bool y34.1) rfl rfl <| wA (errV 51 y34.2) rfl rfl <| wQ rfl <| wL (.agg ⟨[v13, .int .i64 100]⟩) ty37 rfl rfl .here rfl rfl <| wM v30 rfl rfl <| wM v32 rfl rfl ?_
 obtain ⟨y38, hy39, he⟩ := bs he
 refine w_d rfl (call_d (o_call co18 (vs := [.agg ⟨[v13, .int .i64 100]⟩, v30, v32, .int .i64 4]) rfl (best_Shows.calls k (c_ := ⟨[[5, 1], [2, 1]], 100⟩) hy39 (h19.mono (e23.trans e29)) h31.src h33.src))) <| wM (.tuple ⟨[.bool y38.1, errV 51 y38.2]⟩) rfl rfl <| w_d rfl (d_ext (vs := [.bool y38.1, errV 51 y38.2]) rfl rfl) <| w_d rfl (d_ext (vs := [.bool y38.1, errV 51 y38.2]) rfl rfl) <| wA (.bool y38.1) rfl rfl <| wA (errV 51 y38.2) rfl rfl <| wQ rfl <| wM (errV 51 y20.2.2) rfl rfl <| w_d rfl (d_eqnil (e := y20.2.2) Tryd.underlying27 rfl) <| wM (.bool y20.2.2.isNone) rfl rfl ?_
 refine w_g (g := y20.2.2.isNone) rfl rfl rfl wn_t (fun g42 => d_move (v := errV 51 y26.2.2) rfl) <| w_g (g := y20.2.2.isNone) rfl rfl rfl wn_t (fun g43 => d_eqnil (e := y26.2.2) Tryd.underlying27 (cvt g43)) <| w_d rfl (d_and' (b := y20.2.2.isNone) (p := y26.2.2.isNone) rfl rfl rfl) <| wM (.bool (y20.2.2.isNone && y26.2.2.isNone)) rfl rfl <| w_g (g := y20.2.2.isNone && y26.2.2.isNone) rfl rfl rfl wn_t (fun g44 => d_move (v := errV 51 y34.2) rfl) <| w_g (g := y20.2.2.isNone && y26.2.2.isNone) rfl rfl rfl wn_t (fun g45 => d_eqnil (e := y34.2) Tryd.underlying27 (cvt g45)) <| w_d rfl (d_and' (b := (y20.2.2.isNone && y26.2.2.isNone)) (p := y34.2.isNone) rfl rfl rfl) <| wM (.bool ((y20.2.2.isNone && y26.2.2.isNone) && y34.2.isNone)) rfl rfl <| w_g (g := (y20.2.2.isNone && y26.2.2.isNone) && y34.2.isNone) rfl rfl rfl wn_t (fun g46 => d_move (v := errV 51 y38.2) rfl) <| w_g (g := (y20.2.2.isNone && y26.2.2.isNone) && y34.2.isNone) rfl rfl rfl wn_t (fun g47 => d_eqnil (e := y38.2) Tryd.underlying27 (cvt g47)) <| w_d rfl (d_and' (b := ((y20.2.2.isNone && y26.2.2.isNone) && y34.2.isNone)) (p := y38.2.isNone) rfl rfl rfl) <| wM (.bool (((y20.2.2.isNone && y26.2.2.isNone) && y34.2.isNone) && y38.2.isNone)) rfl rfl ?_
 refine w_g (g := ((y20.2.2.isNone && y26.2.2.isNone) && y34.2.isNone) && y38.2.isNone) rfl rfl rfl wn_t (fun g48 => d_move (v := .int .i64 y20.2.1) rfl) <| w_g (g := ((y20.2.2.isNone && y26.2.2.isNone) && y34.2.isNone) && y38.2.isNone) rfl rfl rfl wn_t (fun g49 => d_eql (cvt g49) rfl) <| w_d rfl (d_and' (b := (((y20.2.2.isNone && y26.2.2.isNone) && y34.2.isNone) && y38.2.isNone)) (p := (decide (y20.2.1 = 3))) rfl rfl rfl) <| wM (.bool ((((y20.2.2.isNone && y26.2.2.isNone) && y34.2.isNone) && y38.2.isNone) && (decide (y20.2.1 = 3)))) rfl rfl <| w_g (g := (((y20.2.2.isNone && y26.2.2.isNone) && y34.2.isNone) && y38.2.isNone) && (decide (y20.2.1 = 3))) rfl rfl rfl wn_t (fun g50 => d_move (v := v24) rfl) <| w_g (g := (((y20.2.2.isNone && y26.2.2.isNone) && y34.2.isNone) && y38.2.isNone) && (decide (y20.2.1 = 3))) rfl rfl rfl wn_t (fun g51 => d_len Tryd.underlying34 (cvt g51) (h25.mono e29).src) <| w_g (g := (((y20.2.2.isNone && y26.2.2.isNone) && y34.2.isNone) && y38.2.isNone) && (decide (y20.2.1 = 3))) rfl rfl rfl wn_t (fun g52 => d_eql (cvt g52) rfl) <| w_d rfl (d_and' (b := ((((y20.2.2.isNone && y26.2.2.isNone) && y34.2.isNone) && y38.2.isNone) && (decide (y20.2.1 = 3)))) (p := (decide ((y20.1.length : Int) = 2))) rfl rfl rfl) <| wM (.bool (((((y20.2.2.isNone && y26.2.2.isNone) && y34.2.isNone) && y38.2.isNone) && (decide (y20.2.1 = 3))) && (decide ((y20.1.length : Int) = 2)))) rfl rfl <| w_g (g := ((((y20.2.2.isNone && y26.2.2.isNone) && y34.2.isNone) && y38.2.isNone) && (decide (y20.2.1 = 3))) && (decide ((y20.1.length : Int) = 2))) rfl rfl rfl wn_t (fun g53 => d_move (v := v24) rfl) ?_
 obtain ⟨c55, he⟩ := rq he
 refine w_g (g := ((((y20.2.2.isNone && y26.2.2.isNone) && y34.2.isNone) && y38.2.isNone) && (decide (y20.2.1 = 3))) && (decide ((y20.1.length : Int) = 2))) rfl rfl rfl wn_t (fun g54 => d_index (sz := 1) Tryd.underlying34 sz3 (cvt g54) (h25.mono e29).src rfl (c55 g54)) <| w_g (g := ((((y20.2.2.isNone && y26.2.2.isNone) && y34.2.isNone) && y38.2.isNone) && (decide (y20.2.1 = 3))) && (decide ((y20.1.length : Int) = 2))) rfl rfl rfl wn_t (fun g56 => d_ldint ty3 (cvt g56) (h25.mono e29).src (c55 g56)) <| w_g (g := ((((y20.2.2.isNone && y26.2.2.isNone) && y34.2.isNone) && y38.2.isNone) && (decide (y20.2.1 = 3))) && (decide ((y20.1.length : Int) = 2))) rfl rfl rfl wn_t (fun g57 => d_eql (cvt g57) rfl) <| w_d rfl (d_and' (b := (((((y20.2.2.isNone && y26.2.2.isNone) && y34.2.isNone) && y38.2.isNone) && (decide (y20.2.1 = 3))) && (decide ((y20.1.length : Int) = 2)))) (p := (decide ((rd y20.1 0) = 1))) rfl rfl rfl) <| wM (.bool ((((((y20.2.2.isNone && y26.2.2.isNone) && y34.2.isNone) && y38.2.isNone) && (decide (y20.2.1 = 3))) && (decide ((y20.1.length : Int) = 2))) && (decide ((rd y20.1 0) = 1)))) rfl rfl <| w_g (g := (((((y20.2.2.isNone && y26.2.2.isNone) && y34.2.isNone) && y38.2.isNone) && (decide (y20.2.1 = 3))) && (decide ((y20.1.length : Int) = 2))) && (decide ((rd y20.1 0) = 1))) rfl rfl rfl wn_t (fun g58 => d_move (v := .bool y34.1) rfl) <| w_d rfl (d_and' (b := ((((((y20.2.2.isNone && y26.2.2.isNone) && y34.2.isNone) && y38.2.isNone) && (decide (y20.2.1 = 3))) && (decide ((y20.1.length : Int) = 2))) && (decide ((rd y20.1 0) = 1)))) (p := y34.1) rfl rfl rfl) <| wM (.bool (((((((y20.2.2.isNone && y26.2.2.isNone) && y34.2.isNone) && y38.2.isNone) && (decide (y20.2.1 = 3))) && (decide ((y20.1.length : Int) = 2))) && (decide ((rd y20.1 0) = 1))) && y34.1)) rfl rfl <| w_g (g := ((((((y20.2.2.isNone && y26.2.2.isNone) && y34.2.isNone) && y38.2.isNone) && (decide (y20.2.1 = 3))) && (decide ((y20.1.length : Int) = 2))) && (decide ((rd y20.1 0) = 1))) && y34.1) rfl rfl rfl wn_t (fun g59 => d_move (v := .bool y38.1) rfl) <| w_g (g := ((((((y20.2.2.isNone && y26.2.2.isNone) && y34.2.isNone) && y38.2.isNone) && (decide (y20.2.1 = 3))) && (decide ((y20.1.length : Int) = 2))) && (decide ((rd y20.1 0) = 1))) && y34.1) rfl rfl rfl wn_t (fun g60 => d_not (b := y38.1) (cvt g60)) <| w_d rfl (d_and' (b := (((((((y20.2.2.isNone && y26.2.2.isNone) && y34.2.isNone) && y38.2.isNone) && (decide (y20.2.1 = 3))) && (decide ((y20.1.length : Int) = 2))) && (decide ((rd y20.1 0) = 1))) && y34.1)) (p := (!y38.1)) rfl rfl rfl) <| wA (.bool ((((((((y20.2.2.isNone && y26.2.2.isNone) && y34.2.isNone) && y38.2.isNone) && (decide (y20.2.1 = 3))) && (decide ((y20.1.length : Int) = 2))) && (decide ((rd y20.1 0) = 1))) && y34.1) && (!y38.1))) rfl rfl ?_
 refine w_done ?_
 obtain rfl := sj he
 refine w_return fn_13 rs_13 (.tmp (v := .bool ((((((((y20.2.2.isNone && y26.2.2.isNone) && y34.2.isNone) && y38.2.isNone) && (decide (y20.2.1 = 3))) && (decide ((y20.1.length : Int) = 2))) && (decide ((rd y20.1 0) = 1))) && y34.1) && (!y38.1))) rfl .nil) <| ⟨⟨[_, _, _, _], rfl⟩, hle.trans ((((e8.trans e11).trans e18).trans e23).trans e29), rfl⟩
noncomputable def radomeref22_plots.C : Code := (Tryd.f28.body).getD .skip
def radomeref22_plots.out (r : Int) (H : Hp) (v : Value) : Prop := v = .int .i64 r
noncomputable def radomeref22_plots.f (k : Nat) (c_ : radomeref20_Costs) : Option Int := if (c_.f_Rows.length : Int) = 0 then (some (0)) else (if (0 : Int) ≤ 0 ∧ 0 < (c_.f_Rows.length : Int) then (some (((rd c_.f_Rows 0).length : Int))) else none)
theorem radomeref22_plots.calls (k : Nat) {H : Hp} {L : Items} {c_ : radomeref20_Costs} {v0_c_ : Value} {r : Int} (he : radomeref22_plots.f k c_ = some r) (h0_c_ : Ro (Kd.slice kI64) H v0_c_ c_.f_Rows) : Ct Tryd.prog 28 ⟨[.agg ⟨[v0_c_, .int .i64 c_.f_Miss]⟩]⟩ H L (fun v H' L' => L = L' ∧ H = H' ∧ v = .int .i64 r) := by
 refine ct_outs (O := radomeref22_plots.out r) (fun _ _ h => h) ?_
 have hle : H.le H := .refl _
 unfold radomeref22_plots.f at he
 refine ct_enter (args := [.agg ⟨[v0_c_, .int .i64 c_.f_Miss]⟩]) fn_28 rfl nt_28 rfl <| wR rfl <| w_a rfl (o_box (v := .agg ⟨[v0_c_, .int .i64 c_.f_Miss]⟩) rfl rfl) ?_
 rintro _ _ _ ⟨b1, rfl, rfl, rfl⟩
 refine wA (.int .i64 0) rfl rfl <| wE <| wR rfl <| w_d rfl (d_fld (o' := 0) Tryd.underlying24 rfl sz22 rfl rfl rfl) <| wL v0_c_ ty22 rfl rfl .here rfl rfl <| w_d rfl (d_len Tryd.underlying22 rfl h0_c_.src) <| w_d rfl (d_eql rfl rfl) <| w_done ?_
 rcases its he with ⟨c2, he⟩ | ⟨c2, he⟩
 ·
  refine w_then rfl (dt c2) <| wR rfl <| wA (.int .i64 0) rfl rfl <| w_done ?_
  obtain rfl := sj he
  refine w_return fn_28 rs_28 (.tmp (v := .int .i64 0) rfl .nil) <| ⟨⟨[_], rfl⟩, hle, rfl⟩
 ·
  refine w_else rfl (df c2) <| w_skip <| wR rfl <| w_d rfl (d_fld (o' := 0) Tryd.underlying24 rfl sz22 rfl rfl rfl) <| wL v0_c_ ty22 rfl rfl .here rfl rfl ?_
  obtain ⟨c3, he⟩ := rq he
  refine w_d rfl (d_index (sz := 1) Tryd.underlying22 sz32 rfl h0_c_.src rfl c3) ?_
  obtain ⟨_, l4, r5⟩ := el_ro (kd := (Kd.slice kI64)) h0_c_ c3
  obtain ⟨v6, rfl, h7⟩ := r5
  refine w_d rfl (d_load (v := v6) (cs := [v6]) ty32 rfl rfl (by decide) (l4).lies rfl) <| w_d rfl (d_len Tryd.underlying32 rfl h7.src) <| wA (.int .i64 ((rd c_.f_Rows 0).length : Int)) rfl rfl <| w_done ?_
  obtain rfl := sj he
  refine w_return fn_28 rs_28 (.tmp (v := .int .i64 ((rd c_.f_Rows 0).length : Int)) rfl .nil) <| ⟨⟨[_], rfl⟩, hle, rfl⟩
noncomputable def radomeref01_Of.C : Code := (Tryd.f33.body).getD .skip
def radomeref01_Of.out (r : radomeref01_Num) (H : Hp) (v : Value) : Prop := ∃ v0, v = .agg ⟨[.bool r.f_Neg, v0]⟩ ∧ Ro kI64 H v0 r.f_D
theorem radomeref01_Of.out_mono (r : radomeref01_Num) {H H' : Hp} {v : Value} (hle : H.le H') (h : radomeref01_Of.out r H v) : radomeref01_Of.out r H' v := by
 obtain ⟨v0, rfl, h0⟩ := h; exact ⟨v0, rfl, h0.mono hle⟩
abbrev radomeref01_Of.R (H0 : Hp) (L : Items) (r : radomeref01_Num) := fR H0 L (radomeref01_Of.out r)
structure radomeref01_Of.Hs where
 l0 : Int → Int → (List Int) → Option radomeref01_Num
noncomputable def radomeref01_Of.j1 (k : Nat) (h : radomeref01_Of.Hs)  (n : Int) (v_ : Int) : Option radomeref01_Num := h.l0 n v_ []
noncomputable def radomeref01_Of.b0 (k : Nat) (h : radomeref01_Of.Hs)  (n : Int) (v_ : Int) (d : List Int) : Option radomeref01_Num := if 0 < v_ then (if d.length + 1 ≤ 17592186044288 then (h.l0 n ((Int.tdiv v_ 10) % 18446744073709551616) (d ++ [w64 (Int.tmod v_ 10)])) else none) else (some ((⟨decide (n < 0), d⟩ : radomeref01_Num)))
noncomputable def radomeref01_Of.hs : Nat → radomeref01_Of.Hs
 | 0 => ⟨fun _ _ _ => none⟩
 | k + 1 => ⟨fun x0 x1 x2 => radomeref01_Of.b0 k (radomeref01_Of.hs k) x0 x1 x2⟩
noncomputable def radomeref01_Of.f (k : Nat) (n : Int) : Option radomeref01_Num := (fun h : radomeref01_Of.Hs => if n < 0 then (radomeref01_Of.j1 k h n ((0 - ((n) % 18446744073709551616)) % 18446744073709551616)) else (radomeref01_Of.j1 k h n ((n) % 18446744073709551616))) (radomeref01_Of.hs k)
noncomputable def radomeref01_Of.Kj1 : List Item := .code (seqR (seqR (seqR radomeref01_Of.C))) :: []
noncomputable def radomeref01_Of.Kl0 : List Item := .code (lopB (blkB (seqL (seqR (seqR (seqR (seqR radomeref01_Of.C))))))) :: .inLoop (lopB (blkB (seqL (seqR (seqR (seqR (seqR radomeref01_Of.C))))))) :: .inBlock 0 :: .code (seqR (seqR (seqR (seqR (seqR radomeref01_Of.C))))) :: []
structure radomeref01_Of.OK (h : radomeref01_Of.Hs) : Prop where
 l0 : ∀ {H0 H : Hp} {L : Items} {r : radomeref01_Num} {jk_ : Nat → Value} {n : Int} {v_ : Int} {d : List Int} {v_d : Value} {i_d : Item'} {b_t2 : Nat} (_ : H0.le H) (_he : h.l0 n v_ d = some r) (_h_d : Sl kI64 H 3 i_d v_d d), Wp Tryd.prog 33 25 radomeref01_Of.Kl0 (upd (upd (upd (upd jk_ 0 (.int .i64 n)) 2 (.pointer (some ⟨b_t2, 0, none⟩))) 3 (.int .u64 v_)) 4 (v_d)) H (i_d :: some (b_t2, .cells ⟨[.bool false, .slice none 0 0]⟩ 76 (0, 0)) :: L) (radomeref01_Of.R H0 L r)
theorem radomeref01_Of.j1_ok {k : Nat} {h : radomeref01_Of.Hs} (hh : radomeref01_Of.OK h) {H0 H : Hp} {L : Items} {r : radomeref01_Num} {jk_ : Nat → Value} {n : Int} {v_ : Int} {b_t2 : Nat} (hle : H0.le H) (he : radomeref01_Of.j1 k h n v_ = some r) : Wp Tryd.prog 33 25 radomeref01_Of.Kj1 (upd (upd (upd jk_ 0 (.int .i64 n)) 2 (.pointer (some ⟨b_t2, 0, none⟩))) 3 (.int .u64 v_)) H (some (b_t2, .cells ⟨[.bool false, .slice none 0 0]⟩ 76 (0, 0)) :: L) (radomeref01_Of.R H0 L r) := by
 unfold radomeref01_Of.j1 at he
 unfold radomeref01_Of.Kj1
 refine wR rfl <| wA (.slice none 0 0) rfl rfl <| wE <| w_block <| w_loop <| w_none <| w_sl 0 (.int .i64 n) rfl <| w_sl 2 (.pointer (some ⟨b_t2, 0, none⟩)) rfl <| w_sl 3 (.int .u64 v_) rfl <| w_sl 4 (.slice none 0 0) rfl <| hh.l0 hle he (sl_nil _ _ _)
theorem radomeref01_Of.b0_ok {k : Nat} {h : radomeref01_Of.Hs} (hh : radomeref01_Of.OK h) {H0 H : Hp} {L : Items} {r : radomeref01_Num} {jk_ : Nat → Value} {n : Int} {v_ : Int} {d : List Int} {v_d : Value} {i_d : Item'} {b_t2 : Nat} (hle : H0.le H) (he : radomeref01_Of.b0 k h n v_ d = some r) (h_d : Sl kI64 H 3 i_d v_d d) : Wp Tryd.prog 33 25 radomeref01_Of.Kl0 (upd (upd (upd (upd jk_ 0 (.int .i64 n)) 2 (.pointer (some ⟨b_t2, 0, none⟩))) 3 (.int .u64 v_)) 4 (v_d)) H (i_d :: some (b_t2, .cells ⟨[.bool false, .slice none 0 0]⟩ 76 (0, 0)) :: L) (radomeref01_Of.R H0 L r) := by
 unfold radomeref01_Of.b0 at he
 unfold radomeref01_Of.Kl0
 refine w_seq <| wR rfl <| wM (.int .u64 v_) rfl rfl <| w_d rfl (d_gtr rfl rfl) <| w_done ?_
 rcases its he with ⟨c3, he⟩ | ⟨c3, he⟩
 ·
  refine w_then rfl (dt c3) <| w_skip <| w_block <| wR rfl <| wM v_d rfl rfl <| wM (.int .u64 v_) rfl rfl <| w_d rfl (d_rem rfl rfl (by decide)) <| w_d rfl (d_conv (c := w64 (Int.tmod v_ 10)) Tryd.underlying102 Tryd.underlying3 rfl rfl) <| w_a rfl (o_buildSlice' (kd := kI64) (css := [[.int .i64 (w64 (Int.tmod v_ 10))]]) (xs := [w64 (Int.tmod v_ 10)]) (parts := [(0, .int .i64 (w64 (Int.tmod v_ 10)))]) Tryd.underlying34 ti3 rfl ⟨_, _, rfl, rfl, rfl⟩ ⟨rfl, trivial⟩ rfl (by decide)) ?_
  rintro v4 _ _ ⟨i5, rfl, rfl, h6⟩
  obtain ⟨c7, he⟩ := rq he
  refine w_a rfl (o_append' (kd := kI64) (F := fun z_ => i5 :: z_ :: some (b_t2, .cells ⟨[.bool false, .slice none 0 0]⟩ 76 (0, 0)) :: L) Tryd.underlying34 Tryd.underlying34 ti3 rfl (by first | omega | (simp only [List.nil_append, List.length_cons, List.length_nil]; omega)) rfl rfl h_d (h6.src .here) (fun _ => (.there .here))) ?_
  rintro v8 _ _ ⟨i9, rfl, rfl, h10⟩
  refine wA v8 rfl rfl <| w_done <| w_region rfl <| wM (.int .u64 v_) rfl rfl <| w_d rfl (d_quo (c := (Int.tdiv v_ 10) % 18446744073709551616) rfl rfl (by decide) rfl) <| wA (.int .u64 ((Int.tdiv v_ 10) % 18446744073709551616)) rfl rfl <| w_done <| w_inBlock <| w_inLoop <| w_del .here <| w_sl 0 (.int .i64 n) rfl <| w_sl 2 (.pointer (some ⟨b_t2, 0, none⟩)) rfl ?_
  refine w_sl 3 (.int .u64 ((Int.tdiv v_ 10) % 18446744073709551616)) rfl <| w_sl 4 (v8) rfl <| hh.l0 hle he h10
 ·
  refine w_else rfl (df c3) <| w_exit rfl <| wR rfl <| wM (.int .i64 n) rfl rfl <| w_d rfl (d_lss rfl rfl) <| wM v_d rfl rfl <| w_d rfl (d_build (cs' := [.bool (decide (n < 0)), v_d]) Tryd.underlying76 zr76 rfl (by kernel_rfl) (parts := [(0, .bool (decide (n < 0))), (1, v_d)]) rfl (.cons (place_of rfl sz4 rfl) rfl rfl u1 (.cons (place_of rfl sz34 rfl) h_d.cells rfl (.there u1) .nil))) <| w_a0 rfl (o_store (v := .agg ⟨[.bool (decide (n < 0)), v_d]⟩) sz76 rfl rfl rfl rfl (oc rfl (oc (h_d.one) oz)) (.there .here) u2) ?_
  rintro _ _ _ ⟨rfl, rfl, rfl⟩
  refine w_done <| w_freeze h_d .here ?_
  intro H11 e12 h13
  obtain rfl := sj he
  refine w_return fn_33 rs_33 (.box (v := .agg ⟨[.bool (decide (n < 0)), v_d]⟩) rfl ty76 rfl rfl (.there .here) rfl .nil) <| ⟨⟨[_, _], rfl⟩, hle.trans e12, ⟨v_d, rfl, h13⟩⟩
theorem radomeref01_Of.ok : ∀ k, radomeref01_Of.OK (radomeref01_Of.hs k)
 | 0 => ⟨(by intros; exact nomatch (show none = some _ from by assumption))⟩
 | k + 1 => ⟨radomeref01_Of.b0_ok (k := k) (radomeref01_Of.ok k)⟩
theorem radomeref01_Of.calls (k : Nat) {H : Hp} {L : Items} {n : Int} {r : radomeref01_Num} (he : radomeref01_Of.f k n = some r) : Ct Tryd.prog 33 ⟨[.int .i64 n]⟩ H L (cR H L (radomeref01_Of.out r)) := by
 refine ct_out (O := radomeref01_Of.out r) ?_
 have hle : H.le H := .refl _
 have hh := radomeref01_Of.ok k
 unfold radomeref01_Of.f at he
 refine ct_enter (args := [.int .i64 n]) fn_33 rfl nt_33 rfl <| wR rfl <| w_a rfl (o_alloc zr76 rfl) ?_
 rintro _ _ _ ⟨b1, rfl, rfl, rfl⟩
 refine wQ rfl <| wM (.int .i64 n) rfl rfl <| w_d rfl (d_conv (c := (n) % 18446744073709551616) Tryd.underlying2 Tryd.underlying102 rfl rfl) <| wA (.int .u64 ((n) % 18446744073709551616)) rfl rfl <| wE <| wR rfl <| wM (.int .i64 n) rfl rfl <| w_d rfl (d_lss rfl rfl) ?_
 refine w_done ?_
 rcases its he with ⟨c2, he⟩ | ⟨c2, he⟩
 ·
  refine w_then rfl (dt c2) <| w_region rfl <| wM (.int .u64 ((n) % 18446744073709551616)) rfl rfl <| w_d rfl (d_sub (c := (0 - ((n) % 18446744073709551616)) % 18446744073709551616) rfl rfl rfl) <| wA (.int .u64 ((0 - ((n) % 18446744073709551616)) % 18446744073709551616)) rfl rfl <| w_done <| w_sl 0 (.int .i64 n) rfl <| w_sl 2 (.pointer (some ⟨b1, 0, none⟩)) rfl <| w_sl 3 (.int .u64 ((0 - ((n) % 18446744073709551616)) % 18446744073709551616)) rfl <| radomeref01_Of.j1_ok (k := k) hh hle he
 ·
  refine w_else rfl (df c2) <| w_skip <| w_sl 0 (.int .i64 n) rfl <| w_sl 2 (.pointer (some ⟨b1, 0, none⟩)) rfl <| w_sl 3 (.int .u64 ((n) % 18446744073709551616)) rfl <| radomeref01_Of.j1_ok (k := k) hh hle he
noncomputable def radomeref01_trim.C : Code := (Tryd.f61.body).getD .skip
abbrev radomeref01_trim.out (r : (List Int)) (H : Hp) (v : Value) : Prop := Ro kI64 H v r
abbrev radomeref01_trim.R (H0 : Hp) (L : Items) (r : (List Int)) := fR H0 L (radomeref01_trim.out r)
structure radomeref01_trim.Hs where
 l0 : (List Int) → Option (List Int)
noncomputable def radomeref01_trim.b0 (k : Nat) (h : radomeref01_trim.Hs)  (d : List Int) : Option (List Int) := if (decide (0 < (d.length : Int))) = true → (0 : Int) ≤ w64 ((d.length : Int) - 1) ∧ w64 ((d.length : Int) - 1) < (d.length : Int) then (if ((decide (0 < (d.length : Int))) && (decide ((rd d (w64 ((d.length : Int) - 1))) = 0))) = true then (if (0 : Int) ≤ 0 ∧ (0 : Int) ≤ w64 ((d.length : Int) - 1) ∧ w64 ((d.length : Int) - 1) ≤ (d.length : Int) then (h.l0 (cut d 0 (w64 ((d.length : Int) - 1)))) else none) else (some (d))) else none
noncomputable def radomeref01_trim.hs : Nat → radomeref01_trim.Hs
 | 0 => ⟨fun _ => none⟩
 | k + 1 => ⟨fun x0 => radomeref01_trim.b0 k (radomeref01_trim.hs k) x0⟩
noncomputable def radomeref01_trim.f (k : Nat) (d : List Int) : Option (List Int) := (fun h : radomeref01_trim.Hs => h.l0 d) (radomeref01_trim.hs k)
noncomputable def radomeref01_trim.Kl0 : List Item := .code (lopB (blkB (seqL (seqR radomeref01_trim.C)))) :: .inLoop (lopB (blkB (seqL (seqR radomeref01_trim.C)))) :: .inBlock 0 :: .code (seqR (seqR radomeref01_trim.C)) :: []
structure radomeref01_trim.OK (h : radomeref01_trim.Hs) : Prop where
 l0 : ∀ {H0 H : Hp} {L : Items} {r : (List Int)} {jk_ : Nat → Value} {d : List Int} {v_d : Value} (_ : H0.le H) (_he : h.l0 d = some r) (_h_d : Ro kI64 H v_d d), Wp Tryd.prog 61 21 radomeref01_trim.Kl0 (upd (upd jk_ 0 (v_d)) 2 (.slice none 0 0)) H (L) (radomeref01_trim.R H0 L r)
theorem radomeref01_trim.b0_ok {k : Nat} {h : radomeref01_trim.Hs} (hh : radomeref01_trim.OK h) {H0 H : Hp} {L : Items} {r : (List Int)} {jk_ : Nat → Value} {d : List Int} {v_d : Value} (hle : H0.le H) (he : radomeref01_trim.b0 k h d = some r) (h_d : Ro kI64 H v_d d) : Wp Tryd.prog 61 21 radomeref01_trim.Kl0 (upd (upd jk_ 0 (v_d)) 2 (.slice none 0 0)) H (L) (radomeref01_trim.R H0 L r) := by
 unfold radomeref01_trim.b0 at he
 unfold radomeref01_trim.Kl0
 refine w_seq <| wR rfl <| wM v_d rfl rfl <| w_d rfl (d_len Tryd.underlying34 rfl h_d.src) <| w_d rfl (d_gtr rfl rfl) <| wM (.bool (decide (0 < (d.length : Int)))) rfl rfl <| w_g (g := decide (0 < (d.length : Int))) rfl rfl rfl wn_t (fun g1 => d_move (v := v_d) rfl) <| w_g (g := decide (0 < (d.length : Int))) rfl rfl rfl wn_t (fun g2 => d_move (v := v_d) rfl) <| w_g (g := decide (0 < (d.length : Int))) rfl rfl rfl wn_t (fun g3 => d_len Tryd.underlying34 (cvt g3) h_d.src) <| w_g (g := decide (0 < (d.length : Int))) rfl rfl rfl wn_t (fun g4 => d_sub (c := w64 ((d.length : Int) - 1)) (cvt g4) rfl rfl) ?_
 obtain ⟨c6, he⟩ := rq he
 refine w_g (g := decide (0 < (d.length : Int))) rfl rfl rfl wn_t (fun g5 => d_index (sz := 1) Tryd.underlying34 sz3 (cvt g5) h_d.src (cvt g5) (c6 g5)) <| w_g (g := decide (0 < (d.length : Int))) rfl rfl rfl wn_t (fun g7 => d_ldint ty3 (cvt g7) h_d.src (c6 g7)) <| w_g (g := decide (0 < (d.length : Int))) rfl rfl rfl wn_t (fun g8 => d_eql (cvt g8) rfl) <| w_d rfl (d_and' (b := (decide (0 < (d.length : Int)))) (p := (decide ((rd d (w64 ((d.length : Int) - 1))) = 0))) rfl rfl rfl) <| w_done ?_
 rcases its he with ⟨c9, he⟩ | ⟨c9, he⟩
 ·
  refine w_then rfl c9 <| w_skip <| w_block <| w_region rfl <| wM v_d rfl rfl <| wM v_d rfl rfl <| w_d rfl (d_len Tryd.underlying34 rfl h_d.src) <| w_d rfl (d_sub (c := w64 ((d.length : Int) - 1)) rfl rfl rfl) ?_
  obtain ⟨c10, he⟩ := rq he
  refine w_a rfl (o_cut (kd := kI64) Tryd.underlying34 sz3 rfl h_d (.inl ⟨rfl, rfl⟩) (.inr ⟨_, _, rfl, rfl⟩) c10) ?_
  rintro v11 _ _ ⟨h12, rfl, rfl⟩
  refine wA v11 rfl rfl <| w_done <| w_inBlock <| w_inLoop <| w_sl 0 (v11) rfl <| w_sl 2 (.slice none 0 0) rfl <| hh.l0 hle he h12
 ·
  refine w_else rfl (Bool.eq_false_iff.2 c9) <| w_exit rfl <| wR rfl <| wM v_d rfl rfl <| wA v_d rfl rfl <| w_done ?_
  obtain rfl := sj he
  refine w_return fn_61 rs_61 (.tmp (v := v_d) rfl .nil) <| ⟨⟨[], rfl⟩, hle, h_d⟩
theorem radomeref01_trim.ok : ∀ k, radomeref01_trim.OK (radomeref01_trim.hs k)
 | 0 => ⟨(by intros; exact nomatch (show none = some _ from by assumption))⟩
 | k + 1 => ⟨radomeref01_trim.b0_ok (k := k) (radomeref01_trim.ok k)⟩
theorem radomeref01_trim.calls (k : Nat) {H : Hp} {L : Items} {d : List Int} {v0_d : Value} {r : (List Int)} (he : radomeref01_trim.f k d = some r) (h0_d : Ro kI64 H v0_d d) : Ct Tryd.prog 61 ⟨[v0_d]⟩ H L (cR H L (radomeref01_trim.out r)) := by
 refine ct_out (O := radomeref01_trim.out r) ?_
 have hle : H.le H := .refl _
 have hh := radomeref01_trim.ok k
 unfold radomeref01_trim.f at he
 refine ct_enter (args := [v0_d]) fn_61 rfl nt_61 rfl <| wR rfl <| wA (.slice none 0 0) rfl rfl <| wE <| w_block <| w_loop <| w_sl 0 (v0_d) rfl <| w_sl 2 (.slice none 0 0) rfl <| hh.l0 hle he h0_d
noncomputable def radomeref01_plus.C : Code := (Tryd.f46.body).getD .skip
abbrev radomeref01_plus.out (r : (List Int)) (H : Hp) (v : Value) : Prop := Ro kI64 H v r
abbrev radomeref01_plus.R (H0 : Hp) (L : Items) (r : (List Int)) := fR H0 L (radomeref01_plus.out r)
structure radomeref01_plus.Hs where
 l0 : (List Int) → (List Int) → (List Int) → Int → Int → Option (List Int)
noncomputable def radomeref01_plus.j3 (k : Nat) (h : radomeref01_plus.Hs)  (a : List Int) (b : List Int) (out : List Int) (c_ : Int) (i : Int) : Option (List Int) := if out.length + 1 ≤ 17592186044288 then (h.l0 a b (out ++ [Int.tmod c_ 10]) (w64 (Int.tdiv c_ 10)) (w64 (i + 1))) else none
noncomputable def radomeref01_plus.j2 (k : Nat) (h : radomeref01_plus.Hs)  (a : List Int) (b : List Int) (out : List Int) (c_ : Int) (i : Int) : Option (List Int) := if i < (b.length : Int) then (if (0 : Int) ≤ i ∧ i < (b.length : Int) then (radomeref01_plus.j3 k h a b out (w64 (c_ + (rd b i))) i) else none) else (radomeref01_plus.j3 k h a b out c_ i)
noncomputable def radomeref01_plus.b0 (k : Nat) (h : radomeref01_plus.Hs)  (a : List Int) (b : List Int) (out : List Int) (c_ : Int) (i : Int) : Option (List Int) := if ((decide (i < (a.length : Int))) || (decide (i < (b.length : Int)))) = true then (if i < (a.length : Int) then (if (0 : Int) ≤ i ∧ i < (a.length : Int) then (radomeref01_plus.j2 k h a b out (w64 (c_ + (rd a i))) i) else none) else (radomeref01_plus.j2 k h a b out c_ i)) else (if out.length + 1 ≤ 17592186044288 then ((radomeref01_trim.f k (out ++ [c_])).bind fun y18 => some (y18)) else none)
noncomputable def radomeref01_plus.hs : Nat → radomeref01_plus.Hs
 | 0 => ⟨fun _ _ _ _ _ => none⟩
 | k + 1 => ⟨fun x0 x1 x2 x3 x4 => radomeref01_plus.b0 k (radomeref01_plus.hs k) x0 x1 x2 x3 x4⟩
noncomputable def radomeref01_plus.f (k : Nat) (a : List Int) (b : List Int) : Option (List Int) := (fun h : radomeref01_plus.Hs => h.l0 a b [] 0 0) (radomeref01_plus.hs k)
noncomputable def radomeref01_plus.Kl0 : List Item := .code (lopB (blkB (seqR (seqL (seqR (seqR (seqR radomeref01_plus.C))))))) :: .inLoop (lopB (blkB (seqR (seqL (seqR (seqR (seqR radomeref01_plus.C))))))) :: .inBlock 0 :: .code (seqR (seqR (seqR (seqR radomeref01_plus.C)))) :: []
noncomputable def radomeref01_plus.Kj2 : List Item := .code (seqR (blkB (seqL (seqR (lopB (blkB (seqR (seqL (seqR (seqR (seqR radomeref01_plus.C))))))))))) :: .inBlock 1 :: .code (seqR (seqR (lopB (blkB (seqR (seqL (seqR (seqR (seqR radomeref01_plus.C))))))))) :: .inLoop (lopB (blkB (seqR (seqL (seqR (seqR (seqR radomeref01_plus.C))))))) :: .inBlock 0 :: .code (seqR (seqR (seqR (seqR radomeref01_plus.C)))) :: []
noncomputable def radomeref01_plus.Kj3 : List Item := .code (seqR (seqR (blkB (seqL (seqR (lopB (blkB (seqR (seqL (seqR (seqR (seqR radomeref01_plus.C)))))))))))) :: .inBlock 1 :: .code (seqR (seqR (lopB (blkB (seqR (seqL (seqR (seqR (seqR radomeref01_plus.C))))))))) :: .inLoop (lopB (blkB (seqR (seqL (seqR (seqR (seqR radomeref01_plus.C))))))) :: .inBlock 0 :: .code (seqR (seqR (seqR (seqR radomeref01_plus.C)))) :: []
structure radomeref01_plus.OK (h : radomeref01_plus.Hs) : Prop where
 l0 : ∀ {H0 H : Hp} {L : Items} {r : (List Int)} {jk_ : Nat → Value} {a : List Int} {b : List Int} {out : List Int} {c_ : Int} {i : Int} {v_a : Value} {v_b : Value} {v_out : Value} {i_out : Item'} (_ : H0.le H) (_he : h.l0 a b out c_ i = some r) (_h_a : Src kI64 H L v_a a) (_h_b : Src kI64 H L v_b b) (_h_out : Sl kI64 H 3 i_out v_out out), Wp Tryd.prog 46 52 radomeref01_plus.Kl0 (upd (upd (upd (upd (upd (upd jk_ 0 (v_a)) 1 (v_b)) 4 (.slice none 0 0)) 5 (v_out)) 6 (.int .i64 c_)) 7 (.int .i64 i)) H (i_out :: L) (radomeref01_plus.R H0 L r)
theorem radomeref01_plus.j3_ok {k : Nat} {h : radomeref01_plus.Hs} (hh : radomeref01_plus.OK h) {H0 H : Hp} {L : Items} {r : (List Int)} {jk_ : Nat → Value} {a : List Int} {b : List Int} {out : List Int} {c_ : Int} {i : Int} {v_a : Value} {v_b : Value} {v_out : Value} {i_out : Item'} (hle : H0.le H) (he : radomeref01_plus.j3 k h a b out c_ i = some r) (h_a : Src kI64 H L v_a a) (h_b : Src kI64 H L v_b b) (h_out : Sl kI64 H 3 i_out v_out out) : Wp Tryd.prog 46 52 radomeref01_plus.Kj3 (upd (upd (upd (upd (upd (upd jk_ 0 (v_a)) 1 (v_b)) 4 (.slice none 0 0)) 5 (v_out)) 6 (.int .i64 c_)) 7 (.int .i64 i)) H (i_out :: L) (radomeref01_plus.R H0 L r) := by
 unfold radomeref01_plus.j3 at he
 unfold radomeref01_plus.Kj3
 refine wR rfl <| wM v_out rfl rfl <| wM (.int .i64 c_) rfl rfl <| w_d rfl (d_rem rfl rfl (by decide)) <| w_a rfl (o_buildSlice' (kd := kI64) (css := [[.int .i64 (Int.tmod c_ 10)]]) (xs := [Int.tmod c_ 10]) (parts := [(0, .int .i64 (Int.tmod c_ 10))]) Tryd.underlying34 ti3 rfl ⟨_, _, rfl, rfl, rfl⟩ ⟨rfl, trivial⟩ rfl (by decide)) ?_
 rintro v26 _ _ ⟨i27, rfl, rfl, h28⟩
 obtain ⟨c29, he⟩ := rq he
 refine w_a rfl (o_append' (kd := kI64) (F := fun z_ => i27 :: z_ :: L) Tryd.underlying34 Tryd.underlying34 ti3 rfl (by first | omega | (simp only [List.nil_append, List.length_cons, List.length_nil]; omega)) rfl rfl h_out (h28.src .here) (fun _ => (.there .here))) ?_
 rintro v30 _ _ ⟨i31, rfl, rfl, h32⟩
 refine wA v30 rfl rfl <| w_done <| w_region rfl <| wM (.int .i64 c_) rfl rfl <| w_d rfl (d_quo (c := w64 (Int.tdiv c_ 10)) rfl rfl (by decide) rfl) <| wA (.int .i64 (w64 (Int.tdiv c_ 10))) rfl rfl <| w_done <| w_inBlock <| w_region rfl <| wM (.int .i64 i) rfl rfl <| w_d rfl (d_add (c := w64 (i + 1)) rfl rfl rfl) <| wA (.int .i64 (w64 (i + 1))) rfl rfl ?_
 refine w_done <| w_inLoop <| w_del .here <| w_sl 0 (v_a) rfl <| w_sl 1 (v_b) rfl <| w_sl 4 (.slice none 0 0) rfl <| w_sl 5 (v30) rfl <| w_sl 6 (.int .i64 (w64 (Int.tdiv c_ 10))) rfl <| w_sl 7 (.int .i64 (w64 (i + 1))) rfl <| hh.l0 hle he h_a h_b h32
theorem radomeref01_plus.j2_ok {k : Nat} {h : radomeref01_plus.Hs} (hh : radomeref01_plus.OK h) {H0 H : Hp} {L : Items} {r : (List Int)} {jk_ : Nat → Value} {a : List Int} {b : List Int} {out : List Int} {c_ : Int} {i : Int} {v_a : Value} {v_b : Value} {v_out : Value} {i_out : Item'} (hle : H0.le H) (he : radomeref01_plus.j2 k h a b out c_ i = some r) (h_a : Src kI64 H L v_a a) (h_b : Src kI64 H L v_b b) (h_out : Sl kI64 H 3 i_out v_out out) : Wp Tryd.prog 46 52 radomeref01_plus.Kj2 (upd (upd (upd (upd (upd (upd jk_ 0 (v_a)) 1 (v_b)) 4 (.slice none 0 0)) 5 (v_out)) 6 (.int .i64 c_)) 7 (.int .i64 i)) H (i_out :: L) (radomeref01_plus.R H0 L r) := by
 unfold radomeref01_plus.j2 at he
 unfold radomeref01_plus.Kj2
 refine w_seq <| wR rfl <| wM (.int .i64 i) rfl rfl <| wM v_b rfl rfl <| w_d rfl (d_len Tryd.underlying34 rfl h_b.th) <| w_d rfl (d_lss rfl rfl) <| w_done ?_
 rcases its he with ⟨c24, he⟩ | ⟨c24, he⟩
 ·
  refine w_then rfl (dt c24) <| w_region rfl <| wM (.int .i64 c_) rfl rfl <| wM v_b rfl rfl <| wM (.int .i64 i) rfl rfl ?_
  obtain ⟨c25, he⟩ := rq he
  refine w_d rfl (d_index (sz := 1) Tryd.underlying34 sz3 rfl h_b.th rfl c25) <| w_d rfl (d_ldint ty3 rfl h_b.th c25) <| w_d rfl (d_add (c := w64 (c_ + (rd b i))) rfl rfl rfl) <| wA (.int .i64 (w64 (c_ + (rd b i)))) rfl rfl <| w_done <| w_sl 0 (v_a) rfl <| w_sl 1 (v_b) rfl <| w_sl 4 (.slice none 0 0) rfl <| w_sl 5 (v_out) rfl <| w_sl 6 (.int .i64 (w64 (c_ + (rd b i)))) rfl <| w_sl 7 (.int .i64 i) rfl <| radomeref01_plus.j3_ok (k := k) hh hle he h_a h_b h_out
 ·
  refine w_else rfl (df c24) <| w_skip <| w_sl 0 (v_a) rfl <| w_sl 1 (v_b) rfl <| w_sl 4 (.slice none 0 0) rfl <| w_sl 5 (v_out) rfl <| w_sl 6 (.int .i64 c_) rfl <| w_sl 7 (.int .i64 i) rfl <| radomeref01_plus.j3_ok (k := k) hh hle he h_a h_b h_out
theorem radomeref01_plus.b0_ok {k : Nat} {h : radomeref01_plus.Hs} (hh : radomeref01_plus.OK h) {H0 H : Hp} {L : Items} {r : (List Int)} {jk_ : Nat → Value} {a : List Int} {b : List Int} {out : List Int} {c_ : Int} {i : Int} {v_a : Value} {v_b : Value} {v_out : Value} {i_out : Item'} (hle : H0.le H) (he : radomeref01_plus.b0 k h a b out c_ i = some r) (h_a : Src kI64 H L v_a a) (h_b : Src kI64 H L v_b b) (h_out : Sl kI64 H 3 i_out v_out out) : Wp Tryd.prog 46 52 radomeref01_plus.Kl0 (upd (upd (upd (upd (upd (upd jk_ 0 (v_a)) 1 (v_b)) 4 (.slice none 0 0)) 5 (v_out)) 6 (.int .i64 c_)) 7 (.int .i64 i)) H (i_out :: L) (radomeref01_plus.R H0 L r) := by
 unfold radomeref01_plus.b0 at he
 unfold radomeref01_plus.Kl0
 refine w_seq <| wR rfl <| wM (.int .i64 i) rfl rfl <| wM v_a rfl rfl <| w_d rfl (d_len Tryd.underlying34 rfl h_a.th) <| w_d rfl (d_lss rfl rfl) <| wM (.bool (decide (i < (a.length : Int)))) rfl rfl <| w_g (g := !(decide (i < (a.length : Int)))) rfl rfl rfl wn_f (fun g1 => d_move (v := .int .i64 i) rfl) <| w_g (g := !(decide (i < (a.length : Int)))) rfl rfl rfl wn_f (fun g2 => d_move (v := v_b) rfl) <| w_g (g := !(decide (i < (a.length : Int)))) rfl rfl rfl wn_f (fun g3 => d_len Tryd.underlying34 (cvt g3) h_b.th) <| w_g (g := !(decide (i < (a.length : Int)))) rfl rfl rfl wn_f (fun g4 => d_lss (cvt g4) (cvt g4)) ?_
 refine w_d rfl (d_or' (b := (decide (i < (a.length : Int)))) (p := (decide (i < (b.length : Int)))) rfl rfl rfl) <| w_done ?_
 rcases its he with ⟨c5, he⟩ | ⟨c5, he⟩
 ·
  refine w_then rfl c5 <| w_skip <| w_seq <| w_block <| w_seq <| wR rfl <| wM (.int .i64 i) rfl rfl <| wM v_a rfl rfl <| w_d rfl (d_len Tryd.underlying34 rfl h_a.th) <| w_d rfl (d_lss rfl rfl) <| w_done ?_
  rcases its he with ⟨c6, he⟩ | ⟨c6, he⟩
  ·
   refine w_then rfl (dt c6) <| w_region rfl <| wM (.int .i64 c_) rfl rfl <| wM v_a rfl rfl <| wM (.int .i64 i) rfl rfl ?_
   obtain ⟨c7, he⟩ := rq he
   refine w_d rfl (d_index (sz := 1) Tryd.underlying34 sz3 rfl h_a.th rfl c7) <| w_d rfl (d_ldint ty3 rfl h_a.th c7) <| w_d rfl (d_add (c := w64 (c_ + (rd a i))) rfl rfl rfl) <| wA (.int .i64 (w64 (c_ + (rd a i)))) rfl rfl <| w_done <| w_sl 0 (v_a) rfl <| w_sl 1 (v_b) rfl <| w_sl 4 (.slice none 0 0) rfl <| w_sl 5 (v_out) rfl <| w_sl 6 (.int .i64 (w64 (c_ + (rd a i)))) rfl <| w_sl 7 (.int .i64 i) rfl <| radomeref01_plus.j2_ok (k := k) hh hle he h_a h_b h_out
  ·
   refine w_else rfl (df c6) <| w_skip <| w_sl 0 (v_a) rfl <| w_sl 1 (v_b) rfl <| w_sl 4 (.slice none 0 0) rfl <| w_sl 5 (v_out) rfl <| w_sl 6 (.int .i64 c_) rfl <| w_sl 7 (.int .i64 i) rfl <| radomeref01_plus.j2_ok (k := k) hh hle he h_a h_b h_out
 ·
  refine w_else rfl (Bool.eq_false_iff.2 c5) <| w_exit rfl <| wR rfl <| wM v_out rfl rfl <| wM (.int .i64 c_) rfl rfl <| w_a rfl (o_buildSlice' (kd := kI64) (css := [[.int .i64 c_]]) (xs := [c_]) (parts := [(0, .int .i64 c_)]) Tryd.underlying34 ti3 rfl ⟨_, _, rfl, rfl, rfl⟩ ⟨rfl, trivial⟩ rfl (by decide)) ?_
  rintro v8 _ _ ⟨i9, rfl, rfl, h10⟩
  obtain ⟨c11, he⟩ := rq he
  refine w_a rfl (o_append' (kd := kI64) (F := fun z_ => i9 :: z_ :: L) Tryd.underlying34 Tryd.underlying34 ti3 rfl (by first | omega | (simp only [List.nil_append, List.length_cons, List.length_nil]; omega)) rfl rfl h_out (h10.src .here) (fun _ => (.there .here))) ?_
  rintro v12 _ _ ⟨i13, rfl, rfl, h14⟩
  refine w_freeze h14 (.there .here) ?_
  intro H15 e16 h17
  obtain ⟨y18, hy19, he⟩ := bs he
  refine w_a rfl (o_call co61 (vs := [v12]) rfl (radomeref01_trim.calls k hy19 h17)) ?_
  rintro v22 H20 _ ⟨rfl, e21, h23⟩
  refine wA v22 rfl rfl <| w_done ?_
  obtain rfl := sj he
  refine w_return fn_46 rs_46 (.tmp (v := v22) rfl .nil) <| ⟨⟨[_, _], rfl⟩, hle.trans (e16.trans e21), h23⟩
theorem radomeref01_plus.ok : ∀ k, radomeref01_plus.OK (radomeref01_plus.hs k)
 | 0 => ⟨(by intros; exact nomatch (show none = some _ from by assumption))⟩
 | k + 1 => ⟨radomeref01_plus.b0_ok (k := k) (radomeref01_plus.ok k)⟩
theorem radomeref01_plus.calls (k : Nat) {H : Hp} {L : Items} {a : List Int} {b : List Int} {v0_a : Value} {v1_b : Value} {r : (List Int)} (he : radomeref01_plus.f k a b = some r) (h0_a : Src kI64 H L v0_a a) (h1_b : Src kI64 H L v1_b b) : Ct Tryd.prog 46 ⟨[v0_a, v1_b]⟩ H L (cR H L (radomeref01_plus.out r)) := by
 refine ct_out (O := radomeref01_plus.out r) ?_
 have hle : H.le H := .refl _
 have hh := radomeref01_plus.ok k
 unfold radomeref01_plus.f at he
 refine ct_enter (args := [v0_a, v1_b]) fn_46 rfl nt_46 rfl <| wR rfl <| wA (.slice none 0 0) rfl rfl <| wQ rfl <| wA (.slice none 0 0) rfl rfl <| wQ rfl <| wA (.int .i64 0) rfl rfl ?_
 refine wE <| wR rfl <| wA (.int .i64 0) rfl rfl <| w_done <| w_block <| w_loop <| w_none <| w_sl 0 (v0_a) rfl <| w_sl 1 (v1_b) rfl <| w_sl 4 (.slice none 0 0) rfl ?_
 refine w_sl 5 (.slice none 0 0) rfl <| w_sl 6 (.int .i64 0) rfl <| w_sl 7 (.int .i64 0) rfl <| hh.l0 hle he h0_a h1_b (sl_nil _ _ _)
noncomputable def radomeref01_num.C : Code := (Tryd.f45.body).getD .skip
def radomeref01_num.out (r : radomeref01_Num) (H : Hp) (v : Value) : Prop := ∃ v0, v = .agg ⟨[.bool r.f_Neg, v0]⟩ ∧ Ro kI64 H v0 r.f_D
noncomputable def radomeref01_num.f (k : Nat) (neg : Bool) (d : List Int) : Option radomeref01_Num := some ((⟨neg && (decide (0 < (d.length : Int))), d⟩ : radomeref01_Num))
theorem radomeref01_num.calls (k : Nat) {H : Hp} {L : Items} {neg : Bool} {d : List Int} {v0_d : Value} {r : radomeref01_Num} (he : radomeref01_num.f k neg d = some r) (h0_d : Ro kI64 H v0_d d) : Ct Tryd.prog 45 ⟨[.bool neg, v0_d]⟩ H L (cR H L (radomeref01_num.out r)) := by
 refine ct_out (O := radomeref01_num.out r) ?_
 have hle : H.le H := .refl _
 unfold radomeref01_num.f at he
 refine ct_enter (args := [.bool neg, v0_d]) fn_45 rfl nt_45 rfl <| wR rfl <| w_a rfl (o_alloc zr76 rfl) ?_
 rintro _ _ _ ⟨b1, rfl, rfl, rfl⟩
 refine wQ rfl <| wM (.bool neg) rfl rfl <| wM (.bool neg) rfl rfl <| w_g (g := neg) rfl rfl rfl wn_t (fun g2 => d_move (v := v0_d) rfl) <| w_g (g := neg) rfl rfl rfl wn_t (fun g3 => d_len Tryd.underlying34 (cvt g3) h0_d.src) <| w_g (g := neg) rfl rfl rfl wn_t (fun g4 => d_gtr (cvt g4) rfl) <| w_d rfl (d_and' (b := neg) (p := (decide (0 < (d.length : Int)))) rfl rfl rfl) <| wM v0_d rfl rfl <| w_d rfl (d_build (cs' := [.bool (neg && (decide (0 < (d.length : Int)))), v0_d]) Tryd.underlying76 zr76 rfl (by kernel_rfl) (parts := [(0, .bool (neg && (decide (0 < (d.length : Int))))), (1, v0_d)]) rfl (.cons (place_of rfl sz4 rfl) rfl rfl u1 (.cons (place_of rfl sz34 rfl) h0_d.cells rfl (.there u1) .nil))) <| w_a0 rfl (o_store (v := .agg ⟨[.bool (neg && (decide (0 < (d.length : Int)))), v0_d]⟩) sz76 rfl rfl rfl rfl (oc rfl (oc (h0_d.one) oz)) .here u2) ?_
 rintro _ _ _ ⟨rfl, rfl, rfl⟩
 refine w_done ?_
 obtain rfl := sj he
 refine w_return fn_45 rs_45 (.box (v := .agg ⟨[.bool (neg && (decide (0 < (d.length : Int)))), v0_d]⟩) rfl ty76 rfl rfl .here rfl .nil) <| ⟨⟨[_], rfl⟩, hle, ⟨v0_d, rfl, h0_d⟩⟩
noncomputable def radomeref01_Less.C : Code := (Tryd.f47.body).getD .skip
def radomeref01_Less.out (r : Bool) (H : Hp) (v : Value) : Prop := v = .bool r
abbrev radomeref01_Less.R (H0 : Hp) (L : Items) (r : Bool) := fR H0 L (radomeref01_Less.out r)
structure radomeref01_Less.Hs where
 l0 : (List Int) → (List Int) → Bool → Int → Option Bool
noncomputable def radomeref01_Less.b0 (k : Nat) (h : radomeref01_Less.Hs)  (a : List Int) (b : List Int) (t4 : Bool) (i : Int) : Option Bool := if 0 ≤ i then (if (0 : Int) ≤ i ∧ i < (a.length : Int) then (if (0 : Int) ≤ i ∧ i < (b.length : Int) then (if (rd a i) = (rd b i) then (h.l0 a b t4 (w64 (i - 1))) else (if (0 : Int) ≤ i ∧ i < (a.length : Int) then (if (0 : Int) ≤ i ∧ i < (b.length : Int) then (some (decide ((rd a i) < (rd b i)))) else none) else none)) else none) else none) else (some (false))
noncomputable def radomeref01_Less.hs : Nat → radomeref01_Less.Hs
 | 0 => ⟨fun _ _ _ _ => none⟩
 | k + 1 => ⟨fun x0 x1 x2 x3 => radomeref01_Less.b0 k (radomeref01_Less.hs k) x0 x1 x2 x3⟩
noncomputable def radomeref01_Less.f (k : Nat) (a : List Int) (b : List Int) : Option Bool := (fun h : radomeref01_Less.Hs => if (a.length : Int) = (b.length : Int) then (h.l0 a b false (w64 ((a.length : Int) - 1))) else (some (decide ((a.length : Int) < (b.length : Int))))) (radomeref01_Less.hs k)
noncomputable def radomeref01_Less.Kl0 : List Item := .code (lopB (blkB (seqR (seqL (seqR (seqR radomeref01_Less.C)))))) :: .inLoop (lopB (blkB (seqR (seqL (seqR (seqR radomeref01_Less.C)))))) :: .inBlock 0 :: .code (seqR (seqR (seqR radomeref01_Less.C))) :: []
structure radomeref01_Less.OK (h : radomeref01_Less.Hs) : Prop where
 l0 : ∀ {H0 H : Hp} {L : Items} {r : Bool} {jk_ : Nat → Value} {a : List Int} {b : List Int} {t4 : Bool} {i : Int} {v_a : Value} {v_b : Value} (_ : H0.le H) (_he : h.l0 a b t4 i = some r) (_h_a : Src kI64 H L v_a a) (_h_b : Src kI64 H L v_b b), Wp Tryd.prog 47 41 radomeref01_Less.Kl0 (upd (upd (upd (upd jk_ 0 (v_a)) 1 (v_b)) 4 (.bool t4)) 5 (.int .i64 i)) H (L) (radomeref01_Less.R H0 L r)
theorem radomeref01_Less.b0_ok {k : Nat} {h : radomeref01_Less.Hs} (hh : radomeref01_Less.OK h) {H0 H : Hp} {L : Items} {r : Bool} {jk_ : Nat → Value} {a : List Int} {b : List Int} {t4 : Bool} {i : Int} {v_a : Value} {v_b : Value} (hle : H0.le H) (he : radomeref01_Less.b0 k h a b t4 i = some r) (h_a : Src kI64 H L v_a a) (h_b : Src kI64 H L v_b b) : Wp Tryd.prog 47 41 radomeref01_Less.Kl0 (upd (upd (upd (upd jk_ 0 (v_a)) 1 (v_b)) 4 (.bool t4)) 5 (.int .i64 i)) H (L) (radomeref01_Less.R H0 L r) := by
 unfold radomeref01_Less.b0 at he
 unfold radomeref01_Less.Kl0
 refine w_seq <| wR rfl <| wM (.int .i64 i) rfl rfl <| w_d rfl (d_geq rfl rfl) <| w_done ?_
 rcases its he with ⟨c2, he⟩ | ⟨c2, he⟩
 ·
  refine w_then rfl (dt c2) <| w_skip <| w_seq <| w_block <| w_seq ?_
  obtain ⟨c3, he⟩ := rq he
  obtain ⟨c4, he⟩ := rq he
  refine w_drawn (p := 8) (tl := [8]) [[], [], [(0, some 23), (1, some 24)], [(2, some 25)], [], [], [(4, some 27), (5, some 28)], [(6, some 29)]] [some 23, some 24, some 25, some 26, some 27, some 28, some 29, some 30] (fctF (.is (v_a) :: .is (.int .i64 i) :: .is (.pointer (some (pel v_a i 1))) :: .is (.int .i64 (rd a i)) :: .is (v_b) :: .is (.int .i64 i) :: .is (.pointer (some (pel v_b i 1))) :: .is (.int .i64 (rd b i)) :: [])) (fun m_ => L) (fun _ => none) mixed (by kernel_rfl) (by kernel_rfl) rfl (fct_mono (by kernel_rfl)) ⟨(fun H' m_ hH hm_ hu_ => dn <| s_d (m_ 0) rfl (d_move (v := v_a) rfl) (by exact rfl) rfl), (fun H' m_ hH hm_ hu_ => dn <| s_d (m_ 1) rfl (d_move (v := .int .i64 i) rfl) (by exact rfl) rfl), (by rintro H' m_ hH hm_ hu_ _ rfl _ rfl; exact dn <| s_d (m_ 2) rfl (d_index (sz := 1) Tryd.underlying34 sz3 rfl (h_a.mono hH) rfl c3) (by exact rfl) rfl), (by rintro H' m_ hH hm_ hu_ _ rfl; exact dn <| s_d (m_ 3) rfl (d_ldint ty3 rfl (h_a.mono hH) c3) (by exact rfl) rfl), (fun H' m_ hH hm_ hu_ => dn <| s_d (m_ 4) rfl (d_move (v := v_b) rfl) (by exact rfl) rfl), (fun H' m_ hH hm_ hu_ => dn <| s_d (m_ 5) rfl (d_move (v := .int .i64 i) rfl) (by exact rfl) rfl), (by rintro H' m_ hH hm_ hu_ _ rfl _ rfl; exact dn <| s_d (m_ 6) rfl (d_index (sz := 1) Tryd.underlying34 sz3 rfl (h_b.mono hH) rfl c4) (by exact rfl) rfl), (by rintro H' m_ hH hm_ hu_ _ rfl; exact dn <| s_d (m_ 7) rfl (d_ldint ty3 rfl (h_b.mono hH) c4) (by exact rfl) rfl), trivial⟩ ?_
  intro H5 e6
  rintro _ _ rfl _ _ rfl _ _ rfl _ _ rfl _ _ rfl _ _ rfl _ _ rfl _ _ rfl
  refine w_d rfl (d_neq rfl rfl) <| w_done ?_
  rcases its he with ⟨c7, he⟩ | ⟨c7, he⟩
  ·
   refine w_else rfl (nd_t c7) <| w_skip <| w_inBlock <| w_region rfl <| wM (.int .i64 i) rfl rfl <| w_d rfl (d_sub (c := w64 (i - 1)) rfl rfl rfl) <| wA (.int .i64 (w64 (i - 1))) rfl rfl <| w_done <| w_inLoop <| w_sl 0 (v_a) rfl <| w_sl 1 (v_b) rfl <| w_sl 4 (.bool t4) rfl ?_
   refine w_sl 5 (.int .i64 (w64 (i - 1))) rfl <| hh.l0 (hle.trans e6) he (h_a.mono e6) (h_b.mono e6)
  ·
   refine w_then rfl (nd_f c7) <| w_seq ?_
   obtain ⟨c8, he⟩ := rq he
   obtain ⟨c9, he⟩ := rq he
   refine w_drawn (p := 8) (tl := [8, 9]) [[], [], [(0, some 32), (1, some 33)], [(2, some 34)], [], [], [(4, some 36), (5, some 37)], [(6, some 38)]] [some 32, some 33, some 34, some 35, some 36, some 37, some 38, some 39] (fctF (.is (v_a) :: .is (.int .i64 i) :: .is (.pointer (some (pel v_a i 1))) :: .is (.int .i64 (rd a i)) :: .is (v_b) :: .is (.int .i64 i) :: .is (.pointer (some (pel v_b i 1))) :: .is (.int .i64 (rd b i)) :: [])) (fun m_ => L) (fun _ => none) mixed (by kernel_rfl) (by kernel_rfl) rfl (fct_mono (by kernel_rfl)) ⟨(fun H' m_ hH hm_ hu_ => dn <| s_d (m_ 0) rfl (d_move (v := v_a) rfl) (by exact rfl) rfl), (fun H' m_ hH hm_ hu_ => dn <| s_d (m_ 1) rfl (d_move (v := .int .i64 i) rfl) (by exact rfl) rfl), (by rintro H' m_ hH hm_ hu_ _ rfl _ rfl; exact dn <| s_d (m_ 2) rfl (d_index (sz := 1) Tryd.underlying34 sz3 rfl (h_a.mono (e6.trans hH)) rfl c8) (by exact rfl) rfl), (by rintro H' m_ hH hm_ hu_ _ rfl; exact dn <| s_d (m_ 3) rfl (d_ldint ty3 rfl (h_a.mono (e6.trans hH)) c8) (by exact rfl) rfl), (fun H' m_ hH hm_ hu_ => dn <| s_d (m_ 4) rfl (d_move (v := v_b) rfl) (by exact rfl) rfl), (fun H' m_ hH hm_ hu_ => dn <| s_d (m_ 5) rfl (d_move (v := .int .i64 i) rfl) (by exact rfl) rfl), (by rintro H' m_ hH hm_ hu_ _ rfl _ rfl; exact dn <| s_d (m_ 6) rfl (d_index (sz := 1) Tryd.underlying34 sz3 rfl (h_b.mono (e6.trans hH)) rfl c9) (by exact rfl) rfl), (by rintro H' m_ hH hm_ hu_ _ rfl; exact dn <| s_d (m_ 7) rfl (d_ldint ty3 rfl (h_b.mono (e6.trans hH)) c9) (by exact rfl) rfl), trivial⟩ ?_
   intro H10 e11
   rintro _ _ rfl _ _ rfl _ _ rfl _ _ rfl _ _ rfl _ _ rfl _ _ rfl _ _ rfl
   refine w_d rfl (d_lss rfl rfl) <| wA (.bool (decide ((rd a i) < (rd b i)))) rfl rfl <| w_done ?_
   obtain rfl := sj he
   refine w_return fn_47 rs_47 (.tmp (v := .bool (decide ((rd a i) < (rd b i)))) rfl .nil) <| ⟨⟨[], rfl⟩, hle.trans (e6.trans e11), rfl⟩
 ·
  refine w_else rfl (df c2) <| w_exit rfl <| wR rfl <| wA (.bool false) rfl rfl <| w_done ?_
  obtain rfl := sj he
  refine w_return fn_47 rs_47 (.tmp (v := .bool false) rfl .nil) <| ⟨⟨[], rfl⟩, hle, rfl⟩
theorem radomeref01_Less.ok : ∀ k, radomeref01_Less.OK (radomeref01_Less.hs k)
 | 0 => ⟨(by intros; exact nomatch (show none = some _ from by assumption))⟩
 | k + 1 => ⟨radomeref01_Less.b0_ok (k := k) (radomeref01_Less.ok k)⟩
theorem radomeref01_Less.calls (k : Nat) {H : Hp} {L : Items} {a : List Int} {b : List Int} {v0_a : Value} {v1_b : Value} {r : Bool} (he : radomeref01_Less.f k a b = some r) (h0_a : Src kI64 H L v0_a a) (h1_b : Src kI64 H L v1_b b) : Ct Tryd.prog 47 ⟨[v0_a, v1_b]⟩ H L (fun v H' L' => L = L' ∧ H = H' ∧ v = .bool r) := by
 refine ct_outs (O := radomeref01_Less.out r) (fun _ _ h => h) ?_
 have hle : H.le H := .refl _
 have hh := radomeref01_Less.ok k
 unfold radomeref01_Less.f at he
 refine ct_enter (args := [v0_a, v1_b]) fn_47 rfl nt_47 rfl <| wR rfl <| wA (.bool false) rfl rfl <| wE <| wR rfl <| wM v0_a rfl rfl <| w_d rfl (d_len Tryd.underlying34 rfl h0_a) <| wM v1_b rfl rfl <| w_d rfl (d_len Tryd.underlying34 rfl h1_b) ?_
 refine w_d rfl (d_neq rfl rfl) <| w_done ?_
 rcases its he with ⟨c1, he⟩ | ⟨c1, he⟩
 ·
  refine w_else rfl (nd_t c1) <| w_skip <| w_seq <| wR rfl <| wM v0_a rfl rfl <| w_d rfl (d_len Tryd.underlying34 rfl h0_a) <| w_d rfl (d_sub (c := w64 ((a.length : Int) - 1)) rfl rfl rfl) <| wA (.int .i64 (w64 ((a.length : Int) - 1))) rfl rfl <| w_done <| w_block <| w_loop ?_
  refine w_sl 0 (v0_a) rfl <| w_sl 1 (v1_b) rfl <| w_sl 4 (.bool false) rfl <| w_sl 5 (.int .i64 (w64 ((a.length : Int) - 1))) rfl <| hh.l0 hle he h0_a h1_b
 ·
  refine w_then rfl (nd_f c1) <| wR rfl <| wM v0_a rfl rfl <| w_d rfl (d_len Tryd.underlying34 rfl h0_a) <| wM v1_b rfl rfl <| w_d rfl (d_len Tryd.underlying34 rfl h1_b) <| w_d rfl (d_lss rfl rfl) <| wA (.bool (decide ((a.length : Int) < (b.length : Int)))) rfl rfl <| w_done ?_
  obtain rfl := sj he
  refine w_return fn_47 rs_47 (.tmp (v := .bool (decide ((a.length : Int) < (b.length : Int)))) rfl .nil) <| ⟨⟨[], rfl⟩, hle, rfl⟩
noncomputable def radomeref01_minus.C : Code := (Tryd.f48.body).getD .skip
abbrev radomeref01_minus.out (r : (List Int)) (H : Hp) (v : Value) : Prop := Ro kI64 H v r
abbrev radomeref01_minus.R (H0 : Hp) (L : Items) (r : (List Int)) := fR H0 L (radomeref01_minus.out r)
structure radomeref01_minus.Hs where
 l0 : (List Int) → (List Int) → (List Int) → Int → Int → Option (List Int)
noncomputable def radomeref01_minus.j3 (k : Nat) (h : radomeref01_minus.Hs)  (a : List Int) (b : List Int) (out : List Int) (c_ : Int) (i : Int) (v_ : Int) : Option (List Int) := if out.length + 1 ≤ 17592186044288 then (h.l0 a b (out ++ [v_]) c_ (w64 (i + 1))) else none
noncomputable def radomeref01_minus.j2 (k : Nat) (h : radomeref01_minus.Hs)  (a : List Int) (b : List Int) (out : List Int) (c_ : Int) (i : Int) (v_ : Int) : Option (List Int) := if v_ < 0 then (radomeref01_minus.j3 k h a b out 1 i (w64 (v_ + 10))) else (radomeref01_minus.j3 k h a b out 0 i v_)
noncomputable def radomeref01_minus.b0 (k : Nat) (h : radomeref01_minus.Hs)  (a : List Int) (b : List Int) (out : List Int) (c_ : Int) (i : Int) : Option (List Int) := if i < (a.length : Int) then (if (0 : Int) ≤ i ∧ i < (a.length : Int) then (if i < (b.length : Int) then (if (0 : Int) ≤ i ∧ i < (b.length : Int) then (radomeref01_minus.j2 k h a b out c_ i (w64 ((w64 ((rd a i) - c_)) - (rd b i)))) else none) else (radomeref01_minus.j2 k h a b out c_ i (w64 ((rd a i) - c_)))) else none) else ((radomeref01_trim.f k out).bind fun y8 => some (y8))
noncomputable def radomeref01_minus.hs : Nat → radomeref01_minus.Hs
 | 0 => ⟨fun _ _ _ _ _ => none⟩
 | k + 1 => ⟨fun x0 x1 x2 x3 x4 => radomeref01_minus.b0 k (radomeref01_minus.hs k) x0 x1 x2 x3 x4⟩
noncomputable def radomeref01_minus.f (k : Nat) (a : List Int) (b : List Int) : Option (List Int) := (fun h : radomeref01_minus.Hs => h.l0 a b [] 0 0) (radomeref01_minus.hs k)
noncomputable def radomeref01_minus.Kl0 : List Item := .code (lopB (blkB (seqR (seqL (seqR (seqR (seqR radomeref01_minus.C))))))) :: .inLoop (lopB (blkB (seqR (seqL (seqR (seqR (seqR radomeref01_minus.C))))))) :: .inBlock 0 :: .code (seqR (seqR (seqR (seqR radomeref01_minus.C)))) :: []
noncomputable def radomeref01_minus.Kj2 : List Item := .code (seqR (seqR (blkB (seqL (seqR (lopB (blkB (seqR (seqL (seqR (seqR (seqR radomeref01_minus.C)))))))))))) :: .inBlock 1 :: .code (seqR (seqR (lopB (blkB (seqR (seqL (seqR (seqR (seqR radomeref01_minus.C))))))))) :: .inLoop (lopB (blkB (seqR (seqL (seqR (seqR (seqR radomeref01_minus.C))))))) :: .inBlock 0 :: .code (seqR (seqR (seqR (seqR radomeref01_minus.C)))) :: []
noncomputable def radomeref01_minus.Kj3 : List Item := .code (seqR (seqR (seqR (seqR (blkB (seqL (seqR (lopB (blkB (seqR (seqL (seqR (seqR (seqR radomeref01_minus.C)))))))))))))) :: .inBlock 1 :: .code (seqR (seqR (lopB (blkB (seqR (seqL (seqR (seqR (seqR radomeref01_minus.C))))))))) :: .inLoop (lopB (blkB (seqR (seqL (seqR (seqR (seqR radomeref01_minus.C))))))) :: .inBlock 0 :: .code (seqR (seqR (seqR (seqR radomeref01_minus.C)))) :: []
structure radomeref01_minus.OK (h : radomeref01_minus.Hs) : Prop where
 l0 : ∀ {H0 H : Hp} {L : Items} {r : (List Int)} {jk_ : Nat → Value} {a : List Int} {b : List Int} {out : List Int} {c_ : Int} {i : Int} {v_a : Value} {v_b : Value} {v_out : Value} {i_out : Item'} (_ : H0.le H) (_he : h.l0 a b out c_ i = some r) (_h_a : Src kI64 H L v_a a) (_h_b : Src kI64 H L v_b b) (_h_out : Sl kI64 H 3 i_out v_out out), Wp Tryd.prog 48 41 radomeref01_minus.Kl0 (upd (upd (upd (upd (upd (upd jk_ 0 (v_a)) 1 (v_b)) 4 (.slice none 0 0)) 5 (v_out)) 6 (.int .i64 c_)) 7 (.int .i64 i)) H (i_out :: L) (radomeref01_minus.R H0 L r)
theorem radomeref01_minus.j3_ok {k : Nat} {h : radomeref01_minus.Hs} (hh : radomeref01_minus.OK h) {H0 H : Hp} {L : Items} {r : (List Int)} {jk_ : Nat → Value} {a : List Int} {b : List Int} {out : List Int} {c_ : Int} {i : Int} {v_ : Int} {v_a : Value} {v_b : Value} {v_out : Value} {i_out : Item'} (hle : H0.le H) (he : radomeref01_minus.j3 k h a b out c_ i v_ = some r) (h_a : Src kI64 H L v_a a) (h_b : Src kI64 H L v_b b) (h_out : Sl kI64 H 3 i_out v_out out) : Wp Tryd.prog 48 41 radomeref01_minus.Kj3 (upd (upd (upd (upd (upd (upd (upd jk_ 0 (v_a)) 1 (v_b)) 4 (.slice none 0 0)) 5 (v_out)) 6 (.int .i64 c_)) 7 (.int .i64 i)) 8 (.int .i64 v_)) H (i_out :: L) (radomeref01_minus.R H0 L r) := by
 unfold radomeref01_minus.j3 at he
 unfold radomeref01_minus.Kj3
 refine w_region rfl <| wM v_out rfl rfl <| wM (.int .i64 v_) rfl rfl <| w_a rfl (o_buildSlice' (kd := kI64) (css := [[.int .i64 v_]]) (xs := [v_]) (parts := [(0, .int .i64 v_)]) Tryd.underlying34 ti3 rfl ⟨_, _, rfl, rfl, rfl⟩ ⟨rfl, trivial⟩ rfl (by decide)) ?_
 rintro v15 _ _ ⟨i16, rfl, rfl, h17⟩
 obtain ⟨c18, he⟩ := rq he
 refine w_a rfl (o_append' (kd := kI64) (F := fun z_ => i16 :: z_ :: L) Tryd.underlying34 Tryd.underlying34 ti3 rfl (by first | omega | (simp only [List.nil_append, List.length_cons, List.length_nil]; omega)) rfl rfl h_out (h17.src .here) (fun _ => (.there .here))) ?_
 rintro v19 _ _ ⟨i20, rfl, rfl, h21⟩
 refine wA v19 rfl rfl <| w_done <| w_inBlock <| w_region rfl <| wM (.int .i64 i) rfl rfl <| w_d rfl (d_add (c := w64 (i + 1)) rfl rfl rfl) <| wA (.int .i64 (w64 (i + 1))) rfl rfl <| w_done <| w_inLoop <| w_del .here <| w_sl 0 (v_a) rfl <| w_sl 1 (v_b) rfl ?_
 refine w_sl 4 (.slice none 0 0) rfl <| w_sl 5 (v19) rfl <| w_sl 6 (.int .i64 c_) rfl <| w_sl 7 (.int .i64 (w64 (i + 1))) rfl <| hh.l0 hle he h_a h_b h21
theorem radomeref01_minus.j2_ok {k : Nat} {h : radomeref01_minus.Hs} (hh : radomeref01_minus.OK h) {H0 H : Hp} {L : Items} {r : (List Int)} {jk_ : Nat → Value} {a : List Int} {b : List Int} {out : List Int} {c_ : Int} {i : Int} {v_ : Int} {v_a : Value} {v_b : Value} {v_out : Value} {i_out : Item'} (hle : H0.le H) (he : radomeref01_minus.j2 k h a b out c_ i v_ = some r) (h_a : Src kI64 H L v_a a) (h_b : Src kI64 H L v_b b) (h_out : Sl kI64 H 3 i_out v_out out) : Wp Tryd.prog 48 41 radomeref01_minus.Kj2 (upd (upd (upd (upd (upd (upd (upd jk_ 0 (v_a)) 1 (v_b)) 4 (.slice none 0 0)) 5 (v_out)) 6 (.int .i64 c_)) 7 (.int .i64 i)) 8 (.int .i64 v_)) H (i_out :: L) (radomeref01_minus.R H0 L r) := by
 unfold radomeref01_minus.j2 at he
 unfold radomeref01_minus.Kj2
 refine wR rfl <| wA (.int .i64 0) rfl rfl <| wE <| wR rfl <| wM (.int .i64 v_) rfl rfl <| w_d rfl (d_lss rfl rfl) <| w_done ?_
 rcases its he with ⟨c14, he⟩ | ⟨c14, he⟩
 ·
  refine w_then rfl (dt c14) <| wR rfl <| wM (.int .i64 v_) rfl rfl <| w_d rfl (d_add (c := w64 (v_ + 10)) rfl rfl rfl) <| wA (.int .i64 (w64 (v_ + 10))) rfl rfl <| w_done <| w_region rfl <| wA (.int .i64 1) rfl rfl <| w_done <| w_sl 0 (v_a) rfl <| w_sl 1 (v_b) rfl ?_
  refine w_sl 4 (.slice none 0 0) rfl <| w_sl 5 (v_out) rfl <| w_sl 6 (.int .i64 1) rfl <| w_sl 7 (.int .i64 i) rfl <| w_sl 8 (.int .i64 (w64 (v_ + 10))) rfl <| radomeref01_minus.j3_ok (k := k) hh hle he h_a h_b h_out
 ·
  refine w_else rfl (df c14) <| w_skip <| w_sl 0 (v_a) rfl <| w_sl 1 (v_b) rfl <| w_sl 4 (.slice none 0 0) rfl <| w_sl 5 (v_out) rfl <| w_sl 6 (.int .i64 0) rfl <| w_sl 7 (.int .i64 i) rfl <| w_sl 8 (.int .i64 v_) rfl <| radomeref01_minus.j3_ok (k := k) hh hle he h_a h_b h_out
theorem radomeref01_minus.b0_ok {k : Nat} {h : radomeref01_minus.Hs} (hh : radomeref01_minus.OK h) {H0 H : Hp} {L : Items} {r : (List Int)} {jk_ : Nat → Value} {a : List Int} {b : List Int} {out : List Int} {c_ : Int} {i : Int} {v_a : Value} {v_b : Value} {v_out : Value} {i_out : Item'} (hle : H0.le H) (he : radomeref01_minus.b0 k h a b out c_ i = some r) (h_a : Src kI64 H L v_a a) (h_b : Src kI64 H L v_b b) (h_out : Sl kI64 H 3 i_out v_out out) : Wp Tryd.prog 48 41 radomeref01_minus.Kl0 (upd (upd (upd (upd (upd (upd jk_ 0 (v_a)) 1 (v_b)) 4 (.slice none 0 0)) 5 (v_out)) 6 (.int .i64 c_)) 7 (.int .i64 i)) H (i_out :: L) (radomeref01_minus.R H0 L r) := by
 unfold radomeref01_minus.b0 at he
 unfold radomeref01_minus.Kl0
 refine w_seq <| wR rfl <| wM (.int .i64 i) rfl rfl <| wM v_a rfl rfl <| w_d rfl (d_len Tryd.underlying34 rfl h_a.th) <| w_d rfl (d_lss rfl rfl) <| w_done ?_
 rcases its he with ⟨c1, he⟩ | ⟨c1, he⟩
 ·
  refine w_then rfl (dt c1) <| w_skip <| w_seq <| w_block <| wR rfl <| wM v_a rfl rfl <| wM (.int .i64 i) rfl rfl ?_
  obtain ⟨c2, he⟩ := rq he
  refine w_d rfl (d_index (sz := 1) Tryd.underlying34 sz3 rfl h_a.th rfl c2) <| w_d rfl (d_ldint ty3 rfl h_a.th c2) <| wM (.int .i64 c_) rfl rfl <| w_d rfl (d_sub (c := w64 ((rd a i) - c_)) rfl rfl rfl) <| wA (.int .i64 (w64 ((rd a i) - c_))) rfl rfl <| wE <| wR rfl <| wM (.int .i64 i) rfl rfl <| wM v_b rfl rfl <| w_d rfl (d_len Tryd.underlying34 rfl h_b.th) ?_
  refine w_d rfl (d_lss rfl rfl) <| w_done ?_
  rcases its he with ⟨c3, he⟩ | ⟨c3, he⟩
  ·
   refine w_then rfl (dt c3) <| w_region rfl <| wM (.int .i64 (w64 ((rd a i) - c_))) rfl rfl <| wM v_b rfl rfl <| wM (.int .i64 i) rfl rfl ?_
   obtain ⟨c4, he⟩ := rq he
   refine w_d rfl (d_index (sz := 1) Tryd.underlying34 sz3 rfl h_b.th rfl c4) <| w_d rfl (d_ldint ty3 rfl h_b.th c4) <| w_d rfl (d_sub (c := w64 ((w64 ((rd a i) - c_)) - (rd b i))) rfl rfl rfl) <| wA (.int .i64 (w64 ((w64 ((rd a i) - c_)) - (rd b i)))) rfl rfl <| w_done <| w_sl 0 (v_a) rfl <| w_sl 1 (v_b) rfl <| w_sl 4 (.slice none 0 0) rfl <| w_sl 5 (v_out) rfl <| w_sl 6 (.int .i64 c_) rfl <| w_sl 7 (.int .i64 i) rfl <| w_sl 8 (.int .i64 (w64 ((w64 ((rd a i) - c_)) - (rd b i)))) rfl <| radomeref01_minus.j2_ok (k := k) hh hle he h_a h_b h_out
  ·
   refine w_else rfl (df c3) <| w_skip <| w_sl 0 (v_a) rfl <| w_sl 1 (v_b) rfl <| w_sl 4 (.slice none 0 0) rfl <| w_sl 5 (v_out) rfl <| w_sl 6 (.int .i64 c_) rfl <| w_sl 7 (.int .i64 i) rfl <| w_sl 8 (.int .i64 (w64 ((rd a i) - c_))) rfl <| radomeref01_minus.j2_ok (k := k) hh hle he h_a h_b h_out
 ·
  refine w_else rfl (df c1) <| w_exit rfl <| wR rfl <| wM v_out rfl rfl <| w_freeze h_out .here ?_
  intro H5 e6 h7
  obtain ⟨y8, hy9, he⟩ := bs he
  refine w_a rfl (o_call co61 (vs := [v_out]) rfl (radomeref01_trim.calls k hy9 h7)) ?_
  rintro v12 H10 _ ⟨rfl, e11, h13⟩
  refine wA v12 rfl rfl <| w_done ?_
  obtain rfl := sj he
  refine w_return fn_48 rs_48 (.tmp (v := v12) rfl .nil) <| ⟨⟨[_], rfl⟩, hle.trans (e6.trans e11), h13⟩
theorem radomeref01_minus.ok : ∀ k, radomeref01_minus.OK (radomeref01_minus.hs k)
 | 0 => ⟨(by intros; exact nomatch (show none = some _ from by assumption))⟩
 | k + 1 => ⟨radomeref01_minus.b0_ok (k := k) (radomeref01_minus.ok k)⟩
theorem radomeref01_minus.calls (k : Nat) {H : Hp} {L : Items} {a : List Int} {b : List Int} {v0_a : Value} {v1_b : Value} {r : (List Int)} (he : radomeref01_minus.f k a b = some r) (h0_a : Src kI64 H L v0_a a) (h1_b : Src kI64 H L v1_b b) : Ct Tryd.prog 48 ⟨[v0_a, v1_b]⟩ H L (cR H L (radomeref01_minus.out r)) := by
 refine ct_out (O := radomeref01_minus.out r) ?_
 have hle : H.le H := .refl _
 have hh := radomeref01_minus.ok k
 unfold radomeref01_minus.f at he
 refine ct_enter (args := [v0_a, v1_b]) fn_48 rfl nt_48 rfl <| wR rfl <| wA (.slice none 0 0) rfl rfl <| wQ rfl <| wA (.slice none 0 0) rfl rfl <| wQ rfl <| wA (.int .i64 0) rfl rfl ?_
 refine wE <| wR rfl <| wA (.int .i64 0) rfl rfl <| w_done <| w_block <| w_loop <| w_none <| w_sl 0 (v0_a) rfl <| w_sl 1 (v1_b) rfl <| w_sl 4 (.slice none 0 0) rfl ?_
 refine w_sl 5 (.slice none 0 0) rfl <| w_sl 6 (.int .i64 0) rfl <| w_sl 7 (.int .i64 0) rfl <| hh.l0 hle he h0_a h1_b (sl_nil _ _ _)
noncomputable def radomeref01_Add.C : Code := (Tryd.f32.body).getD .skip
def radomeref01_Add.out (r : radomeref01_Num) (H : Hp) (v : Value) : Prop := ∃ v0, v = .agg ⟨[.bool r.f_Neg, v0]⟩ ∧ Ro kI64 H v0 r.f_D
noncomputable def radomeref01_Add.f (k : Nat) (a : radomeref01_Num) (b : radomeref01_Num) : Option radomeref01_Num := if (a.f_Neg == b.f_Neg) = true then ((radomeref01_plus.f k a.f_D b.f_D).bind fun y5 => (radomeref01_num.f k a.f_Neg y5).bind fun y13 => some (y13)) else ((radomeref01_Less.f k a.f_D b.f_D).bind fun y19 => if y19 = true then ((radomeref01_minus.f k b.f_D a.f_D).bind fun y24 => (radomeref01_num.f k b.f_Neg y24).bind fun y32 => some (y32)) else ((radomeref01_minus.f k a.f_D b.f_D).bind fun y38 => (radomeref01_num.f k a.f_Neg y38).bind fun y46 => some (y46)))
theorem radomeref01_Add.calls (k : Nat) {H : Hp} {L : Items} {a : radomeref01_Num} {b : radomeref01_Num} {v0_a : Value} {v1_b : Value} {r : radomeref01_Num} (he : radomeref01_Add.f k a b = some r) (h0_a : Ro kI64 H v0_a a.f_D) (h1_b : Ro kI64 H v1_b b.f_D) : Ct Tryd.prog 32 ⟨[.agg ⟨[.bool a.f_Neg, v0_a]⟩, .agg ⟨[.bool b.f_Neg, v1_b]⟩]⟩ H L (cR H L (radomeref01_Add.out r)) := by
 refine ct_out (O := radomeref01_Add.out r) ?_
 have hle : H.le H := .refl _
 unfold radomeref01_Add.f at he
 refine ct_enter (args := [.agg ⟨[.bool a.f_Neg, v0_a]⟩, .agg ⟨[.bool b.f_Neg, v1_b]⟩]) fn_32 rfl nt_32 rfl <| wR rfl <| w_a rfl (o_box (v := .agg ⟨[.bool a.f_Neg, v0_a]⟩) rfl rfl) ?_
 rintro _ _ _ ⟨b1, rfl, rfl, rfl⟩
 refine w_a rfl (o_box (v := .agg ⟨[.bool b.f_Neg, v1_b]⟩) rfl rfl) ?_
 rintro _ _ _ ⟨b2, rfl, rfl, rfl⟩
 refine w_a rfl (o_alloc zr76 rfl) ?_
 rintro _ _ _ ⟨b3, rfl, rfl, rfl⟩
 refine wE <| wR rfl <| w_d rfl (d_fld (o' := 0) Tryd.underlying76 rfl sz4 rfl rfl rfl) <| wL (.bool a.f_Neg) ty4 rfl rfl (.there (.there .here)) rfl rfl <| w_d rfl (d_fld (o' := 0) Tryd.underlying76 rfl sz4 rfl rfl rfl) <| wL (.bool b.f_Neg) ty4 rfl rfl (.there .here) rfl rfl <| w_d rfl (d_eqb (a := a.f_Neg) (b := b.f_Neg) Tryd.underlying4 rfl rfl) <| w_done ?_
 rcases its he with ⟨c4, he⟩ | ⟨c4, he⟩
 ·
  refine w_then rfl c4 <| w_seq ?_
  obtain ⟨y5, hy6, he⟩ := bs he
  refine w_drawn (p := 7) (tl := [7, 8]) [[], [(0, some 10)], [], [(2, some 12)], [], [(4, some 14)], [(3, some 13), (5, some 15)]] [some 10, some 11, some 12, some 13, some 14, some 15, some 16] (fctF (.is (.pointer (some ⟨b1, 0, none⟩)) :: .is (.bool a.f_Neg) :: .is (.pointer (some ⟨b1, 1, none⟩)) :: .is (v0_a) :: .is (.pointer (some ⟨b2, 1, none⟩)) :: .is (v1_b) :: .ro kI64 (y5) :: [])) (fun m_ => some (b3, .cells ⟨[.bool false, .slice none 0 0]⟩ 76 (0, 0)) :: some (b2, .cells ⟨[.bool b.f_Neg, v1_b]⟩ 76 (0, 0)) :: some (b1, .cells ⟨[.bool a.f_Neg, v0_a]⟩ 76 (0, 0)) :: L) (fun _ => none) mixed (by kernel_rfl) (by kernel_rfl) rfl (fct_mono (by kernel_rfl)) ⟨(fun H' m_ hH hm_ hu_ => dn <| s_d (m_ 0) rfl (d_fld (o' := 0) Tryd.underlying76 rfl sz4 rfl rfl rfl) (by exact rfl) rfl), (by rintro H' m_ hH hm_ hu_ _ rfl; exact dn <| s_d (m_ 1) rfl (d_loado (v := .bool a.f_Neg) ty4 rfl (.there (.there .here)) rfl rfl rfl rfl) (by exact rfl) rfl), (fun H' m_ hH hm_ hu_ => dn <| s_d (m_ 2) rfl (d_fld (o' := 1) Tryd.underlying76 rfl sz34 rfl rfl rfl) (by exact rfl) rfl), (by rintro H' m_ hH hm_ hu_ _ rfl; exact dn <| s_d (m_ 3) rfl (d_loado (v := v0_a) ty34 rfl (.there (.there .here)) rfl rfl rfl rfl) (by exact rfl) rfl), (fun H' m_ hH hm_ hu_ => dn <| s_d (m_ 4) rfl (d_fld (o' := 1) Tryd.underlying76 rfl sz34 rfl rfl rfl) (by exact rfl) rfl), (by rintro H' m_ hH hm_ hu_ _ rfl; exact dn <| s_d (m_ 5) rfl (d_loado (v := v1_b) ty34 rfl (.there .here) rfl rfl rfl rfl) (by exact rfl) rfl), (by rintro H' m_ hH hm_ hu_ _ rfl _ rfl; exact dn <| s_k (m_ 6) rfl (o_call co46 (vs := [v0_a, v1_b]) rfl (radomeref01_plus.calls k hy6 ((h0_a.mono hH).src) ((h1_b.mono hH).src))) rfl (by rintro v_ H_ _ ⟨rfl, e_, h_⟩; exact ⟨rfl, e_, h_⟩)), trivial⟩ ?_
  intro H11 e12
  rintro _ _ rfl _ _ rfl _ _ rfl _ _ rfl _ _ rfl _ _ rfl v9 _ (h10 : Ro kI64 H11 v9 y5)
  obtain ⟨y13, hy14, he⟩ := bs he
  refine w_a rfl (o_call co45 (vs := [.bool a.f_Neg, v9]) rfl (radomeref01_num.calls k hy14 h10)) ?_
  rintro _ H15 _ ⟨rfl, e16, ⟨v17, rfl, h18⟩⟩
  refine w_a0 rfl (o_store (v := .agg ⟨[.bool y13.f_Neg, v17]⟩) sz76 rfl rfl rfl rfl (oc rfl (oc (h18.one) oz)) .here u2) ?_
  rintro _ _ _ ⟨rfl, rfl, rfl⟩
  refine w_done ?_
  obtain rfl := sj he
  refine w_return fn_32 rs_32 (.box (v := .agg ⟨[.bool y13.f_Neg, v17]⟩) rfl ty76 rfl rfl .here rfl .nil) <| ⟨⟨[_, _, _], rfl⟩, hle.trans (e12.trans e16), ⟨v17, rfl, h18⟩⟩
 ·
  refine w_else rfl (Bool.eq_false_iff.2 c4) <| w_skip <| w_seq <| wR rfl <| w_d rfl (d_fld (o' := 1) Tryd.underlying76 rfl sz34 rfl rfl rfl) <| wL v0_a ty34 rfl rfl (.there (.there .here)) rfl rfl <| w_d rfl (d_fld (o' := 1) Tryd.underlying76 rfl sz34 rfl rfl rfl) <| wL v1_b ty34 rfl rfl (.there .here) rfl rfl ?_
  obtain ⟨y19, hy20, he⟩ := bs he
  refine w_d rfl (call_d (o_call co47 (vs := [v0_a, v1_b]) rfl (radomeref01_Less.calls k hy20 h0_a.src h1_b.src))) <| w_done ?_
  rcases its he with ⟨c23, he⟩ | ⟨c23, he⟩
  ·
   refine w_then rfl c23 <| w_seq ?_
   obtain ⟨y24, hy25, he⟩ := bs he
   refine w_drawn (p := 7) (tl := [7, 8]) [[], [(0, some 23)], [], [(2, some 25)], [], [(4, some 27)], [(3, some 26), (5, some 28)]] [some 23, some 24, some 25, some 26, some 27, some 28, some 29] (fctF (.is (.pointer (some ⟨b2, 0, none⟩)) :: .is (.bool b.f_Neg) :: .is (.pointer (some ⟨b2, 1, none⟩)) :: .is (v1_b) :: .is (.pointer (some ⟨b1, 1, none⟩)) :: .is (v0_a) :: .ro kI64 (y24) :: [])) (fun m_ => some (b3, .cells ⟨[.bool false, .slice none 0 0]⟩ 76 (0, 0)) :: some (b2, .cells ⟨[.bool b.f_Neg, v1_b]⟩ 76 (0, 0)) :: some (b1, .cells ⟨[.bool a.f_Neg, v0_a]⟩ 76 (0, 0)) :: L) (fun _ => none) mixed (by kernel_rfl) (by kernel_rfl) rfl (fct_mono (by kernel_rfl)) ⟨(fun H' m_ hH hm_ hu_ => dn <| s_d (m_ 0) rfl (d_fld (o' := 0) Tryd.underlying76 rfl sz4 rfl rfl rfl) (by exact rfl) rfl), (by rintro H' m_ hH hm_ hu_ _ rfl; exact dn <| s_d (m_ 1) rfl (d_loado (v := .bool b.f_Neg) ty4 rfl (.there .here) rfl rfl rfl rfl) (by exact rfl) rfl), (fun H' m_ hH hm_ hu_ => dn <| s_d (m_ 2) rfl (d_fld (o' := 1) Tryd.underlying76 rfl sz34 rfl rfl rfl) (by exact rfl) rfl), (by rintro H' m_ hH hm_ hu_ _ rfl; exact dn <| s_d (m_ 3) rfl (d_loado (v := v1_b) ty34 rfl (.there .here) rfl rfl rfl rfl) (by exact rfl) rfl), (fun H' m_ hH hm_ hu_ => dn <| s_d (m_ 4) rfl (d_fld (o' := 1) Tryd.underlying76 rfl sz34 rfl rfl rfl) (by exact rfl) rfl), (by rintro H' m_ hH hm_ hu_ _ rfl; exact dn <| s_d (m_ 5) rfl (d_loado (v := v0_a) ty34 rfl (.there (.there .here)) rfl rfl rfl rfl) (by exact rfl) rfl), (by rintro H' m_ hH hm_ hu_ _ rfl _ rfl; exact dn <| s_k (m_ 6) rfl (o_call co48 (vs := [v1_b, v0_a]) rfl (radomeref01_minus.calls k hy25 ((h1_b.mono hH).src) ((h0_a.mono hH).src))) rfl (by rintro v_ H_ _ ⟨rfl, e_, h_⟩; exact ⟨rfl, e_, h_⟩)), trivial⟩ ?_
   intro H30 e31
   rintro _ _ rfl _ _ rfl _ _ rfl _ _ rfl _ _ rfl _ _ rfl v28 _ (h29 : Ro kI64 H30 v28 y24)
   obtain ⟨y32, hy33, he⟩ := bs he
   refine w_a rfl (o_call co45 (vs := [.bool b.f_Neg, v28]) rfl (radomeref01_num.calls k hy33 h29)) ?_
   rintro _ H34 _ ⟨rfl, e35, ⟨v36, rfl, h37⟩⟩
   refine w_a0 rfl (o_store (v := .agg ⟨[.bool y32.f_Neg, v36]⟩) sz76 rfl rfl rfl rfl (oc rfl (oc (h37.one) oz)) .here u2) ?_
   rintro _ _ _ ⟨rfl, rfl, rfl⟩
   refine w_done ?_
   obtain rfl := sj he
   refine w_return fn_32 rs_32 (.box (v := .agg ⟨[.bool y32.f_Neg, v36]⟩) rfl ty76 rfl rfl .here rfl .nil) <| ⟨⟨[_, _, _], rfl⟩, hle.trans (e31.trans e35), ⟨v36, rfl, h37⟩⟩
  ·
   refine w_else rfl (Bool.eq_false_iff.2 c23) <| w_skip <| w_seq ?_
   obtain ⟨y38, hy39, he⟩ := bs he
   refine w_drawn (p := 7) (tl := [7, 8]) [[], [(0, some 31)], [], [(2, some 33)], [], [(4, some 35)], [(3, some 34), (5, some 36)]] [some 31, some 32, some 33, some 34, some 35, some 36, some 37] (fctF (.is (.pointer (some ⟨b1, 0, none⟩)) :: .is (.bool a.f_Neg) :: .is (.pointer (some ⟨b1, 1, none⟩)) :: .is (v0_a) :: .is (.pointer (some ⟨b2, 1, none⟩)) :: .is (v1_b) :: .ro kI64 (y38) :: [])) (fun m_ => some (b3, .cells ⟨[.bool false, .slice none 0 0]⟩ 76 (0, 0)) :: some (b2, .cells ⟨[.bool b.f_Neg, v1_b]⟩ 76 (0, 0)) :: some (b1, .cells ⟨[.bool a.f_Neg, v0_a]⟩ 76 (0, 0)) :: L) (fun _ => none) mixed (by kernel_rfl) (by kernel_rfl) rfl (fct_mono (by kernel_rfl)) ⟨(fun H' m_ hH hm_ hu_ => dn <| s_d (m_ 0) rfl (d_fld (o' := 0) Tryd.underlying76 rfl sz4 rfl rfl rfl) (by exact rfl) rfl), (by rintro H' m_ hH hm_ hu_ _ rfl; exact dn <| s_d (m_ 1) rfl (d_loado (v := .bool a.f_Neg) ty4 rfl (.there (.there .here)) rfl rfl rfl rfl) (by exact rfl) rfl), (fun H' m_ hH hm_ hu_ => dn <| s_d (m_ 2) rfl (d_fld (o' := 1) Tryd.underlying76 rfl sz34 rfl rfl rfl) (by exact rfl) rfl), (by rintro H' m_ hH hm_ hu_ _ rfl; exact dn <| s_d (m_ 3) rfl (d_loado (v := v0_a) ty34 rfl (.there (.there .here)) rfl rfl rfl rfl) (by exact rfl) rfl), (fun H' m_ hH hm_ hu_ => dn <| s_d (m_ 4) rfl (d_fld (o' := 1) Tryd.underlying76 rfl sz34 rfl rfl rfl) (by exact rfl) rfl), (by rintro H' m_ hH hm_ hu_ _ rfl; exact dn <| s_d (m_ 5) rfl (d_loado (v := v1_b) ty34 rfl (.there .here) rfl rfl rfl rfl) (by exact rfl) rfl), (by rintro H' m_ hH hm_ hu_ _ rfl _ rfl; exact dn <| s_k (m_ 6) rfl (o_call co48 (vs := [v0_a, v1_b]) rfl (radomeref01_minus.calls k hy39 ((h0_a.mono hH).src) ((h1_b.mono hH).src))) rfl (by rintro v_ H_ _ ⟨rfl, e_, h_⟩; exact ⟨rfl, e_, h_⟩)), trivial⟩ ?_
   intro H44 e45
   rintro _ _ rfl _ _ rfl _ _ rfl _ _ rfl _ _ rfl _ _ rfl v42 _ (h43 : Ro kI64 H44 v42 y38)
   obtain ⟨y46, hy47, he⟩ := bs he
   refine w_a rfl (o_call co45 (vs := [.bool a.f_Neg, v42]) rfl (radomeref01_num.calls k hy47 h43)) ?_
   rintro _ H48 _ ⟨rfl, e49, ⟨v50, rfl, h51⟩⟩
   refine w_a0 rfl (o_store (v := .agg ⟨[.bool y46.f_Neg, v50]⟩) sz76 rfl rfl rfl rfl (oc rfl (oc (h51.one) oz)) .here u2) ?_
   rintro _ _ _ ⟨rfl, rfl, rfl⟩
   refine w_done ?_
   obtain rfl := sj he
   refine w_return fn_32 rs_32 (.box (v := .agg ⟨[.bool y46.f_Neg, v50]⟩) rfl ty76 rfl rfl .here rfl .nil) <| ⟨⟨[_, _, _], rfl⟩, hle.trans (e45.trans e49), ⟨v50, rfl, h51⟩⟩
end Go.Proofs.YtacbficpehmlnaaDoor.GBS

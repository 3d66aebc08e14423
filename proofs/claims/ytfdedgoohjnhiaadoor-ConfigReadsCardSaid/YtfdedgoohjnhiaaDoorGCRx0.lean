/- printed by gen.py -/
import Derived.Test.YtfdedgoohjnhiaaDoorGCRt
namespace Go.Proofs.YtfdedgoohjnhiaaDoor.GCR
open Go Go.RowKit Go.Proofs.YtfdedgoohjnhiaaDoorK Go.Proofs.YtfdedgoohjnhiaaDoor
set_option maxRecDepth 100000
set_option maxHeartbeats 2000000
set_option linter.unusedVariables false
set_option linter.unusedSimpArgs false
noncomputable def config_reader_number.C : Code := (Tryd.f31.body).getD .skip
def config_reader_number.out (b_r_ : Nat) (its_ : Items) (r : Int × config_reader) (H : Hp) (v : Value) : Prop := ∃ v0 : Value, v = .int .i64 r.1 ∧ its_ = [some (b_r_, .cells ⟨[v0]⟩ 82 (0, 0))] ∧ Ro kU8 H v0 r.2.f_b
abbrev config_reader_number.R (b_r_ : Nat) (H0 : Hp) (L : Items) (r : Int × config_reader) : Value → Hp → Items → Prop := fun v H' L' => ∃ p its_, L' = p ++ (its_ ++ L) ∧ H0.le H' ∧ config_reader_number.out b_r_ its_ r H' v
structure config_reader_number.Hs where
 l0 : (List Int) → Int → (List Int) → Int → Int → Option (Int × config_reader)
noncomputable def config_reader_number.b0 (k : Nat) (h : config_reader_number.Hs)  (r_ : List Int) (n : Int) (t10 : List Int) (t11 : Int) (t12 : Int) : Option (Int × config_reader) := if t12 < t11 then (if (0 : Int) ≤ t12 ∧ t12 < (t10.length : Int) then (h.l0 r_ (ior .i64 (w64 (n * 256)) (w64 (rd t10 t12))) t10 t11 (w64 (t12 + 1))) else none) else (if (0 : Int) ≤ 8 ∧ (8 : Int) ≤ (r_.length : Int) ∧ (r_.length : Int) ≤ (r_.length : Int) then (some (n, (⟨cut r_ 8 (r_.length : Int)⟩ : config_reader))) else none)
noncomputable def config_reader_number.hs : Nat → config_reader_number.Hs
 | 0 => ⟨fun _ _ _ _ _ => none⟩
 | k + 1 => ⟨fun x0 x1 x2 x3 x4 => config_reader_number.b0 k (config_reader_number.hs k) x0 x1 x2 x3 x4⟩
noncomputable def config_reader_number.f (k : Nat) (r_ : config_reader) : Option (Int × config_reader) := (fun h : config_reader_number.Hs => if (0 : Int) ≤ 0 ∧ (0 : Int) ≤ 8 ∧ 8 ≤ (r_.f_b.length : Int) then (h.l0 r_.f_b 0 (cut r_.f_b 0 8) ((cut r_.f_b 0 8).length : Int) 0) else none) (config_reader_number.hs k)
structure config_reader_number.LE (h h' : config_reader_number.Hs) : Prop where
 l0 : ∀ y0 y1 y2 y3 y4, LeO (h.l0 y0 y1 y2 y3 y4) (h'.l0 y0 y1 y2 y3 y4)
theorem config_reader_number.b0_mono {k : Nat} {h h' : config_reader_number.Hs} (hl : config_reader_number.LE h h') : ∀ y0 y1 y2 y3 y4, LeO (config_reader_number.b0 k h y0 y1 y2 y3 y4) (config_reader_number.b0 (k + 1) h' y0 y1 y2 y3 y4) := fun _ _ _ _ _ => (LeO.ite (LeO.ite (hl.l0 _ _ _ _ _) (LeO.refl _)) (LeO.ite (LeO.refl _) (LeO.refl _)))
theorem config_reader_number.hs_mono : ∀ k, config_reader_number.LE (config_reader_number.hs k) (config_reader_number.hs (k + 1))
 | 0 => ⟨fun _ _ _ _ _ => LeO.none _⟩
 | k + 1 => ⟨config_reader_number.b0_mono (k := k) (config_reader_number.hs_mono k)⟩
theorem config_reader_number.mono : ∀ k y0, LeO (config_reader_number.f k y0) (config_reader_number.f (k + 1) y0) := fun k _ => have hl := config_reader_number.hs_mono k; by unfold config_reader_number.f; exact (LeO.ite (hl.l0 _ _ _ _ _) (LeO.refl _))
noncomputable def config_reader_number.Kl0 : List Item := .code (lopB (blkB (seqR (seqL (seqR (seqR config_reader_number.C)))))) :: .inLoop (lopB (blkB (seqR (seqL (seqR (seqR config_reader_number.C)))))) :: .inBlock 0 :: .code (seqR (seqR (seqR config_reader_number.C))) :: []
structure config_reader_number.OK (h : config_reader_number.Hs) : Prop where
 l0 : ∀ {H0 H : Hp} {L : Items} {r : Int × config_reader} {jk_ : Nat → Value} {r_ : List Int} {n : Int} {t10 : List Int} {t11 : Int} {t12 : Int} {v_r_ : Value} {v_t10 : Value} {b_r_ : Nat} (_ : H0.le H) (_he : h.l0 r_ n t10 t11 t12 = some r) (_h_r_ : Ro kU8 H v_r_ r_) (_h_t10 : Ro kU8 H v_t10 t10), Wp Tryd.prog 31 31 config_reader_number.Kl0 (upd (upd (upd (upd (upd (upd jk_ 0 (.pointer (some ⟨b_r_, 0, none⟩))) 2 (.int .i64 0)) 3 (.int .i64 n)) 10 (v_t10)) 11 (.int .i64 t11)) 12 (.int .i64 t12)) H (some (b_r_, .cells ⟨[v_r_]⟩ 82 (0, 0)) :: L) (config_reader_number.R b_r_ H0 L r)
theorem config_reader_number.b0_ok {k : Nat} {h : config_reader_number.Hs} (hh : config_reader_number.OK h) {H0 H : Hp} {L : Items} {r : Int × config_reader} {jk_ : Nat → Value} {r_ : List Int} {n : Int} {t10 : List Int} {t11 : Int} {t12 : Int} {v_r_ : Value} {v_t10 : Value} {b_r_ : Nat} (hle : H0.le H) (he : config_reader_number.b0 k h r_ n t10 t11 t12 = some r) (h_r_ : Ro kU8 H v_r_ r_) (h_t10 : Ro kU8 H v_t10 t10) : Wp Tryd.prog 31 31 config_reader_number.Kl0 (upd (upd (upd (upd (upd (upd jk_ 0 (.pointer (some ⟨b_r_, 0, none⟩))) 2 (.int .i64 0)) 3 (.int .i64 n)) 10 (v_t10)) 11 (.int .i64 t11)) 12 (.int .i64 t12)) H (some (b_r_, .cells ⟨[v_r_]⟩ 82 (0, 0)) :: L) (config_reader_number.R b_r_ H0 L r) := by
 unfold config_reader_number.b0 at he
 unfold config_reader_number.Kl0
 refine wR rfl <| w_d rfl (d_lss rfl rfl) <| wE ?_
 rcases its he with ⟨c4, he⟩ | ⟨c4, he⟩
 ·
  refine w_then rfl (dt c4) <| w_skip <| w_seq <| w_block <| wR rfl ?_
  obtain ⟨c5, he⟩ := rq he
  refine w_d rfl (d_index (sz := 1) Tryd.underlying43 sz5 rfl h_t10.src rfl c5) <| w_d rfl (d_ldint ty5 rfl h_t10.src c5) <| wA (.int .u8 (rd t10 t12)) rfl rfl <| w_done <| w_region rfl <| wM (.int .i64 n) rfl rfl <| w_d rfl (d_shl (c := w64 (n * 256)) rfl rfl (by decide) rfl) <| wM (.int .u8 (rd t10 t12)) rfl rfl <| w_d rfl (d_conv (c := w64 (rd t10 t12)) Tryd.underlying5 Tryd.underlying2 rfl rfl) <| w_d rfl (d_bor rfl rfl) <| wA (.int .i64 (ior .i64 (w64 (n * 256)) (w64 (rd t10 t12)))) rfl rfl <| w_done ?_
  refine w_inBlock <| w_region rfl <| w_d rfl (d_add (c := w64 (t12 + 1)) rfl rfl rfl) <| wM (.int .i64 (w64 (t12 + 1))) rfl rfl <| w_done <| w_inLoop <| w_sl 0 (.pointer (some ⟨b_r_, 0, none⟩)) rfl <| w_sl 2 (.int .i64 0) rfl <| w_sl 3 (.int .i64 (ior .i64 (w64 (n * 256)) (w64 (rd t10 t12)))) rfl <| w_sl 10 (v_t10) rfl <| w_sl 11 (.int .i64 t11) rfl <| w_sl 12 (.int .i64 (w64 (t12 + 1))) rfl <| hh.l0 hle he h_r_ h_t10
 ·
  refine w_else rfl (df c4) <| w_exit rfl <| wR rfl <| wM (.pointer (some ⟨b_r_, 0, none⟩)) rfl rfl <| wM (.pointer (some ⟨b_r_, 0, none⟩)) rfl rfl <| w_d rfl (d_nilCheck (p := ⟨b_r_, 0, none⟩) rfl) <| w_d rfl (d_fld (o' := 0) Tryd.underlying82 rfl sz43 rfl rfl rfl) <| wL v_r_ ty43 rfl rfl .here rfl rfl ?_
  obtain ⟨c6, he⟩ := rq he
  refine w_a rfl (o_cut (kd := kU8) Tryd.underlying43 sz5 rfl h_r_ (.inr ⟨_, _, rfl, rfl⟩) (.inl ⟨rfl, rfl⟩) c6) ?_
  rintro v7 _ _ ⟨h8, rfl, rfl⟩
  refine w_d rfl (d_nilCheck (p := ⟨b_r_, 0, none⟩) rfl) <| w_d rfl (d_fld (o' := 0) Tryd.underlying82 rfl sz43 rfl rfl rfl) <| w_a0 rfl (o_store (v := v7) sz43 rfl rfl h8.cells rfl (oc (h8.one) oz) .here u1) ?_
  rintro _ _ _ ⟨rfl, rfl, rfl⟩
  refine wQ rfl <| wM (.int .i64 n) rfl rfl <| wA (.int .i64 n) rfl rfl <| w_done ?_
  obtain rfl := sj he
  refine w_return fn_31 rs_31 (.tmp (v := .int .i64 n) rfl .nil) <| ⟨[], [_], rfl, hle, ⟨v7, rfl, rfl, h8⟩⟩
theorem config_reader_number.ok : ∀ k, config_reader_number.OK (config_reader_number.hs k)
 | 0 => ⟨(by intros; exact nomatch (show none = some _ from by assumption))⟩
 | k + 1 => ⟨config_reader_number.b0_ok (k := k) (config_reader_number.ok k)⟩
theorem config_reader_number.calls (k : Nat) {H : Hp} {L : Items} {r_ : config_reader} {b_r_ : Nat} {v0_r_ : Value} {r : Int × config_reader} (he : config_reader_number.f k r_ = some r) (h0_r_ : Ro kU8 H v0_r_ r_.f_b) : Ct Tryd.prog 31 ⟨[.pointer (some ⟨b_r_, 0, none⟩)]⟩ H (some (b_r_, .cells ⟨[v0_r_]⟩ 82 (0, 0)) :: L) (fun v H' L' => ∃ its_, L' = its_ ++ L ∧ H.le H' ∧ config_reader_number.out b_r_ its_ r H' v) := by
 refine ct_ptr ?_
 have hle : H.le H := .refl _
 have hh := config_reader_number.ok k
 unfold config_reader_number.f at he
 refine ct_enter (args := [.pointer (some ⟨b_r_, 0, none⟩)]) fn_31 rfl nt_31 rfl <| wR rfl <| wA (.int .i64 0) rfl rfl <| wQ rfl <| wA (.int .i64 0) rfl rfl <| wE <| wR rfl ?_
 refine wM (.pointer (some ⟨b_r_, 0, none⟩)) rfl rfl <| w_d rfl (d_nilCheck (p := ⟨b_r_, 0, none⟩) rfl) <| w_d rfl (d_fld (o' := 0) Tryd.underlying82 rfl sz43 rfl rfl rfl) <| wL v0_r_ ty43 rfl rfl .here rfl rfl ?_
 obtain ⟨c1, he⟩ := rq he
 refine w_a rfl (o_cut (kd := kU8) Tryd.underlying43 sz5 rfl h0_r_ (.inl ⟨rfl, rfl⟩) (.inr ⟨_, _, rfl, rfl⟩) c1) ?_
 rintro v2 _ _ ⟨h3, rfl, rfl⟩
 refine w_d rfl (d_len Tryd.underlying43 rfl h3.src) <| wM (.int .i64 0) rfl rfl <| w_done <| w_block <| w_loop <| w_sl 0 (.pointer (some ⟨b_r_, 0, none⟩)) rfl <| w_sl 2 (.int .i64 0) rfl <| w_sl 3 (.int .i64 0) rfl <| w_sl 10 (v2) rfl <| w_sl 11 (.int .i64 ((cut r_.f_b 0 8).length : Int)) rfl <| w_sl 12 (.int .i64 0) rfl <| hh.l0 hle he h0_r_ h3
noncomputable def config_within.C : Code := (Tryd.f28.body).getD .skip
def config_within.out (r : Bool) (H : Hp) (v : Value) : Prop := v = .bool r
noncomputable def config_within.f (k : Nat) (n : Int) (low : Int) (high : Int) : Option Bool := some ((decide (low ≤ n)) && (decide (n ≤ high)))
theorem config_within.mono : ∀ k y0 y1 y2, LeO (config_within.f k y0 y1 y2) (config_within.f (k + 1) y0 y1 y2) := fun k _ _ _ => by unfold config_within.f; exact (LeO.refl _)
theorem config_within.calls (k : Nat) {H : Hp} {L : Items} {n : Int} {low : Int} {high : Int} {r : Bool} (he : config_within.f k n low high = some r) : Ct Tryd.prog 28 ⟨[.int .i64 n, .int .i64 low, .int .i64 high]⟩ H L (fun v H' L' => L = L' ∧ H = H' ∧ v = .bool r) := by
 refine ct_outs (O := config_within.out r) (fun _ _ h => h) ?_
 have hle : H.le H := .refl _
 unfold config_within.f at he
 refine ct_enter (args := [.int .i64 n, .int .i64 low, .int .i64 high]) fn_28 rfl nt_28 rfl <| wR rfl <| wA (.bool false) rfl rfl <| wQ rfl <| wM (.int .i64 n) rfl rfl <| wM (.int .i64 low) rfl rfl <| w_d rfl (d_geq rfl rfl) <| wM (.bool (decide (low ≤ n))) rfl rfl <| w_g (g := decide (low ≤ n)) rfl rfl rfl wn_t (fun g1 => d_move (v := .int .i64 n) rfl) ?_
 refine w_g (g := decide (low ≤ n)) rfl rfl rfl wn_t (fun g2 => d_move (v := .int .i64 high) rfl) <| w_g (g := decide (low ≤ n)) rfl rfl rfl wn_t (fun g3 => d_leq (cvt g3) (cvt g3)) <| w_d rfl (d_and' (b := (decide (low ≤ n))) (p := (decide (n ≤ high))) rfl rfl rfl) <| wA (.bool ((decide (low ≤ n)) && (decide (n ≤ high)))) rfl rfl <| w_done ?_
 obtain rfl := sj he
 refine w_return fn_28 rs_28 (.tmp (v := .bool ((decide (low ≤ n)) && (decide (n ≤ high)))) rfl .nil) <| ⟨⟨[], rfl⟩, hle, rfl⟩
noncomputable def config_reader_models.C : Code := (Tryd.f32.body).getD .skip
def config_reader_models.out (b_r_ : Nat) (its_ : Items) (r : imm_Conf × config_reader) (H : Hp) (v : Value) : Prop := ∃ v0 : Value, ∃ v1 : Value, ∃ v2 : Value, v = .agg ⟨[v0, v1, .int .i64 r.1.f_Floor]⟩ ∧ its_ = [some (b_r_, .cells ⟨[v2]⟩ 82 (0, 0))] ∧ Ro k_model_Model H v0 r.1.f_Models ∧ Ro (Kd.slice kI64) H v1 r.1.f_Rows ∧ Ro kU8 H v2 r.2.f_b
abbrev config_reader_models.R (b_r_ : Nat) (H0 : Hp) (L : Items) (r : imm_Conf × config_reader) : Value → Hp → Items → Prop := fun v H' L' => ∃ p its_, L' = p ++ (its_ ++ L) ∧ H0.le H' ∧ config_reader_models.out b_r_ its_ r H' v
structure config_reader_models.Hs where
 l0 : (List Int) → Int → (List model_Model) → (List (List Int)) → Int → Int → Int → Option (imm_Conf × config_reader)
 l1 : (List Int) → Int → (List model_Model) → (List (List Int)) → Int → Int → Int → Option (imm_Conf × config_reader)
 l2 : (List Int) → Int → (List model_Model) → (List (List Int)) → Int → (List Int) → Int → Int → Int → Int → Option (imm_Conf × config_reader)
noncomputable def config_reader_models.b0 (k : Nat) (h : config_reader_models.Hs)  (r_ : List Int) (n : Int) (c_0 : List model_Model) (c_1 : List (List Int)) (c_2 : Int) (t8 : Int) (t9 : Int) : Option (imm_Conf × config_reader) := if t9 < t8 then ((config_reader_number.f k (⟨r_⟩ : config_reader)).bind fun y4 => (config_reader_number.f k y4.2).bind fun y11 => (config_reader_number.f k y11.2).bind fun y17 => if c_0.length + [(⟨y4.1, y11.1, y17.1⟩ : model_Model)].length ≤ 5864062014677 then (h.l0 y17.2.f_b n (c_0 ++ [(⟨y4.1, y11.1, y17.1⟩ : model_Model)]) c_1 c_2 t8 (w64 (t9 + 1))) else none) else (h.l1 r_ n c_0 c_1 c_2 n 0)
noncomputable def config_reader_models.b1 (k : Nat) (h : config_reader_models.Hs)  (r_ : List Int) (n : Int) (c_0 : List model_Model) (c_1 : List (List Int)) (c_2 : Int) (t27 : Int) (t28 : Int) : Option (imm_Conf × config_reader) := if t28 < t27 then (if 0 ≤ 0 ∧ 0 ≤ n ∧ n ≤ 35184372088832 then (h.l2 r_ n c_0 c_1 c_2 (List.replicate (0 : Int).toNat (0 : Int)) t27 t28 n 0) else none) else (some ((⟨c_0, c_1, c_2⟩ : imm_Conf), (⟨r_⟩ : config_reader)))
noncomputable def config_reader_models.b2 (k : Nat) (h : config_reader_models.Hs)  (r_ : List Int) (n : Int) (c_0 : List model_Model) (c_1 : List (List Int)) (c_2 : Int) (row : List Int) (t27 : Int) (t28 : Int) (t32 : Int) (t33 : Int) : Option (imm_Conf × config_reader) := if t33 < t32 then ((config_reader_number.f k (⟨r_⟩ : config_reader)).bind fun y42 => if row.length + 1 ≤ 17592186044288 then (h.l2 y42.2.f_b n c_0 c_1 c_2 (row ++ [y42.1]) t27 t28 t32 (w64 (t33 + 1))) else none) else (if c_1.length + 1 ≤ 5864062014677 then (h.l1 r_ n c_0 (c_1 ++ [row]) c_2 t27 (w64 (t28 + 1))) else none)
noncomputable def config_reader_models.hs : Nat → config_reader_models.Hs
 | 0 => ⟨fun _ _ _ _ _ _ _ => none, fun _ _ _ _ _ _ _ => none, fun _ _ _ _ _ _ _ _ _ _ => none⟩
 | k + 1 => ⟨fun x0 x1 x2 x3 x4 x5 x6 => config_reader_models.b0 k (config_reader_models.hs k) x0 x1 x2 x3 x4 x5 x6, fun x0 x1 x2 x3 x4 x5 x6 => config_reader_models.b1 k (config_reader_models.hs k) x0 x1 x2 x3 x4 x5 x6, fun x0 x1 x2 x3 x4 x5 x6 x7 x8 x9 => config_reader_models.b2 k (config_reader_models.hs k) x0 x1 x2 x3 x4 x5 x6 x7 x8 x9⟩
noncomputable def config_reader_models.f (k : Nat) (r_ : config_reader) (n : Int) : Option (imm_Conf × config_reader) := (fun h : config_reader_models.Hs => h.l0 r_.f_b n [] [] 0 n 0) (config_reader_models.hs k)
structure config_reader_models.LE (h h' : config_reader_models.Hs) : Prop where
 l0 : ∀ y0 y1 y2 y3 y4 y5 y6, LeO (h.l0 y0 y1 y2 y3 y4 y5 y6) (h'.l0 y0 y1 y2 y3 y4 y5 y6)
 l1 : ∀ y0 y1 y2 y3 y4 y5 y6, LeO (h.l1 y0 y1 y2 y3 y4 y5 y6) (h'.l1 y0 y1 y2 y3 y4 y5 y6)
 l2 : ∀ y0 y1 y2 y3 y4 y5 y6 y7 y8 y9, LeO (h.l2 y0 y1 y2 y3 y4 y5 y6 y7 y8 y9) (h'.l2 y0 y1 y2 y3 y4 y5 y6 y7 y8 y9)
theorem config_reader_models.b0_mono {k : Nat} {h h' : config_reader_models.Hs} (hl : config_reader_models.LE h h') : ∀ y0 y1 y2 y3 y4 y5 y6, LeO (config_reader_models.b0 k h y0 y1 y2 y3 y4 y5 y6) (config_reader_models.b0 (k + 1) h' y0 y1 y2 y3 y4 y5 y6) := fun _ _ _ _ _ _ _ => (LeO.ite (LeO.bind (config_reader_number.mono k _) fun _ => LeO.bind (config_reader_number.mono k _) fun _ => LeO.bind (config_reader_number.mono k _) fun _ => LeO.ite (hl.l0 _ _ _ _ _ _ _) (LeO.refl _)) (hl.l1 _ _ _ _ _ _ _))
theorem config_reader_models.b1_mono {k : Nat} {h h' : config_reader_models.Hs} (hl : config_reader_models.LE h h') : ∀ y0 y1 y2 y3 y4 y5 y6, LeO (config_reader_models.b1 k h y0 y1 y2 y3 y4 y5 y6) (config_reader_models.b1 (k + 1) h' y0 y1 y2 y3 y4 y5 y6) := fun _ _ _ _ _ _ _ => (LeO.ite (LeO.ite (hl.l2 _ _ _ _ _ _ _ _ _ _) (LeO.refl _)) (LeO.refl _))
theorem config_reader_models.b2_mono {k : Nat} {h h' : config_reader_models.Hs} (hl : config_reader_models.LE h h') : ∀ y0 y1 y2 y3 y4 y5 y6 y7 y8 y9, LeO (config_reader_models.b2 k h y0 y1 y2 y3 y4 y5 y6 y7 y8 y9) (config_reader_models.b2 (k + 1) h' y0 y1 y2 y3 y4 y5 y6 y7 y8 y9) := fun _ _ _ _ _ _ _ _ _ _ => (LeO.ite (LeO.bind (config_reader_number.mono k _) fun _ => LeO.ite (hl.l2 _ _ _ _ _ _ _ _ _ _) (LeO.refl _)) (LeO.ite (hl.l1 _ _ _ _ _ _ _) (LeO.refl _)))
theorem config_reader_models.hs_mono : ∀ k, config_reader_models.LE (config_reader_models.hs k) (config_reader_models.hs (k + 1))
 | 0 => ⟨fun _ _ _ _ _ _ _ => LeO.none _, fun _ _ _ _ _ _ _ => LeO.none _, fun _ _ _ _ _ _ _ _ _ _ => LeO.none _⟩
 | k + 1 => ⟨config_reader_models.b0_mono (k := k) (config_reader_models.hs_mono k), config_reader_models.b1_mono (k := k) (config_reader_models.hs_mono k), config_reader_models.b2_mono (k := k) (config_reader_models.hs_mono k)⟩
theorem config_reader_models.mono : ∀ k y0 y1, LeO (config_reader_models.f k y0 y1) (config_reader_models.f (k + 1) y0 y1) := fun k _ _ => have hl := config_reader_models.hs_mono k; by unfold config_reader_models.f; exact (hl.l0 _ _ _ _ _ _ _)
noncomputable def config_reader_models.Kl0 : List Item := .code (lopB (blkB (seqR (seqL (seqR (seqR config_reader_models.C)))))) :: .inLoop (lopB (blkB (seqR (seqL (seqR (seqR config_reader_models.C)))))) :: .inBlock 0 :: .code (seqR (seqR (seqR config_reader_models.C))) :: []
noncomputable def config_reader_models.Kl1 : List Item := .code (lopB (blkB (seqR (seqL (seqR (seqR (seqR config_reader_models.C))))))) :: .inLoop (lopB (blkB (seqR (seqL (seqR (seqR (seqR config_reader_models.C))))))) :: .inBlock 2 :: .code (seqR (seqR (seqR (seqR config_reader_models.C)))) :: []
noncomputable def config_reader_models.Kl2 : List Item := .code (lopB (blkB (seqR (seqL (seqR (blkB (seqL (seqR (seqR (lopB (blkB (seqR (seqL (seqR (seqR (seqR config_reader_models.C)))))))))))))))) :: .inLoop (lopB (blkB (seqR (seqL (seqR (blkB (seqL (seqR (seqR (lopB (blkB (seqR (seqL (seqR (seqR (seqR config_reader_models.C)))))))))))))))) :: .inBlock 4 :: .code (seqR (seqR (blkB (seqL (seqR (seqR (lopB (blkB (seqR (seqL (seqR (seqR (seqR config_reader_models.C))))))))))))) :: .inBlock 3 :: .code (seqR (seqR (seqR (lopB (blkB (seqR (seqL (seqR (seqR (seqR config_reader_models.C)))))))))) :: .inLoop (lopB (blkB (seqR (seqL (seqR (seqR (seqR config_reader_models.C))))))) :: .inBlock 2 :: .code (seqR (seqR (seqR (seqR config_reader_models.C)))) :: []
structure config_reader_models.OK (h : config_reader_models.Hs) : Prop where
 l0 : ∀ {H0 H : Hp} {L : Items} {r : imm_Conf × config_reader} {jk_ : Nat → Value} {r_ : List Int} {n : Int} {c_0 : List model_Model} {c_1 : List (List Int)} {c_2 : Int} {t8 : Int} {t9 : Int} {v_r_ : Value} {v_c_0 : Value} {v_c_1 : Value} {i_c_0 : Item'} {i_c_1 : Item'} {b_r_ : Nat} {b_t4 : Nat} {b_c_ : Nat} (_ : H0.le H) (_he : h.l0 r_ n c_0 c_1 c_2 t8 t9 = some r) (_h_r_ : Ro kU8 H v_r_ r_) (_h_c_0 : Sl k_model_Model H 66 i_c_0 v_c_0 c_0) (_h_c_1 : Sl (Kd.slice kI64) H 34 i_c_1 v_c_1 c_1), Wp Tryd.prog 32 49 config_reader_models.Kl0 (upd (upd (upd (upd (upd (upd jk_ 0 (.pointer (some ⟨b_r_, 0, none⟩))) 1 (.int .i64 n)) 4 (.pointer (some ⟨b_t4, 0, none⟩))) 5 (.pointer (some ⟨b_c_, 0, none⟩))) 8 (.int .i64 t8)) 9 (.int .i64 t9)) H (i_c_1 :: i_c_0 :: some (b_c_, .cells ⟨[v_c_0, v_c_1, .int .i64 c_2]⟩ 38 (0, 0)) :: some (b_t4, .cells ⟨[.slice none 0 0, .slice none 0 0, .int .i64 0]⟩ 38 (0, 0)) :: some (b_r_, .cells ⟨[v_r_]⟩ 82 (0, 0)) :: L) (config_reader_models.R b_r_ H0 L r)
 l1 : ∀ {H0 H : Hp} {L : Items} {r : imm_Conf × config_reader} {jk_ : Nat → Value} {r_ : List Int} {n : Int} {c_0 : List model_Model} {c_1 : List (List Int)} {c_2 : Int} {t27 : Int} {t28 : Int} {v_r_ : Value} {v_c_0 : Value} {v_c_1 : Value} {i_c_0 : Item'} {i_c_1 : Item'} {b_r_ : Nat} {b_t4 : Nat} {b_c_ : Nat} (_ : H0.le H) (_he : h.l1 r_ n c_0 c_1 c_2 t27 t28 = some r) (_h_r_ : Ro kU8 H v_r_ r_) (_h_c_0 : Sl k_model_Model H 66 i_c_0 v_c_0 c_0) (_h_c_1 : Sl (Kd.slice kI64) H 34 i_c_1 v_c_1 c_1), Wp Tryd.prog 32 49 config_reader_models.Kl1 (upd (upd (upd (upd (upd (upd jk_ 0 (.pointer (some ⟨b_r_, 0, none⟩))) 1 (.int .i64 n)) 4 (.pointer (some ⟨b_t4, 0, none⟩))) 5 (.pointer (some ⟨b_c_, 0, none⟩))) 27 (.int .i64 t27)) 28 (.int .i64 t28)) H (i_c_1 :: i_c_0 :: some (b_c_, .cells ⟨[v_c_0, v_c_1, .int .i64 c_2]⟩ 38 (0, 0)) :: some (b_t4, .cells ⟨[.slice none 0 0, .slice none 0 0, .int .i64 0]⟩ 38 (0, 0)) :: some (b_r_, .cells ⟨[v_r_]⟩ 82 (0, 0)) :: L) (config_reader_models.R b_r_ H0 L r)
 l2 : ∀ {H0 H : Hp} {L : Items} {r : imm_Conf × config_reader} {jk_ : Nat → Value} {r_ : List Int} {n : Int} {c_0 : List model_Model} {c_1 : List (List Int)} {c_2 : Int} {row : List Int} {t27 : Int} {t28 : Int} {t32 : Int} {t33 : Int} {v_r_ : Value} {v_c_0 : Value} {v_c_1 : Value} {v_row : Value} {i_c_0 : Item'} {i_c_1 : Item'} {i_row : Item'} {b_r_ : Nat} {b_t4 : Nat} {b_c_ : Nat} (_ : H0.le H) (_he : h.l2 r_ n c_0 c_1 c_2 row t27 t28 t32 t33 = some r) (_h_r_ : Ro kU8 H v_r_ r_) (_h_c_0 : Sl k_model_Model H 66 i_c_0 v_c_0 c_0) (_h_c_1 : Sl (Kd.slice kI64) H 34 i_c_1 v_c_1 c_1) (_h_row : Sl kI64 H 2 i_row v_row row), Wp Tryd.prog 32 49 config_reader_models.Kl2 (upd (upd (upd (upd (upd (upd (upd (upd (upd jk_ 0 (.pointer (some ⟨b_r_, 0, none⟩))) 1 (.int .i64 n)) 4 (.pointer (some ⟨b_t4, 0, none⟩))) 5 (.pointer (some ⟨b_c_, 0, none⟩))) 7 (v_row)) 27 (.int .i64 t27)) 28 (.int .i64 t28)) 32 (.int .i64 t32)) 33 (.int .i64 t33)) H (i_row :: i_c_1 :: i_c_0 :: some (b_c_, .cells ⟨[v_c_0, v_c_1, .int .i64 c_2]⟩ 38 (0, 0)) :: some (b_t4, .cells ⟨[.slice none 0 0, .slice none 0 0, .int .i64 0]⟩ 38 (0, 0)) :: some (b_r_, .cells ⟨[v_r_]⟩ 82 (0, 0)) :: L) (config_reader_models.R b_r_ H0 L r)
theorem config_reader_models.b0_ok {k : Nat} {h : config_reader_models.Hs} (hh : config_reader_models.OK h) {H0 H : Hp} {L : Items} {r : imm_Conf × config_reader} {jk_ : Nat → Value} {r_ : List Int} {n : Int} {c_0 : List model_Model} {c_1 : List (List Int)} {c_2 : Int} {t8 : Int} {t9 : Int} {v_r_ : Value} {v_c_0 : Value} {v_c_1 : Value} {i_c_0 : Item'} {i_c_1 : Item'} {b_r_ : Nat} {b_t4 : Nat} {b_c_ : Nat} (hle : H0.le H) (he : config_reader_models.b0 k h r_ n c_0 c_1 c_2 t8 t9 = some r) (h_r_ : Ro kU8 H v_r_ r_) (h_c_0 : Sl k_model_Model H 66 i_c_0 v_c_0 c_0) (h_c_1 : Sl (Kd.slice kI64) H 34 i_c_1 v_c_1 c_1) : Wp Tryd.prog 32 49 config_reader_models.Kl0 (upd (upd (upd (upd (upd (upd jk_ 0 (.pointer (some ⟨b_r_, 0, none⟩))) 1 (.int .i64 n)) 4 (.pointer (some ⟨b_t4, 0, none⟩))) 5 (.pointer (some ⟨b_c_, 0, none⟩))) 8 (.int .i64 t8)) 9 (.int .i64 t9)) H (i_c_1 :: i_c_0 :: some (b_c_, .cells ⟨[v_c_0, v_c_1, .int .i64 c_2]⟩ 38 (0, 0)) :: some (b_t4, .cells ⟨[.slice none 0 0, .slice none 0 0, .int .i64 0]⟩ 38 (0, 0)) :: some (b_r_, .cells ⟨[v_r_]⟩ 82 (0, 0)) :: L) (config_reader_models.R b_r_ H0 L r) := by
 unfold config_reader_models.b0 at he
 unfold config_reader_models.Kl0
 refine wR rfl <| w_d rfl (d_lss rfl rfl) <| wE ?_
 rcases its he with ⟨c3, he⟩ | ⟨c3, he⟩
 ·
  refine w_then rfl (dt c3) <| w_skip <| w_seq <| w_block <| wR rfl <| wM (.pointer (some ⟨b_r_, 0, none⟩)) rfl rfl <| w_pull (.there (.there (.there (.there .here)))) ?_
  obtain ⟨y4, hy5, he⟩ := bs he
  refine w_a rfl (o_call co31 (vs := [.pointer (some ⟨b_r_, 0, none⟩)]) rfl (config_reader_number.calls k (r_ := ⟨r_⟩) hy5 h_r_)) ?_
  rintro _ H6 _ ⟨_, rfl, e7, ⟨v8, rfl, rfl, h9⟩⟩
  refine w_it (L' := some (b_r_, .cells ⟨[v8]⟩ 82 (0, 0)) :: i_c_1 :: i_c_0 :: some (b_c_, .cells ⟨[v_c_0, v_c_1, .int .i64 c_2]⟩ 38 (0, 0)) :: some (b_t4, .cells ⟨[.slice none 0 0, .slice none 0 0, .int .i64 0]⟩ 38 (0, 0)) :: none :: L) rfl <| w_put (.there (.there (.there (.there .here)))) <| w_d rfl (d_build (cs' := [.int .i64 y4.1, .int .i64 0, .int .i64 0]) Tryd.underlying66 zr66 rfl (by kernel_rfl) (parts := [(0, .int .i64 y4.1)]) rfl (.cons (place_of rfl sz3 rfl) rfl rfl u1 .nil)) <| w_a rfl (o_alloc zr66 rfl) ?_
  rintro _ _ _ ⟨b10, rfl, rfl, rfl⟩
  refine w_a0 rfl (o_store (v := .agg ⟨[.int .i64 y4.1, .int .i64 0, .int .i64 0]⟩) sz66 rfl rfl rfl rfl (oc rfl (oc rfl (oc rfl oz))) .here (.here u2)) ?_
  rintro _ _ _ ⟨rfl, rfl, rfl⟩
  refine wQ rfl <| wM (.pointer (some ⟨b_r_, 0, none⟩)) rfl rfl <| w_pull (.there (.there (.there (.there (.there .here))))) ?_
  obtain ⟨y11, hy12, he⟩ := bs he
  refine w_a rfl (o_call co31 (vs := [.pointer (some ⟨b_r_, 0, none⟩)]) rfl (config_reader_number.calls k (r_ := y4.2) hy12 h9)) ?_
  rintro _ H13 _ ⟨_, rfl, e14, ⟨v15, rfl, rfl, h16⟩⟩
  refine w_it (L' := some (b_r_, .cells ⟨[v15]⟩ 82 (0, 0)) :: some (b10, .cells ⟨[.int .i64 y4.1, .int .i64 0, .int .i64 0]⟩ 66 (0, 0)) :: i_c_1 :: i_c_0 :: some (b_c_, .cells ⟨[v_c_0, v_c_1, .int .i64 c_2]⟩ 38 (0, 0)) :: some (b_t4, .cells ⟨[.slice none 0 0, .slice none 0 0, .int .i64 0]⟩ 38 (0, 0)) :: none :: L) rfl <| w_put (.there (.there (.there (.there (.there .here))))) <| wM (.pointer (some ⟨b_r_, 0, none⟩)) rfl rfl <| w_pull (.there (.there (.there (.there (.there .here))))) ?_
  obtain ⟨y17, hy18, he⟩ := bs he
  refine w_a rfl (o_call co31 (vs := [.pointer (some ⟨b_r_, 0, none⟩)]) rfl (config_reader_number.calls k (r_ := y11.2) hy18 h16)) ?_
  rintro _ H19 _ ⟨_, rfl, e20, ⟨v21, rfl, rfl, h22⟩⟩
  refine w_it (L' := some (b_r_, .cells ⟨[v21]⟩ 82 (0, 0)) :: some (b10, .cells ⟨[.int .i64 y4.1, .int .i64 0, .int .i64 0]⟩ 66 (0, 0)) :: i_c_1 :: i_c_0 :: some (b_c_, .cells ⟨[v_c_0, v_c_1, .int .i64 c_2]⟩ 38 (0, 0)) :: some (b_t4, .cells ⟨[.slice none 0 0, .slice none 0 0, .int .i64 0]⟩ 38 (0, 0)) :: none :: L) rfl <| w_put (.there (.there (.there (.there (.there .here))))) <| w_d rfl (d_fld (o' := 1) Tryd.underlying66 rfl sz2 rfl rfl rfl) <| w_a0 rfl (o_store (v := .int .i64 y11.1) sz2 rfl rfl rfl rfl (oc rfl oz) .here (.there u1)) ?_
  rintro _ _ _ ⟨rfl, rfl, rfl⟩
  refine w_d rfl (d_fld (o' := 2) Tryd.underlying66 rfl sz2 rfl rfl rfl) <| w_a0 rfl (o_store (v := .int .i64 y17.1) sz2 rfl rfl rfl rfl (oc rfl oz) .here (.there (.there u1))) ?_
  rintro _ _ _ ⟨rfl, rfl, rfl⟩
  refine w_done <| w_region rfl <| w_d rfl (d_fld (o' := 0) Tryd.underlying38 rfl sz36 rfl rfl rfl) <| wL v_c_0 ty36 rfl rfl (.there (.there (.there .here))) rfl rfl <| wL (.agg ⟨[.int .i64 y4.1, .int .i64 y11.1, .int .i64 y17.1]⟩) ty66 rfl rfl .here rfl rfl <| w_a rfl (o_buildSlice' (kd := k_model_Model) (css := [[.int .i64 y4.1, .int .i64 y11.1, .int .i64 y17.1]]) (xs := [(⟨y4.1, y11.1, y17.1⟩ : model_Model)]) (parts := [(0, .agg ⟨[.int .i64 y4.1, .int .i64 y11.1, .int .i64 y17.1]⟩)]) Tryd.underlying36 ti66 rfl ⟨_, _, rfl, rfl, rfl⟩ ⟨(k_model_Model_in (x := ⟨y4.1, y11.1, y17.1⟩) ), trivial⟩ rfl (by decide)) ?_
  rintro v23 _ _ ⟨i24, rfl, rfl, h25⟩
  obtain ⟨c26, he⟩ := rq he
  refine w_a rfl (o_append' (kd := k_model_Model) (F := fun z_ => i24 :: some (b10, .cells ⟨[.int .i64 y4.1, .int .i64 y11.1, .int .i64 y17.1]⟩ 66 (0, 0)) :: i_c_1 :: z_ :: some (b_c_, .cells ⟨[v_c_0, v_c_1, .int .i64 c_2]⟩ 38 (0, 0)) :: some (b_t4, .cells ⟨[.slice none 0 0, .slice none 0 0, .int .i64 0]⟩ 38 (0, 0)) :: some (b_r_, .cells ⟨[v21]⟩ 82 (0, 0)) :: L) Tryd.underlying36 Tryd.underlying36 ti66 rfl (by first | omega | (simp only [List.nil_append, List.length_cons, List.length_nil]; omega)) rfl rfl (h_c_0.mono ((e7.trans e14).trans e20)) (h25.src .here) (fun _ => (.there (.there (.there .here))))) ?_
  rintro v27 _ _ ⟨i28, rfl, rfl, h29⟩
  refine w_d rfl (d_fld (o' := 0) Tryd.underlying38 rfl sz36 rfl rfl rfl) <| w_a0 rfl (o_store (v := v27) sz36 rfl rfl h29.cells rfl (oc (h29.one) oz) (.there (.there (.there (.there .here)))) u1) ?_
  rintro _ _ _ ⟨rfl, rfl, rfl⟩
  refine w_done <| w_inBlock <| w_region rfl <| w_d rfl (d_add (c := w64 (t9 + 1)) rfl rfl rfl) <| wM (.int .i64 (w64 (t9 + 1))) rfl rfl <| w_done <| w_inLoop <| w_del (.there .here) <| w_del .here <| w_sl 0 (.pointer (some ⟨b_r_, 0, none⟩)) rfl <| w_sl 1 (.int .i64 n) rfl <| w_sl 4 (.pointer (some ⟨b_t4, 0, none⟩)) rfl ?_
  refine w_sl 5 (.pointer (some ⟨b_c_, 0, none⟩)) rfl <| w_sl 8 (.int .i64 t8) rfl <| w_sl 9 (.int .i64 (w64 (t9 + 1))) rfl <| hh.l0 (hle.trans ((e7.trans e14).trans e20)) he h22 h29 (h_c_1.mono ((e7.trans e14).trans e20))
 ·
  refine w_else rfl (df c3) <| w_exit rfl <| w_seq <| wR rfl <| wM (.int .i64 n) rfl rfl <| wM (.int .i64 0) rfl rfl <| w_done <| w_block <| w_loop <| w_sl 0 (.pointer (some ⟨b_r_, 0, none⟩)) rfl <| w_sl 1 (.int .i64 n) rfl ?_
  refine w_sl 4 (.pointer (some ⟨b_t4, 0, none⟩)) rfl <| w_sl 5 (.pointer (some ⟨b_c_, 0, none⟩)) rfl <| w_sl 27 (.int .i64 n) rfl <| w_sl 28 (.int .i64 0) rfl <| hh.l1 hle he h_r_ h_c_0 h_c_1
theorem config_reader_models.b1_ok {k : Nat} {h : config_reader_models.Hs} (hh : config_reader_models.OK h) {H0 H : Hp} {L : Items} {r : imm_Conf × config_reader} {jk_ : Nat → Value} {r_ : List Int} {n : Int} {c_0 : List model_Model} {c_1 : List (List Int)} {c_2 : Int} {t27 : Int} {t28 : Int} {v_r_ : Value} {v_c_0 : Value} {v_c_1 : Value} {i_c_0 : Item'} {i_c_1 : Item'} {b_r_ : Nat} {b_t4 : Nat} {b_c_ : Nat} (hle : H0.le H) (he : config_reader_models.b1 k h r_ n c_0 c_1 c_2 t27 t28 = some r) (h_r_ : Ro kU8 H v_r_ r_) (h_c_0 : Sl k_model_Model H 66 i_c_0 v_c_0 c_0) (h_c_1 : Sl (Kd.slice kI64) H 34 i_c_1 v_c_1 c_1) : Wp Tryd.prog 32 49 config_reader_models.Kl1 (upd (upd (upd (upd (upd (upd jk_ 0 (.pointer (some ⟨b_r_, 0, none⟩))) 1 (.int .i64 n)) 4 (.pointer (some ⟨b_t4, 0, none⟩))) 5 (.pointer (some ⟨b_c_, 0, none⟩))) 27 (.int .i64 t27)) 28 (.int .i64 t28)) H (i_c_1 :: i_c_0 :: some (b_c_, .cells ⟨[v_c_0, v_c_1, .int .i64 c_2]⟩ 38 (0, 0)) :: some (b_t4, .cells ⟨[.slice none 0 0, .slice none 0 0, .int .i64 0]⟩ 38 (0, 0)) :: some (b_r_, .cells ⟨[v_r_]⟩ 82 (0, 0)) :: L) (config_reader_models.R b_r_ H0 L r) := by
 unfold config_reader_models.b1 at he
 unfold config_reader_models.Kl1
 refine wR rfl <| w_d rfl (d_lss rfl rfl) <| wE ?_
 rcases its he with ⟨c30, he⟩ | ⟨c30, he⟩
 ·
  refine w_then rfl (dt c30) <| w_skip <| w_seq <| w_block <| wR rfl <| wM (.int .i64 n) rfl rfl ?_
  obtain ⟨c31, he⟩ := rq he
  refine w_a rfl (o_make' (kd := kI64) (z0 := 0) Tryd.underlying34 ti2 (zp2 _) rfl rfl (by omega) (by omega) (by omega)) ?_
  rintro v32 _ _ ⟨i33, rfl, rfl, h34⟩
  refine wA v32 rfl rfl <| wE <| wR rfl <| wM (.int .i64 n) rfl rfl <| wM (.int .i64 0) rfl rfl <| w_done <| w_block <| w_loop <| w_sl 0 (.pointer (some ⟨b_r_, 0, none⟩)) rfl <| w_sl 1 (.int .i64 n) rfl ?_
  refine w_sl 4 (.pointer (some ⟨b_t4, 0, none⟩)) rfl <| w_sl 5 (.pointer (some ⟨b_c_, 0, none⟩)) rfl <| w_sl 7 (v32) rfl <| w_sl 27 (.int .i64 t27) rfl <| w_sl 28 (.int .i64 t28) rfl <| w_sl 32 (.int .i64 n) rfl <| w_sl 33 (.int .i64 0) rfl <| hh.l2 hle he h_r_ h_c_0 h_c_1 h34
 ·
  refine w_else rfl (df c30) <| w_exit rfl <| wR rfl <| wL (.agg ⟨[v_c_0, v_c_1, .int .i64 c_2]⟩) ty38 rfl rfl (.there (.there .here)) rfl rfl <| w_a0 rfl (o_store (v := .agg ⟨[v_c_0, v_c_1, .int .i64 c_2]⟩) sz38 rfl rfl rfl rfl (oc (h_c_0.one) (oc (h_c_1.one) (oc rfl oz))) (.there (.there (.there .here))) (.here u2)) ?_
  rintro _ _ _ ⟨rfl, rfl, rfl⟩
  refine w_done <| w_freeze h_c_0 (.there .here) ?_
  intro H35 e36 h37
  refine w_freeze (h_c_1.mono e36) .here ?_
  intro H38 e39 h40
  obtain rfl := sj he
  refine w_return fn_32 rs_32 (.box (v := .agg ⟨[v_c_0, v_c_1, .int .i64 c_2]⟩) rfl ty38 rfl rfl (.there (.there (.there .here))) rfl .nil) <| ⟨[_, _, _, _], [_], rfl, hle.trans (e36.trans e39), ⟨v_c_0, v_c_1, v_r_, rfl, rfl, (h37.mono e39), h40, (h_r_.mono (e36.trans e39))⟩⟩
theorem config_reader_models.b2_ok {k : Nat} {h : config_reader_models.Hs} (hh : config_reader_models.OK h) {H0 H : Hp} {L : Items} {r : imm_Conf × config_reader} {jk_ : Nat → Value} {r_ : List Int} {n : Int} {c_0 : List model_Model} {c_1 : List (List Int)} {c_2 : Int} {row : List Int} {t27 : Int} {t28 : Int} {t32 : Int} {t33 : Int} {v_r_ : Value} {v_c_0 : Value} {v_c_1 : Value} {v_row : Value} {i_c_0 : Item'} {i_c_1 : Item'} {i_row : Item'} {b_r_ : Nat} {b_t4 : Nat} {b_c_ : Nat} (hle : H0.le H) (he : config_reader_models.b2 k h r_ n c_0 c_1 c_2 row t27 t28 t32 t33 = some r) (h_r_ : Ro kU8 H v_r_ r_) (h_c_0 : Sl k_model_Model H 66 i_c_0 v_c_0 c_0) (h_c_1 : Sl (Kd.slice kI64) H 34 i_c_1 v_c_1 c_1) (h_row : Sl kI64 H 2 i_row v_row row) : Wp Tryd.prog 32 49 config_reader_models.Kl2 (upd (upd (upd (upd (upd (upd (upd (upd (upd jk_ 0 (.pointer (some ⟨b_r_, 0, none⟩))) 1 (.int .i64 n)) 4 (.pointer (some ⟨b_t4, 0, none⟩))) 5 (.pointer (some ⟨b_c_, 0, none⟩))) 7 (v_row)) 27 (.int .i64 t27)) 28 (.int .i64 t28)) 32 (.int .i64 t32)) 33 (.int .i64 t33)) H (i_row :: i_c_1 :: i_c_0 :: some (b_c_, .cells ⟨[v_c_0, v_c_1, .int .i64 c_2]⟩ 38 (0, 0)) :: some (b_t4, .cells ⟨[.slice none 0 0, .slice none 0 0, .int .i64 0]⟩ 38 (0, 0)) :: some (b_r_, .cells ⟨[v_r_]⟩ 82 (0, 0)) :: L) (config_reader_models.R b_r_ H0 L r) := by
 unfold config_reader_models.b2 at he
 unfold config_reader_models.Kl2
 refine wR rfl <| w_d rfl (d_lss rfl rfl) <| wE ?_
 rcases its he with ⟨c41, he⟩ | ⟨c41, he⟩
 ·
  refine w_then rfl (dt c41) <| w_skip <| w_seq <| w_block <| w_region rfl <| wM v_row rfl rfl <| wM (.pointer (some ⟨b_r_, 0, none⟩)) rfl rfl <| w_pull (.there (.there (.there (.there (.there .here))))) ?_
  obtain ⟨y42, hy43, he⟩ := bs he
  refine w_a rfl (o_call co31 (vs := [.pointer (some ⟨b_r_, 0, none⟩)]) rfl (config_reader_number.calls k (r_ := ⟨r_⟩) hy43 h_r_)) ?_
  rintro _ H44 _ ⟨_, rfl, e45, ⟨v46, rfl, rfl, h47⟩⟩
  refine w_it (L' := some (b_r_, .cells ⟨[v46]⟩ 82 (0, 0)) :: i_row :: i_c_1 :: i_c_0 :: some (b_c_, .cells ⟨[v_c_0, v_c_1, .int .i64 c_2]⟩ 38 (0, 0)) :: some (b_t4, .cells ⟨[.slice none 0 0, .slice none 0 0, .int .i64 0]⟩ 38 (0, 0)) :: none :: L) rfl <| w_put (.there (.there (.there (.there (.there .here))))) <| w_a rfl (o_buildSlice' (kd := kI64) (css := [[.int .i64 y42.1]]) (xs := [y42.1]) (parts := [(0, .int .i64 y42.1)]) Tryd.underlying34 ti2 rfl ⟨_, _, rfl, rfl, rfl⟩ ⟨rfl, trivial⟩ rfl (by decide)) ?_
  rintro v48 _ _ ⟨i49, rfl, rfl, h50⟩
  obtain ⟨c51, he⟩ := rq he
  refine w_a rfl (o_append' (kd := kI64) (F := fun z_ => i49 :: z_ :: i_c_1 :: i_c_0 :: some (b_c_, .cells ⟨[v_c_0, v_c_1, .int .i64 c_2]⟩ 38 (0, 0)) :: some (b_t4, .cells ⟨[.slice none 0 0, .slice none 0 0, .int .i64 0]⟩ 38 (0, 0)) :: some (b_r_, .cells ⟨[v46]⟩ 82 (0, 0)) :: L) Tryd.underlying34 Tryd.underlying34 ti2 rfl (by first | omega | (simp only [List.nil_append, List.length_cons, List.length_nil]; omega)) rfl rfl (h_row.mono e45) (h50.src .here) (fun _ => (.there .here))) ?_
  rintro v52 _ _ ⟨i53, rfl, rfl, h54⟩
  refine wA v52 rfl rfl <| w_done <| w_inBlock <| w_region rfl <| w_d rfl (d_add (c := w64 (t33 + 1)) rfl rfl rfl) <| wM (.int .i64 (w64 (t33 + 1))) rfl rfl <| w_done <| w_inLoop <| w_del .here <| w_sl 0 (.pointer (some ⟨b_r_, 0, none⟩)) rfl <| w_sl 1 (.int .i64 n) rfl <| w_sl 4 (.pointer (some ⟨b_t4, 0, none⟩)) rfl ?_
  refine w_sl 5 (.pointer (some ⟨b_c_, 0, none⟩)) rfl <| w_sl 7 (v52) rfl <| w_sl 27 (.int .i64 t27) rfl <| w_sl 28 (.int .i64 t28) rfl <| w_sl 32 (.int .i64 t32) rfl <| w_sl 33 (.int .i64 (w64 (t33 + 1))) rfl <| hh.l2 (hle.trans e45) he h47 (h_c_0.mono e45) (h_c_1.mono e45) h54
 ·
  refine w_else rfl (df c41) <| w_exit rfl <| w_region rfl <| w_d rfl (d_fld (o' := 1) Tryd.underlying38 rfl sz25 rfl rfl rfl) <| wL v_c_1 ty25 rfl rfl (.there (.there (.there .here))) rfl rfl <| wM v_row rfl rfl <| w_freeze h_row .here ?_
  intro H55 e56 h57
  refine w_a rfl (o_buildSlice' (kd := (Kd.slice kI64)) (css := [[v_row]]) (xs := [row]) (parts := [(0, v_row)]) Tryd.underlying25 ti34 rfl ⟨_, _, rfl, h57.cells, rfl⟩ ⟨⟨_, rfl, h57⟩, trivial⟩ rfl (by decide)) ?_
  rintro v58 _ _ ⟨i59, rfl, rfl, h60⟩
  obtain ⟨c61, he⟩ := rq he
  refine w_a rfl (o_append' (kd := (Kd.slice kI64)) (F := fun z_ => i59 :: none :: z_ :: i_c_0 :: some (b_c_, .cells ⟨[v_c_0, v_c_1, .int .i64 c_2]⟩ 38 (0, 0)) :: some (b_t4, .cells ⟨[.slice none 0 0, .slice none 0 0, .int .i64 0]⟩ 38 (0, 0)) :: some (b_r_, .cells ⟨[v_r_]⟩ 82 (0, 0)) :: L) Tryd.underlying25 Tryd.underlying25 ti34 rfl (by first | omega | (simp only [List.nil_append, List.length_cons, List.length_nil]; omega)) rfl rfl (h_c_1.mono e56) (h60.src .here) (fun _ => (.there (.there .here)))) ?_
  rintro v62 _ _ ⟨i63, rfl, rfl, h64⟩
  refine w_d rfl (d_fld (o' := 1) Tryd.underlying38 rfl sz25 rfl rfl rfl) <| w_a0 rfl (o_store (v := v62) sz25 rfl rfl h64.cells rfl (oc (h64.one) oz) (.there (.there (.there (.there .here)))) (.there u1)) ?_
  rintro _ _ _ ⟨rfl, rfl, rfl⟩
  refine w_done <| w_inBlock <| w_region rfl <| w_d rfl (d_add (c := w64 (t28 + 1)) rfl rfl rfl) <| wM (.int .i64 (w64 (t28 + 1))) rfl rfl <| w_done <| w_inLoop <| w_del (.there .here) <| w_del .here <| w_sl 0 (.pointer (some ⟨b_r_, 0, none⟩)) rfl <| w_sl 1 (.int .i64 n) rfl <| w_sl 4 (.pointer (some ⟨b_t4, 0, none⟩)) rfl ?_
  refine w_sl 5 (.pointer (some ⟨b_c_, 0, none⟩)) rfl <| w_sl 27 (.int .i64 t27) rfl <| w_sl 28 (.int .i64 (w64 (t28 + 1))) rfl <| hh.l1 (hle.trans e56) he (h_r_.mono e56) (h_c_0.mono e56) h64
theorem config_reader_models.ok : ∀ k, config_reader_models.OK (config_reader_models.hs k)
 | 0 => ⟨(by intros; exact nomatch (show none = some _ from by assumption)), (by intros; exact nomatch (show none = some _ from by assumption)), (by intros; exact nomatch (show none = some _ from by assumption))⟩
 | k + 1 => ⟨config_reader_models.b0_ok (k := k) (config_reader_models.ok k), config_reader_models.b1_ok (k := k) (config_reader_models.ok k), config_reader_models.b2_ok (k := k) (config_reader_models.ok k)⟩
theorem config_reader_models.calls (k : Nat) {H : Hp} {L : Items} {r_ : config_reader} {n : Int} {b_r_ : Nat} {v0_r_ : Value} {r : imm_Conf × config_reader} (he : config_reader_models.f k r_ n = some r) (h0_r_ : Ro kU8 H v0_r_ r_.f_b) : Ct Tryd.prog 32 ⟨[.pointer (some ⟨b_r_, 0, none⟩), .int .i64 n]⟩ H (some (b_r_, .cells ⟨[v0_r_]⟩ 82 (0, 0)) :: L) (fun v H' L' => ∃ its_, L' = its_ ++ L ∧ H.le H' ∧ config_reader_models.out b_r_ its_ r H' v) := by
 refine ct_ptr ?_
 have hle : H.le H := .refl _
 have hh := config_reader_models.ok k
 unfold config_reader_models.f at he
 refine ct_enter (args := [.pointer (some ⟨b_r_, 0, none⟩), .int .i64 n]) fn_32 rfl nt_32 rfl <| wR rfl <| w_a rfl (o_alloc zr38 rfl) ?_
 rintro _ _ _ ⟨b1, rfl, rfl, rfl⟩
 refine wQ rfl <| w_a rfl (o_alloc zr38 rfl) ?_
 rintro _ _ _ ⟨b2, rfl, rfl, rfl⟩
 refine wE <| wR rfl <| wM (.int .i64 n) rfl rfl <| wM (.int .i64 0) rfl rfl <| w_done <| w_block <| w_loop <| w_none <| w_none <| w_sl 0 (.pointer (some ⟨b_r_, 0, none⟩)) rfl ?_
 refine w_sl 1 (.int .i64 n) rfl <| w_sl 4 (.pointer (some ⟨b1, 0, none⟩)) rfl <| w_sl 5 (.pointer (some ⟨b2, 0, none⟩)) rfl <| w_sl 8 (.int .i64 n) rfl <| w_sl 9 (.int .i64 0) rfl <| hh.l0 hle he h0_r_ (sl_nil _ _ _) (sl_nil _ _ _)
noncomputable def config_reader_rest.C : Code := (Tryd.f33.body).getD .skip
def config_reader_rest.out (b_r_ b_c_ : Nat) (its_ : Items) (r : Int × config_reader × config_Config) (H : Hp) (v : Value) : Prop := ∃ v0 : Value, ∃ v1 : Value, ∃ v2 : Value, v = .int .i64 r.1 ∧ its_ = [some (b_r_, .cells ⟨[v0]⟩ 82 (0, 0)), some (b_c_, .cells ⟨[.int .i64 r.2.2.f_Sensor.f_Range, .int .i64 r.2.2.f_Sensor.f_Turn, v1, v2, .int .i64 r.2.2.f_Imm.f_Floor, .int .i64 r.2.2.f_Rule.f_Hits, .int .i64 r.2.2.f_Rule.f_Window, .int .i64 r.2.2.f_Rule.f_Misses, .int .i64 r.2.2.f_Gate, .int .i64 r.2.2.f_Miss, .int .i64 r.2.2.f_Merge, .int .i64 r.2.2.f_Fast, .int .i64 r.2.2.f_Push, .int .i64 r.2.2.f_Tracks, .int .i64 r.2.2.f_From, .int .i64 r.2.2.f_Least, .int .i64 r.2.2.f_Most, .int .u16 r.2.2.f_Source]⟩ 41 (0, 0))] ∧ Ro kU8 H v0 r.2.1.f_b ∧ Ro k_model_Model H v1 r.2.2.f_Imm.f_Models ∧ Ro (Kd.slice kI64) H v2 r.2.2.f_Imm.f_Rows
noncomputable def config_reader_rest.f (k : Nat) (r_ : config_reader) (c_ : config_Config) : Option (Int × config_reader × config_Config) := (config_reader_number.f k r_).bind fun y1 => (config_reader_number.f k y1.2).bind fun y7 => (config_reader_number.f k y7.2).bind fun y13 => (config_reader_number.f k y13.2).bind fun y19 => (config_reader_number.f k y19.2).bind fun y25 => (config_reader_number.f k y25.2).bind fun y31 => (config_reader_number.f k y31.2).bind fun y37 => (config_reader_number.f k y37.2).bind fun y43 => (config_reader_number.f k y43.2).bind fun y49 => (config_reader_number.f k y49.2).bind fun y55 => (config_reader_number.f k y55.2).bind fun y61 => (config_reader_number.f k y61.2).bind fun y67 => (config_reader_number.f k y67.2).bind fun y73 => (config_reader_number.f k y73.2).bind fun y79 => some (y79.1, y79.2, (⟨c_.f_Sensor, (⟨c_.f_Imm.f_Models, c_.f_Imm.f_Rows, y1.1⟩ : imm_Conf), (⟨y7.1, y13.1, y19.1⟩ : life_Rule), y25.1, y31.1, y37.1, y43.1, y49.1, y55.1, y61.1, y67.1, y73.1, c_.f_Source⟩ : config_Config))
theorem config_reader_rest.mono : ∀ k y0 y1, LeO (config_reader_rest.f k y0 y1) (config_reader_rest.f (k + 1) y0 y1) := fun k _ _ => by unfold config_reader_rest.f; exact (LeO.bind (config_reader_number.mono k _) fun _ => LeO.bind (config_reader_number.mono k _) fun _ => LeO.bind (config_reader_number.mono k _) fun _ => LeO.bind (config_reader_number.mono k _) fun _ => LeO.bind (config_reader_number.mono k _) fun _ => LeO.bind (config_reader_number.mono k _) fun _ => LeO.bind (config_reader_number.mono k _) fun _ => LeO.bind (config_reader_number.mono k _) fun _ => LeO.bind (config_reader_number.mono k _) fun _ => LeO.bind (config_reader_number.mono k _) fun _ => LeO.bind (config_reader_number.mono k _) fun _ => LeO.bind (config_reader_number.mono k _) fun _ => LeO.bind (config_reader_number.mono k _) fun _ => LeO.bind (config_reader_number.mono k _) fun _ => LeO.refl _)
theorem config_reader_rest.calls (k : Nat) {H : Hp} {L : Items} {r_ : config_reader} {c_ : config_Config} {b_r_ b_c_ : Nat} {v0_r_ : Value} {v1_c_ : Value} {v2_c_ : Value} {r : Int × config_reader × config_Config} (he : config_reader_rest.f k r_ c_ = some r) (h0_r_ : Ro kU8 H v0_r_ r_.f_b) (h1_c_ : Ro k_model_Model H v1_c_ c_.f_Imm.f_Models) (h2_c_ : Ro (Kd.slice kI64) H v2_c_ c_.f_Imm.f_Rows) : Ct Tryd.prog 33 ⟨[.pointer (some ⟨b_r_, 0, none⟩), .pointer (some ⟨b_c_, 0, none⟩)]⟩ H (some (b_r_, .cells ⟨[v0_r_]⟩ 82 (0, 0)) :: some (b_c_, .cells ⟨[.int .i64 c_.f_Sensor.f_Range, .int .i64 c_.f_Sensor.f_Turn, v1_c_, v2_c_, .int .i64 c_.f_Imm.f_Floor, .int .i64 c_.f_Rule.f_Hits, .int .i64 c_.f_Rule.f_Window, .int .i64 c_.f_Rule.f_Misses, .int .i64 c_.f_Gate, .int .i64 c_.f_Miss, .int .i64 c_.f_Merge, .int .i64 c_.f_Fast, .int .i64 c_.f_Push, .int .i64 c_.f_Tracks, .int .i64 c_.f_From, .int .i64 c_.f_Least, .int .i64 c_.f_Most, .int .u16 c_.f_Source]⟩ 41 (0, 0)) :: L) (fun v H' L' => ∃ its_, L' = its_ ++ L ∧ H.le H' ∧ config_reader_rest.out b_r_ b_c_ its_ r H' v) := by
 refine ct_ptr ?_
 have hle : H.le H := .refl _
 unfold config_reader_rest.f at he
 refine ct_enter (args := [.pointer (some ⟨b_r_, 0, none⟩), .pointer (some ⟨b_c_, 0, none⟩)]) fn_33 rfl nt_33 rfl <| wR rfl <| wA (.int .i64 0) rfl rfl <| wQ rfl <| wM (.pointer (some ⟨b_c_, 0, none⟩)) rfl rfl <| wM (.pointer (some ⟨b_r_, 0, none⟩)) rfl rfl <| w_pull .here ?_
 obtain ⟨y1, hy2, he⟩ := bs he
 refine w_a rfl (o_call co31 (vs := [.pointer (some ⟨b_r_, 0, none⟩)]) rfl (config_reader_number.calls k (r_ := r_) hy2 h0_r_)) ?_
 rintro _ H3 _ ⟨_, rfl, e4, ⟨v5, rfl, rfl, h6⟩⟩
 refine w_it (L' := some (b_r_, .cells ⟨[v5]⟩ 82 (0, 0)) :: none :: some (b_c_, .cells ⟨[.int .i64 c_.f_Sensor.f_Range, .int .i64 c_.f_Sensor.f_Turn, v1_c_, v2_c_, .int .i64 c_.f_Imm.f_Floor, .int .i64 c_.f_Rule.f_Hits, .int .i64 c_.f_Rule.f_Window, .int .i64 c_.f_Rule.f_Misses, .int .i64 c_.f_Gate, .int .i64 c_.f_Miss, .int .i64 c_.f_Merge, .int .i64 c_.f_Fast, .int .i64 c_.f_Push, .int .i64 c_.f_Tracks, .int .i64 c_.f_From, .int .i64 c_.f_Least, .int .i64 c_.f_Most, .int .u16 c_.f_Source]⟩ 41 (0, 0)) :: L) rfl <| w_put .here <| w_d rfl (d_nilCheck (p := ⟨b_c_, 0, none⟩) rfl) <| w_d rfl (d_fld (o' := 2) Tryd.underlying41 rfl sz38 rfl rfl rfl) <| w_d rfl (d_fld (o' := 4) Tryd.underlying38 rfl sz2 rfl rfl rfl) <| w_a0 rfl (o_store (v := .int .i64 y1.1) sz2 rfl rfl rfl rfl (oc rfl oz) (.there .here) (.there (.there (.there (.there u1))))) ?_
 rintro _ _ _ ⟨rfl, rfl, rfl⟩
 refine wQ rfl <| wM (.pointer (some ⟨b_c_, 0, none⟩)) rfl rfl <| wM (.pointer (some ⟨b_c_, 0, none⟩)) rfl rfl <| wM (.pointer (some ⟨b_c_, 0, none⟩)) rfl rfl <| wM (.pointer (some ⟨b_r_, 0, none⟩)) rfl rfl <| w_pull .here ?_
 obtain ⟨y7, hy8, he⟩ := bs he
 refine w_a rfl (o_call co31 (vs := [.pointer (some ⟨b_r_, 0, none⟩)]) rfl (config_reader_number.calls k (r_ := y1.2) hy8 h6)) ?_
 rintro _ H9 _ ⟨_, rfl, e10, ⟨v11, rfl, rfl, h12⟩⟩
 refine w_it (L' := some (b_r_, .cells ⟨[v11]⟩ 82 (0, 0)) :: none :: some (b_c_, .cells ⟨[.int .i64 c_.f_Sensor.f_Range, .int .i64 c_.f_Sensor.f_Turn, v1_c_, v2_c_, .int .i64 y1.1, .int .i64 c_.f_Rule.f_Hits, .int .i64 c_.f_Rule.f_Window, .int .i64 c_.f_Rule.f_Misses, .int .i64 c_.f_Gate, .int .i64 c_.f_Miss, .int .i64 c_.f_Merge, .int .i64 c_.f_Fast, .int .i64 c_.f_Push, .int .i64 c_.f_Tracks, .int .i64 c_.f_From, .int .i64 c_.f_Least, .int .i64 c_.f_Most, .int .u16 c_.f_Source]⟩ 41 (0, 0)) :: L) rfl <| w_put .here <| wM (.pointer (some ⟨b_r_, 0, none⟩)) rfl rfl <| w_pull .here ?_
 obtain ⟨y13, hy14, he⟩ := bs he
 refine w_a rfl (o_call co31 (vs := [.pointer (some ⟨b_r_, 0, none⟩)]) rfl (config_reader_number.calls k (r_ := y7.2) hy14 h12)) ?_
 rintro _ H15 _ ⟨_, rfl, e16, ⟨v17, rfl, rfl, h18⟩⟩
 refine w_it (L' := some (b_r_, .cells ⟨[v17]⟩ 82 (0, 0)) :: none :: some (b_c_, .cells ⟨[.int .i64 c_.f_Sensor.f_Range, .int .i64 c_.f_Sensor.f_Turn, v1_c_, v2_c_, .int .i64 y1.1, .int .i64 c_.f_Rule.f_Hits, .int .i64 c_.f_Rule.f_Window, .int .i64 c_.f_Rule.f_Misses, .int .i64 c_.f_Gate, .int .i64 c_.f_Miss, .int .i64 c_.f_Merge, .int .i64 c_.f_Fast, .int .i64 c_.f_Push, .int .i64 c_.f_Tracks, .int .i64 c_.f_From, .int .i64 c_.f_Least, .int .i64 c_.f_Most, .int .u16 c_.f_Source]⟩ 41 (0, 0)) :: L) rfl <| w_put .here <| wM (.pointer (some ⟨b_r_, 0, none⟩)) rfl rfl <| w_pull .here ?_
 obtain ⟨y19, hy20, he⟩ := bs he
 refine w_a rfl (o_call co31 (vs := [.pointer (some ⟨b_r_, 0, none⟩)]) rfl (config_reader_number.calls k (r_ := y13.2) hy20 h18)) ?_
 rintro _ H21 _ ⟨_, rfl, e22, ⟨v23, rfl, rfl, h24⟩⟩
 refine w_it (L' := some (b_r_, .cells ⟨[v23]⟩ 82 (0, 0)) :: none :: some (b_c_, .cells ⟨[.int .i64 c_.f_Sensor.f_Range, .int .i64 c_.f_Sensor.f_Turn, v1_c_, v2_c_, .int .i64 y1.1, .int .i64 c_.f_Rule.f_Hits, .int .i64 c_.f_Rule.f_Window, .int .i64 c_.f_Rule.f_Misses, .int .i64 c_.f_Gate, .int .i64 c_.f_Miss, .int .i64 c_.f_Merge, .int .i64 c_.f_Fast, .int .i64 c_.f_Push, .int .i64 c_.f_Tracks, .int .i64 c_.f_From, .int .i64 c_.f_Least, .int .i64 c_.f_Most, .int .u16 c_.f_Source]⟩ 41 (0, 0)) :: L) rfl <| w_put .here <| w_d rfl (d_nilCheck (p := ⟨b_c_, 0, none⟩) rfl) <| w_d rfl (d_fld (o' := 5) Tryd.underlying41 rfl sz39 rfl rfl rfl) <| w_d rfl (d_fld (o' := 5) Tryd.underlying39 rfl sz3 rfl rfl rfl) <| w_a0 rfl (o_store (v := .int .i64 y7.1) sz3 rfl rfl rfl rfl (oc rfl oz) (.there .here) (.there (.there (.there (.there (.there u1)))))) ?_
 rintro _ _ _ ⟨rfl, rfl, rfl⟩
 refine w_d rfl (d_nilCheck (p := ⟨b_c_, 0, none⟩) rfl) <| w_d rfl (d_fld (o' := 5) Tryd.underlying41 rfl sz39 rfl rfl rfl) <| w_d rfl (d_fld (o' := 6) Tryd.underlying39 rfl sz3 rfl rfl rfl) <| w_a0 rfl (o_store (v := .int .i64 y13.1) sz3 rfl rfl rfl rfl (oc rfl oz) (.there .here) (.there (.there (.there (.there (.there (.there u1))))))) ?_
 rintro _ _ _ ⟨rfl, rfl, rfl⟩
 refine w_d rfl (d_nilCheck (p := ⟨b_c_, 0, none⟩) rfl) <| w_d rfl (d_fld (o' := 5) Tryd.underlying41 rfl sz39 rfl rfl rfl) <| w_d rfl (d_fld (o' := 7) Tryd.underlying39 rfl sz3 rfl rfl rfl) <| w_a0 rfl (o_store (v := .int .i64 y19.1) sz3 rfl rfl rfl rfl (oc rfl oz) (.there .here) (.there (.there (.there (.there (.there (.there (.there u1)))))))) ?_
 rintro _ _ _ ⟨rfl, rfl, rfl⟩
 refine wQ rfl <| wM (.pointer (some ⟨b_c_, 0, none⟩)) rfl rfl <| wM (.pointer (some ⟨b_c_, 0, none⟩)) rfl rfl <| wM (.pointer (some ⟨b_c_, 0, none⟩)) rfl rfl <| wM (.pointer (some ⟨b_r_, 0, none⟩)) rfl rfl <| w_pull .here ?_
 obtain ⟨y25, hy26, he⟩ := bs he
 refine w_a rfl (o_call co31 (vs := [.pointer (some ⟨b_r_, 0, none⟩)]) rfl (config_reader_number.calls k (r_ := y19.2) hy26 h24)) ?_
 rintro _ H27 _ ⟨_, rfl, e28, ⟨v29, rfl, rfl, h30⟩⟩
 refine w_it (L' := some (b_r_, .cells ⟨[v29]⟩ 82 (0, 0)) :: none :: some (b_c_, .cells ⟨[.int .i64 c_.f_Sensor.f_Range, .int .i64 c_.f_Sensor.f_Turn, v1_c_, v2_c_, .int .i64 y1.1, .int .i64 y7.1, .int .i64 y13.1, .int .i64 y19.1, .int .i64 c_.f_Gate, .int .i64 c_.f_Miss, .int .i64 c_.f_Merge, .int .i64 c_.f_Fast, .int .i64 c_.f_Push, .int .i64 c_.f_Tracks, .int .i64 c_.f_From, .int .i64 c_.f_Least, .int .i64 c_.f_Most, .int .u16 c_.f_Source]⟩ 41 (0, 0)) :: L) rfl <| w_put .here <| wM (.pointer (some ⟨b_r_, 0, none⟩)) rfl rfl <| w_pull .here ?_
 obtain ⟨y31, hy32, he⟩ := bs he
 refine w_a rfl (o_call co31 (vs := [.pointer (some ⟨b_r_, 0, none⟩)]) rfl (config_reader_number.calls k (r_ := y25.2) hy32 h30)) ?_
 rintro _ H33 _ ⟨_, rfl, e34, ⟨v35, rfl, rfl, h36⟩⟩
 refine w_it (L' := some (b_r_, .cells ⟨[v35]⟩ 82 (0, 0)) :: none :: some (b_c_, .cells ⟨[.int .i64 c_.f_Sensor.f_Range, .int .i64 c_.f_Sensor.f_Turn, v1_c_, v2_c_, .int .i64 y1.1, .int .i64 y7.1, .int .i64 y13.1, .int .i64 y19.1, .int .i64 c_.f_Gate, .int .i64 c_.f_Miss, .int .i64 c_.f_Merge, .int .i64 c_.f_Fast, .int .i64 c_.f_Push, .int .i64 c_.f_Tracks, .int .i64 c_.f_From, .int .i64 c_.f_Least, .int .i64 c_.f_Most, .int .u16 c_.f_Source]⟩ 41 (0, 0)) :: L) rfl <| w_put .here <| wM (.pointer (some ⟨b_r_, 0, none⟩)) rfl rfl <| w_pull .here ?_
 obtain ⟨y37, hy38, he⟩ := bs he
 refine w_a rfl (o_call co31 (vs := [.pointer (some ⟨b_r_, 0, none⟩)]) rfl (config_reader_number.calls k (r_ := y31.2) hy38 h36)) ?_
 rintro _ H39 _ ⟨_, rfl, e40, ⟨v41, rfl, rfl, h42⟩⟩
 refine w_it (L' := some (b_r_, .cells ⟨[v41]⟩ 82 (0, 0)) :: none :: some (b_c_, .cells ⟨[.int .i64 c_.f_Sensor.f_Range, .int .i64 c_.f_Sensor.f_Turn, v1_c_, v2_c_, .int .i64 y1.1, .int .i64 y7.1, .int .i64 y13.1, .int .i64 y19.1, .int .i64 c_.f_Gate, .int .i64 c_.f_Miss, .int .i64 c_.f_Merge, .int .i64 c_.f_Fast, .int .i64 c_.f_Push, .int .i64 c_.f_Tracks, .int .i64 c_.f_From, .int .i64 c_.f_Least, .int .i64 c_.f_Most, .int .u16 c_.f_Source]⟩ 41 (0, 0)) :: L) rfl <| w_put .here <| w_d rfl (d_nilCheck (p := ⟨b_c_, 0, none⟩) rfl) <| w_d rfl (d_fld (o' := 8) Tryd.underlying41 rfl sz2 rfl rfl rfl) <| w_a0 rfl (o_store (v := .int .i64 y25.1) sz2 rfl rfl rfl rfl (oc rfl oz) (.there .here) (.there (.there (.there (.there (.there (.there (.there (.there u1))))))))) ?_
 rintro _ _ _ ⟨rfl, rfl, rfl⟩
 refine w_d rfl (d_nilCheck (p := ⟨b_c_, 0, none⟩) rfl) <| w_d rfl (d_fld (o' := 9) Tryd.underlying41 rfl sz2 rfl rfl rfl) <| w_a0 rfl (o_store (v := .int .i64 y31.1) sz2 rfl rfl rfl rfl (oc rfl oz) (.there .here) (.there (.there (.there (.there (.there (.there (.there (.there (.there u1)))))))))) ?_
 rintro _ _ _ ⟨rfl, rfl, rfl⟩
 refine w_d rfl (d_nilCheck (p := ⟨b_c_, 0, none⟩) rfl) <| w_d rfl (d_fld (o' := 10) Tryd.underlying41 rfl sz2 rfl rfl rfl) <| w_a0 rfl (o_store (v := .int .i64 y37.1) sz2 rfl rfl rfl rfl (oc rfl oz) (.there .here) (.there (.there (.there (.there (.there (.there (.there (.there (.there (.there u1))))))))))) ?_
 rintro _ _ _ ⟨rfl, rfl, rfl⟩
 refine wQ rfl <| wM (.pointer (some ⟨b_c_, 0, none⟩)) rfl rfl <| wM (.pointer (some ⟨b_c_, 0, none⟩)) rfl rfl <| wM (.pointer (some ⟨b_r_, 0, none⟩)) rfl rfl <| w_pull .here ?_
 obtain ⟨y43, hy44, he⟩ := bs he
 refine w_a rfl (o_call co31 (vs := [.pointer (some ⟨b_r_, 0, none⟩)]) rfl (config_reader_number.calls k (r_ := y37.2) hy44 h42)) ?_
 rintro _ H45 _ ⟨_, rfl, e46, ⟨v47, rfl, rfl, h48⟩⟩
 refine w_it (L' := some (b_r_, .cells ⟨[v47]⟩ 82 (0, 0)) :: none :: some (b_c_, .cells ⟨[.int .i64 c_.f_Sensor.f_Range, .int .i64 c_.f_Sensor.f_Turn, v1_c_, v2_c_, .int .i64 y1.1, .int .i64 y7.1, .int .i64 y13.1, .int .i64 y19.1, .int .i64 y25.1, .int .i64 y31.1, .int .i64 y37.1, .int .i64 c_.f_Fast, .int .i64 c_.f_Push, .int .i64 c_.f_Tracks, .int .i64 c_.f_From, .int .i64 c_.f_Least, .int .i64 c_.f_Most, .int .u16 c_.f_Source]⟩ 41 (0, 0)) :: L) rfl <| w_put .here <| wM (.pointer (some ⟨b_r_, 0, none⟩)) rfl rfl <| w_pull .here ?_
 obtain ⟨y49, hy50, he⟩ := bs he
 refine w_a rfl (o_call co31 (vs := [.pointer (some ⟨b_r_, 0, none⟩)]) rfl (config_reader_number.calls k (r_ := y43.2) hy50 h48)) ?_
 rintro _ H51 _ ⟨_, rfl, e52, ⟨v53, rfl, rfl, h54⟩⟩
 refine w_it (L' := some (b_r_, .cells ⟨[v53]⟩ 82 (0, 0)) :: none :: some (b_c_, .cells ⟨[.int .i64 c_.f_Sensor.f_Range, .int .i64 c_.f_Sensor.f_Turn, v1_c_, v2_c_, .int .i64 y1.1, .int .i64 y7.1, .int .i64 y13.1, .int .i64 y19.1, .int .i64 y25.1, .int .i64 y31.1, .int .i64 y37.1, .int .i64 c_.f_Fast, .int .i64 c_.f_Push, .int .i64 c_.f_Tracks, .int .i64 c_.f_From, .int .i64 c_.f_Least, .int .i64 c_.f_Most, .int .u16 c_.f_Source]⟩ 41 (0, 0)) :: L) rfl <| w_put .here <| w_d rfl (d_nilCheck (p := ⟨b_c_, 0, none⟩) rfl) <| w_d rfl (d_fld (o' := 11) Tryd.underlying41 rfl sz2 rfl rfl rfl) <| w_a0 rfl (o_store (v := .int .i64 y43.1) sz2 rfl rfl rfl rfl (oc rfl oz) (.there .here) (.there (.there (.there (.there (.there (.there (.there (.there (.there (.there (.there u1)))))))))))) ?_
 rintro _ _ _ ⟨rfl, rfl, rfl⟩
 refine w_d rfl (d_nilCheck (p := ⟨b_c_, 0, none⟩) rfl) <| w_d rfl (d_fld (o' := 12) Tryd.underlying41 rfl sz2 rfl rfl rfl) <| w_a0 rfl (o_store (v := .int .i64 y49.1) sz2 rfl rfl rfl rfl (oc rfl oz) (.there .here) (.there (.there (.there (.there (.there (.there (.there (.there (.there (.there (.there (.there u1))))))))))))) ?_
 rintro _ _ _ ⟨rfl, rfl, rfl⟩
 refine wQ rfl <| wM (.pointer (some ⟨b_c_, 0, none⟩)) rfl rfl <| wM (.pointer (some ⟨b_c_, 0, none⟩)) rfl rfl <| wM (.pointer (some ⟨b_r_, 0, none⟩)) rfl rfl <| w_pull .here ?_
 obtain ⟨y55, hy56, he⟩ := bs he
 refine w_a rfl (o_call co31 (vs := [.pointer (some ⟨b_r_, 0, none⟩)]) rfl (config_reader_number.calls k (r_ := y49.2) hy56 h54)) ?_
 rintro _ H57 _ ⟨_, rfl, e58, ⟨v59, rfl, rfl, h60⟩⟩
 refine w_it (L' := some (b_r_, .cells ⟨[v59]⟩ 82 (0, 0)) :: none :: some (b_c_, .cells ⟨[.int .i64 c_.f_Sensor.f_Range, .int .i64 c_.f_Sensor.f_Turn, v1_c_, v2_c_, .int .i64 y1.1, .int .i64 y7.1, .int .i64 y13.1, .int .i64 y19.1, .int .i64 y25.1, .int .i64 y31.1, .int .i64 y37.1, .int .i64 y43.1, .int .i64 y49.1, .int .i64 c_.f_Tracks, .int .i64 c_.f_From, .int .i64 c_.f_Least, .int .i64 c_.f_Most, .int .u16 c_.f_Source]⟩ 41 (0, 0)) :: L) rfl <| w_put .here <| wM (.pointer (some ⟨b_r_, 0, none⟩)) rfl rfl <| w_pull .here ?_
 obtain ⟨y61, hy62, he⟩ := bs he
 refine w_a rfl (o_call co31 (vs := [.pointer (some ⟨b_r_, 0, none⟩)]) rfl (config_reader_number.calls k (r_ := y55.2) hy62 h60)) ?_
 rintro _ H63 _ ⟨_, rfl, e64, ⟨v65, rfl, rfl, h66⟩⟩
 refine w_it (L' := some (b_r_, .cells ⟨[v65]⟩ 82 (0, 0)) :: none :: some (b_c_, .cells ⟨[.int .i64 c_.f_Sensor.f_Range, .int .i64 c_.f_Sensor.f_Turn, v1_c_, v2_c_, .int .i64 y1.1, .int .i64 y7.1, .int .i64 y13.1, .int .i64 y19.1, .int .i64 y25.1, .int .i64 y31.1, .int .i64 y37.1, .int .i64 y43.1, .int .i64 y49.1, .int .i64 c_.f_Tracks, .int .i64 c_.f_From, .int .i64 c_.f_Least, .int .i64 c_.f_Most, .int .u16 c_.f_Source]⟩ 41 (0, 0)) :: L) rfl <| w_put .here <| w_d rfl (d_nilCheck (p := ⟨b_c_, 0, none⟩) rfl) <| w_d rfl (d_fld (o' := 13) Tryd.underlying41 rfl sz3 rfl rfl rfl) <| w_a0 rfl (o_store (v := .int .i64 y55.1) sz3 rfl rfl rfl rfl (oc rfl oz) (.there .here) (.there (.there (.there (.there (.there (.there (.there (.there (.there (.there (.there (.there (.there u1)))))))))))))) ?_
 rintro _ _ _ ⟨rfl, rfl, rfl⟩
 refine w_d rfl (d_nilCheck (p := ⟨b_c_, 0, none⟩) rfl) <| w_d rfl (d_fld (o' := 14) Tryd.underlying41 rfl sz2 rfl rfl rfl) <| w_a0 rfl (o_store (v := .int .i64 y61.1) sz2 rfl rfl rfl rfl (oc rfl oz) (.there .here) (.there (.there (.there (.there (.there (.there (.there (.there (.there (.there (.there (.there (.there (.there u1))))))))))))))) ?_
 rintro _ _ _ ⟨rfl, rfl, rfl⟩
 refine wQ rfl <| wM (.pointer (some ⟨b_c_, 0, none⟩)) rfl rfl <| wM (.pointer (some ⟨b_c_, 0, none⟩)) rfl rfl <| wM (.pointer (some ⟨b_r_, 0, none⟩)) rfl rfl <| w_pull .here ?_
 obtain ⟨y67, hy68, he⟩ := bs he
 refine w_a rfl (o_call co31 (vs := [.pointer (some ⟨b_r_, 0, none⟩)]) rfl (config_reader_number.calls k (r_ := y61.2) hy68 h66)) ?_
 rintro _ H69 _ ⟨_, rfl, e70, ⟨v71, rfl, rfl, h72⟩⟩
 refine w_it (L' := some (b_r_, .cells ⟨[v71]⟩ 82 (0, 0)) :: none :: some (b_c_, .cells ⟨[.int .i64 c_.f_Sensor.f_Range, .int .i64 c_.f_Sensor.f_Turn, v1_c_, v2_c_, .int .i64 y1.1, .int .i64 y7.1, .int .i64 y13.1, .int .i64 y19.1, .int .i64 y25.1, .int .i64 y31.1, .int .i64 y37.1, .int .i64 y43.1, .int .i64 y49.1, .int .i64 y55.1, .int .i64 y61.1, .int .i64 c_.f_Least, .int .i64 c_.f_Most, .int .u16 c_.f_Source]⟩ 41 (0, 0)) :: L) rfl <| w_put .here <| wM (.pointer (some ⟨b_r_, 0, none⟩)) rfl rfl <| w_pull .here ?_
 obtain ⟨y73, hy74, he⟩ := bs he
 refine w_a rfl (o_call co31 (vs := [.pointer (some ⟨b_r_, 0, none⟩)]) rfl (config_reader_number.calls k (r_ := y67.2) hy74 h72)) ?_
 rintro _ H75 _ ⟨_, rfl, e76, ⟨v77, rfl, rfl, h78⟩⟩
 refine w_it (L' := some (b_r_, .cells ⟨[v77]⟩ 82 (0, 0)) :: none :: some (b_c_, .cells ⟨[.int .i64 c_.f_Sensor.f_Range, .int .i64 c_.f_Sensor.f_Turn, v1_c_, v2_c_, .int .i64 y1.1, .int .i64 y7.1, .int .i64 y13.1, .int .i64 y19.1, .int .i64 y25.1, .int .i64 y31.1, .int .i64 y37.1, .int .i64 y43.1, .int .i64 y49.1, .int .i64 y55.1, .int .i64 y61.1, .int .i64 c_.f_Least, .int .i64 c_.f_Most, .int .u16 c_.f_Source]⟩ 41 (0, 0)) :: L) rfl <| w_put .here <| w_d rfl (d_nilCheck (p := ⟨b_c_, 0, none⟩) rfl) <| w_d rfl (d_fld (o' := 15) Tryd.underlying41 rfl sz2 rfl rfl rfl) <| w_a0 rfl (o_store (v := .int .i64 y67.1) sz2 rfl rfl rfl rfl (oc rfl oz) (.there .here) (.there (.there (.there (.there (.there (.there (.there (.there (.there (.there (.there (.there (.there (.there (.there u1)))))))))))))))) ?_
 rintro _ _ _ ⟨rfl, rfl, rfl⟩
 refine w_d rfl (d_nilCheck (p := ⟨b_c_, 0, none⟩) rfl) <| w_d rfl (d_fld (o' := 16) Tryd.underlying41 rfl sz2 rfl rfl rfl) <| w_a0 rfl (o_store (v := .int .i64 y73.1) sz2 rfl rfl rfl rfl (oc rfl oz) (.there .here) (.there (.there (.there (.there (.there (.there (.there (.there (.there (.there (.there (.there (.there (.there (.there (.there u1))))))))))))))))) ?_
 rintro _ _ _ ⟨rfl, rfl, rfl⟩
 refine wQ rfl <| wM (.pointer (some ⟨b_r_, 0, none⟩)) rfl rfl <| w_pull .here ?_
 obtain ⟨y79, hy80, he⟩ := bs he
 refine w_a rfl (o_call co31 (vs := [.pointer (some ⟨b_r_, 0, none⟩)]) rfl (config_reader_number.calls k (r_ := y73.2) hy80 h78)) ?_
 rintro _ H81 _ ⟨_, rfl, e82, ⟨v83, rfl, rfl, h84⟩⟩
 refine w_it (L' := some (b_r_, .cells ⟨[v83]⟩ 82 (0, 0)) :: none :: some (b_c_, .cells ⟨[.int .i64 c_.f_Sensor.f_Range, .int .i64 c_.f_Sensor.f_Turn, v1_c_, v2_c_, .int .i64 y1.1, .int .i64 y7.1, .int .i64 y13.1, .int .i64 y19.1, .int .i64 y25.1, .int .i64 y31.1, .int .i64 y37.1, .int .i64 y43.1, .int .i64 y49.1, .int .i64 y55.1, .int .i64 y61.1, .int .i64 y67.1, .int .i64 y73.1, .int .u16 c_.f_Source]⟩ 41 (0, 0)) :: L) rfl <| w_put .here <| wA (.int .i64 y79.1) rfl rfl <| w_done ?_
 obtain rfl := sj he
 refine w_return fn_33 rs_33 (.tmp (v := .int .i64 y79.1) rfl .nil) <| ⟨[], [_, _], rfl, hle.trans (((((((((((((e4.trans e10).trans e16).trans e22).trans e28).trans e34).trans e40).trans e46).trans e52).trans e58).trans e64).trans e70).trans e76).trans e82), ⟨v83, v1_c_, v2_c_, rfl, rfl, h84, (h1_c_.mono (((((((((((((e4.trans e10).trans e16).trans e22).trans e28).trans e34).trans e40).trans e46).trans e52).trans e58).trans e64).trans e70).trans e76).trans e82)), (h2_c_.mono (((((((((((((e4.trans e10).trans e16).trans e22).trans e28).trans e34).trans e40).trans e46).trans e52).trans e58).trans e64).trans e70).trans e76).trans e82))⟩⟩
noncomputable def polar_Check.C : Code := (Tryd.f25.body).getD .skip
def polar_Check.out (r : (Option Int)) (H : Hp) (v : Value) : Prop := v = errV 76 r
noncomputable def polar_Check.f (k : Nat) (s : polar_Sensor) : Option (Option Int) := if ((((decide (s.f_Range < 1)) || (decide (17179869184 < s.f_Range))) || (decide (s.f_Turn < 1))) || (decide (268435456 < s.f_Turn))) = true then (some (some 1)) else (some (none))
theorem polar_Check.mono : ∀ k y0, LeO (polar_Check.f k y0) (polar_Check.f (k + 1) y0) := fun k _ => by unfold polar_Check.f; exact (LeO.ite (LeO.refl _) (LeO.refl _))
theorem polar_Check.calls (k : Nat) {H : Hp} {L : Items} {s : polar_Sensor} {r : (Option Int)} (he : polar_Check.f k s = some r) : Ct Tryd.prog 25 ⟨[.agg ⟨[.int .i64 s.f_Range, .int .i64 s.f_Turn]⟩]⟩ H L (fun v H' L' => L = L' ∧ H = H' ∧ v = errV 76 r) := by
 refine ct_outs (O := polar_Check.out r) (fun _ _ h => h) ?_
 have hle : H.le H := .refl _
 unfold polar_Check.f at he
 refine ct_enter (args := [.agg ⟨[.int .i64 s.f_Range, .int .i64 s.f_Turn]⟩]) fn_25 rfl nt_25 rfl <| wR rfl <| w_a rfl (o_box (v := .agg ⟨[.int .i64 s.f_Range, .int .i64 s.f_Turn]⟩) rfl rfl) ?_
 rintro _ _ _ ⟨b1, rfl, rfl, rfl⟩
 refine wA (errV 76 none) rfl rfl <| wE <| wR rfl <| w_d rfl (d_fld (o' := 0) Tryd.underlying35 rfl sz2 rfl rfl rfl) <| wL (.int .i64 s.f_Range) ty2 rfl rfl .here rfl rfl <| w_d rfl (d_lss rfl rfl) <| wM (.bool (decide (s.f_Range < 1))) rfl rfl <| w_g (g := !(decide (s.f_Range < 1))) rfl rfl rfl wn_f (fun g2 => d_fld (o' := 0) Tryd.underlying35 rfl sz2 rfl rfl rfl) <| w_g (g := !(decide (s.f_Range < 1))) rfl rfl rfl wn_f (fun g3 => d_loado (v := .int .i64 s.f_Range) ty2 (cvt g3) .here rfl rfl rfl rfl) <| w_g (g := !(decide (s.f_Range < 1))) rfl rfl rfl wn_f (fun g4 => d_gtr (cvt g4) rfl) ?_
 refine w_d rfl (d_or' (b := (decide (s.f_Range < 1))) (p := (decide (17179869184 < s.f_Range))) rfl rfl rfl) <| wM (.bool ((decide (s.f_Range < 1)) || (decide (17179869184 < s.f_Range)))) rfl rfl <| w_g (g := !((decide (s.f_Range < 1)) || (decide (17179869184 < s.f_Range)))) rfl rfl rfl wn_f (fun g5 => d_fld (o' := 1) Tryd.underlying35 rfl sz2 rfl rfl rfl) <| w_g (g := !((decide (s.f_Range < 1)) || (decide (17179869184 < s.f_Range)))) rfl rfl rfl wn_f (fun g6 => d_loado (v := .int .i64 s.f_Turn) ty2 (cvt g6) .here rfl rfl rfl rfl) <| w_g (g := !((decide (s.f_Range < 1)) || (decide (17179869184 < s.f_Range)))) rfl rfl rfl wn_f (fun g7 => d_lss (cvt g7) rfl) <| w_d rfl (d_or' (b := ((decide (s.f_Range < 1)) || (decide (17179869184 < s.f_Range)))) (p := (decide (s.f_Turn < 1))) rfl rfl rfl) <| wM (.bool (((decide (s.f_Range < 1)) || (decide (17179869184 < s.f_Range))) || (decide (s.f_Turn < 1)))) rfl rfl <| w_g (g := !(((decide (s.f_Range < 1)) || (decide (17179869184 < s.f_Range))) || (decide (s.f_Turn < 1)))) rfl rfl rfl wn_f (fun g8 => d_fld (o' := 1) Tryd.underlying35 rfl sz2 rfl rfl rfl) <| w_g (g := !(((decide (s.f_Range < 1)) || (decide (17179869184 < s.f_Range))) || (decide (s.f_Turn < 1)))) rfl rfl rfl wn_f (fun g9 => d_loado (v := .int .i64 s.f_Turn) ty2 (cvt g9) .here rfl rfl rfl rfl) <| w_g (g := !(((decide (s.f_Range < 1)) || (decide (17179869184 < s.f_Range))) || (decide (s.f_Turn < 1)))) rfl rfl rfl wn_f (fun g10 => d_gtr (cvt g10) rfl) <| w_d rfl (d_or' (b := (((decide (s.f_Range < 1)) || (decide (17179869184 < s.f_Range))) || (decide (s.f_Turn < 1)))) (p := (decide (268435456 < s.f_Turn))) rfl rfl rfl) <| w_done ?_
 rcases its he with ⟨c11, he⟩ | ⟨c11, he⟩
 ·
  refine w_then rfl c11 <| wR rfl <| w_d rfl (d_iface (v := .int .i64 1) Tryd.underlying76 rfl rfl) <| wA (errV 76 (some 1)) rfl rfl <| w_done ?_
  obtain rfl := sj he
  refine w_return fn_25 rs_25 (.tmp (v := errV 76 (some 1)) rfl .nil) <| ⟨⟨[_], rfl⟩, hle, rfl⟩
 ·
  refine w_else rfl (Bool.eq_false_iff.2 c11) <| w_skip <| wR rfl <| wA (errV 76 none) rfl rfl <| w_done ?_
  obtain rfl := sj he
  refine w_return fn_25 rs_25 (.tmp (v := errV 76 none) rfl .nil) <| ⟨⟨[_], rfl⟩, hle, rfl⟩
noncomputable def model_Model_turns.C : Code := (Tryd.f46.body).getD .skip
def model_Model_turns.out (r : Bool) (H : Hp) (v : Value) : Prop := v = .bool r
noncomputable def model_Model_turns.f (k : Nat) (m : model_Model) : Option Bool := some ((decide (m.f_Kind = 2)) || (decide (m.f_Kind = 3)))
theorem model_Model_turns.mono : ∀ k y0, LeO (model_Model_turns.f k y0) (model_Model_turns.f (k + 1) y0) := fun k _ => by unfold model_Model_turns.f; exact (LeO.refl _)
theorem model_Model_turns.calls (k : Nat) {H : Hp} {L : Items} {m : model_Model} {r : Bool} (he : model_Model_turns.f k m = some r) : Ct Tryd.prog 46 ⟨[.agg ⟨[.int .i64 m.f_Kind, .int .i64 m.f_Rate, .int .i64 m.f_Noise]⟩]⟩ H L (fun v H' L' => L = L' ∧ H = H' ∧ v = .bool r) := by
 refine ct_outs (O := model_Model_turns.out r) (fun _ _ h => h) ?_
 have hle : H.le H := .refl _
 unfold model_Model_turns.f at he
 refine ct_enter (args := [.agg ⟨[.int .i64 m.f_Kind, .int .i64 m.f_Rate, .int .i64 m.f_Noise]⟩]) fn_46 rfl nt_46 rfl <| wR rfl <| w_a rfl (o_box (v := .agg ⟨[.int .i64 m.f_Kind, .int .i64 m.f_Rate, .int .i64 m.f_Noise]⟩) rfl rfl) ?_
 rintro _ _ _ ⟨b1, rfl, rfl, rfl⟩
 refine wA (.bool false) rfl rfl <| wQ rfl <| w_d rfl (d_fld (o' := 0) Tryd.underlying66 rfl sz3 rfl rfl rfl) <| wL (.int .i64 m.f_Kind) ty3 rfl rfl .here rfl rfl <| w_d rfl (d_eql rfl rfl) <| wM (.bool (decide (m.f_Kind = 2))) rfl rfl <| w_g (g := !(decide (m.f_Kind = 2))) rfl rfl rfl wn_f (fun g2 => d_fld (o' := 0) Tryd.underlying66 rfl sz3 rfl rfl rfl) <| w_g (g := !(decide (m.f_Kind = 2))) rfl rfl rfl wn_f (fun g3 => d_loado (v := .int .i64 m.f_Kind) ty3 (cvt g3) .here rfl rfl rfl rfl) <| w_g (g := !(decide (m.f_Kind = 2))) rfl rfl rfl wn_f (fun g4 => d_eql (cvt g4) rfl) <| w_d rfl (d_or' (b := (decide (m.f_Kind = 2))) (p := (decide (m.f_Kind = 3))) rfl rfl rfl) ?_
 refine wA (.bool ((decide (m.f_Kind = 2)) || (decide (m.f_Kind = 3)))) rfl rfl <| w_done ?_
 obtain rfl := sj he
 refine w_return fn_46 rs_46 (.tmp (v := .bool ((decide (m.f_Kind = 2)) || (decide (m.f_Kind = 3)))) rfl .nil) <| ⟨⟨[_], rfl⟩, hle, rfl⟩
noncomputable def model_Name.C : Code := (Tryd.f47.body).getD .skip
def model_Name.out (r : ByteArray) (H : Hp) (v : Value) : Prop := v = .string r
noncomputable def model_Name.f (k : Nat) (kind : Int) : Option ByteArray := if kind = 0 then (some (str_1)) else (if kind = 1 then (some (str_2)) else (if kind = 2 then (some (str_3)) else (if kind = 3 then (some (str_4)) else (some (str_0)))))
theorem model_Name.mono : ∀ k y0, LeO (model_Name.f k y0) (model_Name.f (k + 1) y0) := fun k _ => by unfold model_Name.f; exact (LeO.ite (LeO.refl _) (LeO.ite (LeO.refl _) (LeO.ite (LeO.refl _) (LeO.ite (LeO.refl _) (LeO.refl _)))))
theorem model_Name.calls (k : Nat) {H : Hp} {L : Items} {kind : Int} {r : ByteArray} (he : model_Name.f k kind = some r) : Ct Tryd.prog 47 ⟨[.int .i64 kind]⟩ H L (fun v H' L' => L = L' ∧ H = H' ∧ v = .string r) := by
 refine ct_outs (O := model_Name.out r) (fun _ _ h => h) ?_
 have hle : H.le H := .refl _
 unfold model_Name.f at he
 refine ct_enter (args := [.int .i64 kind]) fn_47 rfl nt_47 rfl <| wR rfl <| wA (.string str_0) rfl rfl <| wE <| wR rfl <| wM (.int .i64 kind) rfl rfl <| w_done <| w_block <| w_seq ?_
 refine w_region rfl <| w_d rfl (d_eql rfl rfl) <| wA (.bool (decide (kind = 0))) rfl rfl <| w_done ?_
 rcases its he with ⟨c1, he⟩ | ⟨c1, he⟩
 ·
  refine w_then rfl (dt c1) <| wR rfl <| wA (.string str_1) rfl rfl <| w_done ?_
  obtain rfl := sj he
  refine w_return fn_47 rs_47 (.tmp (v := .string str_1) rfl .nil) <| ⟨⟨[], rfl⟩, hle, rfl⟩
 ·
  refine w_else rfl (df c1) <| wR rfl <| w_d rfl (d_eql rfl rfl) <| wA (.bool (decide (kind = 1))) rfl rfl <| w_done ?_
  rcases its he with ⟨c2, he⟩ | ⟨c2, he⟩
  ·
   refine w_then rfl (dt c2) <| wR rfl <| wA (.string str_2) rfl rfl <| w_done ?_
   obtain rfl := sj he
   refine w_return fn_47 rs_47 (.tmp (v := .string str_2) rfl .nil) <| ⟨⟨[], rfl⟩, hle, rfl⟩
  ·
   refine w_else rfl (df c2) <| wR rfl <| w_d rfl (d_eql rfl rfl) <| wA (.bool (decide (kind = 2))) rfl rfl <| w_done ?_
   rcases its he with ⟨c3, he⟩ | ⟨c3, he⟩
   ·
    refine w_then rfl (dt c3) <| wR rfl <| wA (.string str_3) rfl rfl <| w_done ?_
    obtain rfl := sj he
    refine w_return fn_47 rs_47 (.tmp (v := .string str_3) rfl .nil) <| ⟨⟨[], rfl⟩, hle, rfl⟩
   ·
    refine w_else rfl (df c3) <| wR rfl <| w_d rfl (d_eql rfl rfl) <| wA (.bool (decide (kind = 3))) rfl rfl <| w_done ?_
    rcases its he with ⟨c4, he⟩ | ⟨c4, he⟩
    ·
     refine w_then rfl (dt c4) <| wR rfl <| wA (.string str_4) rfl rfl <| w_done ?_
     obtain rfl := sj he
     refine w_return fn_47 rs_47 (.tmp (v := .string str_4) rfl .nil) <| ⟨⟨[], rfl⟩, hle, rfl⟩
    ·
     refine w_else rfl (df c4) <| w_skip <| w_inBlock <| wR rfl <| wA (.string str_0) rfl rfl <| w_done ?_
     obtain rfl := sj he
     refine w_return fn_47 rs_47 (.tmp (v := .string str_0) rfl .nil) <| ⟨⟨[], rfl⟩, hle, rfl⟩
noncomputable def model_Check.C : Code := (Tryd.f39.body).getD .skip
def model_Check.out (r : (Option Int)) (H : Hp) (v : Value) : Prop := v = errV 76 r
abbrev model_Check.R (H0 : Hp) (L : Items) (r : (Option Int)) := fR H0 L (model_Check.out r)
noncomputable def model_Check.j1 (k : Nat)  (m_0 : Int) (m_1 : Int) (m_2 : Int) (fast : Bool) : Option (Option Int) := (model_Name.f k m_0).bind fun y10 => if ((((decide (y10 = str_0)) || (!fast)) || (decide (m_2 < 1))) || (decide (1073741824 < m_2))) = true then (some (some 1)) else (some (none))
noncomputable def model_Check.f (k : Nat) (m : model_Model) : Option (Option Int) := (model_Model_turns.f k m).bind fun y2 => if y2 = true then (model_Check.j1 k m.f_Kind m.f_Rate m.f_Noise ((decide (1048576 ≤ m.f_Rate)) && (decide (m.f_Rate ≤ 268435456)))) else (model_Check.j1 k m.f_Kind m.f_Rate m.f_Noise (decide (m.f_Rate = 0)))
theorem model_Check.j1_mono {k : Nat} : ∀ y0 y1 y2 y3, LeO (model_Check.j1 k y0 y1 y2 y3) (model_Check.j1 (k + 1) y0 y1 y2 y3) := fun _ _ _ _ => (LeO.bind (model_Name.mono k _) fun _ => LeO.ite (LeO.refl _) (LeO.refl _))
theorem model_Check.mono : ∀ k y0, LeO (model_Check.f k y0) (model_Check.f (k + 1) y0) := fun k _ => by unfold model_Check.f; exact (LeO.bind (model_Model_turns.mono k _) fun _ => LeO.ite (model_Check.j1_mono (k := k)  _ _ _ _) (model_Check.j1_mono (k := k)  _ _ _ _))
noncomputable def model_Check.Kj1 : List Item := .code (seqR (seqR (seqR model_Check.C))) :: []
theorem model_Check.j1_ok {k : Nat} {H0 H : Hp} {L : Items} {r : (Option Int)} {jk_ : Nat → Value} {m_0 : Int} {m_1 : Int} {m_2 : Int} {fast : Bool} {b_m : Nat} (hle : H0.le H) (he : model_Check.j1 k m_0 m_1 m_2 fast = some r) : Wp Tryd.prog 39 36 model_Check.Kj1 (upd (upd (upd jk_ 1 (.pointer (some ⟨b_m, 0, none⟩))) 2 (errV 76 none)) 3 (.bool fast)) H (some (b_m, .cells ⟨[.int .i64 m_0, .int .i64 m_1, .int .i64 m_2]⟩ 66 (0, 0)) :: L) (model_Check.R H0 L r) := by
 unfold model_Check.j1 at he
 unfold model_Check.Kj1
 refine w_seq <| wR rfl <| w_d rfl (d_fld (o' := 0) Tryd.underlying66 rfl sz3 rfl rfl rfl) <| wL (.int .i64 m_0) ty3 rfl rfl .here rfl rfl ?_
 obtain ⟨y10, hy11, he⟩ := bs he
 refine w_d rfl (call_d (o_call co47 (vs := [.int .i64 m_0]) rfl (model_Name.calls k hy11))) <| w_d rfl (d_eqs rfl rfl) <| wM (.bool (decide (y10 = str_0))) rfl rfl <| w_g (g := !(decide (y10 = str_0))) rfl rfl rfl wn_f (fun g14 => d_move (v := .bool fast) rfl) <| w_g (g := !(decide (y10 = str_0))) rfl rfl rfl wn_f (fun g15 => d_not (b := fast) (cvt g15)) <| w_d rfl (d_or' (b := (decide (y10 = str_0))) (p := (!fast)) rfl rfl rfl) <| wM (.bool ((decide (y10 = str_0)) || (!fast))) rfl rfl <| w_g (g := !((decide (y10 = str_0)) || (!fast))) rfl rfl rfl wn_f (fun g16 => d_fld (o' := 2) Tryd.underlying66 rfl sz2 rfl rfl rfl) <| w_g (g := !((decide (y10 = str_0)) || (!fast))) rfl rfl rfl wn_f (fun g17 => d_loado (v := .int .i64 m_2) ty2 (cvt g17) .here rfl rfl rfl rfl) <| w_g (g := !((decide (y10 = str_0)) || (!fast))) rfl rfl rfl wn_f (fun g18 => d_lss (cvt g18) rfl) <| w_d rfl (d_or' (b := ((decide (y10 = str_0)) || (!fast))) (p := (decide (m_2 < 1))) rfl rfl rfl) <| wM (.bool (((decide (y10 = str_0)) || (!fast)) || (decide (m_2 < 1)))) rfl rfl ?_
 refine w_g (g := !(((decide (y10 = str_0)) || (!fast)) || (decide (m_2 < 1)))) rfl rfl rfl wn_f (fun g19 => d_fld (o' := 2) Tryd.underlying66 rfl sz2 rfl rfl rfl) <| w_g (g := !(((decide (y10 = str_0)) || (!fast)) || (decide (m_2 < 1)))) rfl rfl rfl wn_f (fun g20 => d_loado (v := .int .i64 m_2) ty2 (cvt g20) .here rfl rfl rfl rfl) <| w_g (g := !(((decide (y10 = str_0)) || (!fast)) || (decide (m_2 < 1)))) rfl rfl rfl wn_f (fun g21 => d_gtr (cvt g21) rfl) <| w_d rfl (d_or' (b := (((decide (y10 = str_0)) || (!fast)) || (decide (m_2 < 1)))) (p := (decide (1073741824 < m_2))) rfl rfl rfl) <| w_done ?_
 rcases its he with ⟨c22, he⟩ | ⟨c22, he⟩
 ·
  refine w_then rfl c22 <| wR rfl <| w_d rfl (d_iface (v := .int .i64 1) Tryd.underlying76 rfl rfl) <| wA (errV 76 (some 1)) rfl rfl <| w_done ?_
  obtain rfl := sj he
  refine w_return fn_39 rs_39 (.tmp (v := errV 76 (some 1)) rfl .nil) <| ⟨⟨[_], rfl⟩, hle, rfl⟩
 ·
  refine w_else rfl (Bool.eq_false_iff.2 c22) <| w_skip <| wR rfl <| wA (errV 76 none) rfl rfl <| w_done ?_
  obtain rfl := sj he
  refine w_return fn_39 rs_39 (.tmp (v := errV 76 none) rfl .nil) <| ⟨⟨[_], rfl⟩, hle, rfl⟩
theorem model_Check.calls (k : Nat) {H : Hp} {L : Items} {m : model_Model} {r : (Option Int)} (he : model_Check.f k m = some r) : Ct Tryd.prog 39 ⟨[.agg ⟨[.int .i64 m.f_Kind, .int .i64 m.f_Rate, .int .i64 m.f_Noise]⟩]⟩ H L (fun v H' L' => L = L' ∧ H = H' ∧ v = errV 76 r) := by
 refine ct_outs (O := model_Check.out r) (fun _ _ h => h) ?_
 have hle : H.le H := .refl _
 unfold model_Check.f at he
 refine ct_enter (args := [.agg ⟨[.int .i64 m.f_Kind, .int .i64 m.f_Rate, .int .i64 m.f_Noise]⟩]) fn_39 rfl nt_39 rfl <| wR rfl <| w_a rfl (o_box (v := .agg ⟨[.int .i64 m.f_Kind, .int .i64 m.f_Rate, .int .i64 m.f_Noise]⟩) rfl rfl) ?_
 rintro _ _ _ ⟨b1, rfl, rfl, rfl⟩
 refine wA (errV 76 none) rfl rfl <| wQ rfl <| w_d rfl (d_fld (o' := 1) Tryd.underlying66 rfl sz2 rfl rfl rfl) <| wL (.int .i64 m.f_Rate) ty2 rfl rfl .here rfl rfl <| w_d rfl (d_eql rfl rfl) <| wA (.bool (decide (m.f_Rate = 0))) rfl rfl <| wE <| wR rfl ?_
 refine wL (.agg ⟨[.int .i64 m.f_Kind, .int .i64 m.f_Rate, .int .i64 m.f_Noise]⟩) ty66 rfl rfl .here rfl rfl ?_
 obtain ⟨y2, hy3, he⟩ := bs he
 refine w_d rfl (call_d (o_call co46 (vs := [.agg ⟨[.int .i64 m.f_Kind, .int .i64 m.f_Rate, .int .i64 m.f_Noise]⟩]) rfl (model_Model_turns.calls k (m := m) hy3))) <| w_done ?_
 rcases its he with ⟨c6, he⟩ | ⟨c6, he⟩
 ·
  refine w_then rfl c6 <| w_region rfl <| w_d rfl (d_fld (o' := 1) Tryd.underlying66 rfl sz2 rfl rfl rfl) <| wL (.int .i64 m.f_Rate) ty2 rfl rfl .here rfl rfl <| w_d rfl (d_geq rfl rfl) <| wM (.bool (decide (1048576 ≤ m.f_Rate))) rfl rfl <| w_g (g := decide (1048576 ≤ m.f_Rate)) rfl rfl rfl wn_t (fun g7 => d_fld (o' := 1) Tryd.underlying66 rfl sz2 rfl rfl rfl) <| w_g (g := decide (1048576 ≤ m.f_Rate)) rfl rfl rfl wn_t (fun g8 => d_loado (v := .int .i64 m.f_Rate) ty2 (cvt g8) .here rfl rfl rfl rfl) <| w_g (g := decide (1048576 ≤ m.f_Rate)) rfl rfl rfl wn_t (fun g9 => d_leq (cvt g9) rfl) <| w_d rfl (d_and' (b := (decide (1048576 ≤ m.f_Rate))) (p := (decide (m.f_Rate ≤ 268435456))) rfl rfl rfl) <| wA (.bool ((decide (1048576 ≤ m.f_Rate)) && (decide (m.f_Rate ≤ 268435456)))) rfl rfl <| w_done ?_
  refine w_sl 1 (.pointer (some ⟨b1, 0, none⟩)) rfl <| w_sl 2 (errV 76 none) rfl <| w_sl 3 (.bool ((decide (1048576 ≤ m.f_Rate)) && (decide (m.f_Rate ≤ 268435456)))) rfl <| model_Check.j1_ok (k := k) hle he
 ·
  refine w_else rfl (Bool.eq_false_iff.2 c6) <| w_skip <| w_sl 1 (.pointer (some ⟨b1, 0, none⟩)) rfl <| w_sl 2 (errV 76 none) rfl <| w_sl 3 (.bool (decide (m.f_Rate = 0))) rfl <| model_Check.j1_ok (k := k) hle he
noncomputable def chance_sized.C : Code := (Tryd.f48.body).getD .skip
def chance_sized.out (r : Bool) (H : Hp) (v : Value) : Prop := v = .bool r
noncomputable def chance_sized.f (k : Nat) (n : Int) : Option Bool := some ((decide (1 ≤ n)) && (decide (n ≤ 4)))
theorem chance_sized.mono : ∀ k y0, LeO (chance_sized.f k y0) (chance_sized.f (k + 1) y0) := fun k _ => by unfold chance_sized.f; exact (LeO.refl _)
theorem chance_sized.calls (k : Nat) {H : Hp} {L : Items} {n : Int} {r : Bool} (he : chance_sized.f k n = some r) : Ct Tryd.prog 48 ⟨[.int .i64 n]⟩ H L (fun v H' L' => L = L' ∧ H = H' ∧ v = .bool r) := by
 refine ct_outs (O := chance_sized.out r) (fun _ _ h => h) ?_
 have hle : H.le H := .refl _
 unfold chance_sized.f at he
 refine ct_enter (args := [.int .i64 n]) fn_48 rfl nt_48 rfl <| wR rfl <| wA (.bool false) rfl rfl <| wQ rfl <| wM (.int .i64 n) rfl rfl <| w_d rfl (d_geq rfl rfl) <| wM (.bool (decide (1 ≤ n))) rfl rfl <| w_g (g := decide (1 ≤ n)) rfl rfl rfl wn_t (fun g1 => d_move (v := .int .i64 n) rfl) <| w_g (g := decide (1 ≤ n)) rfl rfl rfl wn_t (fun g2 => d_leq (cvt g2) rfl) ?_
 refine w_d rfl (d_and' (b := (decide (1 ≤ n))) (p := (decide (n ≤ 4))) rfl rfl rfl) <| wA (.bool ((decide (1 ≤ n)) && (decide (n ≤ 4)))) rfl rfl <| w_done ?_
 obtain rfl := sj he
 refine w_return fn_48 rs_48 (.tmp (v := .bool ((decide (1 ≤ n)) && (decide (n ≤ 4)))) rfl .nil) <| ⟨⟨[], rfl⟩, hle, rfl⟩
noncomputable def chance_floored.C : Code := (Tryd.f49.body).getD .skip
def chance_floored.out (r : Bool) (H : Hp) (v : Value) : Prop := v = .bool r
noncomputable def chance_floored.f (k : Nat) (floor : Int) : Option Bool := some ((decide (0 ≤ floor)) && (decide (floor ≤ 67108864)))
theorem chance_floored.mono : ∀ k y0, LeO (chance_floored.f k y0) (chance_floored.f (k + 1) y0) := fun k _ => by unfold chance_floored.f; exact (LeO.refl _)
theorem chance_floored.calls (k : Nat) {H : Hp} {L : Items} {floor : Int} {r : Bool} (he : chance_floored.f k floor = some r) : Ct Tryd.prog 49 ⟨[.int .i64 floor]⟩ H L (fun v H' L' => L = L' ∧ H = H' ∧ v = .bool r) := by
 refine ct_outs (O := chance_floored.out r) (fun _ _ h => h) ?_
 have hle : H.le H := .refl _
 unfold chance_floored.f at he
 refine ct_enter (args := [.int .i64 floor]) fn_49 rfl nt_49 rfl <| wR rfl <| wA (.bool false) rfl rfl <| wQ rfl <| wM (.int .i64 floor) rfl rfl <| w_d rfl (d_geq rfl rfl) <| wM (.bool (decide (0 ≤ floor))) rfl rfl <| w_g (g := decide (0 ≤ floor)) rfl rfl rfl wn_t (fun g1 => d_move (v := .int .i64 floor) rfl) <| w_g (g := decide (0 ≤ floor)) rfl rfl rfl wn_t (fun g2 => d_leq (cvt g2) rfl) ?_
 refine w_d rfl (d_and' (b := (decide (0 ≤ floor))) (p := (decide (floor ≤ 67108864))) rfl rfl rfl) <| wA (.bool ((decide (0 ≤ floor)) && (decide (floor ≤ 67108864)))) rfl rfl <| w_done ?_
 obtain rfl := sj he
 refine w_return fn_49 rs_49 (.tmp (v := .bool ((decide (0 ≤ floor)) && (decide (floor ≤ 67108864)))) rfl .nil) <| ⟨⟨[], rfl⟩, hle, rfl⟩
noncomputable def chance_Check.C : Code := (Tryd.f40.body).getD .skip
def chance_Check.out (r : (Option Int)) (H : Hp) (v : Value) : Prop := v = errV 76 r
abbrev chance_Check.R (H0 : Hp) (L : Items) (r : (Option Int)) := fR H0 L (chance_Check.out r)
structure chance_Check.Hs where
 l0 : Int → (Option Int) → Int → (List Int) → Int → Int → Option (Option Int)
noncomputable def chance_Check.b0 (k : Nat) (h : chance_Check.Hs)  (floor : Int) (t4 : Option Int) (left : Int) (t18 : List Int) (t19 : Int) (t20 : Int) : Option (Option Int) := if t20 < t19 then (if (0 : Int) ≤ t20 ∧ t20 < (t18.length : Int) then (if ((decide ((rd t18 t20) < floor)) || (decide (left < (rd t18 t20)))) = true then (some (some 1)) else (h.l0 floor t4 (w64 (left - (rd t18 t20))) t18 t19 (w64 (t20 + 1)))) else none) else (if left = 0 then (some (none)) else (some (some 1)))
noncomputable def chance_Check.hs : Nat → chance_Check.Hs
 | 0 => ⟨fun _ _ _ _ _ _ => none⟩
 | k + 1 => ⟨fun x0 x1 x2 x3 x4 x5 => chance_Check.b0 k (chance_Check.hs k) x0 x1 x2 x3 x4 x5⟩
noncomputable def chance_Check.f (k : Nat) (l : List Int) (floor : Int) : Option (Option Int) := (fun h : chance_Check.Hs => (chance_sized.f k (l.length : Int)).bind fun y1 => (gd (!(!y1)) (chance_floored.f k floor) (false)).bind fun y7 => if ((!y1) || (!y7)) = true then (some (some 1)) else (h.l0 floor none 1073741824 l (l.length : Int) 0)) (chance_Check.hs k)
structure chance_Check.LE (h h' : chance_Check.Hs) : Prop where
 l0 : ∀ y0 y1 y2 y3 y4 y5, LeO (h.l0 y0 y1 y2 y3 y4 y5) (h'.l0 y0 y1 y2 y3 y4 y5)
theorem chance_Check.b0_mono {k : Nat} {h h' : chance_Check.Hs} (hl : chance_Check.LE h h') : ∀ y0 y1 y2 y3 y4 y5, LeO (chance_Check.b0 k h y0 y1 y2 y3 y4 y5) (chance_Check.b0 (k + 1) h' y0 y1 y2 y3 y4 y5) := fun _ _ _ _ _ _ => (LeO.ite (LeO.ite (LeO.ite (LeO.refl _) (hl.l0 _ _ _ _ _ _)) (LeO.refl _)) (LeO.ite (LeO.refl _) (LeO.refl _)))
theorem chance_Check.hs_mono : ∀ k, chance_Check.LE (chance_Check.hs k) (chance_Check.hs (k + 1))
 | 0 => ⟨fun _ _ _ _ _ _ => LeO.none _⟩
 | k + 1 => ⟨chance_Check.b0_mono (k := k) (chance_Check.hs_mono k)⟩
theorem chance_Check.mono : ∀ k y0 y1, LeO (chance_Check.f k y0 y1) (chance_Check.f (k + 1) y0 y1) := fun k _ _ => have hl := chance_Check.hs_mono k; by unfold chance_Check.f; exact (LeO.bind (chance_sized.mono k _) fun _ => LeO.bind (LeO.gd (chance_floored.mono k _)) fun _ => LeO.ite (LeO.refl _) (hl.l0 _ _ _ _ _ _))
noncomputable def chance_Check.Kl0 : List Item := .code (lopB (blkB (seqR (seqL (seqR (seqR (seqR chance_Check.C))))))) :: .inLoop (lopB (blkB (seqR (seqL (seqR (seqR (seqR chance_Check.C))))))) :: .inBlock 0 :: .code (seqR (seqR (seqR (seqR chance_Check.C)))) :: []
structure chance_Check.OK (h : chance_Check.Hs) : Prop where
 l0 : ∀ {H0 H : Hp} {L : Items} {r : (Option Int)} {jk_ : Nat → Value} {floor : Int} {t4 : Option Int} {left : Int} {t18 : List Int} {t19 : Int} {t20 : Int} {v_t18 : Value} (_ : H0.le H) (_he : h.l0 floor t4 left t18 t19 t20 = some r) (_h_t18 : Src kI64 H L v_t18 t18), Wp Tryd.prog 40 40 chance_Check.Kl0 (upd (upd (upd (upd (upd (upd jk_ 1 (.int .i64 floor)) 4 (errV 76 t4)) 5 (.int .i64 left)) 18 (v_t18)) 19 (.int .i64 t19)) 20 (.int .i64 t20)) H (L) (chance_Check.R H0 L r)
theorem chance_Check.b0_ok {k : Nat} {h : chance_Check.Hs} (hh : chance_Check.OK h) {H0 H : Hp} {L : Items} {r : (Option Int)} {jk_ : Nat → Value} {floor : Int} {t4 : Option Int} {left : Int} {t18 : List Int} {t19 : Int} {t20 : Int} {v_t18 : Value} (hle : H0.le H) (he : chance_Check.b0 k h floor t4 left t18 t19 t20 = some r) (h_t18 : Src kI64 H L v_t18 t18) : Wp Tryd.prog 40 40 chance_Check.Kl0 (upd (upd (upd (upd (upd (upd jk_ 1 (.int .i64 floor)) 4 (errV 76 t4)) 5 (.int .i64 left)) 18 (v_t18)) 19 (.int .i64 t19)) 20 (.int .i64 t20)) H (L) (chance_Check.R H0 L r) := by
 unfold chance_Check.b0 at he
 unfold chance_Check.Kl0
 refine wR rfl <| w_d rfl (d_lss rfl rfl) <| wE ?_
 rcases its he with ⟨c13, he⟩ | ⟨c13, he⟩
 ·
  refine w_then rfl (dt c13) <| w_skip <| w_seq <| w_block <| wR rfl ?_
  obtain ⟨c14, he⟩ := rq he
  refine w_d rfl (d_index (sz := 1) Tryd.underlying34 sz2 rfl h_t18 rfl c14) <| w_d rfl (d_ldint ty2 rfl h_t18 c14) <| wA (.int .i64 (rd t18 t20)) rfl rfl <| wE <| wR rfl <| wM (.int .i64 (rd t18 t20)) rfl rfl <| wM (.int .i64 floor) rfl rfl <| w_d rfl (d_lss rfl rfl) <| wM (.bool (decide ((rd t18 t20) < floor))) rfl rfl <| w_g (g := !(decide ((rd t18 t20) < floor))) rfl rfl rfl wn_f (fun g15 => d_move (v := .int .i64 (rd t18 t20)) rfl) ?_
  refine w_g (g := !(decide ((rd t18 t20) < floor))) rfl rfl rfl wn_f (fun g16 => d_move (v := .int .i64 left) rfl) <| w_g (g := !(decide ((rd t18 t20) < floor))) rfl rfl rfl wn_f (fun g17 => d_gtr (cvt g17) (cvt g17)) <| w_d rfl (d_or' (b := (decide ((rd t18 t20) < floor))) (p := (decide (left < (rd t18 t20)))) rfl rfl rfl) <| w_done ?_
  rcases its he with ⟨c18, he⟩ | ⟨c18, he⟩
  ·
   refine w_then rfl c18 <| wR rfl <| w_d rfl (d_iface (v := .int .i64 1) Tryd.underlying76 rfl rfl) <| wA (errV 76 (some 1)) rfl rfl <| w_done ?_
   obtain rfl := sj he
   refine w_return fn_40 rs_40 (.tmp (v := errV 76 (some 1)) rfl .nil) <| ⟨⟨[], rfl⟩, hle, rfl⟩
  ·
   refine w_else rfl (Bool.eq_false_iff.2 c18) <| w_skip <| w_region rfl <| wM (.int .i64 left) rfl rfl <| wM (.int .i64 (rd t18 t20)) rfl rfl <| w_d rfl (d_sub (c := w64 (left - (rd t18 t20))) rfl rfl rfl) <| wA (.int .i64 (w64 (left - (rd t18 t20)))) rfl rfl <| w_done <| w_inBlock <| w_region rfl <| w_d rfl (d_add (c := w64 (t20 + 1)) rfl rfl rfl) <| wM (.int .i64 (w64 (t20 + 1))) rfl rfl ?_
   refine w_done <| w_inLoop <| w_sl 1 (.int .i64 floor) rfl <| w_sl 4 (errV 76 t4) rfl <| w_sl 5 (.int .i64 (w64 (left - (rd t18 t20)))) rfl <| w_sl 18 (v_t18) rfl <| w_sl 19 (.int .i64 t19) rfl <| w_sl 20 (.int .i64 (w64 (t20 + 1))) rfl <| hh.l0 hle he h_t18
 ·
  refine w_else rfl (df c13) <| w_exit rfl <| w_seq <| wR rfl <| wM (.int .i64 left) rfl rfl <| w_d rfl (d_neq rfl rfl) <| w_done ?_
  rcases its he with ⟨c19, he⟩ | ⟨c19, he⟩
  ·
   refine w_else rfl (nd_t c19) <| w_skip <| wR rfl <| wA (errV 76 none) rfl rfl <| w_done ?_
   obtain rfl := sj he
   refine w_return fn_40 rs_40 (.tmp (v := errV 76 none) rfl .nil) <| ⟨⟨[], rfl⟩, hle, rfl⟩
  ·
   refine w_then rfl (nd_f c19) <| wR rfl <| w_d rfl (d_iface (v := .int .i64 1) Tryd.underlying76 rfl rfl) <| wA (errV 76 (some 1)) rfl rfl <| w_done ?_
   obtain rfl := sj he
   refine w_return fn_40 rs_40 (.tmp (v := errV 76 (some 1)) rfl .nil) <| ⟨⟨[], rfl⟩, hle, rfl⟩
theorem chance_Check.ok : ∀ k, chance_Check.OK (chance_Check.hs k)
 | 0 => ⟨(by intros; exact nomatch (show none = some _ from by assumption))⟩
 | k + 1 => ⟨chance_Check.b0_ok (k := k) (chance_Check.ok k)⟩
theorem chance_Check.calls (k : Nat) {H : Hp} {L : Items} {l : List Int} {floor : Int} {v0_l : Value} {r : (Option Int)} (he : chance_Check.f k l floor = some r) (h0_l : Src kI64 H L v0_l l) : Ct Tryd.prog 40 ⟨[v0_l, .int .i64 floor]⟩ H L (fun v H' L' => L = L' ∧ H = H' ∧ v = errV 76 r) := by
 refine ct_outs (O := chance_Check.out r) (fun _ _ h => h) ?_
 have hle : H.le H := .refl _
 have hh := chance_Check.ok k
 unfold chance_Check.f at he
 refine ct_enter (args := [v0_l, .int .i64 floor]) fn_40 rfl nt_40 rfl <| wR rfl <| wA (errV 76 none) rfl rfl <| wE <| wR rfl <| wM v0_l rfl rfl <| w_d rfl (d_len Tryd.underlying34 rfl h0_l) ?_
 obtain ⟨y1, hy2, he⟩ := bs he
 refine w_d rfl (call_d (o_call co48 (vs := [.int .i64 (l.length : Int)]) rfl (chance_sized.calls k hy2))) <| w_d rfl (d_not (b := y1) rfl) <| wM (.bool (!y1)) rfl rfl <| w_g (g := !(!y1)) rfl rfl rfl wn_f (fun g5 => d_move (v := .int .i64 floor) rfl) ?_
 obtain ⟨y7, hy8, he⟩ := bs he
 refine w_g (g := !(!y1)) rfl rfl rfl wn_f (fun g6 => call_d (o_call co49 (vs := [.int .i64 floor]) (acons (cvt g6) (anil)) (chance_floored.calls k (gd_t g6 hy8)))) <| w_g (g := !(!y1)) rfl rfl rfl wn_f (fun g11 => d_not (b := y7) (cvt g11)) <| w_d rfl (d_or' (b := (!y1)) (p := (!y7)) rfl rfl rfl) <| w_done ?_
 rcases its he with ⟨c12, he⟩ | ⟨c12, he⟩
 ·
  refine w_then rfl c12 <| wR rfl <| w_d rfl (d_iface (v := .int .i64 1) Tryd.underlying76 rfl rfl) <| wA (errV 76 (some 1)) rfl rfl <| w_done ?_
  obtain rfl := sj he
  refine w_return fn_40 rs_40 (.tmp (v := errV 76 (some 1)) rfl .nil) <| ⟨⟨[], rfl⟩, hle, rfl⟩
 ·
  refine w_else rfl (Bool.eq_false_iff.2 c12) <| w_skip <| wR rfl <| wA (.int .i64 1073741824) rfl rfl <| wE <| wR rfl <| wM v0_l rfl rfl <| w_d rfl (d_len Tryd.underlying34 rfl h0_l) <| wM (.int .i64 0) rfl rfl ?_
  refine w_done <| w_block <| w_loop <| w_sl 1 (.int .i64 floor) rfl <| w_sl 4 (errV 76 none) rfl <| w_sl 5 (.int .i64 1073741824) rfl <| w_sl 18 (v0_l) rfl <| w_sl 19 (.int .i64 (l.length : Int)) rfl <| w_sl 20 (.int .i64 0) rfl <| hh.l0 hle he h0_l
noncomputable def imm_Check.C : Code := (Tryd.f26.body).getD .skip
def imm_Check.out (r : (Option Int)) (H : Hp) (v : Value) : Prop := v = errV 76 r
abbrev imm_Check.R (H0 : Hp) (L : Items) (r : (Option Int)) := fR H0 L (imm_Check.out r)
structure imm_Check.Hs where
 l0 : (List model_Model) → (List (List Int)) → Int → (Option Int) → Int → (List model_Model) → Int → Int → Option (Option Int)
noncomputable def imm_Check.b0 (k : Nat) (h : imm_Check.Hs)  (c_0 : List model_Model) (c_1 : List (List Int)) (c_2 : Int) (t2 : Option Int) (n : Int) (t34 : List model_Model) (t35 : Int) (t36 : Int) : Option (Option Int) := if t36 < t35 then (if (0 : Int) ≤ t36 ∧ t36 < (t34.length : Int) then ((model_Check.f k (rd t34 t36)).bind fun y21 => if (!y21.isSome) = true → (0 : Int) ≤ t36 ∧ t36 < (c_1.length : Int) then (if (!(y21.isSome || (!decide (((rd c_1 t36).length : Int) = n)))) = true → (0 : Int) ≤ t36 ∧ t36 < (c_1.length : Int) then ((gd (!(y21.isSome || (!decide (((rd c_1 t36).length : Int) = n)))) (chance_Check.f k (rd c_1 t36) 0) (none)).bind fun y47 => if ((y21.isSome || (!decide (((rd c_1 t36).length : Int) = n))) || y47.isSome) = true then (some (some 1)) else (h.l0 c_0 c_1 c_2 t2 n t34 t35 (w64 (t36 + 1)))) else none) else none) else none) else (some (none))
noncomputable def imm_Check.hs : Nat → imm_Check.Hs
 | 0 => ⟨fun _ _ _ _ _ _ _ _ => none⟩
 | k + 1 => ⟨fun x0 x1 x2 x3 x4 x5 x6 x7 => imm_Check.b0 k (imm_Check.hs k) x0 x1 x2 x3 x4 x5 x6 x7⟩
noncomputable def imm_Check.f (k : Nat) (c_ : imm_Conf) : Option (Option Int) := (fun h : imm_Check.Hs => if (((((decide ((c_.f_Models.length : Int) < 1)) || (decide (4 < (c_.f_Models.length : Int)))) || (!decide ((c_.f_Rows.length : Int) = (c_.f_Models.length : Int)))) || (decide (c_.f_Floor < 0))) || (decide (67108864 < c_.f_Floor))) = true then (some (some 1)) else (h.l0 c_.f_Models c_.f_Rows c_.f_Floor none (c_.f_Models.length : Int) c_.f_Models (c_.f_Models.length : Int) 0)) (imm_Check.hs k)
structure imm_Check.LE (h h' : imm_Check.Hs) : Prop where
 l0 : ∀ y0 y1 y2 y3 y4 y5 y6 y7, LeO (h.l0 y0 y1 y2 y3 y4 y5 y6 y7) (h'.l0 y0 y1 y2 y3 y4 y5 y6 y7)
theorem imm_Check.b0_mono {k : Nat} {h h' : imm_Check.Hs} (hl : imm_Check.LE h h') : ∀ y0 y1 y2 y3 y4 y5 y6 y7, LeO (imm_Check.b0 k h y0 y1 y2 y3 y4 y5 y6 y7) (imm_Check.b0 (k + 1) h' y0 y1 y2 y3 y4 y5 y6 y7) := fun _ _ _ _ _ _ _ _ => (LeO.ite (LeO.ite (LeO.bind (model_Check.mono k _) fun _ => LeO.ite (LeO.ite (LeO.bind (LeO.gd (chance_Check.mono k _ _)) fun _ => LeO.ite (LeO.refl _) (hl.l0 _ _ _ _ _ _ _ _)) (LeO.refl _)) (LeO.refl _)) (LeO.refl _)) (LeO.refl _))
theorem imm_Check.hs_mono : ∀ k, imm_Check.LE (imm_Check.hs k) (imm_Check.hs (k + 1))
 | 0 => ⟨fun _ _ _ _ _ _ _ _ => LeO.none _⟩
 | k + 1 => ⟨imm_Check.b0_mono (k := k) (imm_Check.hs_mono k)⟩
theorem imm_Check.mono : ∀ k y0, LeO (imm_Check.f k y0) (imm_Check.f (k + 1) y0) := fun k _ => have hl := imm_Check.hs_mono k; by unfold imm_Check.f; exact (LeO.ite (LeO.refl _) (hl.l0 _ _ _ _ _ _ _ _))
noncomputable def imm_Check.Kl0 : List Item := .code (lopB (blkB (seqR (seqL (seqR (seqR (seqR imm_Check.C))))))) :: .inLoop (lopB (blkB (seqR (seqL (seqR (seqR (seqR imm_Check.C))))))) :: .inBlock 0 :: .code (seqR (seqR (seqR (seqR imm_Check.C)))) :: []
structure imm_Check.OK (h : imm_Check.Hs) : Prop where
 l0 : ∀ {H0 H : Hp} {L : Items} {r : (Option Int)} {jk_ : Nat → Value} {c_0 : List model_Model} {c_1 : List (List Int)} {c_2 : Int} {t2 : Option Int} {n : Int} {t34 : List model_Model} {t35 : Int} {t36 : Int} {v_c_0 : Value} {v_c_1 : Value} {v_t34 : Value} {b_c_ : Nat} (_ : H0.le H) (_he : h.l0 c_0 c_1 c_2 t2 n t34 t35 t36 = some r) (_h_c_0 : Ro k_model_Model H v_c_0 c_0) (_h_c_1 : Ro (Kd.slice kI64) H v_c_1 c_1) (_h_t34 : Ro k_model_Model H v_t34 t34), Wp Tryd.prog 26 65 imm_Check.Kl0 (upd (upd (upd (upd (upd (upd jk_ 1 (.pointer (some ⟨b_c_, 0, none⟩))) 2 (errV 76 t2)) 3 (.int .i64 n)) 34 (v_t34)) 35 (.int .i64 t35)) 36 (.int .i64 t36)) H (some (b_c_, .cells ⟨[v_c_0, v_c_1, .int .i64 c_2]⟩ 38 (0, 0)) :: L) (imm_Check.R H0 L r)
theorem imm_Check.b0_ok {k : Nat} {h : imm_Check.Hs} (hh : imm_Check.OK h) {H0 H : Hp} {L : Items} {r : (Option Int)} {jk_ : Nat → Value} {c_0 : List model_Model} {c_1 : List (List Int)} {c_2 : Int} {t2 : Option Int} {n : Int} {t34 : List model_Model} {t35 : Int} {t36 : Int} {v_c_0 : Value} {v_c_1 : Value} {v_t34 : Value} {b_c_ : Nat} (hle : H0.le H) (he : imm_Check.b0 k h c_0 c_1 c_2 t2 n t34 t35 t36 = some r) (h_c_0 : Ro k_model_Model H v_c_0 c_0) (h_c_1 : Ro (Kd.slice kI64) H v_c_1 c_1) (h_t34 : Ro k_model_Model H v_t34 t34) : Wp Tryd.prog 26 65 imm_Check.Kl0 (upd (upd (upd (upd (upd (upd jk_ 1 (.pointer (some ⟨b_c_, 0, none⟩))) 2 (errV 76 t2)) 3 (.int .i64 n)) 34 (v_t34)) 35 (.int .i64 t35)) 36 (.int .i64 t36)) H (some (b_c_, .cells ⟨[v_c_0, v_c_1, .int .i64 c_2]⟩ 38 (0, 0)) :: L) (imm_Check.R H0 L r) := by
 unfold imm_Check.b0 at he
 unfold imm_Check.Kl0
 refine wR rfl <| w_d rfl (d_lss rfl rfl) <| wE ?_
 rcases its he with ⟨c16, he⟩ | ⟨c16, he⟩
 ·
  refine w_then rfl (dt c16) <| w_skip <| w_seq <| w_block <| wR rfl <| wM (.int .i64 t36) rfl rfl ?_
  obtain ⟨c17, he⟩ := rq he
  refine w_d rfl (d_index (sz := 3) Tryd.underlying36 sz66 rfl h_t34.src rfl c17) ?_
  obtain ⟨_, l18, r19⟩ := el_ro (kd := k_model_Model) h_t34 c17
  obtain ⟨rfl⟩ := k_model_Model_out r19
  refine w_d rfl (d_load (v := .agg ⟨[.int .i64 ((rd t34 t36).f_Kind), .int .i64 ((rd t34 t36).f_Rate), .int .i64 ((rd t34 t36).f_Noise)]⟩) (cs := [.int .i64 ((rd t34 t36).f_Kind), .int .i64 ((rd t34 t36).f_Rate), .int .i64 ((rd t34 t36).f_Noise)]) ty66 rfl rfl (by decide) (l18).lies rfl) <| w_a rfl (o_alloc zr66 rfl) ?_
  rintro _ _ _ ⟨b20, rfl, rfl, rfl⟩
  refine wA (.int .i64 t36) rfl rfl <| w_a0 rfl (o_store (v := .agg ⟨[.int .i64 ((rd t34 t36).f_Kind), .int .i64 ((rd t34 t36).f_Rate), .int .i64 ((rd t34 t36).f_Noise)]⟩) sz66 rfl rfl rfl rfl (oc rfl (oc rfl (oc rfl oz))) .here (.here u2)) ?_
  rintro _ _ _ ⟨rfl, rfl, rfl⟩
  refine wQ rfl <| wL (.agg ⟨[.int .i64 ((rd t34 t36).f_Kind), .int .i64 ((rd t34 t36).f_Rate), .int .i64 ((rd t34 t36).f_Noise)]⟩) ty66 rfl rfl .here rfl rfl ?_
  obtain ⟨y21, hy22, he⟩ := bs he
  refine w_d rfl (call_d (o_call co39 (vs := [.agg ⟨[.int .i64 ((rd t34 t36).f_Kind), .int .i64 ((rd t34 t36).f_Rate), .int .i64 ((rd t34 t36).f_Noise)]⟩]) rfl (model_Check.calls k (m := (rd t34 t36)) hy22))) <| w_d rfl (d_nenil (e := y21) Tryd.underlying45 rfl) <| wM (.bool y21.isSome) rfl rfl <| w_g (g := !y21.isSome) rfl rfl rfl wn_f (fun g25 => d_fld (o' := 1) Tryd.underlying38 rfl sz25 rfl rfl rfl) <| w_g (g := !y21.isSome) rfl rfl rfl wn_f (fun g26 => d_loado (v := v_c_1) ty25 (cvt g26) (.there .here) rfl rfl rfl rfl) <| w_g (g := !y21.isSome) rfl rfl rfl wn_f (fun g27 => d_move (v := .int .i64 t36) rfl) ?_
  obtain ⟨c29, he⟩ := rq he
  refine w_g (g := !y21.isSome) rfl rfl rfl wn_f (fun g28 => d_index (sz := 1) Tryd.underlying25 sz34 (cvt g28) h_c_1.src (cvt g28) (c29 g28)) ?_
  obtain ⟨v32, l31, h33⟩ : ∃ v32 : Value, ((!y21.isSome) = true → Cells H (pel v_c_1 t36 1) [v32]) ∧ ((!y21.isSome) = true → Ro kI64 H v32 (rd c_1 t36)) := if g_ : (!y21.isSome) = true then (by obtain ⟨_, l_, r_⟩ := el_ro (kd := (Kd.slice kI64)) h_c_1 (c29 g_); obtain ⟨v32, rfl, h33⟩ := r_; exact ⟨v32, fun _ => l_, fun _ => h33⟩) else ⟨undef, fun h_ => absurd h_ g_, fun h_ => absurd h_ g_⟩
  refine w_g (g := !y21.isSome) rfl rfl rfl wn_f (fun g30 => d_load (v := v32) (cs := [v32]) ty34 (cvt g30) rfl (by decide) ((l31 g30)).lies rfl) <| w_g (g := !y21.isSome) rfl rfl rfl wn_f (fun g34 => d_len Tryd.underlying34 (cvt g34) (h33 g34).src) <| w_g (g := !y21.isSome) rfl rfl rfl wn_f (fun g35 => d_move (v := .int .i64 n) rfl) <| w_g (g := !y21.isSome) rfl rfl rfl wn_f (fun g36 => d_neq (cvt g36) (cvt g36)) <| w_d rfl (d_or' (b := y21.isSome) (p := (!decide (((rd c_1 t36).length : Int) = n))) rfl rfl rfl) <| wM (.bool (y21.isSome || (!decide (((rd c_1 t36).length : Int) = n)))) rfl rfl <| w_g (g := !(y21.isSome || (!decide (((rd c_1 t36).length : Int) = n)))) rfl rfl rfl wn_f (fun g37 => d_fld (o' := 1) Tryd.underlying38 rfl sz25 rfl rfl rfl) <| w_g (g := !(y21.isSome || (!decide (((rd c_1 t36).length : Int) = n)))) rfl rfl rfl wn_f (fun g38 => d_loado (v := v_c_1) ty25 (cvt g38) (.there .here) rfl rfl rfl rfl) <| w_g (g := !(y21.isSome || (!decide (((rd c_1 t36).length : Int) = n)))) rfl rfl rfl wn_f (fun g39 => d_move (v := .int .i64 t36) rfl) ?_
  obtain ⟨c41, he⟩ := rq he
  refine w_g (g := !(y21.isSome || (!decide (((rd c_1 t36).length : Int) = n)))) rfl rfl rfl wn_f (fun g40 => d_index (sz := 1) Tryd.underlying25 sz34 (cvt g40) h_c_1.src (cvt g40) (c41 g40)) ?_
  obtain ⟨v44, l43, h45⟩ : ∃ v44 : Value, ((!(y21.isSome || (!decide (((rd c_1 t36).length : Int) = n)))) = true → Cells H (pel v_c_1 t36 1) [v44]) ∧ ((!(y21.isSome || (!decide (((rd c_1 t36).length : Int) = n)))) = true → Ro kI64 H v44 (rd c_1 t36)) := if g_ : (!(y21.isSome || (!decide (((rd c_1 t36).length : Int) = n)))) = true then (by obtain ⟨_, l_, r_⟩ := el_ro (kd := (Kd.slice kI64)) h_c_1 (c41 g_); obtain ⟨v44, rfl, h45⟩ := r_; exact ⟨v44, fun _ => l_, fun _ => h45⟩) else ⟨undef, fun h_ => absurd h_ g_, fun h_ => absurd h_ g_⟩
  refine w_g (g := !(y21.isSome || (!decide (((rd c_1 t36).length : Int) = n)))) rfl rfl rfl wn_f (fun g42 => d_load (v := v44) (cs := [v44]) ty34 (cvt g42) rfl (by decide) ((l43 g42)).lies rfl) ?_
  obtain ⟨y47, hy48, he⟩ := bs he
  refine w_g (g := !(y21.isSome || (!decide (((rd c_1 t36).length : Int) = n)))) rfl rfl rfl wn_f (fun g46 => call_d (o_call co40 (vs := [v44, .int .i64 0]) (acons (cvt g46) (acons rfl (anil))) (chance_Check.calls k (gd_t g46 hy48) ((h45 g46).src)))) <| w_g (g := !(y21.isSome || (!decide (((rd c_1 t36).length : Int) = n)))) rfl rfl rfl wn_f (fun g51 => d_nenil (e := y47) Tryd.underlying45 (cvt g51)) <| w_d rfl (d_or' (b := (y21.isSome || (!decide (((rd c_1 t36).length : Int) = n)))) (p := y47.isSome) rfl rfl rfl) <| w_done ?_
  rcases its he with ⟨c52, he⟩ | ⟨c52, he⟩
  ·
   refine w_then rfl c52 <| wR rfl <| w_d rfl (d_iface (v := .int .i64 1) Tryd.underlying76 rfl rfl) <| wA (errV 76 (some 1)) rfl rfl <| w_done ?_
   obtain rfl := sj he
   refine w_return fn_26 rs_26 (.tmp (v := errV 76 (some 1)) rfl .nil) <| ⟨⟨[_, _], rfl⟩, hle, rfl⟩
  ·
   refine w_else rfl (Bool.eq_false_iff.2 c52) <| w_skip <| w_inBlock <| w_region rfl <| w_d rfl (d_add (c := w64 (t36 + 1)) rfl rfl rfl) <| wM (.int .i64 (w64 (t36 + 1))) rfl rfl <| w_done <| w_inLoop <| w_del .here <| w_sl 1 (.pointer (some ⟨b_c_, 0, none⟩)) rfl <| w_sl 2 (errV 76 t2) rfl <| w_sl 3 (.int .i64 n) rfl ?_
   refine w_sl 34 (v_t34) rfl <| w_sl 35 (.int .i64 t35) rfl <| w_sl 36 (.int .i64 (w64 (t36 + 1))) rfl <| hh.l0 hle he h_c_0 h_c_1 h_t34
 ·
  refine w_else rfl (df c16) <| w_exit rfl <| wR rfl <| wA (errV 76 none) rfl rfl <| w_done ?_
  obtain rfl := sj he
  refine w_return fn_26 rs_26 (.tmp (v := errV 76 none) rfl .nil) <| ⟨⟨[_], rfl⟩, hle, rfl⟩
theorem imm_Check.ok : ∀ k, imm_Check.OK (imm_Check.hs k)
 | 0 => ⟨(by intros; exact nomatch (show none = some _ from by assumption))⟩
 | k + 1 => ⟨imm_Check.b0_ok (k := k) (imm_Check.ok k)⟩
theorem imm_Check.calls (k : Nat) {H : Hp} {L : Items} {c_ : imm_Conf} {v0_c_ : Value} {v1_c_ : Value} {r : (Option Int)} (he : imm_Check.f k c_ = some r) (h0_c_ : Ro k_model_Model H v0_c_ c_.f_Models) (h1_c_ : Ro (Kd.slice kI64) H v1_c_ c_.f_Rows) : Ct Tryd.prog 26 ⟨[.agg ⟨[v0_c_, v1_c_, .int .i64 c_.f_Floor]⟩]⟩ H L (fun v H' L' => L = L' ∧ H = H' ∧ v = errV 76 r) := by
 refine ct_outs (O := imm_Check.out r) (fun _ _ h => h) ?_
 have hle : H.le H := .refl _
 have hh := imm_Check.ok k
 unfold imm_Check.f at he
 refine ct_enter (args := [.agg ⟨[v0_c_, v1_c_, .int .i64 c_.f_Floor]⟩]) fn_26 rfl nt_26 rfl <| wR rfl <| w_a rfl (o_box (v := .agg ⟨[v0_c_, v1_c_, .int .i64 c_.f_Floor]⟩) rfl rfl) ?_
 rintro _ _ _ ⟨b1, rfl, rfl, rfl⟩
 refine wA (errV 76 none) rfl rfl <| wQ rfl <| w_d rfl (d_fld (o' := 0) Tryd.underlying38 rfl sz36 rfl rfl rfl) <| wL v0_c_ ty36 rfl rfl .here rfl rfl <| w_d rfl (d_len Tryd.underlying36 rfl h0_c_.src) <| wA (.int .i64 (c_.f_Models.length : Int)) rfl rfl <| wE <| wR rfl ?_
 refine wM (.int .i64 (c_.f_Models.length : Int)) rfl rfl <| w_d rfl (d_lss rfl rfl) <| wM (.bool (decide ((c_.f_Models.length : Int) < 1))) rfl rfl <| w_g (g := !(decide ((c_.f_Models.length : Int) < 1))) rfl rfl rfl wn_f (fun g2 => d_move (v := .int .i64 (c_.f_Models.length : Int)) rfl) <| w_g (g := !(decide ((c_.f_Models.length : Int) < 1))) rfl rfl rfl wn_f (fun g3 => d_gtr (cvt g3) rfl) <| w_d rfl (d_or' (b := (decide ((c_.f_Models.length : Int) < 1))) (p := (decide (4 < (c_.f_Models.length : Int)))) rfl rfl rfl) <| wM (.bool ((decide ((c_.f_Models.length : Int) < 1)) || (decide (4 < (c_.f_Models.length : Int))))) rfl rfl <| w_g (g := !((decide ((c_.f_Models.length : Int) < 1)) || (decide (4 < (c_.f_Models.length : Int))))) rfl rfl rfl wn_f (fun g4 => d_fld (o' := 1) Tryd.underlying38 rfl sz25 rfl rfl rfl) <| w_g (g := !((decide ((c_.f_Models.length : Int) < 1)) || (decide (4 < (c_.f_Models.length : Int))))) rfl rfl rfl wn_f (fun g5 => d_loado (v := v1_c_) ty25 (cvt g5) .here rfl rfl rfl rfl) <| w_g (g := !((decide ((c_.f_Models.length : Int) < 1)) || (decide (4 < (c_.f_Models.length : Int))))) rfl rfl rfl wn_f (fun g6 => d_len Tryd.underlying25 (cvt g6) h1_c_.src) <| w_g (g := !((decide ((c_.f_Models.length : Int) < 1)) || (decide (4 < (c_.f_Models.length : Int))))) rfl rfl rfl wn_f (fun g7 => d_move (v := .int .i64 (c_.f_Models.length : Int)) rfl) <| w_g (g := !((decide ((c_.f_Models.length : Int) < 1)) || (decide (4 < (c_.f_Models.length : Int))))) rfl rfl rfl wn_f (fun g8 => d_neq (cvt g8) (cvt g8)) ?_
 refine w_d rfl (d_or' (b := ((decide ((c_.f_Models.length : Int) < 1)) || (decide (4 < (c_.f_Models.length : Int))))) (p := (!decide ((c_.f_Rows.length : Int) = (c_.f_Models.length : Int)))) rfl rfl rfl) <| wM (.bool (((decide ((c_.f_Models.length : Int) < 1)) || (decide (4 < (c_.f_Models.length : Int)))) || (!decide ((c_.f_Rows.length : Int) = (c_.f_Models.length : Int))))) rfl rfl <| w_g (g := !(((decide ((c_.f_Models.length : Int) < 1)) || (decide (4 < (c_.f_Models.length : Int)))) || (!decide ((c_.f_Rows.length : Int) = (c_.f_Models.length : Int))))) rfl rfl rfl wn_f (fun g9 => d_fld (o' := 2) Tryd.underlying38 rfl sz2 rfl rfl rfl) <| w_g (g := !(((decide ((c_.f_Models.length : Int) < 1)) || (decide (4 < (c_.f_Models.length : Int)))) || (!decide ((c_.f_Rows.length : Int) = (c_.f_Models.length : Int))))) rfl rfl rfl wn_f (fun g10 => d_loado (v := .int .i64 c_.f_Floor) ty2 (cvt g10) .here rfl rfl rfl rfl) <| w_g (g := !(((decide ((c_.f_Models.length : Int) < 1)) || (decide (4 < (c_.f_Models.length : Int)))) || (!decide ((c_.f_Rows.length : Int) = (c_.f_Models.length : Int))))) rfl rfl rfl wn_f (fun g11 => d_lss (cvt g11) rfl) <| w_d rfl (d_or' (b := (((decide ((c_.f_Models.length : Int) < 1)) || (decide (4 < (c_.f_Models.length : Int)))) || (!decide ((c_.f_Rows.length : Int) = (c_.f_Models.length : Int))))) (p := (decide (c_.f_Floor < 0))) rfl rfl rfl) <| wM (.bool ((((decide ((c_.f_Models.length : Int) < 1)) || (decide (4 < (c_.f_Models.length : Int)))) || (!decide ((c_.f_Rows.length : Int) = (c_.f_Models.length : Int)))) || (decide (c_.f_Floor < 0)))) rfl rfl <| w_g (g := !((((decide ((c_.f_Models.length : Int) < 1)) || (decide (4 < (c_.f_Models.length : Int)))) || (!decide ((c_.f_Rows.length : Int) = (c_.f_Models.length : Int)))) || (decide (c_.f_Floor < 0)))) rfl rfl rfl wn_f (fun g12 => d_fld (o' := 2) Tryd.underlying38 rfl sz2 rfl rfl rfl) <| w_g (g := !((((decide ((c_.f_Models.length : Int) < 1)) || (decide (4 < (c_.f_Models.length : Int)))) || (!decide ((c_.f_Rows.length : Int) = (c_.f_Models.length : Int)))) || (decide (c_.f_Floor < 0)))) rfl rfl rfl wn_f (fun g13 => d_loado (v := .int .i64 c_.f_Floor) ty2 (cvt g13) .here rfl rfl rfl rfl) <| w_g (g := !((((decide ((c_.f_Models.length : Int) < 1)) || (decide (4 < (c_.f_Models.length : Int)))) || (!decide ((c_.f_Rows.length : Int) = (c_.f_Models.length : Int)))) || (decide (c_.f_Floor < 0)))) rfl rfl rfl wn_f (fun g14 => d_gtr (cvt g14) rfl) <| w_d rfl (d_or' (b := ((((decide ((c_.f_Models.length : Int) < 1)) || (decide (4 < (c_.f_Models.length : Int)))) || (!decide ((c_.f_Rows.length : Int) = (c_.f_Models.length : Int)))) || (decide (c_.f_Floor < 0)))) (p := (decide (67108864 < c_.f_Floor))) rfl rfl rfl) <| w_done ?_
 rcases its he with ⟨c15, he⟩ | ⟨c15, he⟩
 ·
  refine w_then rfl c15 <| wR rfl <| w_d rfl (d_iface (v := .int .i64 1) Tryd.underlying76 rfl rfl) <| wA (errV 76 (some 1)) rfl rfl <| w_done ?_
  obtain rfl := sj he
  refine w_return fn_26 rs_26 (.tmp (v := errV 76 (some 1)) rfl .nil) <| ⟨⟨[_], rfl⟩, hle, rfl⟩
 ·
  refine w_else rfl (Bool.eq_false_iff.2 c15) <| w_skip <| w_seq <| wR rfl <| w_d rfl (d_fld (o' := 0) Tryd.underlying38 rfl sz36 rfl rfl rfl) <| wL v0_c_ ty36 rfl rfl .here rfl rfl <| w_d rfl (d_len Tryd.underlying36 rfl h0_c_.src) <| wM (.int .i64 0) rfl rfl <| w_done <| w_block <| w_loop ?_
  refine w_sl 1 (.pointer (some ⟨b1, 0, none⟩)) rfl <| w_sl 2 (errV 76 none) rfl <| w_sl 3 (.int .i64 (c_.f_Models.length : Int)) rfl <| w_sl 34 (v0_c_) rfl <| w_sl 35 (.int .i64 (c_.f_Models.length : Int)) rfl <| w_sl 36 (.int .i64 0) rfl <| hh.l0 hle he h0_c_ h1_c_ h0_c_
noncomputable def life_Check.C : Code := (Tryd.f27.body).getD .skip
def life_Check.out (r : (Option Int)) (H : Hp) (v : Value) : Prop := v = errV 76 r
noncomputable def life_Check.f (k : Nat) (r_ : life_Rule) : Option (Option Int) := if (((((decide (r_.f_Hits < 1)) || (decide (r_.f_Window < r_.f_Hits))) || (decide (16 < r_.f_Window))) || (decide (r_.f_Misses < 1))) || (decide (64 < r_.f_Misses))) = true then (some (some 1)) else (some (none))
theorem life_Check.mono : ∀ k y0, LeO (life_Check.f k y0) (life_Check.f (k + 1) y0) := fun k _ => by unfold life_Check.f; exact (LeO.ite (LeO.refl _) (LeO.refl _))
theorem life_Check.calls (k : Nat) {H : Hp} {L : Items} {r_ : life_Rule} {r : (Option Int)} (he : life_Check.f k r_ = some r) : Ct Tryd.prog 27 ⟨[.agg ⟨[.int .i64 r_.f_Hits, .int .i64 r_.f_Window, .int .i64 r_.f_Misses]⟩]⟩ H L (fun v H' L' => L = L' ∧ H = H' ∧ v = errV 76 r) := by
 refine ct_outs (O := life_Check.out r) (fun _ _ h => h) ?_
 have hle : H.le H := .refl _
 unfold life_Check.f at he
 refine ct_enter (args := [.agg ⟨[.int .i64 r_.f_Hits, .int .i64 r_.f_Window, .int .i64 r_.f_Misses]⟩]) fn_27 rfl nt_27 rfl <| wR rfl <| w_a rfl (o_box (v := .agg ⟨[.int .i64 r_.f_Hits, .int .i64 r_.f_Window, .int .i64 r_.f_Misses]⟩) rfl rfl) ?_
 rintro _ _ _ ⟨b1, rfl, rfl, rfl⟩
 refine wA (errV 76 none) rfl rfl <| wE <| wR rfl <| w_d rfl (d_fld (o' := 0) Tryd.underlying39 rfl sz3 rfl rfl rfl) <| wL (.int .i64 r_.f_Hits) ty3 rfl rfl .here rfl rfl <| w_d rfl (d_lss rfl rfl) <| wM (.bool (decide (r_.f_Hits < 1))) rfl rfl <| w_g (g := !(decide (r_.f_Hits < 1))) rfl rfl rfl wn_f (fun g2 => d_fld (o' := 0) Tryd.underlying39 rfl sz3 rfl rfl rfl) <| w_g (g := !(decide (r_.f_Hits < 1))) rfl rfl rfl wn_f (fun g3 => d_loado (v := .int .i64 r_.f_Hits) ty3 (cvt g3) .here rfl rfl rfl rfl) <| w_g (g := !(decide (r_.f_Hits < 1))) rfl rfl rfl wn_f (fun g4 => d_fld (o' := 1) Tryd.underlying39 rfl sz3 rfl rfl rfl) ?_
 refine w_g (g := !(decide (r_.f_Hits < 1))) rfl rfl rfl wn_f (fun g5 => d_loado (v := .int .i64 r_.f_Window) ty3 (cvt g5) .here rfl rfl rfl rfl) <| w_g (g := !(decide (r_.f_Hits < 1))) rfl rfl rfl wn_f (fun g6 => d_gtr (cvt g6) (cvt g6)) <| w_d rfl (d_or' (b := (decide (r_.f_Hits < 1))) (p := (decide (r_.f_Window < r_.f_Hits))) rfl rfl rfl) <| wM (.bool ((decide (r_.f_Hits < 1)) || (decide (r_.f_Window < r_.f_Hits)))) rfl rfl <| w_g (g := !((decide (r_.f_Hits < 1)) || (decide (r_.f_Window < r_.f_Hits)))) rfl rfl rfl wn_f (fun g7 => d_fld (o' := 1) Tryd.underlying39 rfl sz3 rfl rfl rfl) <| w_g (g := !((decide (r_.f_Hits < 1)) || (decide (r_.f_Window < r_.f_Hits)))) rfl rfl rfl wn_f (fun g8 => d_loado (v := .int .i64 r_.f_Window) ty3 (cvt g8) .here rfl rfl rfl rfl) <| w_g (g := !((decide (r_.f_Hits < 1)) || (decide (r_.f_Window < r_.f_Hits)))) rfl rfl rfl wn_f (fun g9 => d_gtr (cvt g9) rfl) <| w_d rfl (d_or' (b := ((decide (r_.f_Hits < 1)) || (decide (r_.f_Window < r_.f_Hits)))) (p := (decide (16 < r_.f_Window))) rfl rfl rfl) <| wM (.bool (((decide (r_.f_Hits < 1)) || (decide (r_.f_Window < r_.f_Hits))) || (decide (16 < r_.f_Window)))) rfl rfl <| w_g (g := !(((decide (r_.f_Hits < 1)) || (decide (r_.f_Window < r_.f_Hits))) || (decide (16 < r_.f_Window)))) rfl rfl rfl wn_f (fun g10 => d_fld (o' := 2) Tryd.underlying39 rfl sz3 rfl rfl rfl) <| w_g (g := !(((decide (r_.f_Hits < 1)) || (decide (r_.f_Window < r_.f_Hits))) || (decide (16 < r_.f_Window)))) rfl rfl rfl wn_f (fun g11 => d_loado (v := .int .i64 r_.f_Misses) ty3 (cvt g11) .here rfl rfl rfl rfl) <| w_g (g := !(((decide (r_.f_Hits < 1)) || (decide (r_.f_Window < r_.f_Hits))) || (decide (16 < r_.f_Window)))) rfl rfl rfl wn_f (fun g12 => d_lss (cvt g12) rfl) ?_
 refine w_d rfl (d_or' (b := (((decide (r_.f_Hits < 1)) || (decide (r_.f_Window < r_.f_Hits))) || (decide (16 < r_.f_Window)))) (p := (decide (r_.f_Misses < 1))) rfl rfl rfl) <| wM (.bool ((((decide (r_.f_Hits < 1)) || (decide (r_.f_Window < r_.f_Hits))) || (decide (16 < r_.f_Window))) || (decide (r_.f_Misses < 1)))) rfl rfl <| w_g (g := !((((decide (r_.f_Hits < 1)) || (decide (r_.f_Window < r_.f_Hits))) || (decide (16 < r_.f_Window))) || (decide (r_.f_Misses < 1)))) rfl rfl rfl wn_f (fun g13 => d_fld (o' := 2) Tryd.underlying39 rfl sz3 rfl rfl rfl) <| w_g (g := !((((decide (r_.f_Hits < 1)) || (decide (r_.f_Window < r_.f_Hits))) || (decide (16 < r_.f_Window))) || (decide (r_.f_Misses < 1)))) rfl rfl rfl wn_f (fun g14 => d_loado (v := .int .i64 r_.f_Misses) ty3 (cvt g14) .here rfl rfl rfl rfl) <| w_g (g := !((((decide (r_.f_Hits < 1)) || (decide (r_.f_Window < r_.f_Hits))) || (decide (16 < r_.f_Window))) || (decide (r_.f_Misses < 1)))) rfl rfl rfl wn_f (fun g15 => d_gtr (cvt g15) rfl) <| w_d rfl (d_or' (b := ((((decide (r_.f_Hits < 1)) || (decide (r_.f_Window < r_.f_Hits))) || (decide (16 < r_.f_Window))) || (decide (r_.f_Misses < 1)))) (p := (decide (64 < r_.f_Misses))) rfl rfl rfl) <| w_done ?_
 rcases its he with ⟨c16, he⟩ | ⟨c16, he⟩
 ·
  refine w_then rfl c16 <| wR rfl <| w_d rfl (d_iface (v := .int .i64 1) Tryd.underlying76 rfl rfl) <| wA (errV 76 (some 1)) rfl rfl <| w_done ?_
  obtain rfl := sj he
  refine w_return fn_27 rs_27 (.tmp (v := errV 76 (some 1)) rfl .nil) <| ⟨⟨[_], rfl⟩, hle, rfl⟩
 ·
  refine w_else rfl (Bool.eq_false_iff.2 c16) <| w_skip <| wR rfl <| wA (errV 76 none) rfl rfl <| w_done ?_
  obtain rfl := sj he
  refine w_return fn_27 rs_27 (.tmp (v := errV 76 none) rfl .nil) <| ⟨⟨[_], rfl⟩, hle, rfl⟩
noncomputable def config_Check.C : Code := (Tryd.f10.body).getD .skip
def config_Check.out (r : (Option Int)) (H : Hp) (v : Value) : Prop := v = errV 76 r
noncomputable def config_Check.f (k : Nat) (c_ : config_Config) : Option (Option Int) := (polar_Check.f k c_.f_Sensor).bind fun y2 => (gd y2.isNone (imm_Check.f k c_.f_Imm) (none)).bind fun y9 => (gd (y2.isNone && y9.isNone) (life_Check.f k c_.f_Rule) (none)).bind fun y17 => (config_within.f k c_.f_Gate 1 1073741824).bind fun y22 => (gd y22 (config_within.f k c_.f_Merge 1 1073741824) (false)).bind fun y29 => (gd (y22 && y29) (config_within.f k c_.f_Miss 0 4096) (false)).bind fun y36 => (config_within.f k c_.f_Fast 1 1099511627776).bind fun y40 => (gd y40 (config_within.f k c_.f_Push 1 1099511627776) (false)).bind fun y47 => (config_within.f k c_.f_Tracks 1 64).bind fun y51 => (gd y51 (config_within.f k c_.f_From 1 1073741824) (false)).bind fun y58 => if (((((((!((y2.isNone && y9.isNone) && y17.isNone)) || (!((y22 && y29) && y36))) || (!(y40 && y47))) || (!(y51 && y58))) || (decide (c_.f_Least < 1))) || (decide (c_.f_Most < c_.f_Least))) || (decide (8192 < c_.f_Most))) = true then (some (some 1)) else (some (none))
theorem config_Check.mono : ∀ k y0, LeO (config_Check.f k y0) (config_Check.f (k + 1) y0) := fun k _ => by unfold config_Check.f; exact (LeO.bind (polar_Check.mono k _) fun _ => LeO.bind (LeO.gd (imm_Check.mono k _)) fun _ => LeO.bind (LeO.gd (life_Check.mono k _)) fun _ => LeO.bind (config_within.mono k _ _ _) fun _ => LeO.bind (LeO.gd (config_within.mono k _ _ _)) fun _ => LeO.bind (LeO.gd (config_within.mono k _ _ _)) fun _ => LeO.bind (config_within.mono k _ _ _) fun _ => LeO.bind (LeO.gd (config_within.mono k _ _ _)) fun _ => LeO.bind (config_within.mono k _ _ _) fun _ => LeO.bind (LeO.gd (config_within.mono k _ _ _)) fun _ => LeO.ite (LeO.refl _) (LeO.refl _))
theorem config_Check.calls (k : Nat) {H : Hp} {L : Items} {c_ : config_Config} {v0_c_ : Value} {v1_c_ : Value} {r : (Option Int)} (he : config_Check.f k c_ = some r) (h0_c_ : Ro k_model_Model H v0_c_ c_.f_Imm.f_Models) (h1_c_ : Ro (Kd.slice kI64) H v1_c_ c_.f_Imm.f_Rows) : Ct Tryd.prog 10 ⟨[.agg ⟨[.int .i64 c_.f_Sensor.f_Range, .int .i64 c_.f_Sensor.f_Turn, v0_c_, v1_c_, .int .i64 c_.f_Imm.f_Floor, .int .i64 c_.f_Rule.f_Hits, .int .i64 c_.f_Rule.f_Window, .int .i64 c_.f_Rule.f_Misses, .int .i64 c_.f_Gate, .int .i64 c_.f_Miss, .int .i64 c_.f_Merge, .int .i64 c_.f_Fast, .int .i64 c_.f_Push, .int .i64 c_.f_Tracks, .int .i64 c_.f_From, .int .i64 c_.f_Least, .int .i64 c_.f_Most, .int .u16 c_.f_Source]⟩]⟩ H L (fun v H' L' => L = L' ∧ H = H' ∧ v = errV 76 r) := by
 refine ct_outs (O := config_Check.out r) (fun _ _ h => h) ?_
 have hle : H.le H := .refl _
 unfold config_Check.f at he
 refine ct_enter (args := [.agg ⟨[.int .i64 c_.f_Sensor.f_Range, .int .i64 c_.f_Sensor.f_Turn, v0_c_, v1_c_, .int .i64 c_.f_Imm.f_Floor, .int .i64 c_.f_Rule.f_Hits, .int .i64 c_.f_Rule.f_Window, .int .i64 c_.f_Rule.f_Misses, .int .i64 c_.f_Gate, .int .i64 c_.f_Miss, .int .i64 c_.f_Merge, .int .i64 c_.f_Fast, .int .i64 c_.f_Push, .int .i64 c_.f_Tracks, .int .i64 c_.f_From, .int .i64 c_.f_Least, .int .i64 c_.f_Most, .int .u16 c_.f_Source]⟩]) fn_10 rfl nt_10 rfl <| wR rfl <| w_a rfl (o_box (v := .agg ⟨[.int .i64 c_.f_Sensor.f_Range, .int .i64 c_.f_Sensor.f_Turn, v0_c_, v1_c_, .int .i64 c_.f_Imm.f_Floor, .int .i64 c_.f_Rule.f_Hits, .int .i64 c_.f_Rule.f_Window, .int .i64 c_.f_Rule.f_Misses, .int .i64 c_.f_Gate, .int .i64 c_.f_Miss, .int .i64 c_.f_Merge, .int .i64 c_.f_Fast, .int .i64 c_.f_Push, .int .i64 c_.f_Tracks, .int .i64 c_.f_From, .int .i64 c_.f_Least, .int .i64 c_.f_Most, .int .u16 c_.f_Source]⟩) rfl rfl) ?_
 rintro _ _ _ ⟨b1, rfl, rfl, rfl⟩
 refine wA (errV 76 none) rfl rfl <| wQ rfl <| w_d rfl (d_fld (o' := 0) Tryd.underlying41 rfl sz35 rfl rfl rfl) <| wL (.agg ⟨[.int .i64 c_.f_Sensor.f_Range, .int .i64 c_.f_Sensor.f_Turn]⟩) ty35 rfl rfl .here rfl rfl ?_
 obtain ⟨y2, hy3, he⟩ := bs he
 refine w_d rfl (call_d (o_call co25 (vs := [.agg ⟨[.int .i64 c_.f_Sensor.f_Range, .int .i64 c_.f_Sensor.f_Turn]⟩]) rfl (polar_Check.calls k (s := c_.f_Sensor) hy3))) <| w_d rfl (d_eqnil (e := y2) Tryd.underlying45 rfl) <| wM (.bool y2.isNone) rfl rfl <| w_g (g := y2.isNone) rfl rfl rfl wn_t (fun g6 => d_fld (o' := 2) Tryd.underlying41 rfl sz38 rfl rfl rfl) <| w_g (g := y2.isNone) rfl rfl rfl wn_t (fun g7 => d_loado (v := .agg ⟨[v0_c_, v1_c_, .int .i64 c_.f_Imm.f_Floor]⟩) ty38 (cvt g7) .here rfl rfl rfl rfl) ?_
 obtain ⟨y9, hy10, he⟩ := bs he
 refine w_g (g := y2.isNone) rfl rfl rfl wn_t (fun g8 => call_d (o_call co26 (vs := [.agg ⟨[v0_c_, v1_c_, .int .i64 c_.f_Imm.f_Floor]⟩]) (acons (cvt g8) (anil)) (imm_Check.calls k (c_ := c_.f_Imm) (gd_t g8 hy10) h0_c_ h1_c_))) <| w_g (g := y2.isNone) rfl rfl rfl wn_t (fun g13 => d_eqnil (e := y9) Tryd.underlying45 (cvt g13)) <| w_d rfl (d_and' (b := y2.isNone) (p := y9.isNone) rfl rfl rfl) <| wM (.bool (y2.isNone && y9.isNone)) rfl rfl <| w_g (g := y2.isNone && y9.isNone) rfl rfl rfl wn_t (fun g14 => d_fld (o' := 5) Tryd.underlying41 rfl sz39 rfl rfl rfl) <| w_g (g := y2.isNone && y9.isNone) rfl rfl rfl wn_t (fun g15 => d_loado (v := .agg ⟨[.int .i64 c_.f_Rule.f_Hits, .int .i64 c_.f_Rule.f_Window, .int .i64 c_.f_Rule.f_Misses]⟩) ty39 (cvt g15) .here rfl rfl rfl rfl) ?_
 obtain ⟨y17, hy18, he⟩ := bs he
 refine w_g (g := y2.isNone && y9.isNone) rfl rfl rfl wn_t (fun g16 => call_d (o_call co27 (vs := [.agg ⟨[.int .i64 c_.f_Rule.f_Hits, .int .i64 c_.f_Rule.f_Window, .int .i64 c_.f_Rule.f_Misses]⟩]) (acons (cvt g16) (anil)) (life_Check.calls k (r_ := c_.f_Rule) (gd_t g16 hy18)))) <| w_g (g := y2.isNone && y9.isNone) rfl rfl rfl wn_t (fun g21 => d_eqnil (e := y17) Tryd.underlying45 (cvt g21)) <| w_d rfl (d_and' (b := (y2.isNone && y9.isNone)) (p := y17.isNone) rfl rfl rfl) <| wA (.bool ((y2.isNone && y9.isNone) && y17.isNone)) rfl rfl <| wQ rfl <| w_d rfl (d_fld (o' := 8) Tryd.underlying41 rfl sz2 rfl rfl rfl) <| wL (.int .i64 c_.f_Gate) ty2 rfl rfl .here rfl rfl ?_
 obtain ⟨y22, hy23, he⟩ := bs he
 refine w_d rfl (call_d (o_call co28 (vs := [.int .i64 c_.f_Gate, .int .i64 1, .int .i64 1073741824]) rfl (config_within.calls k hy23))) <| wM (.bool y22) rfl rfl <| w_g (g := y22) rfl rfl rfl wn_t (fun g26 => d_fld (o' := 10) Tryd.underlying41 rfl sz2 rfl rfl rfl) <| w_g (g := y22) rfl rfl rfl wn_t (fun g27 => d_loado (v := .int .i64 c_.f_Merge) ty2 (cvt g27) .here rfl rfl rfl rfl) ?_
 obtain ⟨y29, hy30, he⟩ := bs he
 refine w_g (g := y22) rfl rfl rfl wn_t (fun g28 => call_d (o_call co28 (vs := [.int .i64 c_.f_Merge, .int .i64 1, .int .i64 1073741824]) (acons (cvt g28) (acons rfl (acons rfl (anil)))) (config_within.calls k (gd_t g28 hy30)))) <| w_d rfl (d_and' (b := y22) (p := y29) rfl rfl rfl) <| wM (.bool (y22 && y29)) rfl rfl <| w_g (g := y22 && y29) rfl rfl rfl wn_t (fun g33 => d_fld (o' := 9) Tryd.underlying41 rfl sz2 rfl rfl rfl) <| w_g (g := y22 && y29) rfl rfl rfl wn_t (fun g34 => d_loado (v := .int .i64 c_.f_Miss) ty2 (cvt g34) .here rfl rfl rfl rfl) ?_
 obtain ⟨y36, hy37, he⟩ := bs he
 refine w_g (g := y22 && y29) rfl rfl rfl wn_t (fun g35 => call_d (o_call co28 (vs := [.int .i64 c_.f_Miss, .int .i64 0, .int .i64 4096]) (acons (cvt g35) (acons rfl (acons rfl (anil)))) (config_within.calls k (gd_t g35 hy37)))) <| w_d rfl (d_and' (b := (y22 && y29)) (p := y36) rfl rfl rfl) <| wA (.bool ((y22 && y29) && y36)) rfl rfl <| wQ rfl <| w_d rfl (d_fld (o' := 11) Tryd.underlying41 rfl sz2 rfl rfl rfl) <| wL (.int .i64 c_.f_Fast) ty2 rfl rfl .here rfl rfl ?_
 obtain ⟨y40, hy41, he⟩ := bs he
 refine w_d rfl (call_d (o_call co28 (vs := [.int .i64 c_.f_Fast, .int .i64 1, .int .i64 1099511627776]) rfl (config_within.calls k hy41))) <| wM (.bool y40) rfl rfl <| w_g (g := y40) rfl rfl rfl wn_t (fun g44 => d_fld (o' := 12) Tryd.underlying41 rfl sz2 rfl rfl rfl) <| w_g (g := y40) rfl rfl rfl wn_t (fun g45 => d_loado (v := .int .i64 c_.f_Push) ty2 (cvt g45) .here rfl rfl rfl rfl) ?_
 obtain ⟨y47, hy48, he⟩ := bs he
 refine w_g (g := y40) rfl rfl rfl wn_t (fun g46 => call_d (o_call co28 (vs := [.int .i64 c_.f_Push, .int .i64 1, .int .i64 1099511627776]) (acons (cvt g46) (acons rfl (acons rfl (anil)))) (config_within.calls k (gd_t g46 hy48)))) <| w_d rfl (d_and' (b := y40) (p := y47) rfl rfl rfl) <| wA (.bool (y40 && y47)) rfl rfl <| wQ rfl <| w_d rfl (d_fld (o' := 13) Tryd.underlying41 rfl sz3 rfl rfl rfl) <| wL (.int .i64 c_.f_Tracks) ty3 rfl rfl .here rfl rfl ?_
 obtain ⟨y51, hy52, he⟩ := bs he
 refine w_d rfl (call_d (o_call co28 (vs := [.int .i64 c_.f_Tracks, .int .i64 1, .int .i64 64]) rfl (config_within.calls k hy52))) <| wM (.bool y51) rfl rfl <| w_g (g := y51) rfl rfl rfl wn_t (fun g55 => d_fld (o' := 14) Tryd.underlying41 rfl sz2 rfl rfl rfl) <| w_g (g := y51) rfl rfl rfl wn_t (fun g56 => d_loado (v := .int .i64 c_.f_From) ty2 (cvt g56) .here rfl rfl rfl rfl) ?_
 obtain ⟨y58, hy59, he⟩ := bs he
 refine w_g (g := y51) rfl rfl rfl wn_t (fun g57 => call_d (o_call co28 (vs := [.int .i64 c_.f_From, .int .i64 1, .int .i64 1073741824]) (acons (cvt g57) (acons rfl (acons rfl (anil)))) (config_within.calls k (gd_t g57 hy59)))) <| w_d rfl (d_and' (b := y51) (p := y58) rfl rfl rfl) <| wA (.bool (y51 && y58)) rfl rfl <| wE <| wR rfl <| wM (.bool ((y2.isNone && y9.isNone) && y17.isNone)) rfl rfl <| w_d rfl (d_not (b := ((y2.isNone && y9.isNone) && y17.isNone)) rfl) <| wM (.bool (!((y2.isNone && y9.isNone) && y17.isNone))) rfl rfl <| w_g (g := !(!((y2.isNone && y9.isNone) && y17.isNone))) rfl rfl rfl wn_f (fun g62 => d_move (v := .bool ((y22 && y29) && y36)) rfl) <| w_g (g := !(!((y2.isNone && y9.isNone) && y17.isNone))) rfl rfl rfl wn_f (fun g63 => d_not (b := ((y22 && y29) && y36)) (cvt g63)) ?_
 refine w_d rfl (d_or' (b := (!((y2.isNone && y9.isNone) && y17.isNone))) (p := (!((y22 && y29) && y36))) rfl rfl rfl) <| wM (.bool ((!((y2.isNone && y9.isNone) && y17.isNone)) || (!((y22 && y29) && y36)))) rfl rfl <| w_g (g := !((!((y2.isNone && y9.isNone) && y17.isNone)) || (!((y22 && y29) && y36)))) rfl rfl rfl wn_f (fun g64 => d_move (v := .bool (y40 && y47)) rfl) <| w_g (g := !((!((y2.isNone && y9.isNone) && y17.isNone)) || (!((y22 && y29) && y36)))) rfl rfl rfl wn_f (fun g65 => d_not (b := (y40 && y47)) (cvt g65)) <| w_d rfl (d_or' (b := ((!((y2.isNone && y9.isNone) && y17.isNone)) || (!((y22 && y29) && y36)))) (p := (!(y40 && y47))) rfl rfl rfl) <| wM (.bool (((!((y2.isNone && y9.isNone) && y17.isNone)) || (!((y22 && y29) && y36))) || (!(y40 && y47)))) rfl rfl <| w_g (g := !(((!((y2.isNone && y9.isNone) && y17.isNone)) || (!((y22 && y29) && y36))) || (!(y40 && y47)))) rfl rfl rfl wn_f (fun g66 => d_move (v := .bool (y51 && y58)) rfl) <| w_g (g := !(((!((y2.isNone && y9.isNone) && y17.isNone)) || (!((y22 && y29) && y36))) || (!(y40 && y47)))) rfl rfl rfl wn_f (fun g67 => d_not (b := (y51 && y58)) (cvt g67)) <| w_d rfl (d_or' (b := (((!((y2.isNone && y9.isNone) && y17.isNone)) || (!((y22 && y29) && y36))) || (!(y40 && y47)))) (p := (!(y51 && y58))) rfl rfl rfl) <| wM (.bool ((((!((y2.isNone && y9.isNone) && y17.isNone)) || (!((y22 && y29) && y36))) || (!(y40 && y47))) || (!(y51 && y58)))) rfl rfl <| w_g (g := !((((!((y2.isNone && y9.isNone) && y17.isNone)) || (!((y22 && y29) && y36))) || (!(y40 && y47))) || (!(y51 && y58)))) rfl rfl rfl wn_f (fun g68 => d_fld (o' := 15) Tryd.underlying41 rfl sz2 rfl rfl rfl) <| w_g (g := !((((!((y2.isNone && y9.isNone) && y17.isNone)) || (!((y22 && y29) && y36))) || (!(y40 && y47))) || (!(y51 && y58)))) rfl rfl rfl wn_f (fun g69 => d_loado (v := .int .i64 c_.f_Least) ty2 (cvt g69) .here rfl rfl rfl rfl) ?_
 refine w_g (g := !((((!((y2.isNone && y9.isNone) && y17.isNone)) || (!((y22 && y29) && y36))) || (!(y40 && y47))) || (!(y51 && y58)))) rfl rfl rfl wn_f (fun g70 => d_lss (cvt g70) rfl) <| w_d rfl (d_or' (b := ((((!((y2.isNone && y9.isNone) && y17.isNone)) || (!((y22 && y29) && y36))) || (!(y40 && y47))) || (!(y51 && y58)))) (p := (decide (c_.f_Least < 1))) rfl rfl rfl) <| wM (.bool (((((!((y2.isNone && y9.isNone) && y17.isNone)) || (!((y22 && y29) && y36))) || (!(y40 && y47))) || (!(y51 && y58))) || (decide (c_.f_Least < 1)))) rfl rfl <| w_g (g := !(((((!((y2.isNone && y9.isNone) && y17.isNone)) || (!((y22 && y29) && y36))) || (!(y40 && y47))) || (!(y51 && y58))) || (decide (c_.f_Least < 1)))) rfl rfl rfl wn_f (fun g71 => d_fld (o' := 15) Tryd.underlying41 rfl sz2 rfl rfl rfl) <| w_g (g := !(((((!((y2.isNone && y9.isNone) && y17.isNone)) || (!((y22 && y29) && y36))) || (!(y40 && y47))) || (!(y51 && y58))) || (decide (c_.f_Least < 1)))) rfl rfl rfl wn_f (fun g72 => d_loado (v := .int .i64 c_.f_Least) ty2 (cvt g72) .here rfl rfl rfl rfl) <| w_g (g := !(((((!((y2.isNone && y9.isNone) && y17.isNone)) || (!((y22 && y29) && y36))) || (!(y40 && y47))) || (!(y51 && y58))) || (decide (c_.f_Least < 1)))) rfl rfl rfl wn_f (fun g73 => d_fld (o' := 16) Tryd.underlying41 rfl sz2 rfl rfl rfl) <| w_g (g := !(((((!((y2.isNone && y9.isNone) && y17.isNone)) || (!((y22 && y29) && y36))) || (!(y40 && y47))) || (!(y51 && y58))) || (decide (c_.f_Least < 1)))) rfl rfl rfl wn_f (fun g74 => d_loado (v := .int .i64 c_.f_Most) ty2 (cvt g74) .here rfl rfl rfl rfl) <| w_g (g := !(((((!((y2.isNone && y9.isNone) && y17.isNone)) || (!((y22 && y29) && y36))) || (!(y40 && y47))) || (!(y51 && y58))) || (decide (c_.f_Least < 1)))) rfl rfl rfl wn_f (fun g75 => d_gtr (cvt g75) (cvt g75)) <| w_d rfl (d_or' (b := (((((!((y2.isNone && y9.isNone) && y17.isNone)) || (!((y22 && y29) && y36))) || (!(y40 && y47))) || (!(y51 && y58))) || (decide (c_.f_Least < 1)))) (p := (decide (c_.f_Most < c_.f_Least))) rfl rfl rfl) <| wM (.bool ((((((!((y2.isNone && y9.isNone) && y17.isNone)) || (!((y22 && y29) && y36))) || (!(y40 && y47))) || (!(y51 && y58))) || (decide (c_.f_Least < 1))) || (decide (c_.f_Most < c_.f_Least)))) rfl rfl <| w_g (g := !((((((!((y2.isNone && y9.isNone) && y17.isNone)) || (!((y22 && y29) && y36))) || (!(y40 && y47))) || (!(y51 && y58))) || (decide (c_.f_Least < 1))) || (decide (c_.f_Most < c_.f_Least)))) rfl rfl rfl wn_f (fun g76 => d_fld (o' := 16) Tryd.underlying41 rfl sz2 rfl rfl rfl) <| w_g (g := !((((((!((y2.isNone && y9.isNone) && y17.isNone)) || (!((y22 && y29) && y36))) || (!(y40 && y47))) || (!(y51 && y58))) || (decide (c_.f_Least < 1))) || (decide (c_.f_Most < c_.f_Least)))) rfl rfl rfl wn_f (fun g77 => d_loado (v := .int .i64 c_.f_Most) ty2 (cvt g77) .here rfl rfl rfl rfl) ?_
 refine w_g (g := !((((((!((y2.isNone && y9.isNone) && y17.isNone)) || (!((y22 && y29) && y36))) || (!(y40 && y47))) || (!(y51 && y58))) || (decide (c_.f_Least < 1))) || (decide (c_.f_Most < c_.f_Least)))) rfl rfl rfl wn_f (fun g78 => d_gtr (cvt g78) rfl) <| w_d rfl (d_or' (b := ((((((!((y2.isNone && y9.isNone) && y17.isNone)) || (!((y22 && y29) && y36))) || (!(y40 && y47))) || (!(y51 && y58))) || (decide (c_.f_Least < 1))) || (decide (c_.f_Most < c_.f_Least)))) (p := (decide (8192 < c_.f_Most))) rfl rfl rfl) <| w_done ?_
 rcases its he with ⟨c79, he⟩ | ⟨c79, he⟩
 ·
  refine w_then rfl c79 <| wR rfl <| w_d rfl (d_iface (v := .int .i64 1) Tryd.underlying76 rfl rfl) <| wA (errV 76 (some 1)) rfl rfl <| w_done ?_
  obtain rfl := sj he
  refine w_return fn_10 rs_10 (.tmp (v := errV 76 (some 1)) rfl .nil) <| ⟨⟨[_], rfl⟩, hle, rfl⟩
 ·
  refine w_else rfl (Bool.eq_false_iff.2 c79) <| w_skip <| wR rfl <| wA (errV 76 none) rfl rfl <| w_done ?_
  obtain rfl := sj he
  refine w_return fn_10 rs_10 (.tmp (v := errV 76 none) rfl .nil) <| ⟨⟨[_], rfl⟩, hle, rfl⟩
end Go.Proofs.YtfdedgoohjnhiaaDoor.GCR

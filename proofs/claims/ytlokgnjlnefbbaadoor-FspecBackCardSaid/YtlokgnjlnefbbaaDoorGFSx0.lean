/- A text of this session, written by a program (wip/k/gen.py): Go functions as Lean functions, and proofs that the code comes to them. -/
import Derived.Test.YtlokgnjlnefbbaaDoorGFSt
namespace Go.Proofs.YtlokgnjlnefbbaaDoor.GFS
open Go Go.RowKit Go.Proofs.YtlokgnjlnefbbaaDoorK Go.Proofs.YtlokgnjlnefbbaaDoor
set_option linter.unusedVariables false
set_option linter.unusedSimpArgs false
/-! ### radome/fspec.Encode -/
noncomputable def fspec_Encode.C : Code := (Tryd.f18.body).getD .skip
def fspec_Encode.out (r : (List Int) × (Option Int)) (H : Hp) (v : Value) : Prop := ∃ v0, v = .tuple ⟨[v0, errV 73 r.2]⟩ ∧ Ro (Kd.int .u8) H v0 r.1
theorem fspec_Encode.out_mono (r : (List Int) × (Option Int)) {H H' : Hp} {v : Value} (hle : H.le H') (h : fspec_Encode.out r H v) : fspec_Encode.out r H' v := by
 obtain ⟨v0, rfl, h0⟩ := h; exact ⟨v0, rfl, h0.mono hle⟩
abbrev fspec_Encode.R (H0 : Hp) (L : Items) (r : (List Int) × (Option Int)) : Value → Hp → Items → Prop := fun v H' L' => (∃ p, L' = p ++ L) ∧ H0.le H' ∧ fspec_Encode.out r H' v
structure fspec_Encode.Hs where
 l0 : (List Int) → (List Int) → (Option Int) → Int → (List Int) → Int → Int → Option ((List Int) × (Option Int))
 l1 : (List Int) → (List Int) → (Option Int) → (List Int) → Int → Int → Option ((List Int) × (Option Int))
 l2 : (List Int) → (Option Int) → (List Int) → (List Int) → Int → Int → Option ((List Int) × (Option Int))
noncomputable def fspec_Encode.b0 (k : Nat) (h : fspec_Encode.Hs)  (l : List Int) (t2 : List Int) (t3 : Option Int) (last : Int) (t15 : List Int) (t16 : Int) (t17 : Int) : Option ((List Int) × (Option Int)) := if t17 < t16 then (if 0 ≤ t17 ∧ t17 < (t15.length : Int) then (if ((decide ((rd t15 t17) ≤ last)) || (decide (56 < (rd t15 t17)))) = true then (some ([], some 1)) else (h.l0 l t2 t3 (rd t15 t17) t15 t16 (w64 (t17 + 1)))) else none) else (if 0 ≤ w64 (Int.tdiv (w64 ((w64 (last + 7)) - 1)) 7) ∧ w64 (Int.tdiv (w64 ((w64 (last + 7)) - 1)) 7) ≤ 281474976710656 then (if (0 : Int) ≤ 0 ∧ (0 : Int) ≤ w64 (((List.replicate (w64 (Int.tdiv (w64 ((w64 (last + 7)) - 1)) 7)).toNat (0 : Int)).length : Int) - 1) ∧ w64 (((List.replicate (w64 (Int.tdiv (w64 ((w64 (last + 7)) - 1)) 7)).toNat (0 : Int)).length : Int) - 1) ≤ ((List.replicate (w64 (Int.tdiv (w64 ((w64 (last + 7)) - 1)) 7)).toNat (0 : Int)).length : Int) then (h.l1 l t2 t3 (List.replicate (w64 (Int.tdiv (w64 ((w64 (last + 7)) - 1)) 7)).toNat (0 : Int)) ((w64 (((List.replicate (w64 (Int.tdiv (w64 ((w64 (last + 7)) - 1)) 7)).toNat (0 : Int)).length : Int) - 1)) - 0) 0) else none) else none)
noncomputable def fspec_Encode.b1 (k : Nat) (h : fspec_Encode.Hs)  (l : List Int) (t2 : List Int) (t3 : Option Int) (out : List Int) (t41 : Int) (t42 : Int) : Option ((List Int) × (Option Int)) := if t42 < t41 then (if 0 ≤ t42 ∧ t42 < (out.length : Int) then (h.l1 l t2 t3 (out.set (t42).toNat 1) t41 (w64 (t42 + 1))) else none) else (h.l2 t2 t3 out l (l.length : Int) 0)
noncomputable def fspec_Encode.b2 (k : Nat) (h : fspec_Encode.Hs)  (t2 : List Int) (t3 : Option Int) (out : List Int) (t49 : List Int) (t50 : Int) (t51 : Int) : Option ((List Int) × (Option Int)) := if t51 < t50 then (if 0 ≤ t51 ∧ t51 < (t49.length : Int) then (if 0 ≤ w64 (Int.tdiv (w64 ((rd t49 t51) - 1)) 7) ∧ w64 (Int.tdiv (w64 ((rd t49 t51) - 1)) 7) < (out.length : Int) then (if 0 ≤ (Int.tmod (w64 ((rd t49 t51) - 1)) 7) then (if 0 ≤ w64 (Int.tdiv (w64 ((rd t49 t51) - 1)) 7) ∧ w64 (Int.tdiv (w64 ((rd t49 t51) - 1)) 7) < (out.length : Int) then (h.l2 t2 t3 (out.set (w64 (Int.tdiv (w64 ((rd t49 t51) - 1)) 7)).toNat (ior .u8 (rd out (w64 (Int.tdiv (w64 ((rd t49 t51) - 1)) 7))) (128 / 2 ^ shn .u8 (Int.tmod (w64 ((rd t49 t51) - 1)) 7)))) t49 t50 (w64 (t51 + 1))) else none) else none) else none) else none) else (some (out, none))
noncomputable def fspec_Encode.hs : Nat → fspec_Encode.Hs
 | 0 => ⟨fun _ _ _ _ _ _ _ => none, fun _ _ _ _ _ _ => none, fun _ _ _ _ _ _ => none⟩
 | k + 1 => ⟨fun x0 x1 x2 x3 x4 x5 x6 => fspec_Encode.b0 k (fspec_Encode.hs k) x0 x1 x2 x3 x4 x5 x6, fun x0 x1 x2 x3 x4 x5 => fspec_Encode.b1 k (fspec_Encode.hs k) x0 x1 x2 x3 x4 x5, fun x0 x1 x2 x3 x4 x5 => fspec_Encode.b2 k (fspec_Encode.hs k) x0 x1 x2 x3 x4 x5⟩
noncomputable def fspec_Encode.f (k : Nat) (l : List Int) : Option ((List Int) × (Option Int)) := (fun h : fspec_Encode.Hs => if (l.length : Int) = 0 then (some ([], some 1)) else (h.l0 l [] none 0 l (l.length : Int) 0)) (fspec_Encode.hs k)
structure fspec_Encode.LE (h h' : fspec_Encode.Hs) : Prop where
 l0 : ∀ y0 y1 y2 y3 y4 y5 y6, LeO (h.l0 y0 y1 y2 y3 y4 y5 y6) (h'.l0 y0 y1 y2 y3 y4 y5 y6)
 l1 : ∀ y0 y1 y2 y3 y4 y5, LeO (h.l1 y0 y1 y2 y3 y4 y5) (h'.l1 y0 y1 y2 y3 y4 y5)
 l2 : ∀ y0 y1 y2 y3 y4 y5, LeO (h.l2 y0 y1 y2 y3 y4 y5) (h'.l2 y0 y1 y2 y3 y4 y5)
theorem fspec_Encode.b0_mono {k : Nat} {h h' : fspec_Encode.Hs} (hl : fspec_Encode.LE h h') : ∀ y0 y1 y2 y3 y4 y5 y6, LeO (fspec_Encode.b0 k h y0 y1 y2 y3 y4 y5 y6) (fspec_Encode.b0 (k + 1) h' y0 y1 y2 y3 y4 y5 y6) := fun _ _ _ _ _ _ _ => (LeO.ite (LeO.ite (LeO.ite (LeO.refl _) (hl.l0 _ _ _ _ _ _ _)) (LeO.refl _)) (LeO.ite (LeO.ite (hl.l1 _ _ _ _ _ _) (LeO.refl _)) (LeO.refl _)))
theorem fspec_Encode.b1_mono {k : Nat} {h h' : fspec_Encode.Hs} (hl : fspec_Encode.LE h h') : ∀ y0 y1 y2 y3 y4 y5, LeO (fspec_Encode.b1 k h y0 y1 y2 y3 y4 y5) (fspec_Encode.b1 (k + 1) h' y0 y1 y2 y3 y4 y5) := fun _ _ _ _ _ _ => (LeO.ite (LeO.ite (hl.l1 _ _ _ _ _ _) (LeO.refl _)) (hl.l2 _ _ _ _ _ _))
theorem fspec_Encode.b2_mono {k : Nat} {h h' : fspec_Encode.Hs} (hl : fspec_Encode.LE h h') : ∀ y0 y1 y2 y3 y4 y5, LeO (fspec_Encode.b2 k h y0 y1 y2 y3 y4 y5) (fspec_Encode.b2 (k + 1) h' y0 y1 y2 y3 y4 y5) := fun _ _ _ _ _ _ => (LeO.ite (LeO.ite (LeO.ite (LeO.ite (LeO.ite (hl.l2 _ _ _ _ _ _) (LeO.refl _)) (LeO.refl _)) (LeO.refl _)) (LeO.refl _)) (LeO.refl _))
theorem fspec_Encode.hs_mono : ∀ k, fspec_Encode.LE (fspec_Encode.hs k) (fspec_Encode.hs (k + 1))
 | 0 => ⟨fun _ _ _ _ _ _ _ => LeO.none _, fun _ _ _ _ _ _ => LeO.none _, fun _ _ _ _ _ _ => LeO.none _⟩
 | k + 1 => ⟨fspec_Encode.b0_mono (k := k) (fspec_Encode.hs_mono k), fspec_Encode.b1_mono (k := k) (fspec_Encode.hs_mono k), fspec_Encode.b2_mono (k := k) (fspec_Encode.hs_mono k)⟩
theorem fspec_Encode.mono : ∀ k y0, LeO (fspec_Encode.f k y0) (fspec_Encode.f (k + 1) y0) := fun k _ => have hl := fspec_Encode.hs_mono k; by unfold fspec_Encode.f; exact (LeO.ite (LeO.refl _) (hl.l0 _ _ _ _ _ _ _))
noncomputable def fspec_Encode.Kl0 : List Item := .code (lopB (blkB (seqR (seqL (seqR (seqR (seqR fspec_Encode.C))))))) :: .inLoop (lopB (blkB (seqR (seqL (seqR (seqR (seqR fspec_Encode.C))))))) :: .inBlock 0 :: .code (seqR (seqR (seqR (seqR fspec_Encode.C)))) :: []
noncomputable def fspec_Encode.Kl1 : List Item := .code (lopB (blkB (seqR (seqL (seqR (seqR (seqR (seqR (seqR fspec_Encode.C))))))))) :: .inLoop (lopB (blkB (seqR (seqL (seqR (seqR (seqR (seqR (seqR fspec_Encode.C))))))))) :: .inBlock 2 :: .code (seqR (seqR (seqR (seqR (seqR (seqR fspec_Encode.C)))))) :: []
noncomputable def fspec_Encode.Kl2 : List Item := .code (lopB (blkB (seqR (seqL (seqR (seqR (seqR (seqR (seqR (seqR fspec_Encode.C)))))))))) :: .inLoop (lopB (blkB (seqR (seqL (seqR (seqR (seqR (seqR (seqR (seqR fspec_Encode.C)))))))))) :: .inBlock 4 :: .code (seqR (seqR (seqR (seqR (seqR (seqR (seqR fspec_Encode.C))))))) :: []
structure fspec_Encode.OK (h : fspec_Encode.Hs) : Prop where
 l0 : ∀ {H0 H : Hp} {L : Items} {r : (List Int) × (Option Int)} {jk_ : Nat → Value} {l : List Int} {t2 : List Int} {t3 : Option Int} {last : Int} {t15 : List Int} {t16 : Int} {t17 : Int} {v_l : Value} {v_t2 : Value} {v_t15 : Value} (_ : H0.le H) (_he : h.l0 l t2 t3 last t15 t16 t17 = some r) (_h_l : Ro (Kd.int .i64) H v_l l) (_h_t2 : Ro (Kd.int .u8) H v_t2 t2) (_h_t15 : Ro (Kd.int .i64) H v_t15 t15), Wp Tryd.prog 18 69 fspec_Encode.Kl0 (upd (upd (upd (upd (upd (upd (upd jk_ 0 (v_l)) 2 (v_t2)) 3 (errV 73 t3)) 4 (.int .i64 last)) 15 (v_t15)) 16 (.int .i64 t16)) 17 (.int .i64 t17)) H (L) (fspec_Encode.R H0 L r)
 l1 : ∀ {H0 H : Hp} {L : Items} {r : (List Int) × (Option Int)} {jk_ : Nat → Value} {l : List Int} {t2 : List Int} {t3 : Option Int} {out : List Int} {t41 : Int} {t42 : Int} {v_l : Value} {v_t2 : Value} {v_out : Value} {i_out : Item'} (_ : H0.le H) (_he : h.l1 l t2 t3 out t41 t42 = some r) (_h_l : Ro (Kd.int .i64) H v_l l) (_h_t2 : Ro (Kd.int .u8) H v_t2 t2) (_h_out : Sl (Kd.int .u8) H 5 i_out v_out out), Wp Tryd.prog 18 69 fspec_Encode.Kl1 (upd (upd (upd (upd (upd (upd jk_ 0 (v_l)) 2 (v_t2)) 3 (errV 73 t3)) 7 (v_out)) 41 (.int .i64 t41)) 42 (.int .i64 t42)) H (i_out :: L) (fspec_Encode.R H0 L r)
 l2 : ∀ {H0 H : Hp} {L : Items} {r : (List Int) × (Option Int)} {jk_ : Nat → Value} {t2 : List Int} {t3 : Option Int} {out : List Int} {t49 : List Int} {t50 : Int} {t51 : Int} {v_t2 : Value} {v_out : Value} {v_t49 : Value} {i_out : Item'} (_ : H0.le H) (_he : h.l2 t2 t3 out t49 t50 t51 = some r) (_h_t2 : Ro (Kd.int .u8) H v_t2 t2) (_h_out : Sl (Kd.int .u8) H 5 i_out v_out out) (_h_t49 : Ro (Kd.int .i64) H v_t49 t49), Wp Tryd.prog 18 69 fspec_Encode.Kl2 (upd (upd (upd (upd (upd (upd jk_ 2 (v_t2)) 3 (errV 73 t3)) 7 (v_out)) 49 (v_t49)) 50 (.int .i64 t50)) 51 (.int .i64 t51)) H (i_out :: L) (fspec_Encode.R H0 L r)
set_option maxRecDepth 100000 in
set_option maxHeartbeats 2000000 in
theorem fspec_Encode.b0_ok {k : Nat} {h : fspec_Encode.Hs} (hh : fspec_Encode.OK h) {H0 H : Hp} {L : Items} {r : (List Int) × (Option Int)} {jk_ : Nat → Value} {l : List Int} {t2 : List Int} {t3 : Option Int} {last : Int} {t15 : List Int} {t16 : Int} {t17 : Int} {v_l : Value} {v_t2 : Value} {v_t15 : Value} (hle : H0.le H) (he : fspec_Encode.b0 k h l t2 t3 last t15 t16 t17 = some r) (h_l : Ro (Kd.int .i64) H v_l l) (h_t2 : Ro (Kd.int .u8) H v_t2 t2) (h_t15 : Ro (Kd.int .i64) H v_t15 t15) : Wp Tryd.prog 18 69 fspec_Encode.Kl0 (upd (upd (upd (upd (upd (upd (upd jk_ 0 (v_l)) 2 (v_t2)) 3 (errV 73 t3)) 4 (.int .i64 last)) 15 (v_t15)) 16 (.int .i64 t16)) 17 (.int .i64 t17)) H (L) (fspec_Encode.R H0 L r) := by
 unfold fspec_Encode.b0 at he
 unfold fspec_Encode.Kl0
 refine w_seq ?_
 refine w_region rfl ?_
 refine w_d rfl (d_lss rfl rfl) ?_
 refine w_done ?_
 refine w_seq ?_
 rcases its he with ⟨c2, he⟩ | ⟨c2, he⟩
 ·
  refine w_then rfl (decide_eq_true c2) ?_
  refine w_skip ?_
  refine w_seq ?_
  refine w_block ?_
  refine w_seq ?_
  refine w_region rfl ?_
  obtain ⟨c3, he⟩ := rq he
  refine w_d rfl (d_index (sz := 1) Tryd.underlying41 sz3 rfl h_t15.src rfl c3) ?_
  refine w_d rfl (d_ldint ty3 rfl h_t15.src c3) ?_
  refine w_d rfl (d_assign (v := .int .i64 (rd t15 t17)) rfl) ?_
  refine w_done ?_
  refine w_seq ?_
  refine w_seq ?_
  refine w_region rfl ?_
  refine w_d rfl (d_move (v := .int .i64 (rd t15 t17)) rfl) ?_
  refine w_d rfl (d_move (v := .int .i64 last) rfl) ?_
  refine w_d rfl (d_leq rfl rfl) ?_
  refine w_d rfl (d_move (v := .bool (decide ((rd t15 t17) ≤ last))) rfl) ?_
  refine w_g (g := !(decide ((rd t15 t17) ≤ last))) rfl rfl rfl wn_f (fun g4 => d_move (v := .int .i64 (rd t15 t17)) rfl) ?_
  refine w_g (g := !(decide ((rd t15 t17) ≤ last))) rfl rfl rfl wn_f (fun g5 => d_gtr (cvt g5) rfl) ?_
  refine w_d rfl (d_or' (b := (decide ((rd t15 t17) ≤ last))) (p := (decide (56 < (rd t15 t17)))) rfl rfl rfl) ?_
  refine w_done ?_
  rcases its he with ⟨c6, he⟩ | ⟨c6, he⟩
  ·
   refine w_then rfl c6 ?_
   refine w_seq ?_
   refine w_region rfl ?_
   refine w_d rfl (d_iface (v := .int .i64 1) Tryd.underlying73 rfl rfl) ?_
   refine w_d rfl (d_assign (v := .slice none 0 0) rfl) ?_
   refine w_d rfl (d_assign (v := errV 73 (some 1)) rfl) ?_
   refine w_done ?_
   obtain rfl := Option.some.inj he
   refine w_return fn_18 rs_18 (.tmp (v := .slice none 0 0) rfl (.tmp (v := errV 73 (some 1)) rfl .nil)) ?_
   exact ⟨⟨[], rfl⟩, hle, ⟨.slice none 0 0, rfl, (ro_nil _ _)⟩⟩
  ·
   refine w_else rfl (Bool.eq_false_iff.2 c6) ?_
   refine w_skip ?_
   refine w_region rfl ?_
   refine w_d rfl (d_move (v := .int .i64 (rd t15 t17)) rfl) ?_
   refine w_d rfl (d_assign (v := .int .i64 (rd t15 t17)) rfl) ?_
   refine w_done ?_
   refine w_inBlock ?_
   refine w_region rfl ?_
   refine w_d rfl (d_add (c := w64 (t17 + 1)) rfl rfl rfl) ?_
   refine w_d rfl (d_move (v := .int .i64 (w64 (t17 + 1))) rfl) ?_
   refine w_done ?_
   refine w_inLoop ?_
   refine w_sl 0 (v_l) rfl ?_
   refine w_sl 2 (v_t2) rfl ?_
   refine w_sl 3 (errV 73 t3) rfl ?_
   refine w_sl 4 (.int .i64 (rd t15 t17)) rfl ?_
   refine w_sl 15 (v_t15) rfl ?_
   refine w_sl 16 (.int .i64 t16) rfl ?_
   refine w_sl 17 (.int .i64 (w64 (t17 + 1))) rfl ?_
   exact hh.l0 hle he h_l h_t2 h_t15
 ·
  refine w_else rfl (decide_eq_false c2) ?_
  refine w_exit rfl ?_
  refine w_seq ?_
  refine w_region rfl ?_
  refine w_d rfl (d_move (v := .int .i64 last) rfl) ?_
  refine w_d rfl (d_add (c := w64 (last + 7)) rfl rfl rfl) ?_
  refine w_d rfl (d_sub (c := w64 ((w64 (last + 7)) - 1)) rfl rfl rfl) ?_
  refine w_d rfl (d_quo (c := w64 (Int.tdiv (w64 ((w64 (last + 7)) - 1)) 7)) rfl rfl (by decide) rfl) ?_
  obtain ⟨c7, he⟩ := rq he
  refine w_a rfl (o_make' (kd := (Kd.int .u8)) (z0 := 0) Tryd.underlying26 ti5 (zp5 _) rfl rfl (by omega) (by omega) (by omega)) ?_
  rintro v8 _ _ ⟨i9, rfl, rfl, h10⟩
  refine w_d rfl (d_assign (v := v8) rfl) ?_
  refine w_done ?_
  refine w_seq ?_
  refine w_seq ?_
  refine w_region rfl ?_
  refine w_d rfl (d_move (v := v8) rfl) ?_
  refine w_d rfl (d_move (v := v8) rfl) ?_
  refine w_d rfl (d_len Tryd.underlying26 rfl (h10.src .here)) ?_
  refine w_d rfl (d_sub (c := w64 (((List.replicate (w64 (Int.tdiv (w64 ((w64 (last + 7)) - 1)) 7)).toNat (0 : Int)).length : Int) - 1)) rfl rfl rfl) ?_
  obtain ⟨c11, he⟩ := rq he
  refine w_a rfl (o_cutl (kd := (Kd.int .u8)) Tryd.underlying26 sz5 rfl (h10.src .here) (.inl ⟨rfl, rfl⟩) (.inr ⟨_, _, rfl, rfl⟩) c11) ?_
  rintro v12 _ _ ⟨h13, rfl, rfl⟩
  refine w_d rfl (d_lenl Tryd.underlying26 rfl h13) ?_
  refine w_d rfl (d_move (v := .int .i64 0) rfl) ?_
  refine w_done ?_
  refine w_block ?_
  refine w_loop ?_
  refine w_sl 0 (v_l) rfl ?_
  refine w_sl 2 (v_t2) rfl ?_
  refine w_sl 3 (errV 73 t3) rfl ?_
  refine w_sl 7 (v8) rfl ?_
  refine w_sl 41 (.int .i64 ((w64 (((List.replicate (w64 (Int.tdiv (w64 ((w64 (last + 7)) - 1)) 7)).toNat (0 : Int)).length : Int) - 1)) - 0)) rfl ?_
  refine w_sl 42 (.int .i64 0) rfl ?_
  exact hh.l1 hle he h_l h_t2 h10
set_option maxRecDepth 100000 in
set_option maxHeartbeats 2000000 in
theorem fspec_Encode.b1_ok {k : Nat} {h : fspec_Encode.Hs} (hh : fspec_Encode.OK h) {H0 H : Hp} {L : Items} {r : (List Int) × (Option Int)} {jk_ : Nat → Value} {l : List Int} {t2 : List Int} {t3 : Option Int} {out : List Int} {t41 : Int} {t42 : Int} {v_l : Value} {v_t2 : Value} {v_out : Value} {i_out : Item'} (hle : H0.le H) (he : fspec_Encode.b1 k h l t2 t3 out t41 t42 = some r) (h_l : Ro (Kd.int .i64) H v_l l) (h_t2 : Ro (Kd.int .u8) H v_t2 t2) (h_out : Sl (Kd.int .u8) H 5 i_out v_out out) : Wp Tryd.prog 18 69 fspec_Encode.Kl1 (upd (upd (upd (upd (upd (upd jk_ 0 (v_l)) 2 (v_t2)) 3 (errV 73 t3)) 7 (v_out)) 41 (.int .i64 t41)) 42 (.int .i64 t42)) H (i_out :: L) (fspec_Encode.R H0 L r) := by
 unfold fspec_Encode.b1 at he
 unfold fspec_Encode.Kl1
 refine w_seq ?_
 refine w_region rfl ?_
 refine w_d rfl (d_lss rfl rfl) ?_
 refine w_done ?_
 refine w_seq ?_
 rcases its he with ⟨c14, he⟩ | ⟨c14, he⟩
 ·
  refine w_then rfl (decide_eq_true c14) ?_
  refine w_skip ?_
  refine w_seq ?_
  refine w_block ?_
  refine w_seq ?_
  refine w_region rfl ?_
  refine w_d rfl (d_move (v := .int .i64 t42) rfl) ?_
  refine w_d rfl (d_assign (v := .int .i64 t42) rfl) ?_
  refine w_done ?_
  refine w_region rfl ?_
  refine w_d rfl (d_move (v := v_out) rfl) ?_
  refine w_d rfl (d_move (v := .int .i64 t42) rfl) ?_
  obtain ⟨c15, he⟩ := rq he
  refine w_d rfl (d_index (sz := 1) Tryd.underlying26 sz5 rfl (h_out.src .here) rfl c15) ?_
  refine w_a0 rfl (o_storeEl (kd := (Kd.int .u8)) (v := .int .u8 1) (F := fun z_ => z_ :: L) sz5 rfl rfl rfl rfl h_out c15 (fun _ => .here)) ?_
  rintro _ _ _ ⟨i16, rfl, rfl, rfl, h17⟩
  refine w_done ?_
  refine w_inBlock ?_
  refine w_region rfl ?_
  refine w_d rfl (d_add (c := w64 (t42 + 1)) rfl rfl rfl) ?_
  refine w_d rfl (d_move (v := .int .i64 (w64 (t42 + 1))) rfl) ?_
  refine w_done ?_
  refine w_inLoop ?_
  refine w_sl 0 (v_l) rfl ?_
  refine w_sl 2 (v_t2) rfl ?_
  refine w_sl 3 (errV 73 t3) rfl ?_
  refine w_sl 7 (v_out) rfl ?_
  refine w_sl 41 (.int .i64 t41) rfl ?_
  refine w_sl 42 (.int .i64 (w64 (t42 + 1))) rfl ?_
  exact hh.l1 hle he h_l h_t2 h17
 ·
  refine w_else rfl (decide_eq_false c14) ?_
  refine w_exit rfl ?_
  refine w_seq ?_
  refine w_seq ?_
  refine w_region rfl ?_
  refine w_d rfl (d_move (v := v_l) rfl) ?_
  refine w_d rfl (d_len Tryd.underlying41 rfl h_l.src) ?_
  refine w_d rfl (d_move (v := .int .i64 0) rfl) ?_
  refine w_done ?_
  refine w_block ?_
  refine w_loop ?_
  refine w_sl 2 (v_t2) rfl ?_
  refine w_sl 3 (errV 73 t3) rfl ?_
  refine w_sl 7 (v_out) rfl ?_
  refine w_sl 49 (v_l) rfl ?_
  refine w_sl 50 (.int .i64 (l.length : Int)) rfl ?_
  refine w_sl 51 (.int .i64 0) rfl ?_
  exact hh.l2 hle he h_t2 h_out h_l
set_option maxRecDepth 100000 in
set_option maxHeartbeats 2000000 in
theorem fspec_Encode.b2_ok {k : Nat} {h : fspec_Encode.Hs} (hh : fspec_Encode.OK h) {H0 H : Hp} {L : Items} {r : (List Int) × (Option Int)} {jk_ : Nat → Value} {t2 : List Int} {t3 : Option Int} {out : List Int} {t49 : List Int} {t50 : Int} {t51 : Int} {v_t2 : Value} {v_out : Value} {v_t49 : Value} {i_out : Item'} (hle : H0.le H) (he : fspec_Encode.b2 k h t2 t3 out t49 t50 t51 = some r) (h_t2 : Ro (Kd.int .u8) H v_t2 t2) (h_out : Sl (Kd.int .u8) H 5 i_out v_out out) (h_t49 : Ro (Kd.int .i64) H v_t49 t49) : Wp Tryd.prog 18 69 fspec_Encode.Kl2 (upd (upd (upd (upd (upd (upd jk_ 2 (v_t2)) 3 (errV 73 t3)) 7 (v_out)) 49 (v_t49)) 50 (.int .i64 t50)) 51 (.int .i64 t51)) H (i_out :: L) (fspec_Encode.R H0 L r) := by
 unfold fspec_Encode.b2 at he
 unfold fspec_Encode.Kl2
 refine w_seq ?_
 refine w_region rfl ?_
 refine w_d rfl (d_lss rfl rfl) ?_
 refine w_done ?_
 refine w_seq ?_
 rcases its he with ⟨c18, he⟩ | ⟨c18, he⟩
 ·
  refine w_then rfl (decide_eq_true c18) ?_
  refine w_skip ?_
  refine w_seq ?_
  refine w_block ?_
  refine w_seq ?_
  refine w_region rfl ?_
  obtain ⟨c19, he⟩ := rq he
  refine w_d rfl (d_index (sz := 1) Tryd.underlying41 sz3 rfl h_t49.src rfl c19) ?_
  refine w_d rfl (d_ldint ty3 rfl h_t49.src c19) ?_
  refine w_d rfl (d_assign (v := .int .i64 (rd t49 t51)) rfl) ?_
  refine w_done ?_
  obtain ⟨c20, he⟩ := rq he
  obtain ⟨c21, he⟩ := rq he
  refine w_drawn (p := 10) (tl := [10, 11, 12]) [[], [], [(1, some 56)], [(2, some 57)], [(0, some 55), (3, some 58)], [(4, some 59)], [], [(6, some 61)], [(7, some 62)], [(8, some 63)]] [some 55, some 56, some 57, some 58, some 59, some 60, some 61, some 62, some 63, some 64] (fctF [.is (v_out), .is (.int .i64 (rd t49 t51)), .is (.int .i64 (w64 ((rd t49 t51) - 1))), .is (.int .i64 (w64 (Int.tdiv (w64 ((rd t49 t51) - 1)) 7))), .is (.pointer (some (pel v_out (w64 (Int.tdiv (w64 ((rd t49 t51) - 1)) 7)) 1))), .is (.int .u8 (rd out (w64 (Int.tdiv (w64 ((rd t49 t51) - 1)) 7)))), .is (.int .i64 (rd t49 t51)), .is (.int .i64 (w64 ((rd t49 t51) - 1))), .is (.int .i64 (Int.tmod (w64 ((rd t49 t51) - 1)) 7)), .is (.int .u8 (128 / 2 ^ shn .u8 (Int.tmod (w64 ((rd t49 t51) - 1)) 7)))]) (fun m_ => i_out :: L) (fun _ => none) mixed (by kernel_rfl) (by kernel_rfl) rfl (fct_mono (by kernel_rfl)) ⟨(by intro H' m_ hH hm_ hu_; refine depK_nil ?_; exact s_d (m_ 0) rfl (d_move (v := v_out) rfl) (by exact rfl) rfl), (by intro H' m_ hH hm_ hu_; refine depK_nil ?_; exact s_d (m_ 1) rfl (d_move (v := .int .i64 (rd t49 t51)) rfl) (by exact rfl) rfl), (by intro H' m_ hH hm_ hu_; rintro _ rfl; refine depK_nil ?_; exact s_d (m_ 2) rfl (d_sub (c := w64 ((rd t49 t51) - 1)) rfl rfl rfl) (by exact rfl) rfl), (by intro H' m_ hH hm_ hu_; rintro _ rfl; refine depK_nil ?_; exact s_d (m_ 3) rfl (d_quo (c := w64 (Int.tdiv (w64 ((rd t49 t51) - 1)) 7)) rfl rfl (by decide) rfl) (by exact rfl) rfl), (by intro H' m_ hH hm_ hu_; rintro _ rfl _ rfl; refine depK_nil ?_; exact s_d (m_ 4) rfl (d_index (sz := 1) Tryd.underlying26 sz5 rfl ((h_out.mono hH).src .here) rfl c20) (by exact rfl) rfl), (by intro H' m_ hH hm_ hu_; rintro _ rfl; refine depK_nil ?_; exact s_d (m_ 5) rfl (d_ldint ty5 rfl ((h_out.mono hH).src .here) c20) (by exact rfl) rfl), (by intro H' m_ hH hm_ hu_; refine depK_nil ?_; exact s_d (m_ 6) rfl (d_move (v := .int .i64 (rd t49 t51)) rfl) (by exact rfl) rfl), (by intro H' m_ hH hm_ hu_; rintro _ rfl; refine depK_nil ?_; exact s_d (m_ 7) rfl (d_sub (c := w64 ((rd t49 t51) - 1)) rfl rfl rfl) (by exact rfl) rfl), (by intro H' m_ hH hm_ hu_; rintro _ rfl; refine depK_nil ?_; exact s_d (m_ 8) rfl (d_rem rfl rfl (by decide)) (by exact rfl) rfl), (by intro H' m_ hH hm_ hu_; rintro _ rfl; refine depK_nil ?_; exact s_d (m_ 9) rfl (d_shr (c := 128 / 2 ^ shn .u8 (Int.tmod (w64 ((rd t49 t51) - 1)) 7)) rfl rfl c21 rfl) (by exact rfl) rfl), trivial⟩ ?_
  intro H22 e23
  rintro _ _ rfl _ _ rfl _ _ rfl _ _ rfl _ _ rfl _ _ rfl _ _ rfl _ _ rfl _ _ rfl _ _ rfl
  refine w_d rfl (d_bor rfl rfl) ?_
  obtain ⟨c24, he⟩ := rq he
  refine w_d rfl (d_index (sz := 1) Tryd.underlying26 sz5 rfl ((h_out.mono e23).src .here) rfl c24) ?_
  refine w_a0 rfl (o_storeEl (kd := (Kd.int .u8)) (v := .int .u8 (ior .u8 (rd out (w64 (Int.tdiv (w64 ((rd t49 t51) - 1)) 7))) (128 / 2 ^ shn .u8 (Int.tmod (w64 ((rd t49 t51) - 1)) 7)))) (F := fun z_ => z_ :: L) sz5 rfl rfl rfl rfl (h_out.mono e23) c24 (fun _ => .here)) ?_
  rintro _ _ _ ⟨i25, rfl, rfl, rfl, h26⟩
  refine w_done ?_
  refine w_inBlock ?_
  refine w_region rfl ?_
  refine w_d rfl (d_add (c := w64 (t51 + 1)) rfl rfl rfl) ?_
  refine w_d rfl (d_move (v := .int .i64 (w64 (t51 + 1))) rfl) ?_
  refine w_done ?_
  refine w_inLoop ?_
  refine w_sl 2 (v_t2) rfl ?_
  refine w_sl 3 (errV 73 t3) rfl ?_
  refine w_sl 7 (v_out) rfl ?_
  refine w_sl 49 (v_t49) rfl ?_
  refine w_sl 50 (.int .i64 t50) rfl ?_
  refine w_sl 51 (.int .i64 (w64 (t51 + 1))) rfl ?_
  exact hh.l2 (hle.trans e23) he (h_t2.mono e23) h26 (h_t49.mono e23)
 ·
  refine w_else rfl (decide_eq_false c18) ?_
  refine w_exit rfl ?_
  refine w_seq ?_
  refine w_region rfl ?_
  refine w_d rfl (d_move (v := v_out) rfl) ?_
  refine w_d rfl (d_assign (v := v_out) rfl) ?_
  refine w_d rfl (d_assign (v := errV 73 none) rfl) ?_
  refine w_done ?_
  refine w_freeze h_out .here ?_
  intro H27 e28 h29
  obtain rfl := Option.some.inj he
  refine w_return fn_18 rs_18 (.tmp (v := v_out) rfl (.tmp (v := errV 73 none) rfl .nil)) ?_
  exact ⟨⟨[_], rfl⟩, hle.trans e28, ⟨v_out, rfl, h29⟩⟩
theorem fspec_Encode.ok : ∀ k, fspec_Encode.OK (fspec_Encode.hs k)
 | 0 => ⟨(by intros; exact nomatch (show none = some _ from by assumption)), (by intros; exact nomatch (show none = some _ from by assumption)), (by intros; exact nomatch (show none = some _ from by assumption))⟩
 | k + 1 => ⟨fspec_Encode.b0_ok (k := k) (fspec_Encode.ok k), fspec_Encode.b1_ok (k := k) (fspec_Encode.ok k), fspec_Encode.b2_ok (k := k) (fspec_Encode.ok k)⟩
set_option maxRecDepth 100000 in
set_option maxHeartbeats 2000000 in
theorem fspec_Encode.calls (k : Nat) {H : Hp} {L : Items} {l : List Int} {v0_l : Value} {r : (List Int) × (Option Int)} (he : fspec_Encode.f k l = some r) (h0_l : Ro (Kd.int .i64) H v0_l l) : Ct Tryd.prog 18 ⟨[v0_l]⟩ H L (fun v H' L' => L = L' ∧ H.le H' ∧ fspec_Encode.out r H' v) := by
 refine ct_out (O := fspec_Encode.out r) ?_
 have hle : H.le H := .refl _
 have hh := fspec_Encode.ok k
 unfold fspec_Encode.f at he
 refine ct_enter (args := [v0_l]) fn_18 rfl nt_18 rfl ?_
 refine w_seq ?_
 refine w_region rfl ?_
 refine w_d rfl (d_assign (v := .slice none 0 0) rfl) ?_
 refine w_d rfl (d_assign (v := errV 73 none) rfl) ?_
 refine w_done ?_
 refine w_seq ?_
 refine w_seq ?_
 refine w_region rfl ?_
 refine w_d rfl (d_move (v := v0_l) rfl) ?_
 refine w_d rfl (d_len Tryd.underlying41 rfl h0_l.src) ?_
 refine w_d rfl (d_eql rfl rfl) ?_
 refine w_done ?_
 rcases its he with ⟨c1, he⟩ | ⟨c1, he⟩
 ·
  refine w_then rfl (decide_eq_true c1) ?_
  refine w_seq ?_
  refine w_region rfl ?_
  refine w_d rfl (d_iface (v := .int .i64 1) Tryd.underlying73 rfl rfl) ?_
  refine w_d rfl (d_assign (v := .slice none 0 0) rfl) ?_
  refine w_d rfl (d_assign (v := errV 73 (some 1)) rfl) ?_
  refine w_done ?_
  obtain rfl := Option.some.inj he
  refine w_return fn_18 rs_18 (.tmp (v := .slice none 0 0) rfl (.tmp (v := errV 73 (some 1)) rfl .nil)) ?_
  exact ⟨⟨[], rfl⟩, hle, ⟨.slice none 0 0, rfl, (ro_nil _ _)⟩⟩
 ·
  refine w_else rfl (decide_eq_false c1) ?_
  refine w_skip ?_
  refine w_seq ?_
  refine w_region rfl ?_
  refine w_d rfl (d_assign (v := .int .i64 0) rfl) ?_
  refine w_done ?_
  refine w_seq ?_
  refine w_seq ?_
  refine w_region rfl ?_
  refine w_d rfl (d_move (v := v0_l) rfl) ?_
  refine w_d rfl (d_len Tryd.underlying41 rfl h0_l.src) ?_
  refine w_d rfl (d_move (v := .int .i64 0) rfl) ?_
  refine w_done ?_
  refine w_block ?_
  refine w_loop ?_
  refine w_sl 0 (v0_l) rfl ?_
  refine w_sl 2 (.slice none 0 0) rfl ?_
  refine w_sl 3 (errV 73 none) rfl ?_
  refine w_sl 4 (.int .i64 0) rfl ?_
  refine w_sl 15 (v0_l) rfl ?_
  refine w_sl 16 (.int .i64 (l.length : Int)) rfl ?_
  refine w_sl 17 (.int .i64 0) rfl ?_
  exact hh.l0 hle he h0_l (ro_nil _ _) h0_l
/-! ### radome/fspec.items -/
noncomputable def fspec_items.C : Code := (Tryd.f43.body).getD .skip
abbrev fspec_items.out (r : (List Int)) (H : Hp) (v : Value) : Prop := Ro (Kd.int .i64) H v r
abbrev fspec_items.R (H0 : Hp) (L : Items) (r : (List Int)) : Value → Hp → Items → Prop := fun v H' L' => (∃ p, L' = p ++ L) ∧ H0.le H' ∧ fspec_items.out r H' v
structure fspec_items.Hs where
 l0 : Int → Int → (List Int) → Int → Option (List Int)
noncomputable def fspec_items.b0 (k : Nat) (h : fspec_items.Hs)  (c_ : Int) (n : Int) (out : List Int) (t7 : Int) : Option (List Int) := if t7 < 7 then (if 0 ≤ t7 then (if (iand .u8 c_ (128 / 2 ^ shn .u8 t7)) = 0 then (h.l0 c_ n out (w64 (t7 + 1))) else (if out.length + 1 ≤ 17592186044288 then (h.l0 c_ n (out ++ [w64 ((w64 ((w64 (n * 7)) + t7)) + 1)]) (w64 (t7 + 1))) else none)) else none) else (some (out))
noncomputable def fspec_items.hs : Nat → fspec_items.Hs
 | 0 => ⟨fun _ _ _ _ => none⟩
 | k + 1 => ⟨fun x0 x1 x2 x3 => fspec_items.b0 k (fspec_items.hs k) x0 x1 x2 x3⟩
noncomputable def fspec_items.f (k : Nat) (c_ : Int) (n : Int) : Option (List Int) := (fun h : fspec_items.Hs => h.l0 c_ n [] 0) (fspec_items.hs k)
structure fspec_items.LE (h h' : fspec_items.Hs) : Prop where
 l0 : ∀ y0 y1 y2 y3, LeO (h.l0 y0 y1 y2 y3) (h'.l0 y0 y1 y2 y3)
theorem fspec_items.b0_mono {k : Nat} {h h' : fspec_items.Hs} (hl : fspec_items.LE h h') : ∀ y0 y1 y2 y3, LeO (fspec_items.b0 k h y0 y1 y2 y3) (fspec_items.b0 (k + 1) h' y0 y1 y2 y3) := fun _ _ _ _ => (LeO.ite (LeO.ite (LeO.ite (hl.l0 _ _ _ _) (LeO.ite (hl.l0 _ _ _ _) (LeO.refl _))) (LeO.refl _)) (LeO.refl _))
theorem fspec_items.hs_mono : ∀ k, fspec_items.LE (fspec_items.hs k) (fspec_items.hs (k + 1))
 | 0 => ⟨fun _ _ _ _ => LeO.none _⟩
 | k + 1 => ⟨fspec_items.b0_mono (k := k) (fspec_items.hs_mono k)⟩
theorem fspec_items.mono : ∀ k y0 y1, LeO (fspec_items.f k y0 y1) (fspec_items.f (k + 1) y0 y1) := fun k _ _ => have hl := fspec_items.hs_mono k; by unfold fspec_items.f; exact (hl.l0 _ _ _ _)
noncomputable def fspec_items.Kl0 : List Item := .code (lopB (blkB (seqR (seqL (seqR (seqR fspec_items.C)))))) :: .inLoop (lopB (blkB (seqR (seqL (seqR (seqR fspec_items.C)))))) :: .inBlock 0 :: .code (seqR (seqR (seqR fspec_items.C))) :: []
structure fspec_items.OK (h : fspec_items.Hs) : Prop where
 l0 : ∀ {H0 H : Hp} {L : Items} {r : (List Int)} {jk_ : Nat → Value} {c_ : Int} {n : Int} {out : List Int} {t7 : Int} {v_out : Value} {i_out : Item'} (_ : H0.le H) (_he : h.l0 c_ n out t7 = some r) (_h_out : Sl (Kd.int .i64) H 3 i_out v_out out), Wp Tryd.prog 43 25 fspec_items.Kl0 (upd (upd (upd (upd (upd jk_ 0 (.int .u8 c_)) 1 (.int .i64 n)) 4 (.slice none 0 0)) 5 (v_out)) 7 (.int .i64 t7)) H (i_out :: L) (fspec_items.R H0 L r)
set_option maxRecDepth 100000 in
set_option maxHeartbeats 2000000 in
theorem fspec_items.b0_ok {k : Nat} {h : fspec_items.Hs} (hh : fspec_items.OK h) {H0 H : Hp} {L : Items} {r : (List Int)} {jk_ : Nat → Value} {c_ : Int} {n : Int} {out : List Int} {t7 : Int} {v_out : Value} {i_out : Item'} (hle : H0.le H) (he : fspec_items.b0 k h c_ n out t7 = some r) (h_out : Sl (Kd.int .i64) H 3 i_out v_out out) : Wp Tryd.prog 43 25 fspec_items.Kl0 (upd (upd (upd (upd (upd jk_ 0 (.int .u8 c_)) 1 (.int .i64 n)) 4 (.slice none 0 0)) 5 (v_out)) 7 (.int .i64 t7)) H (i_out :: L) (fspec_items.R H0 L r) := by
 unfold fspec_items.b0 at he
 unfold fspec_items.Kl0
 refine w_seq ?_
 refine w_region rfl ?_
 refine w_d rfl (d_lss rfl rfl) ?_
 refine w_done ?_
 refine w_seq ?_
 rcases its he with ⟨c1, he⟩ | ⟨c1, he⟩
 ·
  refine w_then rfl (decide_eq_true c1) ?_
  refine w_skip ?_
  refine w_seq ?_
  refine w_block ?_
  refine w_seq ?_
  refine w_region rfl ?_
  refine w_d rfl (d_move (v := .int .i64 t7) rfl) ?_
  refine w_d rfl (d_assign (v := .int .i64 t7) rfl) ?_
  refine w_done ?_
  refine w_seq ?_
  refine w_region rfl ?_
  refine w_d rfl (d_move (v := .int .u8 c_) rfl) ?_
  refine w_d rfl (d_move (v := .int .i64 t7) rfl) ?_
  obtain ⟨c2, he⟩ := rq he
  refine w_d rfl (d_shr (c := 128 / 2 ^ shn .u8 t7) rfl rfl c2 rfl) ?_
  refine w_d rfl (d_band rfl rfl) ?_
  refine w_d rfl (d_neq rfl rfl) ?_
  refine w_done ?_
  rcases its he with ⟨c3, he⟩ | ⟨c3, he⟩
  ·
   refine w_else rfl (nd_t c3) ?_
   refine w_skip ?_
   refine w_inBlock ?_
   refine w_region rfl ?_
   refine w_d rfl (d_add (c := w64 (t7 + 1)) rfl rfl rfl) ?_
   refine w_d rfl (d_move (v := .int .i64 (w64 (t7 + 1))) rfl) ?_
   refine w_done ?_
   refine w_inLoop ?_
   refine w_sl 0 (.int .u8 c_) rfl ?_
   refine w_sl 1 (.int .i64 n) rfl ?_
   refine w_sl 4 (.slice none 0 0) rfl ?_
   refine w_sl 5 (v_out) rfl ?_
   refine w_sl 7 (.int .i64 (w64 (t7 + 1))) rfl ?_
   exact hh.l0 hle he h_out
  ·
   refine w_then rfl (nd_f c3) ?_
   refine w_region rfl ?_
   refine w_d rfl (d_move (v := v_out) rfl) ?_
   refine w_d rfl (d_move (v := .int .i64 n) rfl) ?_
   refine w_d rfl (d_mul (c := w64 (n * 7)) rfl rfl rfl) ?_
   refine w_d rfl (d_move (v := .int .i64 t7) rfl) ?_
   refine w_d rfl (d_add (c := w64 ((w64 (n * 7)) + t7)) rfl rfl rfl) ?_
   refine w_d rfl (d_add (c := w64 ((w64 ((w64 (n * 7)) + t7)) + 1)) rfl rfl rfl) ?_
   refine w_a rfl (o_buildSlice' (kd := (Kd.int .i64)) (css := [[.int .i64 (w64 ((w64 ((w64 (n * 7)) + t7)) + 1))]]) (xs := [w64 ((w64 ((w64 (n * 7)) + t7)) + 1)]) (parts := [(0, .int .i64 (w64 ((w64 ((w64 (n * 7)) + t7)) + 1)))]) Tryd.underlying41 ti3 rfl ⟨_, _, rfl, rfl, rfl⟩ ⟨rfl, trivial⟩ rfl (by decide)) ?_
   rintro v4 _ _ ⟨i5, rfl, rfl, h6⟩
   obtain ⟨c7, he⟩ := rq he
   refine w_a rfl (o_append' (kd := (Kd.int .i64)) (F := fun z_ => i5 :: z_ :: L) Tryd.underlying41 Tryd.underlying41 ti3 rfl (by first | omega | (simp only [List.nil_append, List.length_cons, List.length_nil]; omega)) rfl rfl h_out (h6.src .here) (fun _ => (.there .here))) ?_
   rintro v8 _ _ ⟨i9, rfl, rfl, h10⟩
   refine w_d rfl (d_assign (v := v8) rfl) ?_
   refine w_done ?_
   refine w_inBlock ?_
   refine w_region rfl ?_
   refine w_d rfl (d_add (c := w64 (t7 + 1)) rfl rfl rfl) ?_
   refine w_d rfl (d_move (v := .int .i64 (w64 (t7 + 1))) rfl) ?_
   refine w_done ?_
   refine w_inLoop ?_
   refine w_del .here ?_
   refine w_sl 0 (.int .u8 c_) rfl ?_
   refine w_sl 1 (.int .i64 n) rfl ?_
   refine w_sl 4 (.slice none 0 0) rfl ?_
   refine w_sl 5 (v8) rfl ?_
   refine w_sl 7 (.int .i64 (w64 (t7 + 1))) rfl ?_
   exact hh.l0 hle he h10
 ·
  refine w_else rfl (decide_eq_false c1) ?_
  refine w_exit rfl ?_
  refine w_seq ?_
  refine w_region rfl ?_
  refine w_d rfl (d_move (v := v_out) rfl) ?_
  refine w_d rfl (d_assign (v := v_out) rfl) ?_
  refine w_done ?_
  refine w_freeze h_out .here ?_
  intro H11 e12 h13
  obtain rfl := Option.some.inj he
  refine w_return fn_43 rs_43 (.tmp (v := v_out) rfl .nil) ?_
  exact ⟨⟨[_], rfl⟩, hle.trans e12, h13⟩
theorem fspec_items.ok : ∀ k, fspec_items.OK (fspec_items.hs k)
 | 0 => ⟨(by intros; exact nomatch (show none = some _ from by assumption))⟩
 | k + 1 => ⟨fspec_items.b0_ok (k := k) (fspec_items.ok k)⟩
set_option maxRecDepth 100000 in
set_option maxHeartbeats 2000000 in
theorem fspec_items.calls (k : Nat) {H : Hp} {L : Items} {c_ : Int} {n : Int} {r : (List Int)} (he : fspec_items.f k c_ n = some r) : Ct Tryd.prog 43 ⟨[.int .u8 c_, .int .i64 n]⟩ H L (fun v H' L' => L = L' ∧ H.le H' ∧ fspec_items.out r H' v) := by
 refine ct_out (O := fspec_items.out r) ?_
 have hle : H.le H := .refl _
 have hh := fspec_items.ok k
 unfold fspec_items.f at he
 refine ct_enter (args := [.int .u8 c_, .int .i64 n]) fn_43 rfl nt_43 rfl ?_
 refine w_seq ?_
 refine w_region rfl ?_
 refine w_d rfl (d_assign (v := .slice none 0 0) rfl) ?_
 refine w_done ?_
 refine w_seq ?_
 refine w_region rfl ?_
 refine w_d rfl (d_assign (v := .slice none 0 0) rfl) ?_
 refine w_done ?_
 refine w_seq ?_
 refine w_seq ?_
 refine w_region rfl ?_
 refine w_d rfl (d_move (v := .int .i64 0) rfl) ?_
 refine w_done ?_
 refine w_block ?_
 refine w_loop ?_
 refine w_none ?_
 refine w_sl 0 (.int .u8 c_) rfl ?_
 refine w_sl 1 (.int .i64 n) rfl ?_
 refine w_sl 4 (.slice none 0 0) rfl ?_
 refine w_sl 5 (.slice none 0 0) rfl ?_
 refine w_sl 7 (.int .i64 0) rfl ?_
 exact hh.l0 hle he (sl_nil _ _ _)
/-! ### radome/fspec.Decode -/
noncomputable def fspec_Decode.C : Code := (Tryd.f16.body).getD .skip
def fspec_Decode.out (r : fspec_Head × (Option Int)) (H : Hp) (v : Value) : Prop := ∃ v0, v = .tuple ⟨[.agg ⟨[v0, .int .i64 r.1.f_Bytes]⟩, errV 73 r.2]⟩ ∧ Ro (Kd.int .i64) H v0 r.1.f_Items
theorem fspec_Decode.out_mono (r : fspec_Head × (Option Int)) {H H' : Hp} {v : Value} (hle : H.le H') (h : fspec_Decode.out r H v) : fspec_Decode.out r H' v := by
 obtain ⟨v0, rfl, h0⟩ := h; exact ⟨v0, rfl, h0.mono hle⟩
abbrev fspec_Decode.R (H0 : Hp) (L : Items) (r : fspec_Head × (Option Int)) : Value → Hp → Items → Prop := fun v H' L' => (∃ p, L' = p ++ L) ∧ H0.le H' ∧ fspec_Decode.out r H' v
structure fspec_Decode.Hs where
 l0 : (List Int) → Int → (List Int) → Int → (Option Int) → (List Int) → Int → Int → Option (fspec_Head × (Option Int))
noncomputable def fspec_Decode.b0 (k : Nat) (h : fspec_Decode.Hs)  (b : List Int) (limit : Int) (t4_0 : List Int) (t4_1 : Int) (t5 : Option Int) (h_0 : List Int) (h_1 : Int) (i : Int) : Option (fspec_Head × (Option Int)) := if i = limit then (some ((⟨[], 0⟩ : fspec_Head), some 2)) else (if i = (b.length : Int) then (some ((⟨[], 0⟩ : fspec_Head), some 4)) else (if 0 ≤ i ∧ i < (b.length : Int) then ((fspec_items.f k (rd b i) i).bind fun y9 => if h_0.length + y9.length ≤ 17592186044288 then (if 0 ≤ i ∧ i < (b.length : Int) then (if (iand .u8 (rd b i) 1) = 0 then (if (y9.length : Int) = 0 then (some ((⟨[], 0⟩ : fspec_Head), some 3)) else (some ((⟨h_0 ++ y9, w64 (i + 1)⟩ : fspec_Head), none))) else (h.l0 b limit t4_0 t4_1 t5 (h_0 ++ y9) h_1 (w64 (i + 1)))) else none) else none) else none))
noncomputable def fspec_Decode.hs : Nat → fspec_Decode.Hs
 | 0 => ⟨fun _ _ _ _ _ _ _ _ => none⟩
 | k + 1 => ⟨fun x0 x1 x2 x3 x4 x5 x6 x7 => fspec_Decode.b0 k (fspec_Decode.hs k) x0 x1 x2 x3 x4 x5 x6 x7⟩
noncomputable def fspec_Decode.f (k : Nat) (b : List Int) (limit : Int) : Option (fspec_Head × (Option Int)) := (fun h : fspec_Decode.Hs => if ((decide (limit < 1)) || (decide (8 < limit))) = true then (some ((⟨[], 0⟩ : fspec_Head), some 1)) else (h.l0 b limit [] 0 none [] 0 0)) (fspec_Decode.hs k)
structure fspec_Decode.LE (h h' : fspec_Decode.Hs) : Prop where
 l0 : ∀ y0 y1 y2 y3 y4 y5 y6 y7, LeO (h.l0 y0 y1 y2 y3 y4 y5 y6 y7) (h'.l0 y0 y1 y2 y3 y4 y5 y6 y7)
theorem fspec_Decode.b0_mono {k : Nat} {h h' : fspec_Decode.Hs} (hl : fspec_Decode.LE h h') : ∀ y0 y1 y2 y3 y4 y5 y6 y7, LeO (fspec_Decode.b0 k h y0 y1 y2 y3 y4 y5 y6 y7) (fspec_Decode.b0 (k + 1) h' y0 y1 y2 y3 y4 y5 y6 y7) := fun _ _ _ _ _ _ _ _ => (LeO.ite (LeO.refl _) (LeO.ite (LeO.refl _) (LeO.ite (LeO.bind (fspec_items.mono k _ _) fun _ => LeO.ite (LeO.ite (LeO.ite (LeO.ite (LeO.refl _) (LeO.refl _)) (hl.l0 _ _ _ _ _ _ _ _)) (LeO.refl _)) (LeO.refl _)) (LeO.refl _))))
theorem fspec_Decode.hs_mono : ∀ k, fspec_Decode.LE (fspec_Decode.hs k) (fspec_Decode.hs (k + 1))
 | 0 => ⟨fun _ _ _ _ _ _ _ _ => LeO.none _⟩
 | k + 1 => ⟨fspec_Decode.b0_mono (k := k) (fspec_Decode.hs_mono k)⟩
theorem fspec_Decode.mono : ∀ k y0 y1, LeO (fspec_Decode.f k y0 y1) (fspec_Decode.f (k + 1) y0 y1) := fun k _ _ => have hl := fspec_Decode.hs_mono k; by unfold fspec_Decode.f; exact (LeO.ite (LeO.refl _) (hl.l0 _ _ _ _ _ _ _ _))
noncomputable def fspec_Decode.Kl0 : List Item := .code (lopB (blkB (seqR (seqR (seqR (seqR fspec_Decode.C)))))) :: .inLoop (lopB (blkB (seqR (seqR (seqR (seqR fspec_Decode.C)))))) :: .inBlock 0 :: []
structure fspec_Decode.OK (h : fspec_Decode.Hs) : Prop where
 l0 : ∀ {H0 H : Hp} {L : Items} {r : fspec_Head × (Option Int)} {jk_ : Nat → Value} {b : List Int} {limit : Int} {t4_0 : List Int} {t4_1 : Int} {t5 : Option Int} {h_0 : List Int} {h_1 : Int} {i : Int} {v_b : Value} {v_t4_0 : Value} {v_h_0 : Value} {i_h_0 : Item'} {b_t4 : Nat} {b_h_ : Nat} (_ : H0.le H) (_he : h.l0 b limit t4_0 t4_1 t5 h_0 h_1 i = some r) (_h_b : Ro (Kd.int .u8) H v_b b) (_h_t4_0 : Ro (Kd.int .i64) H v_t4_0 t4_0) (_h_h_0 : Sl (Kd.int .i64) H 3 i_h_0 v_h_0 h_0), Wp Tryd.prog 16 58 fspec_Decode.Kl0 (upd (upd (upd (upd (upd (upd jk_ 0 (v_b)) 1 (.int .i64 limit)) 4 (.pointer (some ⟨b_t4, 0, none⟩))) 5 (errV 73 t5)) 6 (.pointer (some ⟨b_h_, 0, none⟩))) 7 (.int .i64 i)) H (i_h_0 :: some (b_h_, .cells ⟨[v_h_0, .int .i64 h_1]⟩ 43 (0, 0)) :: some (b_t4, .cells ⟨[v_t4_0, .int .i64 t4_1]⟩ 43 (0, 0)) :: L) (fspec_Decode.R H0 L r)
set_option maxRecDepth 100000 in
set_option maxHeartbeats 2000000 in
theorem fspec_Decode.b0_ok {k : Nat} {h : fspec_Decode.Hs} (hh : fspec_Decode.OK h) {H0 H : Hp} {L : Items} {r : fspec_Head × (Option Int)} {jk_ : Nat → Value} {b : List Int} {limit : Int} {t4_0 : List Int} {t4_1 : Int} {t5 : Option Int} {h_0 : List Int} {h_1 : Int} {i : Int} {v_b : Value} {v_t4_0 : Value} {v_h_0 : Value} {i_h_0 : Item'} {b_t4 : Nat} {b_h_ : Nat} (hle : H0.le H) (he : fspec_Decode.b0 k h b limit t4_0 t4_1 t5 h_0 h_1 i = some r) (h_b : Ro (Kd.int .u8) H v_b b) (h_t4_0 : Ro (Kd.int .i64) H v_t4_0 t4_0) (h_h_0 : Sl (Kd.int .i64) H 3 i_h_0 v_h_0 h_0) : Wp Tryd.prog 16 58 fspec_Decode.Kl0 (upd (upd (upd (upd (upd (upd jk_ 0 (v_b)) 1 (.int .i64 limit)) 4 (.pointer (some ⟨b_t4, 0, none⟩))) 5 (errV 73 t5)) 6 (.pointer (some ⟨b_h_, 0, none⟩))) 7 (.int .i64 i)) H (i_h_0 :: some (b_h_, .cells ⟨[v_h_0, .int .i64 h_1]⟩ 43 (0, 0)) :: some (b_t4, .cells ⟨[v_t4_0, .int .i64 t4_1]⟩ 43 (0, 0)) :: L) (fspec_Decode.R H0 L r) := by
 unfold fspec_Decode.b0 at he
 unfold fspec_Decode.Kl0
 refine w_seq ?_
 refine w_block ?_
 refine w_seq ?_
 refine w_block ?_
 refine w_seq ?_
 refine w_region rfl ?_
 refine w_d rfl (d_move (v := .int .i64 i) rfl) ?_
 refine w_d rfl (d_move (v := .int .i64 limit) rfl) ?_
 refine w_d rfl (d_eql rfl rfl) ?_
 refine w_d rfl (d_assign (v := .bool (decide (i = limit))) rfl) ?_
 refine w_done ?_
 rcases its he with ⟨c6, he⟩ | ⟨c6, he⟩
 ·
  refine w_then rfl (decide_eq_true c6) ?_
  refine w_seq ?_
  refine w_region rfl ?_
  refine w_d rfl (d_build (cs' := [.slice none 0 0, .int .i64 0]) Tryd.underlying43 zr43 rfl (by kernel_rfl) (parts := []) rfl .nil) ?_
  refine w_d rfl (d_iface (v := .int .i64 2) Tryd.underlying73 rfl rfl) ?_
  refine w_a0 rfl (o_store (v := .agg ⟨[.slice none 0 0, .int .i64 0]⟩) sz43 rfl rfl rfl rfl (one_cons rfl (one_cons rfl one_nil)) (.there (.there .here)) (.here (.here .done))) ?_
  rintro _ _ _ ⟨rfl, rfl, rfl⟩
  refine w_d rfl (d_assign (v := errV 73 (some 2)) rfl) ?_
  refine w_done ?_
  obtain rfl := Option.some.inj he
  refine w_return fn_16 rs_16 (.box (v := .agg ⟨[.slice none 0 0, .int .i64 0]⟩) rfl ty43 rfl rfl (.there (.there .here)) rfl (.tmp (v := errV 73 (some 2)) rfl .nil)) ?_
  exact ⟨⟨[_, _, _], rfl⟩, hle, ⟨.slice none 0 0, rfl, (ro_nil _ _)⟩⟩
 ·
  refine w_else rfl (decide_eq_false c6) ?_
  refine w_seq ?_
  refine w_region rfl ?_
  refine w_d rfl (d_move (v := .int .i64 i) rfl) ?_
  refine w_d rfl (d_move (v := v_b) rfl) ?_
  refine w_d rfl (d_len Tryd.underlying26 rfl h_b.src) ?_
  refine w_d rfl (d_eql rfl rfl) ?_
  refine w_d rfl (d_assign (v := .bool (decide (i = (b.length : Int)))) rfl) ?_
  refine w_done ?_
  rcases its he with ⟨c7, he⟩ | ⟨c7, he⟩
  ·
   refine w_then rfl (decide_eq_true c7) ?_
   refine w_seq ?_
   refine w_region rfl ?_
   refine w_d rfl (d_build (cs' := [.slice none 0 0, .int .i64 0]) Tryd.underlying43 zr43 rfl (by kernel_rfl) (parts := []) rfl .nil) ?_
   refine w_d rfl (d_iface (v := .int .i64 4) Tryd.underlying73 rfl rfl) ?_
   refine w_a0 rfl (o_store (v := .agg ⟨[.slice none 0 0, .int .i64 0]⟩) sz43 rfl rfl rfl rfl (one_cons rfl (one_cons rfl one_nil)) (.there (.there .here)) (.here (.here .done))) ?_
   rintro _ _ _ ⟨rfl, rfl, rfl⟩
   refine w_d rfl (d_assign (v := errV 73 (some 4)) rfl) ?_
   refine w_done ?_
   obtain rfl := Option.some.inj he
   refine w_return fn_16 rs_16 (.box (v := .agg ⟨[.slice none 0 0, .int .i64 0]⟩) rfl ty43 rfl rfl (.there (.there .here)) rfl (.tmp (v := errV 73 (some 4)) rfl .nil)) ?_
   exact ⟨⟨[_, _, _], rfl⟩, hle, ⟨.slice none 0 0, rfl, (ro_nil _ _)⟩⟩
  ·
   refine w_else rfl (decide_eq_false c7) ?_
   refine w_skip ?_
   refine w_inBlock ?_
   refine w_seq ?_
   refine w_region rfl ?_
   refine w_d rfl (d_move (v := v_b) rfl) ?_
   refine w_d rfl (d_move (v := .int .i64 i) rfl) ?_
   obtain ⟨c8, he⟩ := rq he
   refine w_d rfl (d_index (sz := 1) Tryd.underlying26 sz5 rfl h_b.src rfl c8) ?_
   refine w_d rfl (d_ldint ty5 rfl h_b.src c8) ?_
   refine w_d rfl (d_move (v := .int .i64 i) rfl) ?_
   obtain ⟨y9, hy10, he⟩ := Option.bind_eq_some_iff.1 he
   refine w_a rfl (o_call co43 (vs := [.int .u8 (rd b i), .int .i64 i]) rfl (fspec_items.calls k hy10)) ?_
   rintro v13 H11 _ ⟨rfl, e12, h14⟩
   refine w_d rfl (d_assign (v := v13) rfl) ?_
   refine w_done ?_
   refine w_seq ?_
   refine w_region rfl ?_
   refine w_d rfl (d_fld (o' := 0) Tryd.underlying43 rfl sz41 rfl rfl rfl) ?_
   refine w_d rfl (d_loado (v := v_h_0) ty41 rfl (.there .here) rfl rfl rfl rfl) ?_
   refine w_d rfl (d_move (v := v13) rfl) ?_
   obtain ⟨c15, he⟩ := rq he
   refine w_a rfl (o_append' (kd := (Kd.int .i64)) (F := fun z_ => z_ :: some (b_h_, .cells ⟨[v_h_0, .int .i64 h_1]⟩ 43 (0, 0)) :: some (b_t4, .cells ⟨[v_t4_0, .int .i64 t4_1]⟩ 43 (0, 0)) :: L) Tryd.underlying41 Tryd.underlying41 ti3 rfl (by first | omega | (simp only [List.nil_append, List.length_cons, List.length_nil]; omega)) rfl rfl (h_h_0.mono e12) h14.src (fun _ => .here)) ?_
   rintro v16 _ _ ⟨i17, rfl, rfl, h18⟩
   refine w_d rfl (d_fld (o' := 0) Tryd.underlying43 rfl sz41 rfl rfl rfl) ?_
   refine w_a0 rfl (o_store (v := v16) sz41 rfl rfl h18.cells rfl (one_cons (h18.one) one_nil) (.there .here) (.here .done)) ?_
   rintro _ _ _ ⟨rfl, rfl, rfl⟩
   refine w_done ?_
   refine w_seq ?_
   refine w_seq ?_
   refine w_region rfl ?_
   refine w_d rfl (d_move (v := v_b) rfl) ?_
   refine w_d rfl (d_move (v := .int .i64 i) rfl) ?_
   obtain ⟨c19, he⟩ := rq he
   refine w_d rfl (d_index (sz := 1) Tryd.underlying26 sz5 rfl (h_b.mono e12).src rfl c19) ?_
   refine w_d rfl (d_ldint ty5 rfl (h_b.mono e12).src c19) ?_
   refine w_d rfl (d_band rfl rfl) ?_
   refine w_d rfl (d_neq rfl rfl) ?_
   refine w_done ?_
   rcases its he with ⟨c20, he⟩ | ⟨c20, he⟩
   ·
    refine w_else rfl (nd_t c20) ?_
    refine w_skip ?_
    refine w_seq ?_
    refine w_seq ?_
    refine w_region rfl ?_
    refine w_d rfl (d_move (v := v13) rfl) ?_
    refine w_d rfl (d_len Tryd.underlying41 rfl h14.src) ?_
    refine w_d rfl (d_eql rfl rfl) ?_
    refine w_done ?_
    rcases its he with ⟨c21, he⟩ | ⟨c21, he⟩
    ·
     refine w_then rfl (decide_eq_true c21) ?_
     refine w_seq ?_
     refine w_region rfl ?_
     refine w_d rfl (d_build (cs' := [.slice none 0 0, .int .i64 0]) Tryd.underlying43 zr43 rfl (by kernel_rfl) (parts := []) rfl .nil) ?_
     refine w_d rfl (d_iface (v := .int .i64 3) Tryd.underlying73 rfl rfl) ?_
     refine w_a0 rfl (o_store (v := .agg ⟨[.slice none 0 0, .int .i64 0]⟩) sz43 rfl rfl rfl rfl (one_cons rfl (one_cons rfl one_nil)) (.there (.there .here)) (.here (.here .done))) ?_
     rintro _ _ _ ⟨rfl, rfl, rfl⟩
     refine w_d rfl (d_assign (v := errV 73 (some 3)) rfl) ?_
     refine w_done ?_
     obtain rfl := Option.some.inj he
     refine w_return fn_16 rs_16 (.box (v := .agg ⟨[.slice none 0 0, .int .i64 0]⟩) rfl ty43 rfl rfl (.there (.there .here)) rfl (.tmp (v := errV 73 (some 3)) rfl .nil)) ?_
     exact ⟨⟨[_, _, _], rfl⟩, hle.trans e12, ⟨.slice none 0 0, rfl, (ro_nil _ _)⟩⟩
    ·
     refine w_else rfl (decide_eq_false c21) ?_
     refine w_skip ?_
     refine w_seq ?_
     refine w_region rfl ?_
     refine w_d rfl (d_move (v := .int .i64 i) rfl) ?_
     refine w_d rfl (d_add (c := w64 (i + 1)) rfl rfl rfl) ?_
     refine w_d rfl (d_fld (o' := 1) Tryd.underlying43 rfl sz3 rfl rfl rfl) ?_
     refine w_a0 rfl (o_store (v := .int .i64 (w64 (i + 1))) sz3 rfl rfl rfl rfl (one_cons rfl one_nil) (.there .here) (.there (.here .done))) ?_
     rintro _ _ _ ⟨rfl, rfl, rfl⟩
     refine w_done ?_
     refine w_seq ?_
     refine w_region rfl ?_
     refine w_d rfl (d_loado (v := .agg ⟨[v16, .int .i64 (w64 (i + 1))]⟩) ty43 rfl (.there .here) rfl rfl rfl rfl) ?_
     refine w_a0 rfl (o_store (v := .agg ⟨[v16, .int .i64 (w64 (i + 1))]⟩) sz43 rfl rfl rfl rfl (one_cons (h18.one) (one_cons rfl one_nil)) (.there (.there .here)) (.here (.here .done))) ?_
     rintro _ _ _ ⟨rfl, rfl, rfl⟩
     refine w_d rfl (d_assign (v := errV 73 none) rfl) ?_
     refine w_done ?_
     refine w_freeze h18 .here ?_
     intro H22 e23 h24
     obtain rfl := Option.some.inj he
     refine w_return fn_16 rs_16 (.box (v := .agg ⟨[v16, .int .i64 (w64 (i + 1))]⟩) rfl ty43 rfl rfl (.there (.there .here)) rfl (.tmp (v := errV 73 none) rfl .nil)) ?_
     exact ⟨⟨[_, _, _], rfl⟩, hle.trans (e12.trans e23), ⟨v16, rfl, h24⟩⟩
   ·
    refine w_then rfl (nd_f c20) ?_
    refine w_exit rfl ?_
    refine w_region rfl ?_
    refine w_d rfl (d_move (v := .int .i64 i) rfl) ?_
    refine w_d rfl (d_add (c := w64 (i + 1)) rfl rfl rfl) ?_
    refine w_d rfl (d_assign (v := .int .i64 (w64 (i + 1))) rfl) ?_
    refine w_done ?_
    refine w_inLoop ?_
    refine w_sl 0 (v_b) rfl ?_
    refine w_sl 1 (.int .i64 limit) rfl ?_
    refine w_sl 4 (.pointer (some ⟨b_t4, 0, none⟩)) rfl ?_
    refine w_sl 5 (errV 73 t5) rfl ?_
    refine w_sl 6 (.pointer (some ⟨b_h_, 0, none⟩)) rfl ?_
    refine w_sl 7 (.int .i64 (w64 (i + 1))) rfl ?_
    exact hh.l0 (hle.trans e12) he (h_b.mono e12) (h_t4_0.mono e12) h18
theorem fspec_Decode.ok : ∀ k, fspec_Decode.OK (fspec_Decode.hs k)
 | 0 => ⟨(by intros; exact nomatch (show none = some _ from by assumption))⟩
 | k + 1 => ⟨fspec_Decode.b0_ok (k := k) (fspec_Decode.ok k)⟩
set_option maxRecDepth 100000 in
set_option maxHeartbeats 2000000 in
theorem fspec_Decode.calls (k : Nat) {H : Hp} {L : Items} {b : List Int} {limit : Int} {v0_b : Value} {r : fspec_Head × (Option Int)} (he : fspec_Decode.f k b limit = some r) (h0_b : Ro (Kd.int .u8) H v0_b b) : Ct Tryd.prog 16 ⟨[v0_b, .int .i64 limit]⟩ H L (fun v H' L' => L = L' ∧ H.le H' ∧ fspec_Decode.out r H' v) := by
 refine ct_out (O := fspec_Decode.out r) ?_
 have hle : H.le H := .refl _
 have hh := fspec_Decode.ok k
 unfold fspec_Decode.f at he
 refine ct_enter (args := [v0_b, .int .i64 limit]) fn_16 rfl nt_16 rfl ?_
 refine w_seq ?_
 refine w_region rfl ?_
 refine w_a rfl (o_alloc zr43 rfl) ?_
 rintro _ _ _ ⟨b1, rfl, rfl, rfl⟩
 refine w_d rfl (d_assign (v := errV 73 none) rfl) ?_
 refine w_done ?_
 refine w_seq ?_
 refine w_seq ?_
 refine w_region rfl ?_
 refine w_d rfl (d_move (v := .int .i64 limit) rfl) ?_
 refine w_d rfl (d_lss rfl rfl) ?_
 refine w_d rfl (d_move (v := .bool (decide (limit < 1))) rfl) ?_
 refine w_g (g := !(decide (limit < 1))) rfl rfl rfl wn_f (fun g2 => d_move (v := .int .i64 limit) rfl) ?_
 refine w_g (g := !(decide (limit < 1))) rfl rfl rfl wn_f (fun g3 => d_gtr (cvt g3) rfl) ?_
 refine w_d rfl (d_or' (b := (decide (limit < 1))) (p := (decide (8 < limit))) rfl rfl rfl) ?_
 refine w_done ?_
 rcases its he with ⟨c4, he⟩ | ⟨c4, he⟩
 ·
  refine w_then rfl c4 ?_
  refine w_seq ?_
  refine w_region rfl ?_
  refine w_d rfl (d_build (cs' := [.slice none 0 0, .int .i64 0]) Tryd.underlying43 zr43 rfl (by kernel_rfl) (parts := []) rfl .nil) ?_
  refine w_d rfl (d_iface (v := .int .i64 1) Tryd.underlying73 rfl rfl) ?_
  refine w_a0 rfl (o_store (v := .agg ⟨[.slice none 0 0, .int .i64 0]⟩) sz43 rfl rfl rfl rfl (one_cons rfl (one_cons rfl one_nil)) .here (.here (.here .done))) ?_
  rintro _ _ _ ⟨rfl, rfl, rfl⟩
  refine w_d rfl (d_assign (v := errV 73 (some 1)) rfl) ?_
  refine w_done ?_
  obtain rfl := Option.some.inj he
  refine w_return fn_16 rs_16 (.box (v := .agg ⟨[.slice none 0 0, .int .i64 0]⟩) rfl ty43 rfl rfl .here rfl (.tmp (v := errV 73 (some 1)) rfl .nil)) ?_
  exact ⟨⟨[_], rfl⟩, hle, ⟨.slice none 0 0, rfl, (ro_nil _ _)⟩⟩
 ·
  refine w_else rfl (Bool.eq_false_iff.2 c4) ?_
  refine w_skip ?_
  refine w_seq ?_
  refine w_region rfl ?_
  refine w_a rfl (o_alloc zr43 rfl) ?_
  rintro _ _ _ ⟨b5, rfl, rfl, rfl⟩
  refine w_done ?_
  refine w_seq ?_
  refine w_region rfl ?_
  refine w_d rfl (d_assign (v := .int .i64 0) rfl) ?_
  refine w_done ?_
  refine w_block ?_
  refine w_loop ?_
  refine w_none ?_
  refine w_sl 0 (v0_b) rfl ?_
  refine w_sl 1 (.int .i64 limit) rfl ?_
  refine w_sl 4 (.pointer (some ⟨b1, 0, none⟩)) rfl ?_
  refine w_sl 5 (errV 73 none) rfl ?_
  refine w_sl 6 (.pointer (some ⟨b5, 0, none⟩)) rfl ?_
  refine w_sl 7 (.int .i64 0) rfl ?_
  exact hh.l0 hle he h0_b (ro_nil _ _) (sl_nil _ _ _)
/-! ### radome/radomelaw27.ints -/
noncomputable def radomelaw27_ints.C : Code := (Tryd.f22.body).getD .skip
def radomelaw27_ints.out (r : Bool) (H : Hp) (v : Value) : Prop := v = .bool r
abbrev radomelaw27_ints.R (H0 : Hp) (L : Items) (r : Bool) : Value → Hp → Items → Prop := fun v H' L' => (∃ p, L' = p ++ L) ∧ H0.le H' ∧ radomelaw27_ints.out r H' v
structure radomelaw27_ints.Hs where
 l0 : (List Int) → (List Int) → Bool → Int → Option Bool
noncomputable def radomelaw27_ints.b0 (k : Nat) (h : radomelaw27_ints.Hs)  (a : List Int) (b : List Int) (t4 : Bool) (i : Int) : Option Bool := if i < (a.length : Int) then (if 0 ≤ i ∧ i < (a.length : Int) then (if 0 ≤ i ∧ i < (b.length : Int) then (if (rd a i) = (rd b i) then (h.l0 a b t4 (w64 (i + 1))) else (some (false))) else none) else none) else (some (true))
noncomputable def radomelaw27_ints.hs : Nat → radomelaw27_ints.Hs
 | 0 => ⟨fun _ _ _ _ => none⟩
 | k + 1 => ⟨fun x0 x1 x2 x3 => radomelaw27_ints.b0 k (radomelaw27_ints.hs k) x0 x1 x2 x3⟩
noncomputable def radomelaw27_ints.f (k : Nat) (a : List Int) (b : List Int) : Option Bool := (fun h : radomelaw27_ints.Hs => if (a.length : Int) = (b.length : Int) then (h.l0 a b false 0) else (some (false))) (radomelaw27_ints.hs k)
structure radomelaw27_ints.LE (h h' : radomelaw27_ints.Hs) : Prop where
 l0 : ∀ y0 y1 y2 y3, LeO (h.l0 y0 y1 y2 y3) (h'.l0 y0 y1 y2 y3)
theorem radomelaw27_ints.b0_mono {k : Nat} {h h' : radomelaw27_ints.Hs} (hl : radomelaw27_ints.LE h h') : ∀ y0 y1 y2 y3, LeO (radomelaw27_ints.b0 k h y0 y1 y2 y3) (radomelaw27_ints.b0 (k + 1) h' y0 y1 y2 y3) := fun _ _ _ _ => (LeO.ite (LeO.ite (LeO.ite (LeO.ite (hl.l0 _ _ _ _) (LeO.refl _)) (LeO.refl _)) (LeO.refl _)) (LeO.refl _))
theorem radomelaw27_ints.hs_mono : ∀ k, radomelaw27_ints.LE (radomelaw27_ints.hs k) (radomelaw27_ints.hs (k + 1))
 | 0 => ⟨fun _ _ _ _ => LeO.none _⟩
 | k + 1 => ⟨radomelaw27_ints.b0_mono (k := k) (radomelaw27_ints.hs_mono k)⟩
theorem radomelaw27_ints.mono : ∀ k y0 y1, LeO (radomelaw27_ints.f k y0 y1) (radomelaw27_ints.f (k + 1) y0 y1) := fun k _ _ => have hl := radomelaw27_ints.hs_mono k; by unfold radomelaw27_ints.f; exact (LeO.ite (hl.l0 _ _ _ _) (LeO.refl _))
noncomputable def radomelaw27_ints.Kl0 : List Item := .code (lopB (blkB (seqR (seqL (seqR (seqR radomelaw27_ints.C)))))) :: .inLoop (lopB (blkB (seqR (seqL (seqR (seqR radomelaw27_ints.C)))))) :: .inBlock 0 :: .code (seqR (seqR (seqR radomelaw27_ints.C))) :: []
structure radomelaw27_ints.OK (h : radomelaw27_ints.Hs) : Prop where
 l0 : ∀ {H0 H : Hp} {L : Items} {r : Bool} {jk_ : Nat → Value} {a : List Int} {b : List Int} {t4 : Bool} {i : Int} {v_a : Value} {v_b : Value} (_ : H0.le H) (_he : h.l0 a b t4 i = some r) (_h_a : Ro (Kd.int .i64) H v_a a) (_h_b : Ro (Kd.int .i64) H v_b b), Wp Tryd.prog 22 26 radomelaw27_ints.Kl0 (upd (upd (upd (upd jk_ 0 (v_a)) 1 (v_b)) 4 (.bool t4)) 5 (.int .i64 i)) H (L) (radomelaw27_ints.R H0 L r)
set_option maxRecDepth 100000 in
set_option maxHeartbeats 2000000 in
theorem radomelaw27_ints.b0_ok {k : Nat} {h : radomelaw27_ints.Hs} (hh : radomelaw27_ints.OK h) {H0 H : Hp} {L : Items} {r : Bool} {jk_ : Nat → Value} {a : List Int} {b : List Int} {t4 : Bool} {i : Int} {v_a : Value} {v_b : Value} (hle : H0.le H) (he : radomelaw27_ints.b0 k h a b t4 i = some r) (h_a : Ro (Kd.int .i64) H v_a a) (h_b : Ro (Kd.int .i64) H v_b b) : Wp Tryd.prog 22 26 radomelaw27_ints.Kl0 (upd (upd (upd (upd jk_ 0 (v_a)) 1 (v_b)) 4 (.bool t4)) 5 (.int .i64 i)) H (L) (radomelaw27_ints.R H0 L r) := by
 unfold radomelaw27_ints.b0 at he
 unfold radomelaw27_ints.Kl0
 refine w_seq ?_
 refine w_seq ?_
 refine w_region rfl ?_
 refine w_d rfl (d_move (v := .int .i64 i) rfl) ?_
 refine w_d rfl (d_move (v := v_a) rfl) ?_
 refine w_d rfl (d_len Tryd.underlying41 rfl h_a.src) ?_
 refine w_d rfl (d_lss rfl rfl) ?_
 refine w_done ?_
 rcases its he with ⟨c2, he⟩ | ⟨c2, he⟩
 ·
  refine w_then rfl (decide_eq_true c2) ?_
  refine w_skip ?_
  refine w_seq ?_
  refine w_block ?_
  refine w_seq ?_
  obtain ⟨c3, he⟩ := rq he
  obtain ⟨c4, he⟩ := rq he
  refine w_drawn (p := 8) (tl := [8]) [[], [], [(0, some 17), (1, some 18)], [(2, some 19)], [], [], [(4, some 21), (5, some 22)], [(6, some 23)]] [some 17, some 18, some 19, some 20, some 21, some 22, some 23, some 24] (fctF [.is (v_a), .is (.int .i64 i), .is (.pointer (some (pel v_a i 1))), .is (.int .i64 (rd a i)), .is (v_b), .is (.int .i64 i), .is (.pointer (some (pel v_b i 1))), .is (.int .i64 (rd b i))]) (fun m_ => L) (fun _ => none) mixed (by kernel_rfl) (by kernel_rfl) rfl (fct_mono (by kernel_rfl)) ⟨(by intro H' m_ hH hm_ hu_; refine depK_nil ?_; exact s_d (m_ 0) rfl (d_move (v := v_a) rfl) (by exact rfl) rfl), (by intro H' m_ hH hm_ hu_; refine depK_nil ?_; exact s_d (m_ 1) rfl (d_move (v := .int .i64 i) rfl) (by exact rfl) rfl), (by intro H' m_ hH hm_ hu_; rintro _ rfl _ rfl; refine depK_nil ?_; exact s_d (m_ 2) rfl (d_index (sz := 1) Tryd.underlying41 sz3 rfl (h_a.mono hH).src rfl c3) (by exact rfl) rfl), (by intro H' m_ hH hm_ hu_; rintro _ rfl; refine depK_nil ?_; exact s_d (m_ 3) rfl (d_ldint ty3 rfl (h_a.mono hH).src c3) (by exact rfl) rfl), (by intro H' m_ hH hm_ hu_; refine depK_nil ?_; exact s_d (m_ 4) rfl (d_move (v := v_b) rfl) (by exact rfl) rfl), (by intro H' m_ hH hm_ hu_; refine depK_nil ?_; exact s_d (m_ 5) rfl (d_move (v := .int .i64 i) rfl) (by exact rfl) rfl), (by intro H' m_ hH hm_ hu_; rintro _ rfl _ rfl; refine depK_nil ?_; exact s_d (m_ 6) rfl (d_index (sz := 1) Tryd.underlying41 sz3 rfl (h_b.mono hH).src rfl c4) (by exact rfl) rfl), (by intro H' m_ hH hm_ hu_; rintro _ rfl; refine depK_nil ?_; exact s_d (m_ 7) rfl (d_ldint ty3 rfl (h_b.mono hH).src c4) (by exact rfl) rfl), trivial⟩ ?_
  intro H5 e6
  rintro _ _ rfl _ _ rfl _ _ rfl _ _ rfl _ _ rfl _ _ rfl _ _ rfl _ _ rfl
  refine w_d rfl (d_neq rfl rfl) ?_
  refine w_done ?_
  rcases its he with ⟨c7, he⟩ | ⟨c7, he⟩
  ·
   refine w_else rfl (nd_t c7) ?_
   refine w_skip ?_
   refine w_inBlock ?_
   refine w_region rfl ?_
   refine w_d rfl (d_move (v := .int .i64 i) rfl) ?_
   refine w_d rfl (d_add (c := w64 (i + 1)) rfl rfl rfl) ?_
   refine w_d rfl (d_assign (v := .int .i64 (w64 (i + 1))) rfl) ?_
   refine w_done ?_
   refine w_inLoop ?_
   refine w_sl 0 (v_a) rfl ?_
   refine w_sl 1 (v_b) rfl ?_
   refine w_sl 4 (.bool t4) rfl ?_
   refine w_sl 5 (.int .i64 (w64 (i + 1))) rfl ?_
   exact hh.l0 (hle.trans e6) he (h_a.mono e6) (h_b.mono e6)
  ·
   refine w_then rfl (nd_f c7) ?_
   refine w_seq ?_
   refine w_region rfl ?_
   refine w_d rfl (d_assign (v := .bool false) rfl) ?_
   refine w_done ?_
   obtain rfl := Option.some.inj he
   refine w_return fn_22 rs_22 (.tmp (v := .bool false) rfl .nil) ?_
   exact ⟨⟨[], rfl⟩, hle.trans e6, rfl⟩
 ·
  refine w_else rfl (decide_eq_false c2) ?_
  refine w_exit rfl ?_
  refine w_seq ?_
  refine w_region rfl ?_
  refine w_d rfl (d_assign (v := .bool true) rfl) ?_
  refine w_done ?_
  obtain rfl := Option.some.inj he
  refine w_return fn_22 rs_22 (.tmp (v := .bool true) rfl .nil) ?_
  exact ⟨⟨[], rfl⟩, hle, rfl⟩
theorem radomelaw27_ints.ok : ∀ k, radomelaw27_ints.OK (radomelaw27_ints.hs k)
 | 0 => ⟨(by intros; exact nomatch (show none = some _ from by assumption))⟩
 | k + 1 => ⟨radomelaw27_ints.b0_ok (k := k) (radomelaw27_ints.ok k)⟩
set_option maxRecDepth 100000 in
set_option maxHeartbeats 2000000 in
theorem radomelaw27_ints.calls (k : Nat) {H : Hp} {L : Items} {a : List Int} {b : List Int} {v0_a : Value} {v1_b : Value} {r : Bool} (he : radomelaw27_ints.f k a b = some r) (h0_a : Ro (Kd.int .i64) H v0_a a) (h1_b : Ro (Kd.int .i64) H v1_b b) : Ct Tryd.prog 22 ⟨[v0_a, v1_b]⟩ H L (fun v H' L' => L = L' ∧ H = H' ∧ v = .bool r) := by
 refine ct_outs (O := radomelaw27_ints.out r) (fun _ _ h => h) ?_
 have hle : H.le H := .refl _
 have hh := radomelaw27_ints.ok k
 unfold radomelaw27_ints.f at he
 refine ct_enter (args := [v0_a, v1_b]) fn_22 rfl nt_22 rfl ?_
 refine w_seq ?_
 refine w_region rfl ?_
 refine w_d rfl (d_assign (v := .bool false) rfl) ?_
 refine w_done ?_
 refine w_seq ?_
 refine w_seq ?_
 refine w_region rfl ?_
 refine w_d rfl (d_move (v := v0_a) rfl) ?_
 refine w_d rfl (d_len Tryd.underlying41 rfl h0_a.src) ?_
 refine w_d rfl (d_move (v := v1_b) rfl) ?_
 refine w_d rfl (d_len Tryd.underlying41 rfl h1_b.src) ?_
 refine w_d rfl (d_neq rfl rfl) ?_
 refine w_done ?_
 rcases its he with ⟨c1, he⟩ | ⟨c1, he⟩
 ·
  refine w_else rfl (nd_t c1) ?_
  refine w_skip ?_
  refine w_seq ?_
  refine w_seq ?_
  refine w_region rfl ?_
  refine w_d rfl (d_assign (v := .int .i64 0) rfl) ?_
  refine w_done ?_
  refine w_block ?_
  refine w_loop ?_
  refine w_sl 0 (v0_a) rfl ?_
  refine w_sl 1 (v1_b) rfl ?_
  refine w_sl 4 (.bool false) rfl ?_
  refine w_sl 5 (.int .i64 0) rfl ?_
  exact hh.l0 hle he h0_a h1_b
 ·
  refine w_then rfl (nd_f c1) ?_
  refine w_seq ?_
  refine w_region rfl ?_
  refine w_d rfl (d_assign (v := .bool false) rfl) ?_
  refine w_done ?_
  obtain rfl := Option.some.inj he
  refine w_return fn_22 rs_22 (.tmp (v := .bool false) rfl .nil) ?_
  exact ⟨⟨[], rfl⟩, hle, rfl⟩
/-! ### slices.Index[[]int,int] -/
noncomputable def slices_Index_int_int.C : Code := (Tryd.f62.body).getD .skip
def slices_Index_int_int.out (r : Int) (H : Hp) (v : Value) : Prop := v = .int .i64 r
abbrev slices_Index_int_int.R (H0 : Hp) (L : Items) (r : Int) : Value → Hp → Items → Prop := fun v H' L' => (∃ p, L' = p ++ L) ∧ H0.le H' ∧ slices_Index_int_int.out r H' v
structure slices_Index_int_int.Hs where
 l0 : (List Int) → Int → Int → Int → Int → Option Int
noncomputable def slices_Index_int_int.b0 (k : Nat) (h : slices_Index_int_int.Hs)  (s : List Int) (v_ : Int) (t4 : Int) (t7 : Int) (t8 : Int) : Option Int := if t8 < t7 then (if 0 ≤ t8 ∧ t8 < (s.length : Int) then (if v_ = (rd s t8) then (some (t8)) else (h.l0 s v_ t4 t7 (w64 (t8 + 1)))) else none) else (some ((-1)))
noncomputable def slices_Index_int_int.hs : Nat → slices_Index_int_int.Hs
 | 0 => ⟨fun _ _ _ _ _ => none⟩
 | k + 1 => ⟨fun x0 x1 x2 x3 x4 => slices_Index_int_int.b0 k (slices_Index_int_int.hs k) x0 x1 x2 x3 x4⟩
noncomputable def slices_Index_int_int.f (k : Nat) (s : List Int) (v_ : Int) : Option Int := (fun h : slices_Index_int_int.Hs => h.l0 s v_ 0 (s.length : Int) 0) (slices_Index_int_int.hs k)
structure slices_Index_int_int.LE (h h' : slices_Index_int_int.Hs) : Prop where
 l0 : ∀ y0 y1 y2 y3 y4, LeO (h.l0 y0 y1 y2 y3 y4) (h'.l0 y0 y1 y2 y3 y4)
theorem slices_Index_int_int.b0_mono {k : Nat} {h h' : slices_Index_int_int.Hs} (hl : slices_Index_int_int.LE h h') : ∀ y0 y1 y2 y3 y4, LeO (slices_Index_int_int.b0 k h y0 y1 y2 y3 y4) (slices_Index_int_int.b0 (k + 1) h' y0 y1 y2 y3 y4) := fun _ _ _ _ _ => (LeO.ite (LeO.ite (LeO.ite (LeO.refl _) (hl.l0 _ _ _ _ _)) (LeO.refl _)) (LeO.refl _))
theorem slices_Index_int_int.hs_mono : ∀ k, slices_Index_int_int.LE (slices_Index_int_int.hs k) (slices_Index_int_int.hs (k + 1))
 | 0 => ⟨fun _ _ _ _ _ => LeO.none _⟩
 | k + 1 => ⟨slices_Index_int_int.b0_mono (k := k) (slices_Index_int_int.hs_mono k)⟩
theorem slices_Index_int_int.mono : ∀ k y0 y1, LeO (slices_Index_int_int.f k y0 y1) (slices_Index_int_int.f (k + 1) y0 y1) := fun k _ _ => have hl := slices_Index_int_int.hs_mono k; by unfold slices_Index_int_int.f; exact (hl.l0 _ _ _ _ _)
noncomputable def slices_Index_int_int.Kl0 : List Item := .code (lopB (blkB (seqR (seqL (seqR slices_Index_int_int.C))))) :: .inLoop (lopB (blkB (seqR (seqL (seqR slices_Index_int_int.C))))) :: .inBlock 0 :: .code (seqR (seqR slices_Index_int_int.C)) :: []
structure slices_Index_int_int.OK (h : slices_Index_int_int.Hs) : Prop where
 l0 : ∀ {H0 H : Hp} {L : Items} {r : Int} {jk_ : Nat → Value} {s : List Int} {v_ : Int} {t4 : Int} {t7 : Int} {t8 : Int} {v_s : Value} (_ : H0.le H) (_he : h.l0 s v_ t4 t7 t8 = some r) (_h_s : Ro (Kd.int .i64) H v_s s), Wp Tryd.prog 62 19 slices_Index_int_int.Kl0 (upd (upd (upd (upd (upd jk_ 0 (v_s)) 1 (.int .i64 v_)) 4 (.int .i64 t4)) 7 (.int .i64 t7)) 8 (.int .i64 t8)) H (L) (slices_Index_int_int.R H0 L r)
set_option maxRecDepth 100000 in
set_option maxHeartbeats 2000000 in
theorem slices_Index_int_int.b0_ok {k : Nat} {h : slices_Index_int_int.Hs} (hh : slices_Index_int_int.OK h) {H0 H : Hp} {L : Items} {r : Int} {jk_ : Nat → Value} {s : List Int} {v_ : Int} {t4 : Int} {t7 : Int} {t8 : Int} {v_s : Value} (hle : H0.le H) (he : slices_Index_int_int.b0 k h s v_ t4 t7 t8 = some r) (h_s : Ro (Kd.int .i64) H v_s s) : Wp Tryd.prog 62 19 slices_Index_int_int.Kl0 (upd (upd (upd (upd (upd jk_ 0 (v_s)) 1 (.int .i64 v_)) 4 (.int .i64 t4)) 7 (.int .i64 t7)) 8 (.int .i64 t8)) H (L) (slices_Index_int_int.R H0 L r) := by
 unfold slices_Index_int_int.b0 at he
 unfold slices_Index_int_int.Kl0
 refine w_seq ?_
 refine w_region rfl ?_
 refine w_d rfl (d_lss rfl rfl) ?_
 refine w_done ?_
 refine w_seq ?_
 rcases its he with ⟨c1, he⟩ | ⟨c1, he⟩
 ·
  refine w_then rfl (decide_eq_true c1) ?_
  refine w_skip ?_
  refine w_seq ?_
  refine w_block ?_
  refine w_seq ?_
  refine w_region rfl ?_
  refine w_d rfl (d_move (v := .int .i64 t8) rfl) ?_
  refine w_d rfl (d_assign (v := .int .i64 t8) rfl) ?_
  refine w_done ?_
  refine w_seq ?_
  refine w_region rfl ?_
  refine w_d rfl (d_move (v := .int .i64 v_) rfl) ?_
  refine w_d rfl (d_move (v := v_s) rfl) ?_
  refine w_d rfl (d_move (v := .int .i64 t8) rfl) ?_
  obtain ⟨c2, he⟩ := rq he
  refine w_d rfl (d_index (sz := 1) Tryd.underlying41 sz3 rfl h_s.src rfl c2) ?_
  refine w_d rfl (d_ldint ty3 rfl h_s.src c2) ?_
  refine w_d rfl (d_eql rfl rfl) ?_
  refine w_done ?_
  rcases its he with ⟨c3, he⟩ | ⟨c3, he⟩
  ·
   refine w_then rfl (decide_eq_true c3) ?_
   refine w_seq ?_
   refine w_region rfl ?_
   refine w_d rfl (d_move (v := .int .i64 t8) rfl) ?_
   refine w_d rfl (d_assign (v := .int .i64 t8) rfl) ?_
   refine w_done ?_
   obtain rfl := Option.some.inj he
   refine w_return fn_62 rs_62 (.tmp (v := .int .i64 t8) rfl .nil) ?_
   exact ⟨⟨[], rfl⟩, hle, rfl⟩
  ·
   refine w_else rfl (decide_eq_false c3) ?_
   refine w_skip ?_
   refine w_inBlock ?_
   refine w_region rfl ?_
   refine w_d rfl (d_add (c := w64 (t8 + 1)) rfl rfl rfl) ?_
   refine w_d rfl (d_move (v := .int .i64 (w64 (t8 + 1))) rfl) ?_
   refine w_done ?_
   refine w_inLoop ?_
   refine w_sl 0 (v_s) rfl ?_
   refine w_sl 1 (.int .i64 v_) rfl ?_
   refine w_sl 4 (.int .i64 t4) rfl ?_
   refine w_sl 7 (.int .i64 t7) rfl ?_
   refine w_sl 8 (.int .i64 (w64 (t8 + 1))) rfl ?_
   exact hh.l0 hle he h_s
 ·
  refine w_else rfl (decide_eq_false c1) ?_
  refine w_exit rfl ?_
  refine w_seq ?_
  refine w_region rfl ?_
  refine w_d rfl (d_assign (v := .int .i64 (-1)) rfl) ?_
  refine w_done ?_
  obtain rfl := Option.some.inj he
  refine w_return fn_62 rs_62 (.tmp (v := .int .i64 (-1)) rfl .nil) ?_
  exact ⟨⟨[], rfl⟩, hle, rfl⟩
theorem slices_Index_int_int.ok : ∀ k, slices_Index_int_int.OK (slices_Index_int_int.hs k)
 | 0 => ⟨(by intros; exact nomatch (show none = some _ from by assumption))⟩
 | k + 1 => ⟨slices_Index_int_int.b0_ok (k := k) (slices_Index_int_int.ok k)⟩
set_option maxRecDepth 100000 in
set_option maxHeartbeats 2000000 in
theorem slices_Index_int_int.calls (k : Nat) {H : Hp} {L : Items} {s : List Int} {v_ : Int} {v0_s : Value} {r : Int} (he : slices_Index_int_int.f k s v_ = some r) (h0_s : Ro (Kd.int .i64) H v0_s s) : Ct Tryd.prog 62 ⟨[v0_s, .int .i64 v_]⟩ H L (fun v H' L' => L = L' ∧ H = H' ∧ v = .int .i64 r) := by
 refine ct_outs (O := slices_Index_int_int.out r) (fun _ _ h => h) ?_
 have hle : H.le H := .refl _
 have hh := slices_Index_int_int.ok k
 unfold slices_Index_int_int.f at he
 refine ct_enter (args := [v0_s, .int .i64 v_]) fn_62 rfl nt_62 rfl ?_
 refine w_seq ?_
 refine w_region rfl ?_
 refine w_d rfl (d_assign (v := .int .i64 0) rfl) ?_
 refine w_done ?_
 refine w_seq ?_
 refine w_seq ?_
 refine w_region rfl ?_
 refine w_d rfl (d_move (v := v0_s) rfl) ?_
 refine w_d rfl (d_len Tryd.underlying41 rfl h0_s.src) ?_
 refine w_d rfl (d_move (v := .int .i64 0) rfl) ?_
 refine w_done ?_
 refine w_block ?_
 refine w_loop ?_
 refine w_sl 0 (v0_s) rfl ?_
 refine w_sl 1 (.int .i64 v_) rfl ?_
 refine w_sl 4 (.int .i64 0) rfl ?_
 refine w_sl 7 (.int .i64 (s.length : Int)) rfl ?_
 refine w_sl 8 (.int .i64 0) rfl ?_
 exact hh.l0 hle he h0_s
/-! ### slices.Contains[[]int,int] -/
noncomputable def slices_Contains_int_int.C : Code := (Tryd.f44.body).getD .skip
def slices_Contains_int_int.out (r : Bool) (H : Hp) (v : Value) : Prop := v = .bool r
abbrev slices_Contains_int_int.R (H0 : Hp) (L : Items) (r : Bool) : Value → Hp → Items → Prop := fun v H' L' => (∃ p, L' = p ++ L) ∧ H0.le H' ∧ slices_Contains_int_int.out r H' v
noncomputable def slices_Contains_int_int.f (k : Nat) (s : List Int) (v_ : Int) : Option Bool := (slices_Index_int_int.f k s v_).bind fun y1 => some (decide (0 ≤ y1))
theorem slices_Contains_int_int.mono : ∀ k y0 y1, LeO (slices_Contains_int_int.f k y0 y1) (slices_Contains_int_int.f (k + 1) y0 y1) := fun k _ _ => by unfold slices_Contains_int_int.f; exact (LeO.bind (slices_Index_int_int.mono k _ _) fun _ => LeO.refl _)
set_option maxRecDepth 100000 in
set_option maxHeartbeats 2000000 in
theorem slices_Contains_int_int.calls (k : Nat) {H : Hp} {L : Items} {s : List Int} {v_ : Int} {v0_s : Value} {r : Bool} (he : slices_Contains_int_int.f k s v_ = some r) (h0_s : Ro (Kd.int .i64) H v0_s s) : Ct Tryd.prog 44 ⟨[v0_s, .int .i64 v_]⟩ H L (fun v H' L' => L = L' ∧ H = H' ∧ v = .bool r) := by
 refine ct_outs (O := slices_Contains_int_int.out r) (fun _ _ h => h) ?_
 have hle : H.le H := .refl _
 unfold slices_Contains_int_int.f at he
 refine ct_enter (args := [v0_s, .int .i64 v_]) fn_44 rfl nt_44 rfl ?_
 refine w_seq ?_
 refine w_region rfl ?_
 refine w_d rfl (d_assign (v := .bool false) rfl) ?_
 refine w_done ?_
 refine w_seq ?_
 refine w_region rfl ?_
 refine w_d rfl (d_move (v := v0_s) rfl) ?_
 refine w_d rfl (d_move (v := .int .i64 v_) rfl) ?_
 obtain ⟨y1, hy2, he⟩ := Option.bind_eq_some_iff.1 he
 refine w_d rfl (call_d (o_call co62 (vs := [v0_s, .int .i64 v_]) rfl (slices_Index_int_int.calls k hy2 h0_s))) ?_
 refine w_d rfl (d_geq rfl rfl) ?_
 refine w_d rfl (d_assign (v := .bool (decide (0 ≤ y1))) rfl) ?_
 refine w_done ?_
 obtain rfl := Option.some.inj he
 refine w_return fn_44 rs_44 (.tmp (v := .bool (decide (0 ≤ y1))) rfl .nil) ?_
 exact ⟨⟨[], rfl⟩, hle, rfl⟩
/-! ### radome/fspec.Has -/
noncomputable def fspec_Has.C : Code := (Tryd.f21.body).getD .skip
def fspec_Has.out (r : Bool) (H : Hp) (v : Value) : Prop := v = .bool r
abbrev fspec_Has.R (H0 : Hp) (L : Items) (r : Bool) : Value → Hp → Items → Prop := fun v H' L' => (∃ p, L' = p ++ L) ∧ H0.le H' ∧ fspec_Has.out r H' v
noncomputable def fspec_Has.f (k : Nat) (h_ : fspec_Head) (item : Int) : Option Bool := (slices_Contains_int_int.f k h_.f_Items item).bind fun y2 => some (y2)
theorem fspec_Has.mono : ∀ k y0 y1, LeO (fspec_Has.f k y0 y1) (fspec_Has.f (k + 1) y0 y1) := fun k _ _ => by unfold fspec_Has.f; exact (LeO.bind (slices_Contains_int_int.mono k _ _) fun _ => LeO.refl _)
set_option maxRecDepth 100000 in
set_option maxHeartbeats 2000000 in
theorem fspec_Has.calls (k : Nat) {H : Hp} {L : Items} {h_ : fspec_Head} {item : Int} {v0_h_ : Value} {r : Bool} (he : fspec_Has.f k h_ item = some r) (h0_h_ : Ro (Kd.int .i64) H v0_h_ h_.f_Items) : Ct Tryd.prog 21 ⟨[.agg ⟨[v0_h_, .int .i64 h_.f_Bytes]⟩, .int .i64 item]⟩ H L (fun v H' L' => L = L' ∧ H = H' ∧ v = .bool r) := by
 refine ct_outs (O := fspec_Has.out r) (fun _ _ h => h) ?_
 have hle : H.le H := .refl _
 unfold fspec_Has.f at he
 refine ct_enter (args := [.agg ⟨[v0_h_, .int .i64 h_.f_Bytes]⟩, .int .i64 item]) fn_21 rfl nt_21 rfl ?_
 refine w_seq ?_
 refine w_region rfl ?_
 refine w_a rfl (o_box (v := .agg ⟨[v0_h_, .int .i64 h_.f_Bytes]⟩) rfl rfl) ?_
 rintro _ _ _ ⟨b1, rfl, rfl, rfl⟩
 refine w_d rfl (d_assign (v := .bool false) rfl) ?_
 refine w_done ?_
 refine w_seq ?_
 refine w_region rfl ?_
 refine w_d rfl (d_fld (o' := 0) Tryd.underlying43 rfl sz41 rfl rfl rfl) ?_
 refine w_d rfl (d_loado (v := v0_h_) ty41 rfl .here rfl rfl rfl rfl) ?_
 refine w_d rfl (d_move (v := .int .i64 item) rfl) ?_
 obtain ⟨y2, hy3, he⟩ := Option.bind_eq_some_iff.1 he
 refine w_d rfl (call_d (o_call co44 (vs := [v0_h_, .int .i64 item]) rfl (slices_Contains_int_int.calls k hy3 h0_h_))) ?_
 refine w_d rfl (d_assign (v := .bool y2) rfl) ?_
 refine w_done ?_
 obtain rfl := Option.some.inj he
 refine w_return fn_21 rs_21 (.tmp (v := .bool y2) rfl .nil) ?_
 exact ⟨⟨[_], rfl⟩, hle, rfl⟩
/-! ### radome/radomelaw27.sure -/
noncomputable def radomelaw27_sure.C : Code := (Tryd.f20.body).getD .skip
def radomelaw27_sure.out (r : Bool) (H : Hp) (v : Value) : Prop := v = .bool r
abbrev radomelaw27_sure.R (H0 : Hp) (L : Items) (r : Bool) : Value → Hp → Items → Prop := fun v H' L' => (∃ p, L' = p ++ L) ∧ H0.le H' ∧ radomelaw27_sure.out r H' v
noncomputable def radomelaw27_sure.f (k : Nat)  : Option Bool := (fspec_Encode.f k [1, 9]).bind fun y7 => (fspec_Decode.f k y7.1 4).bind fun y13 => (gd ((y7.2.isNone && y13.2.isNone) && (decide ((strOf y7.1) = str_0))) (radomelaw27_ints.f k y13.1.f_Items [1, 9]) (false)).bind fun y35 => (gd ((((y7.2.isNone && y13.2.isNone) && (decide ((strOf y7.1) = str_0))) && y35) && (decide (y13.1.f_Bytes = 2))) (fspec_Has.f k (⟨y13.1.f_Items, y13.1.f_Bytes⟩ : fspec_Head) 9) (false)).bind fun y44 => (gd (((((y7.2.isNone && y13.2.isNone) && (decide ((strOf y7.1) = str_0))) && y35) && (decide (y13.1.f_Bytes = 2))) && y44) (fspec_Has.f k (⟨y13.1.f_Items, y13.1.f_Bytes⟩ : fspec_Head) 2) (false)).bind fun y50 => some ((((((y7.2.isNone && y13.2.isNone) && (decide ((strOf y7.1) = str_0))) && y35) && (decide (y13.1.f_Bytes = 2))) && y44) && (!y50))
theorem radomelaw27_sure.mono : ∀ k, LeO (radomelaw27_sure.f k) (radomelaw27_sure.f (k + 1)) := fun k => by unfold radomelaw27_sure.f; exact (LeO.bind (fspec_Encode.mono k _) fun _ => LeO.bind (fspec_Decode.mono k _ _) fun _ => LeO.bind (LeO.gd (radomelaw27_ints.mono k _ _)) fun _ => LeO.bind (LeO.gd (fspec_Has.mono k _ _)) fun _ => LeO.bind (LeO.gd (fspec_Has.mono k _ _)) fun _ => LeO.refl _)
set_option maxRecDepth 100000 in
set_option maxHeartbeats 2000000 in
theorem radomelaw27_sure.calls (k : Nat) {H : Hp} {L : Items} {r : Bool} (he : radomelaw27_sure.f k  = some r) : Ct Tryd.prog 20 ⟨[]⟩ H L (fun v H' L' => L = L' ∧ H = H' ∧ v = .bool r) := by
 refine ct_outs (O := radomelaw27_sure.out r) (fun _ _ h => h) ?_
 have hle : H.le H := .refl _
 unfold radomelaw27_sure.f at he
 refine ct_enter (args := []) fn_20 rfl nt_20 rfl ?_
 refine w_seq ?_
 refine w_region rfl ?_
 refine w_d rfl (d_assign (v := .bool false) rfl) ?_
 refine w_done ?_
 refine w_seq ?_
 refine w_region rfl ?_
 refine w_a rfl (o_buildSlice' (kd := (Kd.int .i64)) (css := [[.int .i64 1], [.int .i64 9]]) (xs := [1, 9]) (parts := [(0, .int .i64 1), (1, .int .i64 9)]) Tryd.underlying41 ti3 rfl ⟨_, _, rfl, rfl, ⟨_, _, rfl, rfl, rfl⟩⟩ ⟨rfl, ⟨rfl, trivial⟩⟩ rfl (by decide)) ?_
 rintro v1 _ _ ⟨i2, rfl, rfl, h3⟩
 refine w_freeze h3 .here ?_
 intro H4 e5 h6
 obtain ⟨y7, hy8, he⟩ := Option.bind_eq_some_iff.1 he
 refine w_a rfl (o_call co18 (vs := [v1]) rfl (fspec_Encode.calls k hy8 h6)) ?_
 rintro _ H9 _ ⟨rfl, e10, ⟨v11, rfl, h12⟩⟩
 refine w_d rfl (d_move (v := .tuple ⟨[v11, errV 73 y7.2]⟩) rfl) ?_
 refine w_d rfl (d_ext (vs := [v11, errV 73 y7.2]) rfl rfl) ?_
 refine w_d rfl (d_ext (vs := [v11, errV 73 y7.2]) rfl rfl) ?_
 refine w_d rfl (d_assign (v := v11) rfl) ?_
 refine w_d rfl (d_assign (v := errV 73 y7.2) rfl) ?_
 refine w_done ?_
 refine w_seq ?_
 refine w_region rfl ?_
 refine w_d rfl (d_move (v := v11) rfl) ?_
 obtain ⟨y13, hy14, he⟩ := Option.bind_eq_some_iff.1 he
 refine w_a rfl (o_call co16 (vs := [v11, .int .i64 4]) rfl (fspec_Decode.calls k hy14 h12)) ?_
 rintro _ H15 _ ⟨rfl, e16, ⟨v17, rfl, h18⟩⟩
 refine w_d rfl (d_move (v := .tuple ⟨[.agg ⟨[v17, .int .i64 y13.1.f_Bytes]⟩, errV 73 y13.2]⟩) rfl) ?_
 refine w_d rfl (d_ext (vs := [.agg ⟨[v17, .int .i64 y13.1.f_Bytes]⟩, errV 73 y13.2]) rfl rfl) ?_
 refine w_d rfl (d_ext (vs := [.agg ⟨[v17, .int .i64 y13.1.f_Bytes]⟩, errV 73 y13.2]) rfl rfl) ?_
 refine w_a rfl (o_alloc zr43 rfl) ?_
 rintro _ _ _ ⟨b19, rfl, rfl, rfl⟩
 refine w_a0 rfl (o_store (v := .agg ⟨[v17, .int .i64 y13.1.f_Bytes]⟩) sz43 rfl rfl rfl rfl (one_cons (h18.one) (one_cons rfl one_nil)) .here (.here (.here .done))) ?_
 rintro _ _ _ ⟨rfl, rfl, rfl⟩
 refine w_d rfl (d_assign (v := errV 73 y13.2) rfl) ?_
 refine w_done ?_
 refine w_seq ?_
 refine w_region rfl ?_
 refine w_d rfl (d_move (v := errV 73 y7.2) rfl) ?_
 refine w_d rfl (d_eqnil (e := y7.2) Tryd.underlying28 rfl) ?_
 refine w_d rfl (d_move (v := .bool y7.2.isNone) rfl) ?_
 refine w_g (g := y7.2.isNone) rfl rfl rfl wn_t (fun g20 => d_move (v := errV 73 y13.2) rfl) ?_
 refine w_g (g := y7.2.isNone) rfl rfl rfl wn_t (fun g21 => d_eqnil (e := y13.2) Tryd.underlying28 (cvt g21)) ?_
 refine w_d rfl (d_and' (b := y7.2.isNone) (p := y13.2.isNone) rfl rfl rfl) ?_
 refine w_d rfl (d_move (v := .bool (y7.2.isNone && y13.2.isNone)) rfl) ?_
 refine w_g (g := y7.2.isNone && y13.2.isNone) rfl rfl rfl wn_t (fun g22 => d_move (v := v11) rfl) ?_
 refine w_g (g := y7.2.isNone && y13.2.isNone) rfl rfl rfl wn_t (fun g23 => d_strof Tryd.underlying26 Tryd.underlying5 Tryd.underlying9 (cvt g23) (h12.mono e16).src) ?_
 refine w_g (g := y7.2.isNone && y13.2.isNone) rfl rfl rfl wn_t (fun g24 => d_eqs (cvt g24) rfl) ?_
 refine w_d rfl (d_and' (b := (y7.2.isNone && y13.2.isNone)) (p := (decide ((strOf y7.1) = str_0))) rfl rfl rfl) ?_
 refine w_d rfl (d_move (v := .bool ((y7.2.isNone && y13.2.isNone) && (decide ((strOf y7.1) = str_0)))) rfl) ?_
 refine w_g (g := (y7.2.isNone && y13.2.isNone) && (decide ((strOf y7.1) = str_0))) rfl rfl rfl wn_t (fun g25 => d_fld (o' := 0) Tryd.underlying43 rfl sz41 rfl rfl rfl) ?_
 refine w_g (g := (y7.2.isNone && y13.2.isNone) && (decide ((strOf y7.1) = str_0))) rfl rfl rfl wn_t (fun g26 => d_loado (v := v17) ty41 (cvt g26) .here rfl rfl rfl rfl) ?_
 refine w_gk (g := (y7.2.isNone && y13.2.isNone) && (decide ((strOf y7.1) = str_0))) rfl rfl rfl wn_t (fun g27 => opa_freeze (o_buildSlice' (kd := (Kd.int .i64)) (css := [[.int .i64 1], [.int .i64 9]]) (xs := [1, 9]) (parts := [(0, .int .i64 1), (1, .int .i64 9)]) Tryd.underlying41 ti3 rfl ⟨_, _, rfl, rfl, ⟨_, _, rfl, rfl, rfl⟩⟩ ⟨rfl, ⟨rfl, trivial⟩⟩ rfl (by decide))) ?_
 intro v33 H31 e32 hp_ hq_
 obtain ⟨v28, rfl, h30⟩ := gk1 (T := fun v28 => v28) (Q := fun v28 => Ro (Kd.int .i64) H31 v28 [1, 9]) (fun g_ => ⟨_, rfl, hp_ g_⟩) hq_
 obtain ⟨y35, hy36, he⟩ := Option.bind_eq_some_iff.1 he
 refine w_g (g := (y7.2.isNone && y13.2.isNone) && (decide ((strOf y7.1) = str_0))) rfl rfl rfl wn_t (fun g34 => call_d (o_call co22 (vs := [v17, v28]) (acons (cvt g34) (acons (cvt g34) (anil))) (radomelaw27_ints.calls k (gd_t g34 hy36) (h18.mono e32) (h30 g34)))) ?_
 refine w_d rfl (d_and' (b := ((y7.2.isNone && y13.2.isNone) && (decide ((strOf y7.1) = str_0)))) (p := y35) rfl rfl rfl) ?_
 refine w_d rfl (d_move (v := .bool (((y7.2.isNone && y13.2.isNone) && (decide ((strOf y7.1) = str_0))) && y35)) rfl) ?_
 refine w_g (g := ((y7.2.isNone && y13.2.isNone) && (decide ((strOf y7.1) = str_0))) && y35) rfl rfl rfl wn_t (fun g39 => d_fld (o' := 1) Tryd.underlying43 rfl sz3 rfl rfl rfl) ?_
 refine w_g (g := ((y7.2.isNone && y13.2.isNone) && (decide ((strOf y7.1) = str_0))) && y35) rfl rfl rfl wn_t (fun g40 => d_loado (v := .int .i64 y13.1.f_Bytes) ty3 (cvt g40) .here rfl rfl rfl rfl) ?_
 refine w_g (g := ((y7.2.isNone && y13.2.isNone) && (decide ((strOf y7.1) = str_0))) && y35) rfl rfl rfl wn_t (fun g41 => d_eql (cvt g41) rfl) ?_
 refine w_d rfl (d_and' (b := (((y7.2.isNone && y13.2.isNone) && (decide ((strOf y7.1) = str_0))) && y35)) (p := (decide (y13.1.f_Bytes = 2))) rfl rfl rfl) ?_
 refine w_d rfl (d_move (v := .bool ((((y7.2.isNone && y13.2.isNone) && (decide ((strOf y7.1) = str_0))) && y35) && (decide (y13.1.f_Bytes = 2)))) rfl) ?_
 refine w_g (g := (((y7.2.isNone && y13.2.isNone) && (decide ((strOf y7.1) = str_0))) && y35) && (decide (y13.1.f_Bytes = 2))) rfl rfl rfl wn_t (fun g42 => d_loado (v := .agg ⟨[v17, .int .i64 y13.1.f_Bytes]⟩) ty43 rfl .here rfl rfl rfl rfl) ?_
 obtain ⟨y44, hy45, he⟩ := Option.bind_eq_some_iff.1 he
 refine w_g (g := (((y7.2.isNone && y13.2.isNone) && (decide ((strOf y7.1) = str_0))) && y35) && (decide (y13.1.f_Bytes = 2))) rfl rfl rfl wn_t (fun g43 => call_d (o_call co21 (vs := [.agg ⟨[v17, .int .i64 y13.1.f_Bytes]⟩, .int .i64 9]) (acons (cvt g43) (acons rfl (anil))) (fspec_Has.calls k (h_ := (⟨y13.1.f_Items, y13.1.f_Bytes⟩ : fspec_Head)) (gd_t g43 hy45) (h18.mono e32)))) ?_
 refine w_d rfl (d_and' (b := ((((y7.2.isNone && y13.2.isNone) && (decide ((strOf y7.1) = str_0))) && y35) && (decide (y13.1.f_Bytes = 2)))) (p := y44) rfl rfl rfl) ?_
 refine w_d rfl (d_move (v := .bool (((((y7.2.isNone && y13.2.isNone) && (decide ((strOf y7.1) = str_0))) && y35) && (decide (y13.1.f_Bytes = 2))) && y44)) rfl) ?_
 refine w_g (g := ((((y7.2.isNone && y13.2.isNone) && (decide ((strOf y7.1) = str_0))) && y35) && (decide (y13.1.f_Bytes = 2))) && y44) rfl rfl rfl wn_t (fun g48 => d_loado (v := .agg ⟨[v17, .int .i64 y13.1.f_Bytes]⟩) ty43 rfl .here rfl rfl rfl rfl) ?_
 obtain ⟨y50, hy51, he⟩ := Option.bind_eq_some_iff.1 he
 refine w_g (g := ((((y7.2.isNone && y13.2.isNone) && (decide ((strOf y7.1) = str_0))) && y35) && (decide (y13.1.f_Bytes = 2))) && y44) rfl rfl rfl wn_t (fun g49 => call_d (o_call co21 (vs := [.agg ⟨[v17, .int .i64 y13.1.f_Bytes]⟩, .int .i64 2]) (acons (cvt g49) (acons rfl (anil))) (fspec_Has.calls k (h_ := (⟨y13.1.f_Items, y13.1.f_Bytes⟩ : fspec_Head)) (gd_t g49 hy51) (h18.mono e32)))) ?_
 refine w_g (g := ((((y7.2.isNone && y13.2.isNone) && (decide ((strOf y7.1) = str_0))) && y35) && (decide (y13.1.f_Bytes = 2))) && y44) rfl rfl rfl wn_t (fun g54 => d_not (b := y50) (cvt g54)) ?_
 refine w_d rfl (d_and' (b := (((((y7.2.isNone && y13.2.isNone) && (decide ((strOf y7.1) = str_0))) && y35) && (decide (y13.1.f_Bytes = 2))) && y44)) (p := (!y50)) rfl rfl rfl) ?_
 refine w_d rfl (d_assign (v := .bool ((((((y7.2.isNone && y13.2.isNone) && (decide ((strOf y7.1) = str_0))) && y35) && (decide (y13.1.f_Bytes = 2))) && y44) && (!y50))) rfl) ?_
 refine w_done ?_
 obtain rfl := Option.some.inj he
 refine w_return fn_20 rs_20 (.tmp (v := .bool ((((((y7.2.isNone && y13.2.isNone) && (decide ((strOf y7.1) = str_0))) && y35) && (decide (y13.1.f_Bytes = 2))) && y44) && (!y50))) rfl .nil) ?_
 exact ⟨⟨[_, _], rfl⟩, hle.trans (((e5.trans e10).trans e16).trans e32), rfl⟩
/-! ### radome/radomelaw27.FspecBack -/
noncomputable def radomelaw27_FspecBack.C : Code := (Tryd.f5.body).getD .skip
def radomelaw27_FspecBack.out (r : Bool) (H : Hp) (v : Value) : Prop := v = .bool r
abbrev radomelaw27_FspecBack.R (H0 : Hp) (L : Items) (r : Bool) : Value → Hp → Items → Prop := fun v H' L' => (∃ p, L' = p ++ L) ∧ H0.le H' ∧ radomelaw27_FspecBack.out r H' v
noncomputable def radomelaw27_FspecBack.j1 (k : Nat)  (b : List Int) (t4 : Bool) : Option Bool := (fspec_Decode.f k b 8).bind fun y61 => if y61.2.isSome = true then ((gd (decide ((y61.1.f_Items.length : Int) = 0)) (radomelaw27_sure.f k) (false)).bind fun y70 => some ((decide ((y61.1.f_Items.length : Int) = 0)) && y70)) else ((fspec_Encode.f k y61.1.f_Items).bind fun y74 => if (y74.2.isNone && (decide (y61.1.f_Bytes ≤ (b.length : Int)))) = true → (0 : Int) ≤ 0 ∧ (0 : Int) ≤ y61.1.f_Bytes ∧ y61.1.f_Bytes ≤ (b.length : Int) then ((gd ((y74.2.isNone && (decide (y61.1.f_Bytes ≤ (b.length : Int)))) && (decide ((strOf y74.1) = (strOf (cut b 0 y61.1.f_Bytes))))) (radomelaw27_sure.f k) (false)).bind fun y101 => some (((y74.2.isNone && (decide (y61.1.f_Bytes ≤ (b.length : Int)))) && (decide ((strOf y74.1) = (strOf (cut b 0 y61.1.f_Bytes))))) && y101)) else none)
noncomputable def radomelaw27_FspecBack.f (k : Nat) (items : List Int) (b : List Int) : Option Bool := (fspec_Encode.f k items).bind fun y1 => if (y1.2.isNone && (decide ((y1.1.length : Int) = 0))) = true then (some (false)) else (if y1.2.isNone = true then (if 0 + y1.1.length ≤ 140737488355200 then (if (0 : Int) ≤ 0 ∧ (0 : Int) ≤ min (b.length : Int) 20 ∧ min (b.length : Int) 20 ≤ (b.length : Int) then (if y1.1.length + (cut b 0 (min (b.length : Int) 20)).length ≤ 140737488355200 then ((fspec_Decode.f k (y1.1 ++ (cut b 0 (min (b.length : Int) 20))) 8).bind fun y28 => (gd (!y28.2.isSome) (radomelaw27_ints.f k y28.1.f_Items items) (false)).bind fun y39 => if ((y28.2.isSome || (!y39)) || (!decide (y28.1.f_Bytes = (y1.1.length : Int)))) = true then (some (false)) else (if (0 : Int) ≤ 0 ∧ (0 : Int) ≤ w64 ((y1.1.length : Int) - 1) ∧ w64 ((y1.1.length : Int) - 1) ≤ (y1.1.length : Int) then ((fspec_Decode.f k (cut y1.1 0 (w64 ((y1.1.length : Int) - 1))) 8).bind fun y53 => if (errN y53.2) = 4 then (radomelaw27_FspecBack.j1 k b false) else (some (false))) else none)) else none) else none) else none) else (radomelaw27_FspecBack.j1 k b false))
theorem radomelaw27_FspecBack.j1_mono {k : Nat} : ∀ y0 y1, LeO (radomelaw27_FspecBack.j1 k y0 y1) (radomelaw27_FspecBack.j1 (k + 1) y0 y1) := fun _ _ => (LeO.bind (fspec_Decode.mono k _ _) fun _ => LeO.ite (LeO.bind (LeO.gd (radomelaw27_sure.mono k)) fun _ => LeO.refl _) (LeO.bind (fspec_Encode.mono k _) fun _ => LeO.ite (LeO.bind (LeO.gd (radomelaw27_sure.mono k)) fun _ => LeO.refl _) (LeO.refl _)))
theorem radomelaw27_FspecBack.mono : ∀ k y0 y1, LeO (radomelaw27_FspecBack.f k y0 y1) (radomelaw27_FspecBack.f (k + 1) y0 y1) := fun k _ _ => by unfold radomelaw27_FspecBack.f; exact (LeO.bind (fspec_Encode.mono k _) fun _ => LeO.ite (LeO.refl _) (LeO.ite (LeO.ite (LeO.ite (LeO.ite (LeO.bind (fspec_Decode.mono k _ _) fun _ => LeO.bind (LeO.gd (radomelaw27_ints.mono k _ _)) fun _ => LeO.ite (LeO.refl _) (LeO.ite (LeO.bind (fspec_Decode.mono k _ _) fun _ => LeO.ite (radomelaw27_FspecBack.j1_mono (k := k)  _ _) (LeO.refl _)) (LeO.refl _))) (LeO.refl _)) (LeO.refl _)) (LeO.refl _)) (radomelaw27_FspecBack.j1_mono (k := k)  _ _)))
noncomputable def radomelaw27_FspecBack.Kj1 : List Item := .code (seqR (seqR (seqR (seqR radomelaw27_FspecBack.C)))) :: []
set_option maxRecDepth 100000 in
set_option maxHeartbeats 2000000 in
theorem radomelaw27_FspecBack.j1_ok {k : Nat} {H0 H : Hp} {L : Items} {r : Bool} {jk_ : Nat → Value} {b : List Int} {t4 : Bool} {v_b : Value} (hle : H0.le H) (hG : GH H) (he : radomelaw27_FspecBack.j1 k b t4 = some r) (h_b : Ro (Kd.int .u8) H v_b b) : Wp Tryd.prog 5 114 radomelaw27_FspecBack.Kj1 (upd (upd jk_ 1 (v_b)) 4 (.bool t4)) H (L) (radomelaw27_FspecBack.R H0 L r) := by
 unfold radomelaw27_FspecBack.j1 at he
 unfold radomelaw27_FspecBack.Kj1
 refine w_seq ?_
 refine w_region rfl ?_
 refine w_d rfl (d_move (v := v_b) rfl) ?_
 obtain ⟨y61, hy62, he⟩ := Option.bind_eq_some_iff.1 he
 refine w_a rfl (o_call co16 (vs := [v_b, .int .i64 8]) rfl (fspec_Decode.calls k hy62 h_b)) ?_
 rintro _ H63 _ ⟨rfl, e64, ⟨v65, rfl, h66⟩⟩
 refine w_d rfl (d_move (v := .tuple ⟨[.agg ⟨[v65, .int .i64 y61.1.f_Bytes]⟩, errV 73 y61.2]⟩) rfl) ?_
 refine w_d rfl (d_ext (vs := [.agg ⟨[v65, .int .i64 y61.1.f_Bytes]⟩, errV 73 y61.2]) rfl rfl) ?_
 refine w_d rfl (d_ext (vs := [.agg ⟨[v65, .int .i64 y61.1.f_Bytes]⟩, errV 73 y61.2]) rfl rfl) ?_
 refine w_a rfl (o_alloc zr43 rfl) ?_
 rintro _ _ _ ⟨b67, rfl, rfl, rfl⟩
 refine w_a0 rfl (o_store (v := .agg ⟨[v65, .int .i64 y61.1.f_Bytes]⟩) sz43 rfl rfl rfl rfl (one_cons (h66.one) (one_cons rfl one_nil)) .here (.here (.here .done))) ?_
 rintro _ _ _ ⟨rfl, rfl, rfl⟩
 refine w_d rfl (d_assign (v := errV 73 y61.2) rfl) ?_
 refine w_done ?_
 refine w_seq ?_
 refine w_seq ?_
 refine w_region rfl ?_
 refine w_d rfl (d_move (v := errV 73 y61.2) rfl) ?_
 refine w_d rfl (d_nenil (e := y61.2) Tryd.underlying28 rfl) ?_
 refine w_done ?_
 rcases its he with ⟨c68, he⟩ | ⟨c68, he⟩
 ·
  refine w_then rfl c68 ?_
  refine w_seq ?_
  refine w_region rfl ?_
  refine w_d rfl (d_fld (o' := 0) Tryd.underlying43 rfl sz41 rfl rfl rfl) ?_
  refine w_d rfl (d_loado (v := v65) ty41 rfl .here rfl rfl rfl rfl) ?_
  refine w_d rfl (d_len Tryd.underlying41 rfl h66.src) ?_
  refine w_d rfl (d_eql rfl rfl) ?_
  refine w_d rfl (d_move (v := .bool (decide ((y61.1.f_Items.length : Int) = 0))) rfl) ?_
  obtain ⟨y70, hy71, he⟩ := Option.bind_eq_some_iff.1 he
  refine w_g (g := decide ((y61.1.f_Items.length : Int) = 0)) rfl rfl rfl wn_t (fun g69 => call_d (o_call co20 (vs := []) rfl (radomelaw27_sure.calls k (gd_t g69 hy71)))) ?_
  refine w_d rfl (d_and' (b := (decide ((y61.1.f_Items.length : Int) = 0))) (p := y70) rfl rfl rfl) ?_
  refine w_d rfl (d_assign (v := .bool ((decide ((y61.1.f_Items.length : Int) = 0)) && y70)) rfl) ?_
  refine w_done ?_
  obtain rfl := Option.some.inj he
  refine w_return fn_5 rs_5 (.tmp (v := .bool ((decide ((y61.1.f_Items.length : Int) = 0)) && y70)) rfl .nil) ?_
  exact ⟨⟨[_], rfl⟩, hle.trans e64, rfl⟩
 ·
  refine w_else rfl (Bool.eq_false_iff.2 c68) ?_
  refine w_skip ?_
  refine w_seq ?_
  refine w_region rfl ?_
  refine w_d rfl (d_fld (o' := 0) Tryd.underlying43 rfl sz41 rfl rfl rfl) ?_
  refine w_d rfl (d_loado (v := v65) ty41 rfl .here rfl rfl rfl rfl) ?_
  obtain ⟨y74, hy75, he⟩ := Option.bind_eq_some_iff.1 he
  refine w_a rfl (o_call co18 (vs := [v65]) rfl (fspec_Encode.calls k hy75 h66)) ?_
  rintro _ H76 _ ⟨rfl, e77, ⟨v78, rfl, h79⟩⟩
  refine w_d rfl (d_move (v := .tuple ⟨[v78, errV 73 y74.2]⟩) rfl) ?_
  refine w_d rfl (d_ext (vs := [v78, errV 73 y74.2]) rfl rfl) ?_
  refine w_d rfl (d_ext (vs := [v78, errV 73 y74.2]) rfl rfl) ?_
  refine w_d rfl (d_assign (v := v78) rfl) ?_
  refine w_d rfl (d_assign (v := errV 73 y74.2) rfl) ?_
  refine w_done ?_
  refine w_seq ?_
  obtain ⟨c91, he⟩ := rq he
  refine w_drawn (p := 17) (tl := [17, 18, 19, 20, 21, 22]) [[], [(0, some 92)], [(1, some 93)], [(2, some 94)], [(2, some 94), (3, some 95)], [(2, some 94)], [(2, some 94), (5, some 97)], [(2, some 94), (4, some 96), (6, some 98)], [(2, some 94), (7, some 99)], [(8, some 100)], [(9, some 101)], [(9, some 101), (10, some 102)], [(9, some 101)], [(9, some 101)], [(9, some 101), (13, some 105)], [(9, some 101), (12, some 104), (14, some 106)], [(9, some 101), (15, some 107)]] [some 92, some 93, some 94, some 95, some 96, some 97, some 98, some 99, some 100, some 101, some 102, some 103, some 104, some 105, some 106, some 107, some 108] (fctF [.is (errV 73 y74.2), .is (.bool y74.2.isNone), .is (.bool y74.2.isNone), .is (cond y74.2.isNone (.pointer (some ⟨b67, 1, none⟩)) undef), .is (cond y74.2.isNone (.int .i64 y61.1.f_Bytes) undef), .is (cond y74.2.isNone v_b undef), .is (cond y74.2.isNone (.int .i64 (b.length : Int)) undef), .is (cond y74.2.isNone (.bool (decide (y61.1.f_Bytes ≤ (b.length : Int)))) undef), .is (.bool (y74.2.isNone && (decide (y61.1.f_Bytes ≤ (b.length : Int))))), .is (.bool (y74.2.isNone && (decide (y61.1.f_Bytes ≤ (b.length : Int))))), .is (cond (y74.2.isNone && (decide (y61.1.f_Bytes ≤ (b.length : Int)))) v78 undef), .is (cond (y74.2.isNone && (decide (y61.1.f_Bytes ≤ (b.length : Int)))) (.string (strOf y74.1)) undef), .is (cond (y74.2.isNone && (decide (y61.1.f_Bytes ≤ (b.length : Int)))) v_b undef), .is (cond (y74.2.isNone && (decide (y61.1.f_Bytes ≤ (b.length : Int)))) (.pointer (some ⟨b67, 1, none⟩)) undef), .is (cond (y74.2.isNone && (decide (y61.1.f_Bytes ≤ (b.length : Int)))) (.int .i64 y61.1.f_Bytes) undef), .of (fun H v => ∃ v92, v = cond (y74.2.isNone && (decide (y61.1.f_Bytes ≤ (b.length : Int)))) v92 undef ∧ ((y74.2.isNone && (decide (y61.1.f_Bytes ≤ (b.length : Int)))) = true → Ro (Kd.int .u8) H v92 (cut b 0 y61.1.f_Bytes))) (by rintro _ _ _ hle ⟨v92, rfl, h93⟩; exact ⟨v92, rfl, fun g_ => (h93 g_).mono hle⟩), .is (cond (y74.2.isNone && (decide (y61.1.f_Bytes ≤ (b.length : Int)))) (.string (strOf (cut b 0 y61.1.f_Bytes))) undef)]) (fun m_ => some (b67, .cells ⟨[v65, .int .i64 y61.1.f_Bytes]⟩ 43 (0, 0)) :: L) (fun _ => none) mixed (by kernel_rfl) (by kernel_rfl) rfl (fct_mono (by kernel_rfl)) ⟨(by intro H' m_ hH hm_ hu_; refine depK_nil ?_; exact s_d (m_ 0) rfl (d_move (v := errV 73 y74.2) rfl) (by exact rfl) rfl), (by intro H' m_ hH hm_ hu_; rintro _ rfl; refine depK_nil ?_; exact s_d (m_ 1) rfl (d_eqnil (e := y74.2) Tryd.underlying28 rfl) (by exact rfl) rfl), (by intro H' m_ hH hm_ hu_; rintro _ rfl; refine depK_nil ?_; exact s_d (m_ 2) rfl (d_move (v := .bool y74.2.isNone) rfl) (by exact rfl) rfl), (by intro H' m_ hH hm_ hu_; rintro _ rfl; refine depK_nil ?_; exact s_g (g := y74.2.isNone) (m_ 3) rfl rfl rfl wn_t (fun g80 => d_fld (o' := 1) Tryd.underlying43 rfl sz3 rfl rfl rfl) rfl (by exact fun g_ => cvt g_) (by exact fun g_ => cnt g_)), (by intro H' m_ hH hm_ hu_; rintro _ rfl _ rfl; refine depK_nil ?_; exact s_g (g := y74.2.isNone) (m_ 4) rfl rfl rfl wn_t (fun g81 => d_loado (v := .int .i64 y61.1.f_Bytes) ty3 (cvt g81) .here rfl rfl rfl rfl) rfl (by exact fun g_ => cvt g_) (by exact fun g_ => cnt g_)), (by intro H' m_ hH hm_ hu_; rintro _ rfl; refine depK_nil ?_; exact s_g (g := y74.2.isNone) (m_ 5) rfl rfl rfl wn_t (fun g82 => d_move (v := v_b) rfl) rfl (by exact fun g_ => cvt g_) (by exact fun g_ => cnt g_)), (by intro H' m_ hH hm_ hu_; rintro _ rfl _ rfl; refine depK_nil ?_; exact s_g (g := y74.2.isNone) (m_ 6) rfl rfl rfl wn_t (fun g83 => d_len Tryd.underlying26 (cvt g83) (h_b.mono ((e64.trans e77).trans hH)).src) rfl (by exact fun g_ => cvt g_) (by exact fun g_ => cnt g_)), (by intro H' m_ hH hm_ hu_; rintro _ rfl _ rfl _ rfl; refine depK_nil ?_; exact s_g (g := y74.2.isNone) (m_ 7) rfl rfl rfl wn_t (fun g84 => d_leq (cvt g84) (cvt g84)) rfl (by exact fun g_ => cvt g_) (by exact fun g_ => cnt g_)), (by intro H' m_ hH hm_ hu_; rintro _ rfl _ rfl; refine depK_nil ?_; exact s_d (m_ 8) rfl (d_and' (b := y74.2.isNone) (p := (decide (y61.1.f_Bytes ≤ (b.length : Int)))) rfl rfl rfl) (by exact rfl) rfl), (by intro H' m_ hH hm_ hu_; rintro _ rfl; refine depK_nil ?_; exact s_d (m_ 9) rfl (d_move (v := .bool (y74.2.isNone && (decide (y61.1.f_Bytes ≤ (b.length : Int))))) rfl) (by exact rfl) rfl), (by intro H' m_ hH hm_ hu_; rintro _ rfl; refine depK_nil ?_; exact s_g (g := y74.2.isNone && (decide (y61.1.f_Bytes ≤ (b.length : Int)))) (m_ 10) rfl rfl rfl wn_t (fun g85 => d_move (v := v78) rfl) rfl (by exact fun g_ => cvt g_) (by exact fun g_ => cnt g_)), (by intro H' m_ hH hm_ hu_; rintro _ rfl _ rfl; refine depK_nil ?_; exact s_g (g := y74.2.isNone && (decide (y61.1.f_Bytes ≤ (b.length : Int)))) (m_ 11) rfl rfl rfl wn_t (fun g86 => d_strof Tryd.underlying26 Tryd.underlying5 Tryd.underlying9 (cvt g86) (h79.mono hH).src) rfl (by exact fun g_ => cvt g_) (by exact fun g_ => cnt g_)), (by intro H' m_ hH hm_ hu_; rintro _ rfl; refine depK_nil ?_; exact s_g (g := y74.2.isNone && (decide (y61.1.f_Bytes ≤ (b.length : Int)))) (m_ 12) rfl rfl rfl wn_t (fun g87 => d_move (v := v_b) rfl) rfl (by exact fun g_ => cvt g_) (by exact fun g_ => cnt g_)), (by intro H' m_ hH hm_ hu_; rintro _ rfl; refine depK_nil ?_; exact s_g (g := y74.2.isNone && (decide (y61.1.f_Bytes ≤ (b.length : Int)))) (m_ 13) rfl rfl rfl wn_t (fun g88 => d_fld (o' := 1) Tryd.underlying43 rfl sz3 rfl rfl rfl) rfl (by exact fun g_ => cvt g_) (by exact fun g_ => cnt g_)), (by intro H' m_ hH hm_ hu_; rintro _ rfl _ rfl; refine depK_nil ?_; exact s_g (g := y74.2.isNone && (decide (y61.1.f_Bytes ≤ (b.length : Int)))) (m_ 14) rfl rfl rfl wn_t (fun g89 => d_loado (v := .int .i64 y61.1.f_Bytes) ty3 (cvt g89) .here rfl rfl rfl rfl) rfl (by exact fun g_ => cvt g_) (by exact fun g_ => cnt g_)), (by intro H' m_ hH hm_ hu_; rintro _ rfl _ rfl _ rfl; refine depK_nil ?_; exact s_gr (g := (y74.2.isNone && (decide (y61.1.f_Bytes ≤ (b.length : Int))))) (fun v92 => v92) (fun H v92 => Ro (Kd.int .u8) H v92 (cut b 0 y61.1.f_Bytes)) (m_ 15) rfl rfl rfl wn_t (fun g90 => opa_ex (opa_ro (o_cut (kd := (Kd.int .u8)) Tryd.underlying26 sz5 (cvt g90) (h_b.mono ((e64.trans e77).trans hH)) (.inl ⟨rfl, rfl⟩) (.inr ⟨_, _, rfl, (cvt g90)⟩) (c91 g90)))) rfl (by exact fun c_ H_ h_ => ⟨c_, rfl, h_⟩)), (by intro H' m_ hH hm_ hu_; rintro _ rfl _ ⟨v92, rfl, h93⟩; refine depK_nil ?_; exact s_g (g := y74.2.isNone && (decide (y61.1.f_Bytes ≤ (b.length : Int)))) (m_ 16) rfl rfl rfl wn_t (fun g96 => d_strof Tryd.underlying26 Tryd.underlying5 Tryd.underlying9 (cvt g96) (h93 g96).src) rfl (by exact fun g_ => cvt g_) (by exact fun g_ => cnt g_)), trivial⟩ ?_
  intro H97 e98
  rintro _ _ rfl _ _ rfl _ _ rfl _ _ rfl _ _ rfl _ _ rfl _ _ rfl _ _ rfl _ _ rfl _ _ rfl _ _ rfl _ _ rfl _ _ rfl _ _ rfl _ _ rfl _ _ ⟨v92, rfl, h93⟩ _ _ rfl
  refine w_g (g := y74.2.isNone && (decide (y61.1.f_Bytes ≤ (b.length : Int)))) rfl rfl rfl wn_t (fun g99 => d_eqs (cvt g99) (cvt g99)) ?_
  refine w_d rfl (d_and' (b := (y74.2.isNone && (decide (y61.1.f_Bytes ≤ (b.length : Int))))) (p := (decide ((strOf y74.1) = (strOf (cut b 0 y61.1.f_Bytes))))) rfl rfl rfl) ?_
  refine w_d rfl (d_move (v := .bool ((y74.2.isNone && (decide (y61.1.f_Bytes ≤ (b.length : Int)))) && (decide ((strOf y74.1) = (strOf (cut b 0 y61.1.f_Bytes)))))) rfl) ?_
  obtain ⟨y101, hy102, he⟩ := Option.bind_eq_some_iff.1 he
  refine w_g (g := (y74.2.isNone && (decide (y61.1.f_Bytes ≤ (b.length : Int)))) && (decide ((strOf y74.1) = (strOf (cut b 0 y61.1.f_Bytes))))) rfl rfl rfl wn_t (fun g100 => call_d (o_call co20 (vs := []) rfl (radomelaw27_sure.calls k (gd_t g100 hy102)))) ?_
  refine w_d rfl (d_and' (b := ((y74.2.isNone && (decide (y61.1.f_Bytes ≤ (b.length : Int)))) && (decide ((strOf y74.1) = (strOf (cut b 0 y61.1.f_Bytes)))))) (p := y101) rfl rfl rfl) ?_
  refine w_d rfl (d_assign (v := .bool (((y74.2.isNone && (decide (y61.1.f_Bytes ≤ (b.length : Int)))) && (decide ((strOf y74.1) = (strOf (cut b 0 y61.1.f_Bytes))))) && y101)) rfl) ?_
  refine w_done ?_
  obtain rfl := Option.some.inj he
  refine w_return fn_5 rs_5 (.tmp (v := .bool (((y74.2.isNone && (decide (y61.1.f_Bytes ≤ (b.length : Int)))) && (decide ((strOf y74.1) = (strOf (cut b 0 y61.1.f_Bytes))))) && y101)) rfl .nil) ?_
  exact ⟨⟨[_], rfl⟩, hle.trans ((e64.trans e77).trans e98), rfl⟩
set_option maxRecDepth 100000 in
set_option maxHeartbeats 2000000 in
theorem radomelaw27_FspecBack.calls (k : Nat) {H : Hp} {L : Items} {items : List Int} {b : List Int} {v0_items : Value} {v1_b : Value} {r : Bool} (hG : GH H) (he : radomelaw27_FspecBack.f k items b = some r) (h0_items : Ro (Kd.int .i64) H v0_items items) (h1_b : Ro (Kd.int .u8) H v1_b b) : Ct Tryd.prog 5 ⟨[v0_items, v1_b]⟩ H L (fun v H' L' => L = L' ∧ H = H' ∧ v = .bool r) := by
 refine ct_outs (O := radomelaw27_FspecBack.out r) (fun _ _ h => h) ?_
 have hle : H.le H := .refl _
 unfold radomelaw27_FspecBack.f at he
 refine ct_enter (args := [v0_items, v1_b]) fn_5 rfl nt_5 rfl ?_
 refine w_seq ?_
 refine w_region rfl ?_
 refine w_d rfl (d_assign (v := .bool false) rfl) ?_
 refine w_done ?_
 refine w_seq ?_
 refine w_region rfl ?_
 refine w_d rfl (d_move (v := v0_items) rfl) ?_
 obtain ⟨y1, hy2, he⟩ := Option.bind_eq_some_iff.1 he
 refine w_a rfl (o_call co18 (vs := [v0_items]) rfl (fspec_Encode.calls k hy2 h0_items)) ?_
 rintro _ H3 _ ⟨rfl, e4, ⟨v5, rfl, h6⟩⟩
 refine w_d rfl (d_move (v := .tuple ⟨[v5, errV 73 y1.2]⟩) rfl) ?_
 refine w_d rfl (d_ext (vs := [v5, errV 73 y1.2]) rfl rfl) ?_
 refine w_d rfl (d_ext (vs := [v5, errV 73 y1.2]) rfl rfl) ?_
 refine w_d rfl (d_assign (v := v5) rfl) ?_
 refine w_d rfl (d_assign (v := errV 73 y1.2) rfl) ?_
 refine w_done ?_
 refine w_seq ?_
 refine w_seq ?_
 refine w_region rfl ?_
 refine w_d rfl (d_move (v := errV 73 y1.2) rfl) ?_
 refine w_d rfl (d_eqnil (e := y1.2) Tryd.underlying28 rfl) ?_
 refine w_d rfl (d_move (v := .bool y1.2.isNone) rfl) ?_
 refine w_g (g := y1.2.isNone) rfl rfl rfl wn_t (fun g7 => d_move (v := v5) rfl) ?_
 refine w_g (g := y1.2.isNone) rfl rfl rfl wn_t (fun g8 => d_len Tryd.underlying26 (cvt g8) h6.src) ?_
 refine w_g (g := y1.2.isNone) rfl rfl rfl wn_t (fun g9 => d_eql (cvt g9) rfl) ?_
 refine w_d rfl (d_and' (b := y1.2.isNone) (p := (decide ((y1.1.length : Int) = 0))) rfl rfl rfl) ?_
 refine w_done ?_
 rcases its he with ⟨c10, he⟩ | ⟨c10, he⟩
 ·
  refine w_then rfl c10 ?_
  refine w_seq ?_
  refine w_region rfl ?_
  refine w_d rfl (d_assign (v := .bool false) rfl) ?_
  refine w_done ?_
  obtain rfl := Option.some.inj he
  refine w_return fn_5 rs_5 (.tmp (v := .bool false) rfl .nil) ?_
  exact ⟨⟨[], rfl⟩, hle.trans e4, rfl⟩
 ·
  refine w_else rfl (Bool.eq_false_iff.2 c10) ?_
  refine w_skip ?_
  refine w_seq ?_
  refine w_seq ?_
  refine w_region rfl ?_
  refine w_d rfl (d_move (v := errV 73 y1.2) rfl) ?_
  refine w_d rfl (d_eqnil (e := y1.2) Tryd.underlying28 rfl) ?_
  refine w_done ?_
  rcases its he with ⟨c11, he⟩ | ⟨c11, he⟩
  ·
   refine w_then rfl c11 ?_
   refine w_seq ?_
   refine w_region rfl ?_
   refine w_d rfl (d_assign (v := .slice none 0 0) rfl) ?_
   refine w_done ?_
   refine w_seq ?_
   obtain ⟨c12, he⟩ := rq he
   obtain ⟨c16, he⟩ := rq he
   refine w_none (?_)
   refine w_drawn (p := 8) (tl := [8, 9]) [[], [], [(0, some 30), (1, some 31)], [], [], [(4, some 34)], [(5, some 35)], [(3, some 33), (6, some 36)]] [some 30, some 31, some 32, some 33, some 34, some 35, some 36, some 37] (fctF [.is (.slice none 0 0), .is (v5), .sl (Kd.int .u8) 5 y1.1, .is (v1_b), .is (v1_b), .is (.int .i64 (b.length : Int)), .is (.int .i64 (min (b.length : Int) 20)), .ro (Kd.int .u8) (cut b 0 (min (b.length : Int) 20))]) (fun m_ => m_ 2 :: L) (fun _ => none) mixed (by kernel_rfl) (by kernel_rfl) rfl (fct_mono (by kernel_rfl)) ⟨(by intro H' m_ hH hm_ hu_; refine depK_nil ?_; exact s_d (m_ 0) rfl (d_move (v := .slice none 0 0) rfl) (by exact rfl) rfl), (by intro H' m_ hH hm_ hu_; refine depK_nil ?_; exact s_d (m_ 1) rfl (d_move (v := v5) rfl) (by exact rfl) rfl), (by intro H' m_ hH hm_ hu_; rintro _ rfl _ rfl; refine depK_nil ?_; exact s_sl hm_ rfl rfl (o_append0 (kd := (Kd.int .u8)) (ys := y1.1) Tryd.underlying26 Tryd.underlying26 ti5 rfl (by first | omega | (simp only [List.nil_append, List.length_cons, List.length_nil]; omega)) rfl rfl (h6.mono hH)) rfl (fun _ => .here) (by exact fun _ _ h_ => h_)), (by intro H' m_ hH hm_ hu_; refine depK_nil ?_; exact s_d (m_ 3) rfl (d_move (v := v1_b) rfl) (by exact rfl) rfl), (by intro H' m_ hH hm_ hu_; refine depK_nil ?_; exact s_d (m_ 4) rfl (d_move (v := v1_b) rfl) (by exact rfl) rfl), (by intro H' m_ hH hm_ hu_; rintro _ rfl; refine depK_nil ?_; exact s_d (m_ 5) rfl (d_len Tryd.underlying26 rfl (h1_b.mono (e4.trans hH)).src) (by exact rfl) rfl), (by intro H' m_ hH hm_ hu_; rintro _ rfl; refine depK_nil ?_; exact s_d (m_ 6) rfl (d_min rfl rfl) (by exact rfl) rfl), (by intro H' m_ hH hm_ hu_; rintro _ rfl _ rfl; refine depK_nil ?_; exact s_k (m_ 7) rfl (o_cut (kd := (Kd.int .u8)) Tryd.underlying26 sz5 rfl (h1_b.mono (e4.trans hH)) (.inl ⟨rfl, rfl⟩) (.inr ⟨_, _, rfl, rfl⟩) c16) rfl (by rintro v_ _ _ ⟨h_, rfl, rfl⟩; exact ⟨rfl, .refl _, h_⟩)), trivial⟩ ?_
   intro H19 e20
   rintro _ _ rfl _ _ rfl v13 i14 (h15 : Sl (Kd.int .u8) H19 5 i14 v13 y1.1) _ _ rfl _ _ rfl _ _ rfl _ _ rfl v17 _ (h18 : Ro (Kd.int .u8) H19 v17 (cut b 0 (min (b.length : Int) 20)))
   obtain ⟨c21, he⟩ := rq he
   refine w_a rfl (o_append' (kd := (Kd.int .u8)) (F := fun z_ => z_ :: L) Tryd.underlying26 Tryd.underlying26 ti5 rfl (by first | omega | (simp only [List.nil_append, List.length_cons, List.length_nil]; omega)) rfl rfl h15 h18.src (fun _ => .here)) ?_
   rintro v22 _ _ ⟨i23, rfl, rfl, h24⟩
   refine w_d rfl (d_assign (v := v22) rfl) ?_
   refine w_done ?_
   refine w_seq ?_
   refine w_region rfl ?_
   refine w_d rfl (d_move (v := v22) rfl) ?_
   refine w_freeze h24 .here ?_
   intro H25 e26 h27
   obtain ⟨y28, hy29, he⟩ := Option.bind_eq_some_iff.1 he
   refine w_a rfl (o_call co16 (vs := [v22, .int .i64 8]) rfl (fspec_Decode.calls k hy29 h27)) ?_
   rintro _ H30 _ ⟨rfl, e31, ⟨v32, rfl, h33⟩⟩
   refine w_d rfl (d_move (v := .tuple ⟨[.agg ⟨[v32, .int .i64 y28.1.f_Bytes]⟩, errV 73 y28.2]⟩) rfl) ?_
   refine w_d rfl (d_ext (vs := [.agg ⟨[v32, .int .i64 y28.1.f_Bytes]⟩, errV 73 y28.2]) rfl rfl) ?_
   refine w_d rfl (d_ext (vs := [.agg ⟨[v32, .int .i64 y28.1.f_Bytes]⟩, errV 73 y28.2]) rfl rfl) ?_
   refine w_a rfl (o_alloc zr43 rfl) ?_
   rintro _ _ _ ⟨b34, rfl, rfl, rfl⟩
   refine w_a0 rfl (o_store (v := .agg ⟨[v32, .int .i64 y28.1.f_Bytes]⟩) sz43 rfl rfl rfl rfl (one_cons (h33.one) (one_cons rfl one_nil)) .here (.here (.here .done))) ?_
   rintro _ _ _ ⟨rfl, rfl, rfl⟩
   refine w_d rfl (d_assign (v := errV 73 y28.2) rfl) ?_
   refine w_done ?_
   refine w_seq ?_
   refine w_seq ?_
   refine w_region rfl ?_
   refine w_d rfl (d_move (v := errV 73 y28.2) rfl) ?_
   refine w_d rfl (d_nenil (e := y28.2) Tryd.underlying28 rfl) ?_
   refine w_d rfl (d_move (v := .bool y28.2.isSome) rfl) ?_
   refine w_g (g := !y28.2.isSome) rfl rfl rfl wn_f (fun g35 => d_fld (o' := 0) Tryd.underlying43 rfl sz41 rfl rfl rfl) ?_
   refine w_g (g := !y28.2.isSome) rfl rfl rfl wn_f (fun g36 => d_loado (v := v32) ty41 (cvt g36) .here rfl rfl rfl rfl) ?_
   refine w_g (g := !y28.2.isSome) rfl rfl rfl wn_f (fun g37 => d_move (v := v0_items) rfl) ?_
   obtain ⟨y39, hy40, he⟩ := Option.bind_eq_some_iff.1 he
   refine w_g (g := !y28.2.isSome) rfl rfl rfl wn_f (fun g38 => call_d (o_call co22 (vs := [v32, v0_items]) (acons (cvt g38) (acons (cvt g38) (anil))) (radomelaw27_ints.calls k (gd_t g38 hy40) h33 (h0_items.mono (((e4.trans e20).trans e26).trans e31))))) ?_
   refine w_g (g := !y28.2.isSome) rfl rfl rfl wn_f (fun g43 => d_not (b := y39) (cvt g43)) ?_
   refine w_d rfl (d_or' (b := y28.2.isSome) (p := (!y39)) rfl rfl rfl) ?_
   refine w_d rfl (d_move (v := .bool (y28.2.isSome || (!y39))) rfl) ?_
   refine w_g (g := !(y28.2.isSome || (!y39))) rfl rfl rfl wn_f (fun g44 => d_fld (o' := 1) Tryd.underlying43 rfl sz3 rfl rfl rfl) ?_
   refine w_g (g := !(y28.2.isSome || (!y39))) rfl rfl rfl wn_f (fun g45 => d_loado (v := .int .i64 y28.1.f_Bytes) ty3 (cvt g45) .here rfl rfl rfl rfl) ?_
   refine w_g (g := !(y28.2.isSome || (!y39))) rfl rfl rfl wn_f (fun g46 => d_move (v := v5) rfl) ?_
   refine w_g (g := !(y28.2.isSome || (!y39))) rfl rfl rfl wn_f (fun g47 => d_len Tryd.underlying26 (cvt g47) (h6.mono ((e20.trans e26).trans e31)).src) ?_
   refine w_g (g := !(y28.2.isSome || (!y39))) rfl rfl rfl wn_f (fun g48 => d_neq (cvt g48) (cvt g48)) ?_
   refine w_d rfl (d_or' (b := (y28.2.isSome || (!y39))) (p := (!decide (y28.1.f_Bytes = (y1.1.length : Int)))) rfl rfl rfl) ?_
   refine w_done ?_
   rcases its he with ⟨c49, he⟩ | ⟨c49, he⟩
   ·
    refine w_then rfl c49 ?_
    refine w_seq ?_
    refine w_region rfl ?_
    refine w_d rfl (d_assign (v := .bool false) rfl) ?_
    refine w_done ?_
    obtain rfl := Option.some.inj he
    refine w_return fn_5 rs_5 (.tmp (v := .bool false) rfl .nil) ?_
    exact ⟨⟨[_, _], rfl⟩, hle.trans (((e4.trans e20).trans e26).trans e31), rfl⟩
   ·
    refine w_else rfl (Bool.eq_false_iff.2 c49) ?_
    refine w_skip ?_
    refine w_seq ?_
    refine w_region rfl ?_
    refine w_d rfl (d_move (v := v5) rfl) ?_
    refine w_d rfl (d_move (v := v5) rfl) ?_
    refine w_d rfl (d_len Tryd.underlying26 rfl (h6.mono ((e20.trans e26).trans e31)).src) ?_
    refine w_d rfl (d_sub (c := w64 ((y1.1.length : Int) - 1)) rfl rfl rfl) ?_
    obtain ⟨c50, he⟩ := rq he
    refine w_a rfl (o_cut (kd := (Kd.int .u8)) Tryd.underlying26 sz5 rfl (h6.mono ((e20.trans e26).trans e31)) (.inl ⟨rfl, rfl⟩) (.inr ⟨_, _, rfl, rfl⟩) c50) ?_
    rintro v51 _ _ ⟨h52, rfl, rfl⟩
    obtain ⟨y53, hy54, he⟩ := Option.bind_eq_some_iff.1 he
    refine w_a rfl (o_call co16 (vs := [v51, .int .i64 8]) rfl (fspec_Decode.calls k hy54 h52)) ?_
    rintro _ H55 _ ⟨rfl, e56, ⟨v57, rfl, h58⟩⟩
    refine w_d rfl (d_move (v := .tuple ⟨[.agg ⟨[v57, .int .i64 y53.1.f_Bytes]⟩, errV 73 y53.2]⟩) rfl) ?_
    refine w_d rfl (d_ext (vs := [.agg ⟨[v57, .int .i64 y53.1.f_Bytes]⟩, errV 73 y53.2]) rfl rfl) ?_
    refine w_d rfl (d_ext (vs := [.agg ⟨[v57, .int .i64 y53.1.f_Bytes]⟩, errV 73 y53.2]) rfl rfl) ?_
    refine w_a rfl (o_alloc zr43 rfl) ?_
    rintro _ _ _ ⟨b59, rfl, rfl, rfl⟩
    refine w_a0 rfl (o_store (v := .agg ⟨[v57, .int .i64 y53.1.f_Bytes]⟩) sz43 rfl rfl rfl rfl (one_cons (h58.one) (one_cons rfl one_nil)) .here (.here (.here .done))) ?_
    rintro _ _ _ ⟨rfl, rfl, rfl⟩
    refine w_d rfl (d_assign (v := errV 73 y53.2) rfl) ?_
    refine w_done ?_
    refine w_seq ?_
    refine w_region rfl ?_
    refine w_d rfl (d_move (v := errV 73 y53.2) rfl) ?_
    refine w_d rfl (call_d (o_call co23 (vs := [errV 73 y53.2]) rfl (num23.calls (hG.mono ((((e4.trans e20).trans e26).trans e31).trans e56)) rfl))) ?_
    refine w_d rfl (d_neq rfl rfl) ?_
    refine w_done ?_
    rcases its he with ⟨c60, he⟩ | ⟨c60, he⟩
    ·
     refine w_else rfl (nd_t c60) ?_
     refine w_skip ?_
     refine w_del (.there (.there .here)) ?_
     refine w_del (.there .here) ?_
     refine w_del .here ?_
     refine w_sl 1 (v1_b) rfl ?_
     refine w_sl 4 (.bool false) rfl ?_
     exact radomelaw27_FspecBack.j1_ok (k := k) (hle.trans ((((e4.trans e20).trans e26).trans e31).trans e56)) (hG.mono ((((e4.trans e20).trans e26).trans e31).trans e56)) he (h1_b.mono ((((e4.trans e20).trans e26).trans e31).trans e56))
    ·
     refine w_then rfl (nd_f c60) ?_
     refine w_seq ?_
     refine w_region rfl ?_
     refine w_d rfl (d_assign (v := .bool false) rfl) ?_
     refine w_done ?_
     obtain rfl := Option.some.inj he
     refine w_return fn_5 rs_5 (.tmp (v := .bool false) rfl .nil) ?_
     exact ⟨⟨[_, _, _], rfl⟩, hle.trans ((((e4.trans e20).trans e26).trans e31).trans e56), rfl⟩
  ·
   refine w_else rfl (Bool.eq_false_iff.2 c11) ?_
   refine w_skip ?_
   refine w_sl 1 (v1_b) rfl ?_
   refine w_sl 4 (.bool false) rfl ?_
   exact radomelaw27_FspecBack.j1_ok (k := k) (hle.trans e4) (hG.mono e4) he (h1_b.mono e4)
/-! ### radome/radomeref27.Decode -/
noncomputable def radomeref27_Decode.C : Code := (Tryd.f17.body).getD .skip
def radomeref27_Decode.out (r : (List Int) × Int × Int) (H : Hp) (v : Value) : Prop := ∃ v0, v = .tuple ⟨[v0, .int .i64 r.2.1, .int .i64 r.2.2]⟩ ∧ Ro (Kd.int .i64) H v0 r.1
theorem radomeref27_Decode.out_mono (r : (List Int) × Int × Int) {H H' : Hp} {v : Value} (hle : H.le H') (h : radomeref27_Decode.out r H v) : radomeref27_Decode.out r H' v := by
 obtain ⟨v0, rfl, h0⟩ := h; exact ⟨v0, rfl, h0.mono hle⟩
abbrev radomeref27_Decode.R (H0 : Hp) (L : Items) (r : (List Int) × Int × Int) : Value → Hp → Items → Prop := fun v H' L' => (∃ p, L' = p ++ L) ∧ H0.le H' ∧ radomeref27_Decode.out r H' v
structure radomeref27_Decode.Hs where
 l0 : (List Int) → Int → (List Int) → Int → Int → (List Int) → Int → Option ((List Int) × Int × Int)
 l1 : (List Int) → Int → (List Int) → Int → Int → (List Int) → Int → Int → Bool → Int → Int → Option ((List Int) × Int × Int)
noncomputable def radomeref27_Decode.b0 (k : Nat) (h : radomeref27_Decode.Hs)  (b : List Int) (most : Int) (t4 : List Int) (t5 : Int) (t6 : Int) (out : List Int) (i : Int) : Option ((List Int) × Int × Int) := if i ≤ most then (if i = most then (some ([], 0, 2)) else (if (b.length : Int) ≤ i then (some ([], 0, 4)) else (if 0 ≤ i ∧ i < (b.length : Int) then (h.l1 b most t4 t5 t6 out i (w64 (rd b i)) false 128 1) else none))) else (some ([], 0, 2))
noncomputable def radomeref27_Decode.j3 (k : Nat) (h : radomeref27_Decode.Hs)  (b : List Int) (most : Int) (t4 : List Int) (t5 : Int) (t6 : Int) (out : List Int) (i : Int) (v_ : Int) (some_ : Bool) (bit : Int) (k_ : Int) : Option ((List Int) × Int × Int) := h.l1 b most t4 t5 t6 out i v_ some_ (w64 (Int.tdiv bit 2)) (w64 (k_ + 1))
noncomputable def radomeref27_Decode.b1 (k : Nat) (h : radomeref27_Decode.Hs)  (b : List Int) (most : Int) (t4 : List Int) (t5 : Int) (t6 : Int) (out : List Int) (i : Int) (v_ : Int) (some_ : Bool) (bit : Int) (k_ : Int) : Option ((List Int) × Int × Int) := if k_ ≤ 7 then (if bit ≠ 0 then (if (Int.tmod (w64 (Int.tdiv v_ bit)) 2) = 1 then (if out.length + 1 ≤ 17592186044288 then (radomeref27_Decode.j3 k h b most t4 t5 t6 (out ++ [w64 ((w64 (7 * i)) + k_)]) i v_ true bit k_) else none) else (radomeref27_Decode.j3 k h b most t4 t5 t6 out i v_ some_ bit k_)) else none) else (if (Int.tmod v_ 2) = 0 then (if (!some_) = true then (some ([], 0, 3)) else (some (out, w64 (i + 1), 0))) else (h.l0 b most t4 t5 t6 out (w64 (i + 1))))
noncomputable def radomeref27_Decode.hs : Nat → radomeref27_Decode.Hs
 | 0 => ⟨fun _ _ _ _ _ _ _ => none, fun _ _ _ _ _ _ _ _ _ _ _ => none⟩
 | k + 1 => ⟨fun x0 x1 x2 x3 x4 x5 x6 => radomeref27_Decode.b0 k (radomeref27_Decode.hs k) x0 x1 x2 x3 x4 x5 x6, fun x0 x1 x2 x3 x4 x5 x6 x7 x8 x9 x10 => radomeref27_Decode.b1 k (radomeref27_Decode.hs k) x0 x1 x2 x3 x4 x5 x6 x7 x8 x9 x10⟩
noncomputable def radomeref27_Decode.f (k : Nat) (b : List Int) (most : Int) : Option ((List Int) × Int × Int) := (fun h : radomeref27_Decode.Hs => if ((decide (most < 1)) || (decide (8 < most))) = true then (some ([], 0, 1)) else (h.l0 b most [] 0 0 [] 0)) (radomeref27_Decode.hs k)
structure radomeref27_Decode.LE (h h' : radomeref27_Decode.Hs) : Prop where
 l0 : ∀ y0 y1 y2 y3 y4 y5 y6, LeO (h.l0 y0 y1 y2 y3 y4 y5 y6) (h'.l0 y0 y1 y2 y3 y4 y5 y6)
 l1 : ∀ y0 y1 y2 y3 y4 y5 y6 y7 y8 y9 y10, LeO (h.l1 y0 y1 y2 y3 y4 y5 y6 y7 y8 y9 y10) (h'.l1 y0 y1 y2 y3 y4 y5 y6 y7 y8 y9 y10)
theorem radomeref27_Decode.b0_mono {k : Nat} {h h' : radomeref27_Decode.Hs} (hl : radomeref27_Decode.LE h h') : ∀ y0 y1 y2 y3 y4 y5 y6, LeO (radomeref27_Decode.b0 k h y0 y1 y2 y3 y4 y5 y6) (radomeref27_Decode.b0 (k + 1) h' y0 y1 y2 y3 y4 y5 y6) := fun _ _ _ _ _ _ _ => (LeO.ite (LeO.ite (LeO.refl _) (LeO.ite (LeO.refl _) (LeO.ite (hl.l1 _ _ _ _ _ _ _ _ _ _ _) (LeO.refl _)))) (LeO.refl _))
theorem radomeref27_Decode.j3_mono {k : Nat} {h h' : radomeref27_Decode.Hs} (hl : radomeref27_Decode.LE h h') : ∀ y0 y1 y2 y3 y4 y5 y6 y7 y8 y9 y10, LeO (radomeref27_Decode.j3 k h y0 y1 y2 y3 y4 y5 y6 y7 y8 y9 y10) (radomeref27_Decode.j3 (k + 1) h' y0 y1 y2 y3 y4 y5 y6 y7 y8 y9 y10) := fun _ _ _ _ _ _ _ _ _ _ _ => (hl.l1 _ _ _ _ _ _ _ _ _ _ _)
theorem radomeref27_Decode.b1_mono {k : Nat} {h h' : radomeref27_Decode.Hs} (hl : radomeref27_Decode.LE h h') : ∀ y0 y1 y2 y3 y4 y5 y6 y7 y8 y9 y10, LeO (radomeref27_Decode.b1 k h y0 y1 y2 y3 y4 y5 y6 y7 y8 y9 y10) (radomeref27_Decode.b1 (k + 1) h' y0 y1 y2 y3 y4 y5 y6 y7 y8 y9 y10) := fun _ _ _ _ _ _ _ _ _ _ _ => (LeO.ite (LeO.ite (LeO.ite (LeO.ite (radomeref27_Decode.j3_mono (k := k) hl _ _ _ _ _ _ _ _ _ _ _) (LeO.refl _)) (radomeref27_Decode.j3_mono (k := k) hl _ _ _ _ _ _ _ _ _ _ _)) (LeO.refl _)) (LeO.ite (LeO.ite (LeO.refl _) (LeO.refl _)) (hl.l0 _ _ _ _ _ _ _)))
theorem radomeref27_Decode.hs_mono : ∀ k, radomeref27_Decode.LE (radomeref27_Decode.hs k) (radomeref27_Decode.hs (k + 1))
 | 0 => ⟨fun _ _ _ _ _ _ _ => LeO.none _, fun _ _ _ _ _ _ _ _ _ _ _ => LeO.none _⟩
 | k + 1 => ⟨radomeref27_Decode.b0_mono (k := k) (radomeref27_Decode.hs_mono k), radomeref27_Decode.b1_mono (k := k) (radomeref27_Decode.hs_mono k)⟩
theorem radomeref27_Decode.mono : ∀ k y0 y1, LeO (radomeref27_Decode.f k y0 y1) (radomeref27_Decode.f (k + 1) y0 y1) := fun k _ _ => have hl := radomeref27_Decode.hs_mono k; by unfold radomeref27_Decode.f; exact (LeO.ite (LeO.refl _) (hl.l0 _ _ _ _ _ _ _))
noncomputable def radomeref27_Decode.Kl0 : List Item := .code (lopB (blkB (seqR (seqL (seqR (seqR (seqR radomeref27_Decode.C))))))) :: .inLoop (lopB (blkB (seqR (seqL (seqR (seqR (seqR radomeref27_Decode.C))))))) :: .inBlock 0 :: .code (seqR (seqR (seqR (seqR radomeref27_Decode.C)))) :: []
noncomputable def radomeref27_Decode.Kl1 : List Item := .code (lopB (blkB (seqR (seqL (seqR (seqR (seqR (seqR (seqR (blkB (seqL (seqR (lopB (blkB (seqR (seqL (seqR (seqR (seqR radomeref27_Decode.C))))))))))))))))))) :: .inLoop (lopB (blkB (seqR (seqL (seqR (seqR (seqR (seqR (seqR (blkB (seqL (seqR (lopB (blkB (seqR (seqL (seqR (seqR (seqR radomeref27_Decode.C))))))))))))))))))) :: .inBlock 2 :: .code (seqR (seqR (seqR (seqR (seqR (seqR (blkB (seqL (seqR (lopB (blkB (seqR (seqL (seqR (seqR (seqR radomeref27_Decode.C)))))))))))))))) :: .inBlock 1 :: .code (seqR (seqR (lopB (blkB (seqR (seqL (seqR (seqR (seqR radomeref27_Decode.C))))))))) :: .inLoop (lopB (blkB (seqR (seqL (seqR (seqR (seqR radomeref27_Decode.C))))))) :: .inBlock 0 :: .code (seqR (seqR (seqR (seqR radomeref27_Decode.C)))) :: []
noncomputable def radomeref27_Decode.Kj3 : List Item := .code (seqR (blkB (seqL (seqR (lopB (blkB (seqR (seqL (seqR (seqR (seqR (seqR (seqR (blkB (seqL (seqR (lopB (blkB (seqR (seqL (seqR (seqR (seqR radomeref27_Decode.C))))))))))))))))))))))) :: .inBlock 3 :: .code (seqR (seqR (lopB (blkB (seqR (seqL (seqR (seqR (seqR (seqR (seqR (blkB (seqL (seqR (lopB (blkB (seqR (seqL (seqR (seqR (seqR radomeref27_Decode.C))))))))))))))))))))) :: .inLoop (lopB (blkB (seqR (seqL (seqR (seqR (seqR (seqR (seqR (blkB (seqL (seqR (lopB (blkB (seqR (seqL (seqR (seqR (seqR radomeref27_Decode.C))))))))))))))))))) :: .inBlock 2 :: .code (seqR (seqR (seqR (seqR (seqR (seqR (blkB (seqL (seqR (lopB (blkB (seqR (seqL (seqR (seqR (seqR radomeref27_Decode.C)))))))))))))))) :: .inBlock 1 :: .code (seqR (seqR (lopB (blkB (seqR (seqL (seqR (seqR (seqR radomeref27_Decode.C))))))))) :: .inLoop (lopB (blkB (seqR (seqL (seqR (seqR (seqR radomeref27_Decode.C))))))) :: .inBlock 0 :: .code (seqR (seqR (seqR (seqR radomeref27_Decode.C)))) :: []
structure radomeref27_Decode.OK (h : radomeref27_Decode.Hs) : Prop where
 l0 : ∀ {H0 H : Hp} {L : Items} {r : (List Int) × Int × Int} {jk_ : Nat → Value} {b : List Int} {most : Int} {t4 : List Int} {t5 : Int} {t6 : Int} {out : List Int} {i : Int} {v_b : Value} {v_t4 : Value} {v_out : Value} {i_out : Item'} (_ : H0.le H) (_he : h.l0 b most t4 t5 t6 out i = some r) (_h_b : Ro (Kd.int .u8) H v_b b) (_h_t4 : Ro (Kd.int .i64) H v_t4 t4) (_h_out : Sl (Kd.int .i64) H 3 i_out v_out out), Wp Tryd.prog 17 62 radomeref27_Decode.Kl0 (upd (upd (upd (upd (upd (upd (upd jk_ 0 (v_b)) 1 (.int .i64 most)) 4 (v_t4)) 5 (.int .i64 t5)) 6 (.int .i64 t6)) 7 (v_out)) 8 (.int .i64 i)) H (i_out :: L) (radomeref27_Decode.R H0 L r)
 l1 : ∀ {H0 H : Hp} {L : Items} {r : (List Int) × Int × Int} {jk_ : Nat → Value} {b : List Int} {most : Int} {t4 : List Int} {t5 : Int} {t6 : Int} {out : List Int} {i : Int} {v_ : Int} {some_ : Bool} {bit : Int} {k_ : Int} {v_b : Value} {v_t4 : Value} {v_out : Value} {i_out : Item'} (_ : H0.le H) (_he : h.l1 b most t4 t5 t6 out i v_ some_ bit k_ = some r) (_h_b : Ro (Kd.int .u8) H v_b b) (_h_t4 : Ro (Kd.int .i64) H v_t4 t4) (_h_out : Sl (Kd.int .i64) H 3 i_out v_out out), Wp Tryd.prog 17 62 radomeref27_Decode.Kl1 (upd (upd (upd (upd (upd (upd (upd (upd (upd (upd (upd jk_ 0 (v_b)) 1 (.int .i64 most)) 4 (v_t4)) 5 (.int .i64 t5)) 6 (.int .i64 t6)) 7 (v_out)) 8 (.int .i64 i)) 9 (.int .i64 v_)) 10 (.bool some_)) 11 (.int .i64 bit)) 12 (.int .i64 k_)) H (i_out :: L) (radomeref27_Decode.R H0 L r)
set_option maxRecDepth 100000 in
set_option maxHeartbeats 2000000 in
theorem radomeref27_Decode.b0_ok {k : Nat} {h : radomeref27_Decode.Hs} (hh : radomeref27_Decode.OK h) {H0 H : Hp} {L : Items} {r : (List Int) × Int × Int} {jk_ : Nat → Value} {b : List Int} {most : Int} {t4 : List Int} {t5 : Int} {t6 : Int} {out : List Int} {i : Int} {v_b : Value} {v_t4 : Value} {v_out : Value} {i_out : Item'} (hle : H0.le H) (he : radomeref27_Decode.b0 k h b most t4 t5 t6 out i = some r) (h_b : Ro (Kd.int .u8) H v_b b) (h_t4 : Ro (Kd.int .i64) H v_t4 t4) (h_out : Sl (Kd.int .i64) H 3 i_out v_out out) : Wp Tryd.prog 17 62 radomeref27_Decode.Kl0 (upd (upd (upd (upd (upd (upd (upd jk_ 0 (v_b)) 1 (.int .i64 most)) 4 (v_t4)) 5 (.int .i64 t5)) 6 (.int .i64 t6)) 7 (v_out)) 8 (.int .i64 i)) H (i_out :: L) (radomeref27_Decode.R H0 L r) := by
 unfold radomeref27_Decode.b0 at he
 unfold radomeref27_Decode.Kl0
 refine w_seq ?_
 refine w_seq ?_
 refine w_region rfl ?_
 refine w_d rfl (d_move (v := .int .i64 i) rfl) ?_
 refine w_d rfl (d_move (v := .int .i64 most) rfl) ?_
 refine w_d rfl (d_leq rfl rfl) ?_
 refine w_done ?_
 rcases its he with ⟨c4, he⟩ | ⟨c4, he⟩
 ·
  refine w_then rfl (decide_eq_true c4) ?_
  refine w_skip ?_
  refine w_seq ?_
  refine w_block ?_
  refine w_seq ?_
  refine w_seq ?_
  refine w_region rfl ?_
  refine w_d rfl (d_move (v := .int .i64 i) rfl) ?_
  refine w_d rfl (d_move (v := .int .i64 most) rfl) ?_
  refine w_d rfl (d_eql rfl rfl) ?_
  refine w_done ?_
  rcases its he with ⟨c5, he⟩ | ⟨c5, he⟩
  ·
   refine w_then rfl (decide_eq_true c5) ?_
   refine w_seq ?_
   refine w_region rfl ?_
   refine w_d rfl (d_assign (v := .slice none 0 0) rfl) ?_
   refine w_d rfl (d_assign (v := .int .i64 0) rfl) ?_
   refine w_d rfl (d_assign (v := .int .i64 2) rfl) ?_
   refine w_done ?_
   obtain rfl := Option.some.inj he
   refine w_return fn_17 rs_17 (.tmp (v := .slice none 0 0) rfl (.tmp (v := .int .i64 0) rfl (.tmp (v := .int .i64 2) rfl .nil))) ?_
   exact ⟨⟨[_], rfl⟩, hle, ⟨.slice none 0 0, rfl, (ro_nil _ _)⟩⟩
  ·
   refine w_else rfl (decide_eq_false c5) ?_
   refine w_skip ?_
   refine w_seq ?_
   refine w_seq ?_
   refine w_region rfl ?_
   refine w_d rfl (d_move (v := .int .i64 i) rfl) ?_
   refine w_d rfl (d_move (v := v_b) rfl) ?_
   refine w_d rfl (d_len Tryd.underlying26 rfl h_b.src) ?_
   refine w_d rfl (d_geq rfl rfl) ?_
   refine w_done ?_
   rcases its he with ⟨c6, he⟩ | ⟨c6, he⟩
   ·
    refine w_then rfl (decide_eq_true c6) ?_
    refine w_seq ?_
    refine w_region rfl ?_
    refine w_d rfl (d_assign (v := .slice none 0 0) rfl) ?_
    refine w_d rfl (d_assign (v := .int .i64 0) rfl) ?_
    refine w_d rfl (d_assign (v := .int .i64 4) rfl) ?_
    refine w_done ?_
    obtain rfl := Option.some.inj he
    refine w_return fn_17 rs_17 (.tmp (v := .slice none 0 0) rfl (.tmp (v := .int .i64 0) rfl (.tmp (v := .int .i64 4) rfl .nil))) ?_
    exact ⟨⟨[_], rfl⟩, hle, ⟨.slice none 0 0, rfl, (ro_nil _ _)⟩⟩
   ·
    refine w_else rfl (decide_eq_false c6) ?_
    refine w_skip ?_
    refine w_seq ?_
    refine w_region rfl ?_
    refine w_d rfl (d_move (v := v_b) rfl) ?_
    refine w_d rfl (d_move (v := .int .i64 i) rfl) ?_
    obtain ⟨c7, he⟩ := rq he
    refine w_d rfl (d_index (sz := 1) Tryd.underlying26 sz5 rfl h_b.src rfl c7) ?_
    refine w_d rfl (d_ldint ty5 rfl h_b.src c7) ?_
    refine w_d rfl (d_conv (c := w64 (rd b i)) Tryd.underlying5 Tryd.underlying3 rfl rfl) ?_
    refine w_d rfl (d_assign (v := .int .i64 (w64 (rd b i))) rfl) ?_
    refine w_done ?_
    refine w_seq ?_
    refine w_region rfl ?_
    refine w_d rfl (d_assign (v := .bool false) rfl) ?_
    refine w_done ?_
    refine w_seq ?_
    refine w_region rfl ?_
    refine w_d rfl (d_assign (v := .int .i64 128) rfl) ?_
    refine w_done ?_
    refine w_seq ?_
    refine w_seq ?_
    refine w_region rfl ?_
    refine w_d rfl (d_assign (v := .int .i64 1) rfl) ?_
    refine w_done ?_
    refine w_block ?_
    refine w_loop ?_
    refine w_sl 0 (v_b) rfl ?_
    refine w_sl 1 (.int .i64 most) rfl ?_
    refine w_sl 4 (v_t4) rfl ?_
    refine w_sl 5 (.int .i64 t5) rfl ?_
    refine w_sl 6 (.int .i64 t6) rfl ?_
    refine w_sl 7 (v_out) rfl ?_
    refine w_sl 8 (.int .i64 i) rfl ?_
    refine w_sl 9 (.int .i64 (w64 (rd b i))) rfl ?_
    refine w_sl 10 (.bool false) rfl ?_
    refine w_sl 11 (.int .i64 128) rfl ?_
    refine w_sl 12 (.int .i64 1) rfl ?_
    exact hh.l1 hle he h_b h_t4 h_out
 ·
  refine w_else rfl (decide_eq_false c4) ?_
  refine w_exit rfl ?_
  refine w_seq ?_
  refine w_region rfl ?_
  refine w_d rfl (d_assign (v := .slice none 0 0) rfl) ?_
  refine w_d rfl (d_assign (v := .int .i64 0) rfl) ?_
  refine w_d rfl (d_assign (v := .int .i64 2) rfl) ?_
  refine w_done ?_
  obtain rfl := Option.some.inj he
  refine w_return fn_17 rs_17 (.tmp (v := .slice none 0 0) rfl (.tmp (v := .int .i64 0) rfl (.tmp (v := .int .i64 2) rfl .nil))) ?_
  exact ⟨⟨[_], rfl⟩, hle, ⟨.slice none 0 0, rfl, (ro_nil _ _)⟩⟩
set_option maxRecDepth 100000 in
set_option maxHeartbeats 2000000 in
theorem radomeref27_Decode.j3_ok {k : Nat} {h : radomeref27_Decode.Hs} (hh : radomeref27_Decode.OK h) {H0 H : Hp} {L : Items} {r : (List Int) × Int × Int} {jk_ : Nat → Value} {b : List Int} {most : Int} {t4 : List Int} {t5 : Int} {t6 : Int} {out : List Int} {i : Int} {v_ : Int} {some_ : Bool} {bit : Int} {k_ : Int} {v_b : Value} {v_t4 : Value} {v_out : Value} {i_out : Item'} (hle : H0.le H) (he : radomeref27_Decode.j3 k h b most t4 t5 t6 out i v_ some_ bit k_ = some r) (h_b : Ro (Kd.int .u8) H v_b b) (h_t4 : Ro (Kd.int .i64) H v_t4 t4) (h_out : Sl (Kd.int .i64) H 3 i_out v_out out) : Wp Tryd.prog 17 62 radomeref27_Decode.Kj3 (upd (upd (upd (upd (upd (upd (upd (upd (upd (upd (upd jk_ 0 (v_b)) 1 (.int .i64 most)) 4 (v_t4)) 5 (.int .i64 t5)) 6 (.int .i64 t6)) 7 (v_out)) 8 (.int .i64 i)) 9 (.int .i64 v_)) 10 (.bool some_)) 11 (.int .i64 bit)) 12 (.int .i64 k_)) H (i_out :: L) (radomeref27_Decode.R H0 L r) := by
 unfold radomeref27_Decode.j3 at he
 unfold radomeref27_Decode.Kj3
 refine w_region rfl ?_
 refine w_d rfl (d_move (v := .int .i64 bit) rfl) ?_
 refine w_d rfl (d_quo (c := w64 (Int.tdiv bit 2)) rfl rfl (by decide) rfl) ?_
 refine w_d rfl (d_assign (v := .int .i64 (w64 (Int.tdiv bit 2))) rfl) ?_
 refine w_done ?_
 refine w_inBlock ?_
 refine w_region rfl ?_
 refine w_d rfl (d_move (v := .int .i64 k_) rfl) ?_
 refine w_d rfl (d_add (c := w64 (k_ + 1)) rfl rfl rfl) ?_
 refine w_d rfl (d_assign (v := .int .i64 (w64 (k_ + 1))) rfl) ?_
 refine w_done ?_
 refine w_inLoop ?_
 refine w_sl 0 (v_b) rfl ?_
 refine w_sl 1 (.int .i64 most) rfl ?_
 refine w_sl 4 (v_t4) rfl ?_
 refine w_sl 5 (.int .i64 t5) rfl ?_
 refine w_sl 6 (.int .i64 t6) rfl ?_
 refine w_sl 7 (v_out) rfl ?_
 refine w_sl 8 (.int .i64 i) rfl ?_
 refine w_sl 9 (.int .i64 v_) rfl ?_
 refine w_sl 10 (.bool some_) rfl ?_
 refine w_sl 11 (.int .i64 (w64 (Int.tdiv bit 2))) rfl ?_
 refine w_sl 12 (.int .i64 (w64 (k_ + 1))) rfl ?_
 exact hh.l1 hle he h_b h_t4 h_out
set_option maxRecDepth 100000 in
set_option maxHeartbeats 2000000 in
theorem radomeref27_Decode.b1_ok {k : Nat} {h : radomeref27_Decode.Hs} (hh : radomeref27_Decode.OK h) {H0 H : Hp} {L : Items} {r : (List Int) × Int × Int} {jk_ : Nat → Value} {b : List Int} {most : Int} {t4 : List Int} {t5 : Int} {t6 : Int} {out : List Int} {i : Int} {v_ : Int} {some_ : Bool} {bit : Int} {k_ : Int} {v_b : Value} {v_t4 : Value} {v_out : Value} {i_out : Item'} (hle : H0.le H) (he : radomeref27_Decode.b1 k h b most t4 t5 t6 out i v_ some_ bit k_ = some r) (h_b : Ro (Kd.int .u8) H v_b b) (h_t4 : Ro (Kd.int .i64) H v_t4 t4) (h_out : Sl (Kd.int .i64) H 3 i_out v_out out) : Wp Tryd.prog 17 62 radomeref27_Decode.Kl1 (upd (upd (upd (upd (upd (upd (upd (upd (upd (upd (upd jk_ 0 (v_b)) 1 (.int .i64 most)) 4 (v_t4)) 5 (.int .i64 t5)) 6 (.int .i64 t6)) 7 (v_out)) 8 (.int .i64 i)) 9 (.int .i64 v_)) 10 (.bool some_)) 11 (.int .i64 bit)) 12 (.int .i64 k_)) H (i_out :: L) (radomeref27_Decode.R H0 L r) := by
 unfold radomeref27_Decode.b1 at he
 unfold radomeref27_Decode.Kl1
 refine w_seq ?_
 refine w_seq ?_
 refine w_region rfl ?_
 refine w_d rfl (d_move (v := .int .i64 k_) rfl) ?_
 refine w_d rfl (d_leq rfl rfl) ?_
 refine w_done ?_
 rcases its he with ⟨c8, he⟩ | ⟨c8, he⟩
 ·
  refine w_then rfl (decide_eq_true c8) ?_
  refine w_skip ?_
  refine w_seq ?_
  refine w_block ?_
  refine w_seq ?_
  refine w_seq ?_
  refine w_region rfl ?_
  refine w_d rfl (d_move (v := .int .i64 v_) rfl) ?_
  refine w_d rfl (d_move (v := .int .i64 bit) rfl) ?_
  obtain ⟨c9, he⟩ := rq he
  refine w_d rfl (d_quo (c := w64 (Int.tdiv v_ bit)) rfl rfl c9 rfl) ?_
  refine w_d rfl (d_rem rfl rfl (by decide)) ?_
  refine w_d rfl (d_eql rfl rfl) ?_
  refine w_done ?_
  rcases its he with ⟨c10, he⟩ | ⟨c10, he⟩
  ·
   refine w_then rfl (decide_eq_true c10) ?_
   refine w_seq ?_
   refine w_region rfl ?_
   refine w_d rfl (d_move (v := v_out) rfl) ?_
   refine w_d rfl (d_move (v := .int .i64 i) rfl) ?_
   refine w_d rfl (d_mul (c := w64 (7 * i)) rfl rfl rfl) ?_
   refine w_d rfl (d_move (v := .int .i64 k_) rfl) ?_
   refine w_d rfl (d_add (c := w64 ((w64 (7 * i)) + k_)) rfl rfl rfl) ?_
   refine w_a rfl (o_buildSlice' (kd := (Kd.int .i64)) (css := [[.int .i64 (w64 ((w64 (7 * i)) + k_))]]) (xs := [w64 ((w64 (7 * i)) + k_)]) (parts := [(0, .int .i64 (w64 ((w64 (7 * i)) + k_)))]) Tryd.underlying41 ti3 rfl ⟨_, _, rfl, rfl, rfl⟩ ⟨rfl, trivial⟩ rfl (by decide)) ?_
   rintro v11 _ _ ⟨i12, rfl, rfl, h13⟩
   obtain ⟨c14, he⟩ := rq he
   refine w_a rfl (o_append' (kd := (Kd.int .i64)) (F := fun z_ => i12 :: z_ :: L) Tryd.underlying41 Tryd.underlying41 ti3 rfl (by first | omega | (simp only [List.nil_append, List.length_cons, List.length_nil]; omega)) rfl rfl h_out (h13.src .here) (fun _ => (.there .here))) ?_
   rintro v15 _ _ ⟨i16, rfl, rfl, h17⟩
   refine w_d rfl (d_assign (v := v15) rfl) ?_
   refine w_done ?_
   refine w_region rfl ?_
   refine w_d rfl (d_assign (v := .bool true) rfl) ?_
   refine w_done ?_
   refine w_del .here ?_
   refine w_sl 0 (v_b) rfl ?_
   refine w_sl 1 (.int .i64 most) rfl ?_
   refine w_sl 4 (v_t4) rfl ?_
   refine w_sl 5 (.int .i64 t5) rfl ?_
   refine w_sl 6 (.int .i64 t6) rfl ?_
   refine w_sl 7 (v15) rfl ?_
   refine w_sl 8 (.int .i64 i) rfl ?_
   refine w_sl 9 (.int .i64 v_) rfl ?_
   refine w_sl 10 (.bool true) rfl ?_
   refine w_sl 11 (.int .i64 bit) rfl ?_
   refine w_sl 12 (.int .i64 k_) rfl ?_
   exact radomeref27_Decode.j3_ok (k := k) hh hle he h_b h_t4 h17
  ·
   refine w_else rfl (decide_eq_false c10) ?_
   refine w_skip ?_
   refine w_sl 0 (v_b) rfl ?_
   refine w_sl 1 (.int .i64 most) rfl ?_
   refine w_sl 4 (v_t4) rfl ?_
   refine w_sl 5 (.int .i64 t5) rfl ?_
   refine w_sl 6 (.int .i64 t6) rfl ?_
   refine w_sl 7 (v_out) rfl ?_
   refine w_sl 8 (.int .i64 i) rfl ?_
   refine w_sl 9 (.int .i64 v_) rfl ?_
   refine w_sl 10 (.bool some_) rfl ?_
   refine w_sl 11 (.int .i64 bit) rfl ?_
   refine w_sl 12 (.int .i64 k_) rfl ?_
   exact radomeref27_Decode.j3_ok (k := k) hh hle he h_b h_t4 h_out
 ·
  refine w_else rfl (decide_eq_false c8) ?_
  refine w_exit rfl ?_
  refine w_seq ?_
  refine w_region rfl ?_
  refine w_d rfl (d_move (v := .int .i64 v_) rfl) ?_
  refine w_d rfl (d_rem rfl rfl (by decide)) ?_
  refine w_d rfl (d_eql rfl rfl) ?_
  refine w_done ?_
  rcases its he with ⟨c18, he⟩ | ⟨c18, he⟩
  ·
   refine w_then rfl (decide_eq_true c18) ?_
   refine w_seq ?_
   refine w_seq ?_
   refine w_region rfl ?_
   refine w_d rfl (d_move (v := .bool some_) rfl) ?_
   refine w_d rfl (d_not (b := some_) rfl) ?_
   refine w_done ?_
   rcases its he with ⟨c19, he⟩ | ⟨c19, he⟩
   ·
    refine w_then rfl c19 ?_
    refine w_seq ?_
    refine w_region rfl ?_
    refine w_d rfl (d_assign (v := .slice none 0 0) rfl) ?_
    refine w_d rfl (d_assign (v := .int .i64 0) rfl) ?_
    refine w_d rfl (d_assign (v := .int .i64 3) rfl) ?_
    refine w_done ?_
    obtain rfl := Option.some.inj he
    refine w_return fn_17 rs_17 (.tmp (v := .slice none 0 0) rfl (.tmp (v := .int .i64 0) rfl (.tmp (v := .int .i64 3) rfl .nil))) ?_
    exact ⟨⟨[_], rfl⟩, hle, ⟨.slice none 0 0, rfl, (ro_nil _ _)⟩⟩
   ·
    refine w_else rfl (Bool.eq_false_iff.2 c19) ?_
    refine w_skip ?_
    refine w_seq ?_
    refine w_region rfl ?_
    refine w_d rfl (d_move (v := v_out) rfl) ?_
    refine w_d rfl (d_move (v := .int .i64 i) rfl) ?_
    refine w_d rfl (d_add (c := w64 (i + 1)) rfl rfl rfl) ?_
    refine w_d rfl (d_assign (v := v_out) rfl) ?_
    refine w_d rfl (d_assign (v := .int .i64 (w64 (i + 1))) rfl) ?_
    refine w_d rfl (d_assign (v := .int .i64 0) rfl) ?_
    refine w_done ?_
    refine w_freeze h_out .here ?_
    intro H20 e21 h22
    obtain rfl := Option.some.inj he
    refine w_return fn_17 rs_17 (.tmp (v := v_out) rfl (.tmp (v := .int .i64 (w64 (i + 1))) rfl (.tmp (v := .int .i64 0) rfl .nil))) ?_
    exact ⟨⟨[_], rfl⟩, hle.trans e21, ⟨v_out, rfl, h22⟩⟩
  ·
   refine w_else rfl (decide_eq_false c18) ?_
   refine w_skip ?_
   refine w_inBlock ?_
   refine w_region rfl ?_
   refine w_d rfl (d_move (v := .int .i64 i) rfl) ?_
   refine w_d rfl (d_add (c := w64 (i + 1)) rfl rfl rfl) ?_
   refine w_d rfl (d_assign (v := .int .i64 (w64 (i + 1))) rfl) ?_
   refine w_done ?_
   refine w_inLoop ?_
   refine w_sl 0 (v_b) rfl ?_
   refine w_sl 1 (.int .i64 most) rfl ?_
   refine w_sl 4 (v_t4) rfl ?_
   refine w_sl 5 (.int .i64 t5) rfl ?_
   refine w_sl 6 (.int .i64 t6) rfl ?_
   refine w_sl 7 (v_out) rfl ?_
   refine w_sl 8 (.int .i64 (w64 (i + 1))) rfl ?_
   exact hh.l0 hle he h_b h_t4 h_out
theorem radomeref27_Decode.ok : ∀ k, radomeref27_Decode.OK (radomeref27_Decode.hs k)
 | 0 => ⟨(by intros; exact nomatch (show none = some _ from by assumption)), (by intros; exact nomatch (show none = some _ from by assumption))⟩
 | k + 1 => ⟨radomeref27_Decode.b0_ok (k := k) (radomeref27_Decode.ok k), radomeref27_Decode.b1_ok (k := k) (radomeref27_Decode.ok k)⟩
set_option maxRecDepth 100000 in
set_option maxHeartbeats 2000000 in
theorem radomeref27_Decode.calls (k : Nat) {H : Hp} {L : Items} {b : List Int} {most : Int} {v0_b : Value} {r : (List Int) × Int × Int} (he : radomeref27_Decode.f k b most = some r) (h0_b : Ro (Kd.int .u8) H v0_b b) : Ct Tryd.prog 17 ⟨[v0_b, .int .i64 most]⟩ H L (fun v H' L' => L = L' ∧ H.le H' ∧ radomeref27_Decode.out r H' v) := by
 refine ct_out (O := radomeref27_Decode.out r) ?_
 have hle : H.le H := .refl _
 have hh := radomeref27_Decode.ok k
 unfold radomeref27_Decode.f at he
 refine ct_enter (args := [v0_b, .int .i64 most]) fn_17 rfl nt_17 rfl ?_
 refine w_seq ?_
 refine w_region rfl ?_
 refine w_d rfl (d_assign (v := .slice none 0 0) rfl) ?_
 refine w_d rfl (d_assign (v := .int .i64 0) rfl) ?_
 refine w_d rfl (d_assign (v := .int .i64 0) rfl) ?_
 refine w_done ?_
 refine w_seq ?_
 refine w_seq ?_
 refine w_region rfl ?_
 refine w_d rfl (d_move (v := .int .i64 most) rfl) ?_
 refine w_d rfl (d_lss rfl rfl) ?_
 refine w_d rfl (d_move (v := .bool (decide (most < 1))) rfl) ?_
 refine w_g (g := !(decide (most < 1))) rfl rfl rfl wn_f (fun g1 => d_move (v := .int .i64 most) rfl) ?_
 refine w_g (g := !(decide (most < 1))) rfl rfl rfl wn_f (fun g2 => d_gtr (cvt g2) rfl) ?_
 refine w_d rfl (d_or' (b := (decide (most < 1))) (p := (decide (8 < most))) rfl rfl rfl) ?_
 refine w_done ?_
 rcases its he with ⟨c3, he⟩ | ⟨c3, he⟩
 ·
  refine w_then rfl c3 ?_
  refine w_seq ?_
  refine w_region rfl ?_
  refine w_d rfl (d_assign (v := .slice none 0 0) rfl) ?_
  refine w_d rfl (d_assign (v := .int .i64 0) rfl) ?_
  refine w_d rfl (d_assign (v := .int .i64 1) rfl) ?_
  refine w_done ?_
  obtain rfl := Option.some.inj he
  refine w_return fn_17 rs_17 (.tmp (v := .slice none 0 0) rfl (.tmp (v := .int .i64 0) rfl (.tmp (v := .int .i64 1) rfl .nil))) ?_
  exact ⟨⟨[], rfl⟩, hle, ⟨.slice none 0 0, rfl, (ro_nil _ _)⟩⟩
 ·
  refine w_else rfl (Bool.eq_false_iff.2 c3) ?_
  refine w_skip ?_
  refine w_seq ?_
  refine w_region rfl ?_
  refine w_d rfl (d_assign (v := .slice none 0 0) rfl) ?_
  refine w_done ?_
  refine w_seq ?_
  refine w_seq ?_
  refine w_region rfl ?_
  refine w_d rfl (d_assign (v := .int .i64 0) rfl) ?_
  refine w_done ?_
  refine w_block ?_
  refine w_loop ?_
  refine w_none ?_
  refine w_sl 0 (v0_b) rfl ?_
  refine w_sl 1 (.int .i64 most) rfl ?_
  refine w_sl 4 (.slice none 0 0) rfl ?_
  refine w_sl 5 (.int .i64 0) rfl ?_
  refine w_sl 6 (.int .i64 0) rfl ?_
  refine w_sl 7 (.slice none 0 0) rfl ?_
  refine w_sl 8 (.int .i64 0) rfl ?_
  exact hh.l0 hle he h0_b (ro_nil _ _) (sl_nil _ _ _)
end Go.Proofs.YtlokgnjlnefbbaaDoor.GFS

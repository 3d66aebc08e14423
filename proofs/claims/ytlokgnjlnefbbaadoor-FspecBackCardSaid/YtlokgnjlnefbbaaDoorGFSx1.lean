/- A text of this session, written by a program (wip/k/gen.py): Go functions as Lean functions, and proofs that the code comes to them. -/
import Derived.Test.YtlokgnjlnefbbaaDoorGFSx0
namespace Go.Proofs.YtlokgnjlnefbbaaDoor.GFS
open Go Go.RowKit Go.Proofs.YtlokgnjlnefbbaaDoorK Go.Proofs.YtlokgnjlnefbbaaDoor
set_option linter.unusedVariables false
set_option linter.unusedSimpArgs false
/-! ### radome/radomeref27.Encode -/
noncomputable def radomeref27_Encode.C : Code := (Tryd.f19.body).getD .skip
def radomeref27_Encode.out (r : (List Int) × Int) (H : Hp) (v : Value) : Prop := ∃ v0, v = .tuple ⟨[v0, .int .i64 r.2]⟩ ∧ Ro (Kd.int .u8) H v0 r.1
theorem radomeref27_Encode.out_mono (r : (List Int) × Int) {H H' : Hp} {v : Value} (hle : H.le H') (h : radomeref27_Encode.out r H v) : radomeref27_Encode.out r H' v := by
 obtain ⟨v0, rfl, h0⟩ := h; exact ⟨v0, rfl, h0.mono hle⟩
abbrev radomeref27_Encode.R (H0 : Hp) (L : Items) (r : (List Int) × Int) : Value → Hp → Items → Prop := fun v H' L' => (∃ p, L' = p ++ L) ∧ H0.le H' ∧ radomeref27_Encode.out r H' v
structure radomeref27_Encode.Hs where
 l0 : (List Int) → (List Int) → Int → Int → Int → Option ((List Int) × Int)
 l1 : (List Int) → (List Int) → Int → Int → (List Int) → Int → Option ((List Int) × Int)
 l2 : (List Int) → (List Int) → Int → Int → (List Int) → Int → Int → Int → Option ((List Int) × Int)
 l3 : (List Int) → (List Int) → Int → Int → (List Int) → Int → Int → Int → Int → Option ((List Int) × Int)
noncomputable def radomeref27_Encode.b0 (k : Nat) (h : radomeref27_Encode.Hs)  (l : List Int) (t2 : List Int) (t3 : Int) (last : Int) (i : Int) : Option ((List Int) × Int) := if i < (l.length : Int) then (if 0 ≤ i ∧ i < (l.length : Int) then (if (!(decide ((rd l i) ≤ last))) = true → 0 ≤ i ∧ i < (l.length : Int) then (if ((decide ((rd l i) ≤ last)) || (decide (56 < (rd l i)))) = true then (some ([], 1)) else (if 0 ≤ i ∧ i < (l.length : Int) then (h.l0 l t2 t3 (rd l i) (w64 (i + 1))) else none)) else none) else none) else (if last = 0 then (some ([], 1)) else (h.l1 l t2 t3 last [] 1))
noncomputable def radomeref27_Encode.b1 (k : Nat) (h : radomeref27_Encode.Hs)  (l : List Int) (t2 : List Int) (t3 : Int) (last : Int) (out : List Int) (from_ : Int) : Option ((List Int) × Int) := if from_ ≤ last then (h.l2 l t2 t3 last out from_ 0 from_) else (some (out, 0))
noncomputable def radomeref27_Encode.j5 (k : Nat) (h : radomeref27_Encode.Hs)  (l : List Int) (t2 : List Int) (t3 : Int) (last : Int) (out : List Int) (from_ : Int) (v_ : Int) : Option ((List Int) × Int) := if out.length + 1 ≤ 140737488355200 then (h.l1 l t2 t3 last (out ++ [(v_) % 256]) (w64 (from_ + 7))) else none
noncomputable def radomeref27_Encode.b2 (k : Nat) (h : radomeref27_Encode.Hs)  (l : List Int) (t2 : List Int) (t3 : Int) (last : Int) (out : List Int) (from_ : Int) (v_ : Int) (k_ : Int) : Option ((List Int) × Int) := if k_ < (w64 (from_ + 7)) then (h.l3 l t2 t3 last out from_ (w64 (2 * v_)) k_ 0) else (if (w64 (from_ + 7)) ≤ last then (radomeref27_Encode.j5 k h l t2 t3 last out from_ (w64 ((w64 (2 * v_)) + 1))) else (radomeref27_Encode.j5 k h l t2 t3 last out from_ (w64 (2 * v_))))
noncomputable def radomeref27_Encode.b3 (k : Nat) (h : radomeref27_Encode.Hs)  (l : List Int) (t2 : List Int) (t3 : Int) (last : Int) (out : List Int) (from_ : Int) (v_ : Int) (k_ : Int) (i : Int) : Option ((List Int) × Int) := if i < (l.length : Int) then (if 0 ≤ i ∧ i < (l.length : Int) then (if (rd l i) = k_ then (h.l3 l t2 t3 last out from_ (w64 (v_ + 1)) k_ (w64 (i + 1))) else (h.l3 l t2 t3 last out from_ v_ k_ (w64 (i + 1)))) else none) else (h.l2 l t2 t3 last out from_ v_ (w64 (k_ + 1)))
noncomputable def radomeref27_Encode.hs : Nat → radomeref27_Encode.Hs
 | 0 => ⟨fun _ _ _ _ _ => none, fun _ _ _ _ _ _ => none, fun _ _ _ _ _ _ _ _ => none, fun _ _ _ _ _ _ _ _ _ => none⟩
 | k + 1 => ⟨fun x0 x1 x2 x3 x4 => radomeref27_Encode.b0 k (radomeref27_Encode.hs k) x0 x1 x2 x3 x4, fun x0 x1 x2 x3 x4 x5 => radomeref27_Encode.b1 k (radomeref27_Encode.hs k) x0 x1 x2 x3 x4 x5, fun x0 x1 x2 x3 x4 x5 x6 x7 => radomeref27_Encode.b2 k (radomeref27_Encode.hs k) x0 x1 x2 x3 x4 x5 x6 x7, fun x0 x1 x2 x3 x4 x5 x6 x7 x8 => radomeref27_Encode.b3 k (radomeref27_Encode.hs k) x0 x1 x2 x3 x4 x5 x6 x7 x8⟩
noncomputable def radomeref27_Encode.f (k : Nat) (l : List Int) : Option ((List Int) × Int) := (fun h : radomeref27_Encode.Hs => h.l0 l [] 0 0 0) (radomeref27_Encode.hs k)
structure radomeref27_Encode.LE (h h' : radomeref27_Encode.Hs) : Prop where
 l0 : ∀ y0 y1 y2 y3 y4, LeO (h.l0 y0 y1 y2 y3 y4) (h'.l0 y0 y1 y2 y3 y4)
 l1 : ∀ y0 y1 y2 y3 y4 y5, LeO (h.l1 y0 y1 y2 y3 y4 y5) (h'.l1 y0 y1 y2 y3 y4 y5)
 l2 : ∀ y0 y1 y2 y3 y4 y5 y6 y7, LeO (h.l2 y0 y1 y2 y3 y4 y5 y6 y7) (h'.l2 y0 y1 y2 y3 y4 y5 y6 y7)
 l3 : ∀ y0 y1 y2 y3 y4 y5 y6 y7 y8, LeO (h.l3 y0 y1 y2 y3 y4 y5 y6 y7 y8) (h'.l3 y0 y1 y2 y3 y4 y5 y6 y7 y8)
theorem radomeref27_Encode.b0_mono {k : Nat} {h h' : radomeref27_Encode.Hs} (hl : radomeref27_Encode.LE h h') : ∀ y0 y1 y2 y3 y4, LeO (radomeref27_Encode.b0 k h y0 y1 y2 y3 y4) (radomeref27_Encode.b0 (k + 1) h' y0 y1 y2 y3 y4) := fun _ _ _ _ _ => (LeO.ite (LeO.ite (LeO.ite (LeO.ite (LeO.refl _) (LeO.ite (hl.l0 _ _ _ _ _) (LeO.refl _))) (LeO.refl _)) (LeO.refl _)) (LeO.ite (LeO.refl _) (hl.l1 _ _ _ _ _ _)))
theorem radomeref27_Encode.b1_mono {k : Nat} {h h' : radomeref27_Encode.Hs} (hl : radomeref27_Encode.LE h h') : ∀ y0 y1 y2 y3 y4 y5, LeO (radomeref27_Encode.b1 k h y0 y1 y2 y3 y4 y5) (radomeref27_Encode.b1 (k + 1) h' y0 y1 y2 y3 y4 y5) := fun _ _ _ _ _ _ => (LeO.ite (hl.l2 _ _ _ _ _ _ _ _) (LeO.refl _))
theorem radomeref27_Encode.j5_mono {k : Nat} {h h' : radomeref27_Encode.Hs} (hl : radomeref27_Encode.LE h h') : ∀ y0 y1 y2 y3 y4 y5 y6, LeO (radomeref27_Encode.j5 k h y0 y1 y2 y3 y4 y5 y6) (radomeref27_Encode.j5 (k + 1) h' y0 y1 y2 y3 y4 y5 y6) := fun _ _ _ _ _ _ _ => (LeO.ite (hl.l1 _ _ _ _ _ _) (LeO.refl _))
theorem radomeref27_Encode.b2_mono {k : Nat} {h h' : radomeref27_Encode.Hs} (hl : radomeref27_Encode.LE h h') : ∀ y0 y1 y2 y3 y4 y5 y6 y7, LeO (radomeref27_Encode.b2 k h y0 y1 y2 y3 y4 y5 y6 y7) (radomeref27_Encode.b2 (k + 1) h' y0 y1 y2 y3 y4 y5 y6 y7) := fun _ _ _ _ _ _ _ _ => (LeO.ite (hl.l3 _ _ _ _ _ _ _ _ _) (LeO.ite (radomeref27_Encode.j5_mono (k := k) hl _ _ _ _ _ _ _) (radomeref27_Encode.j5_mono (k := k) hl _ _ _ _ _ _ _)))
theorem radomeref27_Encode.b3_mono {k : Nat} {h h' : radomeref27_Encode.Hs} (hl : radomeref27_Encode.LE h h') : ∀ y0 y1 y2 y3 y4 y5 y6 y7 y8, LeO (radomeref27_Encode.b3 k h y0 y1 y2 y3 y4 y5 y6 y7 y8) (radomeref27_Encode.b3 (k + 1) h' y0 y1 y2 y3 y4 y5 y6 y7 y8) := fun _ _ _ _ _ _ _ _ _ => (LeO.ite (LeO.ite (LeO.ite (hl.l3 _ _ _ _ _ _ _ _ _) (hl.l3 _ _ _ _ _ _ _ _ _)) (LeO.refl _)) (hl.l2 _ _ _ _ _ _ _ _))
theorem radomeref27_Encode.hs_mono : ∀ k, radomeref27_Encode.LE (radomeref27_Encode.hs k) (radomeref27_Encode.hs (k + 1))
 | 0 => ⟨fun _ _ _ _ _ => LeO.none _, fun _ _ _ _ _ _ => LeO.none _, fun _ _ _ _ _ _ _ _ => LeO.none _, fun _ _ _ _ _ _ _ _ _ => LeO.none _⟩
 | k + 1 => ⟨radomeref27_Encode.b0_mono (k := k) (radomeref27_Encode.hs_mono k), radomeref27_Encode.b1_mono (k := k) (radomeref27_Encode.hs_mono k), radomeref27_Encode.b2_mono (k := k) (radomeref27_Encode.hs_mono k), radomeref27_Encode.b3_mono (k := k) (radomeref27_Encode.hs_mono k)⟩
theorem radomeref27_Encode.mono : ∀ k y0, LeO (radomeref27_Encode.f k y0) (radomeref27_Encode.f (k + 1) y0) := fun k _ => have hl := radomeref27_Encode.hs_mono k; by unfold radomeref27_Encode.f; exact (hl.l0 _ _ _ _ _)
noncomputable def radomeref27_Encode.Kl0 : List Item := .code (lopB (blkB (seqR (seqL (seqR (seqR radomeref27_Encode.C)))))) :: .inLoop (lopB (blkB (seqR (seqL (seqR (seqR radomeref27_Encode.C)))))) :: .inBlock 0 :: .code (seqR (seqR (seqR radomeref27_Encode.C))) :: []
noncomputable def radomeref27_Encode.Kl1 : List Item := .code (lopB (blkB (seqR (seqL (seqR (seqR (seqR (seqR (seqR radomeref27_Encode.C))))))))) :: .inLoop (lopB (blkB (seqR (seqL (seqR (seqR (seqR (seqR (seqR radomeref27_Encode.C))))))))) :: .inBlock 2 :: .code (seqR (seqR (seqR (seqR (seqR (seqR radomeref27_Encode.C)))))) :: []
noncomputable def radomeref27_Encode.Kl2 : List Item := .code (lopB (blkB (seqR (seqL (seqR (blkB (seqL (seqR (lopB (blkB (seqR (seqL (seqR (seqR (seqR (seqR (seqR radomeref27_Encode.C))))))))))))))))) :: .inLoop (lopB (blkB (seqR (seqL (seqR (blkB (seqL (seqR (lopB (blkB (seqR (seqL (seqR (seqR (seqR (seqR (seqR radomeref27_Encode.C))))))))))))))))) :: .inBlock 4 :: .code (seqR (seqR (blkB (seqL (seqR (lopB (blkB (seqR (seqL (seqR (seqR (seqR (seqR (seqR radomeref27_Encode.C)))))))))))))) :: .inBlock 3 :: .code (seqR (seqR (lopB (blkB (seqR (seqL (seqR (seqR (seqR (seqR (seqR radomeref27_Encode.C))))))))))) :: .inLoop (lopB (blkB (seqR (seqL (seqR (seqR (seqR (seqR (seqR radomeref27_Encode.C))))))))) :: .inBlock 2 :: .code (seqR (seqR (seqR (seqR (seqR (seqR radomeref27_Encode.C)))))) :: []
noncomputable def radomeref27_Encode.Kl3 : List Item := .code (lopB (blkB (seqR (seqR (blkB (seqL (seqR (lopB (blkB (seqR (seqL (seqR (blkB (seqL (seqR (lopB (blkB (seqR (seqL (seqR (seqR (seqR (seqR (seqR radomeref27_Encode.C)))))))))))))))))))))))) :: .inLoop (lopB (blkB (seqR (seqR (blkB (seqL (seqR (lopB (blkB (seqR (seqL (seqR (blkB (seqL (seqR (lopB (blkB (seqR (seqL (seqR (seqR (seqR (seqR (seqR radomeref27_Encode.C)))))))))))))))))))))))) :: .inBlock 6 :: .inBlock 5 :: .code (seqR (seqR (lopB (blkB (seqR (seqL (seqR (blkB (seqL (seqR (lopB (blkB (seqR (seqL (seqR (seqR (seqR (seqR (seqR radomeref27_Encode.C))))))))))))))))))) :: .inLoop (lopB (blkB (seqR (seqL (seqR (blkB (seqL (seqR (lopB (blkB (seqR (seqL (seqR (seqR (seqR (seqR (seqR radomeref27_Encode.C))))))))))))))))) :: .inBlock 4 :: .code (seqR (seqR (blkB (seqL (seqR (lopB (blkB (seqR (seqL (seqR (seqR (seqR (seqR (seqR radomeref27_Encode.C)))))))))))))) :: .inBlock 3 :: .code (seqR (seqR (lopB (blkB (seqR (seqL (seqR (seqR (seqR (seqR (seqR radomeref27_Encode.C))))))))))) :: .inLoop (lopB (blkB (seqR (seqL (seqR (seqR (seqR (seqR (seqR radomeref27_Encode.C))))))))) :: .inBlock 2 :: .code (seqR (seqR (seqR (seqR (seqR (seqR radomeref27_Encode.C)))))) :: []
noncomputable def radomeref27_Encode.Kj5 : List Item := .code (seqR (seqR (seqR (seqR (blkB (seqL (seqR (lopB (blkB (seqR (seqL (seqR (seqR (seqR (seqR (seqR radomeref27_Encode.C)))))))))))))))) :: .inBlock 3 :: .code (seqR (seqR (lopB (blkB (seqR (seqL (seqR (seqR (seqR (seqR (seqR radomeref27_Encode.C))))))))))) :: .inLoop (lopB (blkB (seqR (seqL (seqR (seqR (seqR (seqR (seqR radomeref27_Encode.C))))))))) :: .inBlock 2 :: .code (seqR (seqR (seqR (seqR (seqR (seqR radomeref27_Encode.C)))))) :: []
structure radomeref27_Encode.OK (h : radomeref27_Encode.Hs) : Prop where
 l0 : ∀ {H0 H : Hp} {L : Items} {r : (List Int) × Int} {jk_ : Nat → Value} {l : List Int} {t2 : List Int} {t3 : Int} {last : Int} {i : Int} {v_l : Value} {v_t2 : Value} (_ : H0.le H) (_he : h.l0 l t2 t3 last i = some r) (_h_l : Ro (Kd.int .i64) H v_l l) (_h_t2 : Ro (Kd.int .u8) H v_t2 t2), Wp Tryd.prog 19 78 radomeref27_Encode.Kl0 (upd (upd (upd (upd (upd jk_ 0 (v_l)) 2 (v_t2)) 3 (.int .i64 t3)) 4 (.int .i64 last)) 5 (.int .i64 i)) H (L) (radomeref27_Encode.R H0 L r)
 l1 : ∀ {H0 H : Hp} {L : Items} {r : (List Int) × Int} {jk_ : Nat → Value} {l : List Int} {t2 : List Int} {t3 : Int} {last : Int} {out : List Int} {from_ : Int} {v_l : Value} {v_t2 : Value} {v_out : Value} {i_out : Item'} (_ : H0.le H) (_he : h.l1 l t2 t3 last out from_ = some r) (_h_l : Ro (Kd.int .i64) H v_l l) (_h_t2 : Ro (Kd.int .u8) H v_t2 t2) (_h_out : Sl (Kd.int .u8) H 5 i_out v_out out), Wp Tryd.prog 19 78 radomeref27_Encode.Kl1 (upd (upd (upd (upd (upd (upd jk_ 0 (v_l)) 2 (v_t2)) 3 (.int .i64 t3)) 4 (.int .i64 last)) 6 (v_out)) 7 (.int .i64 from_)) H (i_out :: L) (radomeref27_Encode.R H0 L r)
 l2 : ∀ {H0 H : Hp} {L : Items} {r : (List Int) × Int} {jk_ : Nat → Value} {l : List Int} {t2 : List Int} {t3 : Int} {last : Int} {out : List Int} {from_ : Int} {v_ : Int} {k_ : Int} {v_l : Value} {v_t2 : Value} {v_out : Value} {i_out : Item'} (_ : H0.le H) (_he : h.l2 l t2 t3 last out from_ v_ k_ = some r) (_h_l : Ro (Kd.int .i64) H v_l l) (_h_t2 : Ro (Kd.int .u8) H v_t2 t2) (_h_out : Sl (Kd.int .u8) H 5 i_out v_out out), Wp Tryd.prog 19 78 radomeref27_Encode.Kl2 (upd (upd (upd (upd (upd (upd (upd (upd jk_ 0 (v_l)) 2 (v_t2)) 3 (.int .i64 t3)) 4 (.int .i64 last)) 6 (v_out)) 7 (.int .i64 from_)) 8 (.int .i64 v_)) 9 (.int .i64 k_)) H (i_out :: L) (radomeref27_Encode.R H0 L r)
 l3 : ∀ {H0 H : Hp} {L : Items} {r : (List Int) × Int} {jk_ : Nat → Value} {l : List Int} {t2 : List Int} {t3 : Int} {last : Int} {out : List Int} {from_ : Int} {v_ : Int} {k_ : Int} {i : Int} {v_l : Value} {v_t2 : Value} {v_out : Value} {i_out : Item'} (_ : H0.le H) (_he : h.l3 l t2 t3 last out from_ v_ k_ i = some r) (_h_l : Ro (Kd.int .i64) H v_l l) (_h_t2 : Ro (Kd.int .u8) H v_t2 t2) (_h_out : Sl (Kd.int .u8) H 5 i_out v_out out), Wp Tryd.prog 19 78 radomeref27_Encode.Kl3 (upd (upd (upd (upd (upd (upd (upd (upd (upd jk_ 0 (v_l)) 2 (v_t2)) 3 (.int .i64 t3)) 4 (.int .i64 last)) 6 (v_out)) 7 (.int .i64 from_)) 8 (.int .i64 v_)) 9 (.int .i64 k_)) 10 (.int .i64 i)) H (i_out :: L) (radomeref27_Encode.R H0 L r)
set_option maxRecDepth 100000 in
set_option maxHeartbeats 2000000 in
theorem radomeref27_Encode.b0_ok {k : Nat} {h : radomeref27_Encode.Hs} (hh : radomeref27_Encode.OK h) {H0 H : Hp} {L : Items} {r : (List Int) × Int} {jk_ : Nat → Value} {l : List Int} {t2 : List Int} {t3 : Int} {last : Int} {i : Int} {v_l : Value} {v_t2 : Value} (hle : H0.le H) (he : radomeref27_Encode.b0 k h l t2 t3 last i = some r) (h_l : Ro (Kd.int .i64) H v_l l) (h_t2 : Ro (Kd.int .u8) H v_t2 t2) : Wp Tryd.prog 19 78 radomeref27_Encode.Kl0 (upd (upd (upd (upd (upd jk_ 0 (v_l)) 2 (v_t2)) 3 (.int .i64 t3)) 4 (.int .i64 last)) 5 (.int .i64 i)) H (L) (radomeref27_Encode.R H0 L r) := by
 unfold radomeref27_Encode.b0 at he
 unfold radomeref27_Encode.Kl0
 refine w_seq ?_
 refine w_seq ?_
 refine w_region rfl ?_
 refine w_d rfl (d_move (v := .int .i64 i) rfl) ?_
 refine w_d rfl (d_move (v := v_l) rfl) ?_
 refine w_d rfl (d_len Tryd.underlying41 rfl h_l.src) ?_
 refine w_d rfl (d_lss rfl rfl) ?_
 refine w_done ?_
 rcases its he with ⟨c1, he⟩ | ⟨c1, he⟩
 ·
  refine w_then rfl (decide_eq_true c1) ?_
  refine w_skip ?_
  refine w_seq ?_
  refine w_block ?_
  refine w_seq ?_
  refine w_seq ?_
  refine w_region rfl ?_
  refine w_d rfl (d_move (v := v_l) rfl) ?_
  refine w_d rfl (d_move (v := .int .i64 i) rfl) ?_
  obtain ⟨c2, he⟩ := rq he
  refine w_d rfl (d_index (sz := 1) Tryd.underlying41 sz3 rfl h_l.src rfl c2) ?_
  refine w_d rfl (d_ldint ty3 rfl h_l.src c2) ?_
  refine w_d rfl (d_move (v := .int .i64 last) rfl) ?_
  refine w_d rfl (d_leq rfl rfl) ?_
  refine w_d rfl (d_move (v := .bool (decide ((rd l i) ≤ last))) rfl) ?_
  refine w_g (g := !(decide ((rd l i) ≤ last))) rfl rfl rfl wn_f (fun g3 => d_move (v := v_l) rfl) ?_
  refine w_g (g := !(decide ((rd l i) ≤ last))) rfl rfl rfl wn_f (fun g4 => d_move (v := .int .i64 i) rfl) ?_
  obtain ⟨c6, he⟩ := rq he
  refine w_g (g := !(decide ((rd l i) ≤ last))) rfl rfl rfl wn_f (fun g5 => d_index (sz := 1) Tryd.underlying41 sz3 (cvt g5) h_l.src (cvt g5) (c6 g5)) ?_
  refine w_g (g := !(decide ((rd l i) ≤ last))) rfl rfl rfl wn_f (fun g7 => d_ldint ty3 (cvt g7) h_l.src (c6 g7)) ?_
  refine w_g (g := !(decide ((rd l i) ≤ last))) rfl rfl rfl wn_f (fun g8 => d_gtr (cvt g8) rfl) ?_
  refine w_d rfl (d_or' (b := (decide ((rd l i) ≤ last))) (p := (decide (56 < (rd l i)))) rfl rfl rfl) ?_
  refine w_done ?_
  rcases its he with ⟨c9, he⟩ | ⟨c9, he⟩
  ·
   refine w_then rfl c9 ?_
   refine w_seq ?_
   refine w_region rfl ?_
   refine w_d rfl (d_assign (v := .slice none 0 0) rfl) ?_
   refine w_d rfl (d_assign (v := .int .i64 1) rfl) ?_
   refine w_done ?_
   obtain rfl := Option.some.inj he
   refine w_return fn_19 rs_19 (.tmp (v := .slice none 0 0) rfl (.tmp (v := .int .i64 1) rfl .nil)) ?_
   exact ⟨⟨[], rfl⟩, hle, ⟨.slice none 0 0, rfl, (ro_nil _ _)⟩⟩
  ·
   refine w_else rfl (Bool.eq_false_iff.2 c9) ?_
   refine w_skip ?_
   refine w_region rfl ?_
   refine w_d rfl (d_move (v := v_l) rfl) ?_
   refine w_d rfl (d_move (v := .int .i64 i) rfl) ?_
   obtain ⟨c10, he⟩ := rq he
   refine w_d rfl (d_index (sz := 1) Tryd.underlying41 sz3 rfl h_l.src rfl c10) ?_
   refine w_d rfl (d_ldint ty3 rfl h_l.src c10) ?_
   refine w_d rfl (d_assign (v := .int .i64 (rd l i)) rfl) ?_
   refine w_done ?_
   refine w_inBlock ?_
   refine w_region rfl ?_
   refine w_d rfl (d_move (v := .int .i64 i) rfl) ?_
   refine w_d rfl (d_add (c := w64 (i + 1)) rfl rfl rfl) ?_
   refine w_d rfl (d_assign (v := .int .i64 (w64 (i + 1))) rfl) ?_
   refine w_done ?_
   refine w_inLoop ?_
   refine w_sl 0 (v_l) rfl ?_
   refine w_sl 2 (v_t2) rfl ?_
   refine w_sl 3 (.int .i64 t3) rfl ?_
   refine w_sl 4 (.int .i64 (rd l i)) rfl ?_
   refine w_sl 5 (.int .i64 (w64 (i + 1))) rfl ?_
   exact hh.l0 hle he h_l h_t2
 ·
  refine w_else rfl (decide_eq_false c1) ?_
  refine w_exit rfl ?_
  refine w_seq ?_
  refine w_seq ?_
  refine w_region rfl ?_
  refine w_d rfl (d_move (v := .int .i64 last) rfl) ?_
  refine w_d rfl (d_eql rfl rfl) ?_
  refine w_done ?_
  rcases its he with ⟨c11, he⟩ | ⟨c11, he⟩
  ·
   refine w_then rfl (decide_eq_true c11) ?_
   refine w_seq ?_
   refine w_region rfl ?_
   refine w_d rfl (d_assign (v := .slice none 0 0) rfl) ?_
   refine w_d rfl (d_assign (v := .int .i64 1) rfl) ?_
   refine w_done ?_
   obtain rfl := Option.some.inj he
   refine w_return fn_19 rs_19 (.tmp (v := .slice none 0 0) rfl (.tmp (v := .int .i64 1) rfl .nil)) ?_
   exact ⟨⟨[], rfl⟩, hle, ⟨.slice none 0 0, rfl, (ro_nil _ _)⟩⟩
  ·
   refine w_else rfl (decide_eq_false c11) ?_
   refine w_skip ?_
   refine w_seq ?_
   refine w_region rfl ?_
   refine w_d rfl (d_assign (v := .slice none 0 0) rfl) ?_
   refine w_done ?_
   refine w_seq ?_
   refine w_seq ?_
   refine w_region rfl ?_
   refine w_d rfl (d_assign (v := .int .i64 1) rfl) ?_
   refine w_done ?_
   refine w_block ?_
   refine w_loop ?_
   refine w_none ?_
   refine w_sl 0 (v_l) rfl ?_
   refine w_sl 2 (v_t2) rfl ?_
   refine w_sl 3 (.int .i64 t3) rfl ?_
   refine w_sl 4 (.int .i64 last) rfl ?_
   refine w_sl 6 (.slice none 0 0) rfl ?_
   refine w_sl 7 (.int .i64 1) rfl ?_
   exact hh.l1 hle he h_l h_t2 (sl_nil _ _ _)
set_option maxRecDepth 100000 in
set_option maxHeartbeats 2000000 in
theorem radomeref27_Encode.b1_ok {k : Nat} {h : radomeref27_Encode.Hs} (hh : radomeref27_Encode.OK h) {H0 H : Hp} {L : Items} {r : (List Int) × Int} {jk_ : Nat → Value} {l : List Int} {t2 : List Int} {t3 : Int} {last : Int} {out : List Int} {from_ : Int} {v_l : Value} {v_t2 : Value} {v_out : Value} {i_out : Item'} (hle : H0.le H) (he : radomeref27_Encode.b1 k h l t2 t3 last out from_ = some r) (h_l : Ro (Kd.int .i64) H v_l l) (h_t2 : Ro (Kd.int .u8) H v_t2 t2) (h_out : Sl (Kd.int .u8) H 5 i_out v_out out) : Wp Tryd.prog 19 78 radomeref27_Encode.Kl1 (upd (upd (upd (upd (upd (upd jk_ 0 (v_l)) 2 (v_t2)) 3 (.int .i64 t3)) 4 (.int .i64 last)) 6 (v_out)) 7 (.int .i64 from_)) H (i_out :: L) (radomeref27_Encode.R H0 L r) := by
 unfold radomeref27_Encode.b1 at he
 unfold radomeref27_Encode.Kl1
 refine w_seq ?_
 refine w_seq ?_
 refine w_region rfl ?_
 refine w_d rfl (d_move (v := .int .i64 from_) rfl) ?_
 refine w_d rfl (d_move (v := .int .i64 last) rfl) ?_
 refine w_d rfl (d_leq rfl rfl) ?_
 refine w_done ?_
 rcases its he with ⟨c12, he⟩ | ⟨c12, he⟩
 ·
  refine w_then rfl (decide_eq_true c12) ?_
  refine w_skip ?_
  refine w_seq ?_
  refine w_block ?_
  refine w_seq ?_
  refine w_region rfl ?_
  refine w_d rfl (d_assign (v := .int .i64 0) rfl) ?_
  refine w_done ?_
  refine w_seq ?_
  refine w_seq ?_
  refine w_region rfl ?_
  refine w_d rfl (d_move (v := .int .i64 from_) rfl) ?_
  refine w_d rfl (d_assign (v := .int .i64 from_) rfl) ?_
  refine w_done ?_
  refine w_block ?_
  refine w_loop ?_
  refine w_sl 0 (v_l) rfl ?_
  refine w_sl 2 (v_t2) rfl ?_
  refine w_sl 3 (.int .i64 t3) rfl ?_
  refine w_sl 4 (.int .i64 last) rfl ?_
  refine w_sl 6 (v_out) rfl ?_
  refine w_sl 7 (.int .i64 from_) rfl ?_
  refine w_sl 8 (.int .i64 0) rfl ?_
  refine w_sl 9 (.int .i64 from_) rfl ?_
  exact hh.l2 hle he h_l h_t2 h_out
 ·
  refine w_else rfl (decide_eq_false c12) ?_
  refine w_exit rfl ?_
  refine w_seq ?_
  refine w_region rfl ?_
  refine w_d rfl (d_move (v := v_out) rfl) ?_
  refine w_d rfl (d_assign (v := v_out) rfl) ?_
  refine w_d rfl (d_assign (v := .int .i64 0) rfl) ?_
  refine w_done ?_
  refine w_freeze h_out .here ?_
  intro H13 e14 h15
  obtain rfl := Option.some.inj he
  refine w_return fn_19 rs_19 (.tmp (v := v_out) rfl (.tmp (v := .int .i64 0) rfl .nil)) ?_
  exact ⟨⟨[_], rfl⟩, hle.trans e14, ⟨v_out, rfl, h15⟩⟩
set_option maxRecDepth 100000 in
set_option maxHeartbeats 2000000 in
theorem radomeref27_Encode.j5_ok {k : Nat} {h : radomeref27_Encode.Hs} (hh : radomeref27_Encode.OK h) {H0 H : Hp} {L : Items} {r : (List Int) × Int} {jk_ : Nat → Value} {l : List Int} {t2 : List Int} {t3 : Int} {last : Int} {out : List Int} {from_ : Int} {v_ : Int} {v_l : Value} {v_t2 : Value} {v_out : Value} {i_out : Item'} (hle : H0.le H) (he : radomeref27_Encode.j5 k h l t2 t3 last out from_ v_ = some r) (h_l : Ro (Kd.int .i64) H v_l l) (h_t2 : Ro (Kd.int .u8) H v_t2 t2) (h_out : Sl (Kd.int .u8) H 5 i_out v_out out) : Wp Tryd.prog 19 78 radomeref27_Encode.Kj5 (upd (upd (upd (upd (upd (upd (upd jk_ 0 (v_l)) 2 (v_t2)) 3 (.int .i64 t3)) 4 (.int .i64 last)) 6 (v_out)) 7 (.int .i64 from_)) 8 (.int .i64 v_)) H (i_out :: L) (radomeref27_Encode.R H0 L r) := by
 unfold radomeref27_Encode.j5 at he
 unfold radomeref27_Encode.Kj5
 refine w_region rfl ?_
 refine w_d rfl (d_move (v := v_out) rfl) ?_
 refine w_d rfl (d_move (v := .int .i64 v_) rfl) ?_
 refine w_d rfl (d_conv (c := (v_) % 256) Tryd.underlying3 Tryd.underlying5 rfl rfl) ?_
 refine w_a rfl (o_buildSlice' (kd := (Kd.int .u8)) (css := [[.int .u8 ((v_) % 256)]]) (xs := [(v_) % 256]) (parts := [(0, .int .u8 ((v_) % 256))]) Tryd.underlying26 ti5 rfl ⟨_, _, rfl, rfl, rfl⟩ ⟨rfl, trivial⟩ rfl (by decide)) ?_
 rintro v21 _ _ ⟨i22, rfl, rfl, h23⟩
 obtain ⟨c24, he⟩ := rq he
 refine w_a rfl (o_append' (kd := (Kd.int .u8)) (F := fun z_ => i22 :: z_ :: L) Tryd.underlying26 Tryd.underlying26 ti5 rfl (by first | omega | (simp only [List.nil_append, List.length_cons, List.length_nil]; omega)) rfl rfl h_out (h23.src .here) (fun _ => (.there .here))) ?_
 rintro v25 _ _ ⟨i26, rfl, rfl, h27⟩
 refine w_d rfl (d_assign (v := v25) rfl) ?_
 refine w_done ?_
 refine w_inBlock ?_
 refine w_region rfl ?_
 refine w_d rfl (d_move (v := .int .i64 from_) rfl) ?_
 refine w_d rfl (d_add (c := w64 (from_ + 7)) rfl rfl rfl) ?_
 refine w_d rfl (d_assign (v := .int .i64 (w64 (from_ + 7))) rfl) ?_
 refine w_done ?_
 refine w_inLoop ?_
 refine w_del .here ?_
 refine w_sl 0 (v_l) rfl ?_
 refine w_sl 2 (v_t2) rfl ?_
 refine w_sl 3 (.int .i64 t3) rfl ?_
 refine w_sl 4 (.int .i64 last) rfl ?_
 refine w_sl 6 (v25) rfl ?_
 refine w_sl 7 (.int .i64 (w64 (from_ + 7))) rfl ?_
 exact hh.l1 hle he h_l h_t2 h27
set_option maxRecDepth 100000 in
set_option maxHeartbeats 2000000 in
theorem radomeref27_Encode.b2_ok {k : Nat} {h : radomeref27_Encode.Hs} (hh : radomeref27_Encode.OK h) {H0 H : Hp} {L : Items} {r : (List Int) × Int} {jk_ : Nat → Value} {l : List Int} {t2 : List Int} {t3 : Int} {last : Int} {out : List Int} {from_ : Int} {v_ : Int} {k_ : Int} {v_l : Value} {v_t2 : Value} {v_out : Value} {i_out : Item'} (hle : H0.le H) (he : radomeref27_Encode.b2 k h l t2 t3 last out from_ v_ k_ = some r) (h_l : Ro (Kd.int .i64) H v_l l) (h_t2 : Ro (Kd.int .u8) H v_t2 t2) (h_out : Sl (Kd.int .u8) H 5 i_out v_out out) : Wp Tryd.prog 19 78 radomeref27_Encode.Kl2 (upd (upd (upd (upd (upd (upd (upd (upd jk_ 0 (v_l)) 2 (v_t2)) 3 (.int .i64 t3)) 4 (.int .i64 last)) 6 (v_out)) 7 (.int .i64 from_)) 8 (.int .i64 v_)) 9 (.int .i64 k_)) H (i_out :: L) (radomeref27_Encode.R H0 L r) := by
 unfold radomeref27_Encode.b2 at he
 unfold radomeref27_Encode.Kl2
 refine w_seq ?_
 refine w_seq ?_
 refine w_region rfl ?_
 refine w_d rfl (d_move (v := .int .i64 k_) rfl) ?_
 refine w_d rfl (d_move (v := .int .i64 from_) rfl) ?_
 refine w_d rfl (d_add (c := w64 (from_ + 7)) rfl rfl rfl) ?_
 refine w_d rfl (d_lss rfl rfl) ?_
 refine w_done ?_
 rcases its he with ⟨c16, he⟩ | ⟨c16, he⟩
 ·
  refine w_then rfl (decide_eq_true c16) ?_
  refine w_skip ?_
  refine w_seq ?_
  refine w_block ?_
  refine w_seq ?_
  refine w_region rfl ?_
  refine w_d rfl (d_move (v := .int .i64 v_) rfl) ?_
  refine w_d rfl (d_mul (c := w64 (2 * v_)) rfl rfl rfl) ?_
  refine w_d rfl (d_assign (v := .int .i64 (w64 (2 * v_))) rfl) ?_
  refine w_done ?_
  refine w_seq ?_
  refine w_region rfl ?_
  refine w_d rfl (d_assign (v := .int .i64 0) rfl) ?_
  refine w_done ?_
  refine w_block ?_
  refine w_loop ?_
  refine w_sl 0 (v_l) rfl ?_
  refine w_sl 2 (v_t2) rfl ?_
  refine w_sl 3 (.int .i64 t3) rfl ?_
  refine w_sl 4 (.int .i64 last) rfl ?_
  refine w_sl 6 (v_out) rfl ?_
  refine w_sl 7 (.int .i64 from_) rfl ?_
  refine w_sl 8 (.int .i64 (w64 (2 * v_))) rfl ?_
  refine w_sl 9 (.int .i64 k_) rfl ?_
  refine w_sl 10 (.int .i64 0) rfl ?_
  exact hh.l3 hle he h_l h_t2 h_out
 ·
  refine w_else rfl (decide_eq_false c16) ?_
  refine w_exit rfl ?_
  refine w_seq ?_
  refine w_region rfl ?_
  refine w_d rfl (d_move (v := .int .i64 v_) rfl) ?_
  refine w_d rfl (d_mul (c := w64 (2 * v_)) rfl rfl rfl) ?_
  refine w_d rfl (d_assign (v := .int .i64 (w64 (2 * v_))) rfl) ?_
  refine w_done ?_
  refine w_seq ?_
  refine w_seq ?_
  refine w_region rfl ?_
  refine w_d rfl (d_move (v := .int .i64 last) rfl) ?_
  refine w_d rfl (d_move (v := .int .i64 from_) rfl) ?_
  refine w_d rfl (d_add (c := w64 (from_ + 7)) rfl rfl rfl) ?_
  refine w_d rfl (d_geq rfl rfl) ?_
  refine w_done ?_
  rcases its he with ⟨c17, he⟩ | ⟨c17, he⟩
  ·
   refine w_then rfl (decide_eq_true c17) ?_
   refine w_region rfl ?_
   refine w_d rfl (d_move (v := .int .i64 (w64 (2 * v_))) rfl) ?_
   refine w_d rfl (d_add (c := w64 ((w64 (2 * v_)) + 1)) rfl rfl rfl) ?_
   refine w_d rfl (d_assign (v := .int .i64 (w64 ((w64 (2 * v_)) + 1))) rfl) ?_
   refine w_done ?_
   refine w_sl 0 (v_l) rfl ?_
   refine w_sl 2 (v_t2) rfl ?_
   refine w_sl 3 (.int .i64 t3) rfl ?_
   refine w_sl 4 (.int .i64 last) rfl ?_
   refine w_sl 6 (v_out) rfl ?_
   refine w_sl 7 (.int .i64 from_) rfl ?_
   refine w_sl 8 (.int .i64 (w64 ((w64 (2 * v_)) + 1))) rfl ?_
   exact radomeref27_Encode.j5_ok (k := k) hh hle he h_l h_t2 h_out
  ·
   refine w_else rfl (decide_eq_false c17) ?_
   refine w_skip ?_
   refine w_sl 0 (v_l) rfl ?_
   refine w_sl 2 (v_t2) rfl ?_
   refine w_sl 3 (.int .i64 t3) rfl ?_
   refine w_sl 4 (.int .i64 last) rfl ?_
   refine w_sl 6 (v_out) rfl ?_
   refine w_sl 7 (.int .i64 from_) rfl ?_
   refine w_sl 8 (.int .i64 (w64 (2 * v_))) rfl ?_
   exact radomeref27_Encode.j5_ok (k := k) hh hle he h_l h_t2 h_out
set_option maxRecDepth 100000 in
set_option maxHeartbeats 2000000 in
theorem radomeref27_Encode.b3_ok {k : Nat} {h : radomeref27_Encode.Hs} (hh : radomeref27_Encode.OK h) {H0 H : Hp} {L : Items} {r : (List Int) × Int} {jk_ : Nat → Value} {l : List Int} {t2 : List Int} {t3 : Int} {last : Int} {out : List Int} {from_ : Int} {v_ : Int} {k_ : Int} {i : Int} {v_l : Value} {v_t2 : Value} {v_out : Value} {i_out : Item'} (hle : H0.le H) (he : radomeref27_Encode.b3 k h l t2 t3 last out from_ v_ k_ i = some r) (h_l : Ro (Kd.int .i64) H v_l l) (h_t2 : Ro (Kd.int .u8) H v_t2 t2) (h_out : Sl (Kd.int .u8) H 5 i_out v_out out) : Wp Tryd.prog 19 78 radomeref27_Encode.Kl3 (upd (upd (upd (upd (upd (upd (upd (upd (upd jk_ 0 (v_l)) 2 (v_t2)) 3 (.int .i64 t3)) 4 (.int .i64 last)) 6 (v_out)) 7 (.int .i64 from_)) 8 (.int .i64 v_)) 9 (.int .i64 k_)) 10 (.int .i64 i)) H (i_out :: L) (radomeref27_Encode.R H0 L r) := by
 unfold radomeref27_Encode.b3 at he
 unfold radomeref27_Encode.Kl3
 refine w_seq ?_
 refine w_seq ?_
 refine w_region rfl ?_
 refine w_d rfl (d_move (v := .int .i64 i) rfl) ?_
 refine w_d rfl (d_move (v := v_l) rfl) ?_
 refine w_d rfl (d_len Tryd.underlying41 rfl h_l.src) ?_
 refine w_d rfl (d_lss rfl rfl) ?_
 refine w_done ?_
 rcases its he with ⟨c18, he⟩ | ⟨c18, he⟩
 ·
  refine w_then rfl (decide_eq_true c18) ?_
  refine w_skip ?_
  refine w_seq ?_
  refine w_block ?_
  refine w_seq ?_
  refine w_region rfl ?_
  refine w_d rfl (d_move (v := v_l) rfl) ?_
  refine w_d rfl (d_move (v := .int .i64 i) rfl) ?_
  obtain ⟨c19, he⟩ := rq he
  refine w_d rfl (d_index (sz := 1) Tryd.underlying41 sz3 rfl h_l.src rfl c19) ?_
  refine w_d rfl (d_ldint ty3 rfl h_l.src c19) ?_
  refine w_d rfl (d_move (v := .int .i64 k_) rfl) ?_
  refine w_d rfl (d_eql rfl rfl) ?_
  refine w_done ?_
  rcases its he with ⟨c20, he⟩ | ⟨c20, he⟩
  ·
   refine w_then rfl (decide_eq_true c20) ?_
   refine w_region rfl ?_
   refine w_d rfl (d_move (v := .int .i64 v_) rfl) ?_
   refine w_d rfl (d_add (c := w64 (v_ + 1)) rfl rfl rfl) ?_
   refine w_d rfl (d_assign (v := .int .i64 (w64 (v_ + 1))) rfl) ?_
   refine w_done ?_
   refine w_inBlock ?_
   refine w_region rfl ?_
   refine w_d rfl (d_move (v := .int .i64 i) rfl) ?_
   refine w_d rfl (d_add (c := w64 (i + 1)) rfl rfl rfl) ?_
   refine w_d rfl (d_assign (v := .int .i64 (w64 (i + 1))) rfl) ?_
   refine w_done ?_
   refine w_inLoop ?_
   refine w_sl 0 (v_l) rfl ?_
   refine w_sl 2 (v_t2) rfl ?_
   refine w_sl 3 (.int .i64 t3) rfl ?_
   refine w_sl 4 (.int .i64 last) rfl ?_
   refine w_sl 6 (v_out) rfl ?_
   refine w_sl 7 (.int .i64 from_) rfl ?_
   refine w_sl 8 (.int .i64 (w64 (v_ + 1))) rfl ?_
   refine w_sl 9 (.int .i64 k_) rfl ?_
   refine w_sl 10 (.int .i64 (w64 (i + 1))) rfl ?_
   exact hh.l3 hle he h_l h_t2 h_out
  ·
   refine w_else rfl (decide_eq_false c20) ?_
   refine w_skip ?_
   refine w_inBlock ?_
   refine w_region rfl ?_
   refine w_d rfl (d_move (v := .int .i64 i) rfl) ?_
   refine w_d rfl (d_add (c := w64 (i + 1)) rfl rfl rfl) ?_
   refine w_d rfl (d_assign (v := .int .i64 (w64 (i + 1))) rfl) ?_
   refine w_done ?_
   refine w_inLoop ?_
   refine w_sl 0 (v_l) rfl ?_
   refine w_sl 2 (v_t2) rfl ?_
   refine w_sl 3 (.int .i64 t3) rfl ?_
   refine w_sl 4 (.int .i64 last) rfl ?_
   refine w_sl 6 (v_out) rfl ?_
   refine w_sl 7 (.int .i64 from_) rfl ?_
   refine w_sl 8 (.int .i64 v_) rfl ?_
   refine w_sl 9 (.int .i64 k_) rfl ?_
   refine w_sl 10 (.int .i64 (w64 (i + 1))) rfl ?_
   exact hh.l3 hle he h_l h_t2 h_out
 ·
  refine w_else rfl (decide_eq_false c18) ?_
  refine w_exit rfl ?_
  refine w_inBlock ?_
  refine w_region rfl ?_
  refine w_d rfl (d_move (v := .int .i64 k_) rfl) ?_
  refine w_d rfl (d_add (c := w64 (k_ + 1)) rfl rfl rfl) ?_
  refine w_d rfl (d_assign (v := .int .i64 (w64 (k_ + 1))) rfl) ?_
  refine w_done ?_
  refine w_inLoop ?_
  refine w_sl 0 (v_l) rfl ?_
  refine w_sl 2 (v_t2) rfl ?_
  refine w_sl 3 (.int .i64 t3) rfl ?_
  refine w_sl 4 (.int .i64 last) rfl ?_
  refine w_sl 6 (v_out) rfl ?_
  refine w_sl 7 (.int .i64 from_) rfl ?_
  refine w_sl 8 (.int .i64 v_) rfl ?_
  refine w_sl 9 (.int .i64 (w64 (k_ + 1))) rfl ?_
  exact hh.l2 hle he h_l h_t2 h_out
theorem radomeref27_Encode.ok : ∀ k, radomeref27_Encode.OK (radomeref27_Encode.hs k)
 | 0 => ⟨(by intros; exact nomatch (show none = some _ from by assumption)), (by intros; exact nomatch (show none = some _ from by assumption)), (by intros; exact nomatch (show none = some _ from by assumption)), (by intros; exact nomatch (show none = some _ from by assumption))⟩
 | k + 1 => ⟨radomeref27_Encode.b0_ok (k := k) (radomeref27_Encode.ok k), radomeref27_Encode.b1_ok (k := k) (radomeref27_Encode.ok k), radomeref27_Encode.b2_ok (k := k) (radomeref27_Encode.ok k), radomeref27_Encode.b3_ok (k := k) (radomeref27_Encode.ok k)⟩
set_option maxRecDepth 100000 in
set_option maxHeartbeats 2000000 in
theorem radomeref27_Encode.calls (k : Nat) {H : Hp} {L : Items} {l : List Int} {v0_l : Value} {r : (List Int) × Int} (he : radomeref27_Encode.f k l = some r) (h0_l : Ro (Kd.int .i64) H v0_l l) : Ct Tryd.prog 19 ⟨[v0_l]⟩ H L (fun v H' L' => L = L' ∧ H.le H' ∧ radomeref27_Encode.out r H' v) := by
 refine ct_out (O := radomeref27_Encode.out r) ?_
 have hle : H.le H := .refl _
 have hh := radomeref27_Encode.ok k
 unfold radomeref27_Encode.f at he
 refine ct_enter (args := [v0_l]) fn_19 rfl nt_19 rfl ?_
 refine w_seq ?_
 refine w_region rfl ?_
 refine w_d rfl (d_assign (v := .slice none 0 0) rfl) ?_
 refine w_d rfl (d_assign (v := .int .i64 0) rfl) ?_
 refine w_done ?_
 refine w_seq ?_
 refine w_region rfl ?_
 refine w_d rfl (d_assign (v := .int .i64 0) rfl) ?_
 refine w_done ?_
 refine w_seq ?_
 refine w_seq ?_
 refine w_region rfl ?_
 refine w_d rfl (d_assign (v := .int .i64 0) rfl) ?_
 refine w_done ?_
 refine w_block ?_
 refine w_loop ?_
 refine w_sl 0 (v0_l) rfl ?_
 refine w_sl 2 (.slice none 0 0) rfl ?_
 refine w_sl 3 (.int .i64 0) rfl ?_
 refine w_sl 4 (.int .i64 0) rfl ?_
 refine w_sl 5 (.int .i64 0) rfl ?_
 exact hh.l0 hle he h0_l (ro_nil _ _)
/-! ### radome/radomelaw27.FspecReads -/
noncomputable def radomelaw27_FspecReads.C : Code := (Tryd.f4.body).getD .skip
def radomelaw27_FspecReads.out (r : Bool) (H : Hp) (v : Value) : Prop := v = .bool r
abbrev radomelaw27_FspecReads.R (H0 : Hp) (L : Items) (r : Bool) : Value → Hp → Items → Prop := fun v H' L' => (∃ p, L' = p ++ L) ∧ H0.le H' ∧ radomelaw27_FspecReads.out r H' v
structure radomelaw27_FspecReads.Hs where
 l0 : Bool → (List Int) → Int → (Option Int) → (List Int) → Int → Int → (List Int) → (Option Int) → (List Int) → Int → Int → Option Bool
 l1 : Bool → (List Int) → Int → (Option Int) → (List Int) → Int → Int → (List Int) → (Option Int) → (List Int) → Int → Int → Bool → Int → Option Bool
noncomputable def radomelaw27_FspecReads.b0 (k : Nat) (h : radomelaw27_FspecReads.Hs)  (t6 : Bool) (h_0 : List Int) (h_1 : Int) (e_ : Option Int) (l : List Int) (n : Int) (f_ : Int) (c_ : List Int) (g : Option Int) (d : List Int) (k_ : Int) (i : Int) : Option Bool := if i < 60 then (h.l1 t6 h_0 h_1 e_ l n f_ c_ g d k_ i false 0) else ((radomelaw27_ints.f k h_0 l).bind fun y32 => (gd ((((y32 && (decide (h_1 = n))) && (decide ((errN e_) = f_))) && (decide ((strOf c_) = (strOf d)))) && (decide ((errN g) = k_))) (radomelaw27_sure.f k) (false)).bind fun y54 => some (((((y32 && (decide (h_1 = n))) && (decide ((errN e_) = f_))) && (decide ((strOf c_) = (strOf d)))) && (decide ((errN g) = k_))) && y54))
noncomputable def radomelaw27_FspecReads.b1 (k : Nat) (h : radomelaw27_FspecReads.Hs)  (t6 : Bool) (h_0 : List Int) (h_1 : Int) (e_ : Option Int) (l : List Int) (n : Int) (f_ : Int) (c_ : List Int) (g : Option Int) (d : List Int) (k_ : Int) (i : Int) (in_ : Bool) (j_ : Int) : Option Bool := if j_ < (l.length : Int) then (if (!in_) = true → 0 ≤ j_ ∧ j_ < (l.length : Int) then (h.l1 t6 h_0 h_1 e_ l n f_ c_ g d k_ i (in_ || (decide ((rd l j_) = i))) (w64 (j_ + 1))) else none) else ((fspec_Has.f k (⟨h_0, h_1⟩ : fspec_Head) i).bind fun y66 => if (!(y66 == in_)) = true then (some (false)) else (h.l0 t6 h_0 h_1 e_ l n f_ c_ g d k_ (w64 (i + 1))))
noncomputable def radomelaw27_FspecReads.hs : Nat → radomelaw27_FspecReads.Hs
 | 0 => ⟨fun _ _ _ _ _ _ _ _ _ _ _ _ => none, fun _ _ _ _ _ _ _ _ _ _ _ _ _ _ => none⟩
 | k + 1 => ⟨fun x0 x1 x2 x3 x4 x5 x6 x7 x8 x9 x10 x11 => radomelaw27_FspecReads.b0 k (radomelaw27_FspecReads.hs k) x0 x1 x2 x3 x4 x5 x6 x7 x8 x9 x10 x11, fun x0 x1 x2 x3 x4 x5 x6 x7 x8 x9 x10 x11 x12 x13 => radomelaw27_FspecReads.b1 k (radomelaw27_FspecReads.hs k) x0 x1 x2 x3 x4 x5 x6 x7 x8 x9 x10 x11 x12 x13⟩
noncomputable def radomelaw27_FspecReads.f (k : Nat) (b : List Int) (most : Int) (items : List Int) : Option Bool := (fun h : radomelaw27_FspecReads.Hs => (fspec_Decode.f k b most).bind fun y1 => (radomeref27_Decode.f k b most).bind fun y8 => (fspec_Encode.f k items).bind fun y14 => (radomeref27_Encode.f k items).bind fun y20 => if 1000 < (items.length : Int) then ((radomelaw27_sure.f k).bind fun y27 => some (y27)) else (h.l0 false y1.1.f_Items y1.1.f_Bytes y1.2 y8.1 y8.2.1 y8.2.2 y14.1 y14.2 y20.1 y20.2 0)) (radomelaw27_FspecReads.hs k)
structure radomelaw27_FspecReads.LE (h h' : radomelaw27_FspecReads.Hs) : Prop where
 l0 : ∀ y0 y1 y2 y3 y4 y5 y6 y7 y8 y9 y10 y11, LeO (h.l0 y0 y1 y2 y3 y4 y5 y6 y7 y8 y9 y10 y11) (h'.l0 y0 y1 y2 y3 y4 y5 y6 y7 y8 y9 y10 y11)
 l1 : ∀ y0 y1 y2 y3 y4 y5 y6 y7 y8 y9 y10 y11 y12 y13, LeO (h.l1 y0 y1 y2 y3 y4 y5 y6 y7 y8 y9 y10 y11 y12 y13) (h'.l1 y0 y1 y2 y3 y4 y5 y6 y7 y8 y9 y10 y11 y12 y13)
theorem radomelaw27_FspecReads.b0_mono {k : Nat} {h h' : radomelaw27_FspecReads.Hs} (hl : radomelaw27_FspecReads.LE h h') : ∀ y0 y1 y2 y3 y4 y5 y6 y7 y8 y9 y10 y11, LeO (radomelaw27_FspecReads.b0 k h y0 y1 y2 y3 y4 y5 y6 y7 y8 y9 y10 y11) (radomelaw27_FspecReads.b0 (k + 1) h' y0 y1 y2 y3 y4 y5 y6 y7 y8 y9 y10 y11) := fun _ _ _ _ _ _ _ _ _ _ _ _ => (LeO.ite (hl.l1 _ _ _ _ _ _ _ _ _ _ _ _ _ _) (LeO.bind (radomelaw27_ints.mono k _ _) fun _ => LeO.bind (LeO.gd (radomelaw27_sure.mono k)) fun _ => LeO.refl _))
theorem radomelaw27_FspecReads.b1_mono {k : Nat} {h h' : radomelaw27_FspecReads.Hs} (hl : radomelaw27_FspecReads.LE h h') : ∀ y0 y1 y2 y3 y4 y5 y6 y7 y8 y9 y10 y11 y12 y13, LeO (radomelaw27_FspecReads.b1 k h y0 y1 y2 y3 y4 y5 y6 y7 y8 y9 y10 y11 y12 y13) (radomelaw27_FspecReads.b1 (k + 1) h' y0 y1 y2 y3 y4 y5 y6 y7 y8 y9 y10 y11 y12 y13) := fun _ _ _ _ _ _ _ _ _ _ _ _ _ _ => (LeO.ite (LeO.ite (hl.l1 _ _ _ _ _ _ _ _ _ _ _ _ _ _) (LeO.refl _)) (LeO.bind (fspec_Has.mono k _ _) fun _ => LeO.ite (LeO.refl _) (hl.l0 _ _ _ _ _ _ _ _ _ _ _ _)))
theorem radomelaw27_FspecReads.hs_mono : ∀ k, radomelaw27_FspecReads.LE (radomelaw27_FspecReads.hs k) (radomelaw27_FspecReads.hs (k + 1))
 | 0 => ⟨fun _ _ _ _ _ _ _ _ _ _ _ _ => LeO.none _, fun _ _ _ _ _ _ _ _ _ _ _ _ _ _ => LeO.none _⟩
 | k + 1 => ⟨radomelaw27_FspecReads.b0_mono (k := k) (radomelaw27_FspecReads.hs_mono k), radomelaw27_FspecReads.b1_mono (k := k) (radomelaw27_FspecReads.hs_mono k)⟩
theorem radomelaw27_FspecReads.mono : ∀ k y0 y1 y2, LeO (radomelaw27_FspecReads.f k y0 y1 y2) (radomelaw27_FspecReads.f (k + 1) y0 y1 y2) := fun k _ _ _ => have hl := radomelaw27_FspecReads.hs_mono k; by unfold radomelaw27_FspecReads.f; exact (LeO.bind (fspec_Decode.mono k _ _) fun _ => LeO.bind (radomeref27_Decode.mono k _ _) fun _ => LeO.bind (fspec_Encode.mono k _) fun _ => LeO.bind (radomeref27_Encode.mono k _) fun _ => LeO.ite (LeO.bind (radomelaw27_sure.mono k) fun _ => LeO.refl _) (hl.l0 _ _ _ _ _ _ _ _ _ _ _ _))
noncomputable def radomelaw27_FspecReads.Kl0 : List Item := .code (lopB (blkB (seqR (seqL (seqR (seqR (seqR (seqR (seqR (seqR radomelaw27_FspecReads.C)))))))))) :: .inLoop (lopB (blkB (seqR (seqL (seqR (seqR (seqR (seqR (seqR (seqR radomelaw27_FspecReads.C)))))))))) :: .inBlock 0 :: .code (seqR (seqR (seqR (seqR (seqR (seqR (seqR radomelaw27_FspecReads.C))))))) :: []
noncomputable def radomelaw27_FspecReads.Kl1 : List Item := .code (lopB (blkB (seqR (seqL (seqR (blkB (seqL (seqR (lopB (blkB (seqR (seqL (seqR (seqR (seqR (seqR (seqR (seqR radomelaw27_FspecReads.C)))))))))))))))))) :: .inLoop (lopB (blkB (seqR (seqL (seqR (blkB (seqL (seqR (lopB (blkB (seqR (seqL (seqR (seqR (seqR (seqR (seqR (seqR radomelaw27_FspecReads.C)))))))))))))))))) :: .inBlock 2 :: .code (seqR (seqR (blkB (seqL (seqR (lopB (blkB (seqR (seqL (seqR (seqR (seqR (seqR (seqR (seqR radomelaw27_FspecReads.C))))))))))))))) :: .inBlock 1 :: .code (seqR (seqR (lopB (blkB (seqR (seqL (seqR (seqR (seqR (seqR (seqR (seqR radomelaw27_FspecReads.C)))))))))))) :: .inLoop (lopB (blkB (seqR (seqL (seqR (seqR (seqR (seqR (seqR (seqR radomelaw27_FspecReads.C)))))))))) :: .inBlock 0 :: .code (seqR (seqR (seqR (seqR (seqR (seqR (seqR radomelaw27_FspecReads.C))))))) :: []
structure radomelaw27_FspecReads.OK (h : radomelaw27_FspecReads.Hs) : Prop where
 l0 : ∀ {H0 H : Hp} {L : Items} {r : Bool} {jk_ : Nat → Value} {t6 : Bool} {h_0 : List Int} {h_1 : Int} {e_ : Option Int} {l : List Int} {n : Int} {f_ : Int} {c_ : List Int} {g : Option Int} {d : List Int} {k_ : Int} {i : Int} {v_h_0 : Value} {v_l : Value} {v_c_ : Value} {v_d : Value} {b_h_ : Nat} (_ : H0.le H) (_ : GH H) (_he : h.l0 t6 h_0 h_1 e_ l n f_ c_ g d k_ i = some r) (_h_h_0 : Ro (Kd.int .i64) H v_h_0 h_0) (_h_l : Ro (Kd.int .i64) H v_l l) (_h_c_ : Ro (Kd.int .u8) H v_c_ c_) (_h_d : Ro (Kd.int .u8) H v_d d), Wp Tryd.prog 4 102 radomelaw27_FspecReads.Kl0 (upd (upd (upd (upd (upd (upd (upd (upd (upd (upd (upd jk_ 6 (.bool t6)) 7 (.pointer (some ⟨b_h_, 0, none⟩))) 8 (errV 73 e_)) 9 (v_l)) 10 (.int .i64 n)) 11 (.int .i64 f_)) 12 (v_c_)) 13 (errV 73 g)) 14 (v_d)) 15 (.int .i64 k_)) 16 (.int .i64 i)) H (some (b_h_, .cells ⟨[v_h_0, .int .i64 h_1]⟩ 43 (0, 0)) :: L) (radomelaw27_FspecReads.R H0 L r)
 l1 : ∀ {H0 H : Hp} {L : Items} {r : Bool} {jk_ : Nat → Value} {t6 : Bool} {h_0 : List Int} {h_1 : Int} {e_ : Option Int} {l : List Int} {n : Int} {f_ : Int} {c_ : List Int} {g : Option Int} {d : List Int} {k_ : Int} {i : Int} {in_ : Bool} {j_ : Int} {v_h_0 : Value} {v_l : Value} {v_c_ : Value} {v_d : Value} {b_h_ : Nat} (_ : H0.le H) (_ : GH H) (_he : h.l1 t6 h_0 h_1 e_ l n f_ c_ g d k_ i in_ j_ = some r) (_h_h_0 : Ro (Kd.int .i64) H v_h_0 h_0) (_h_l : Ro (Kd.int .i64) H v_l l) (_h_c_ : Ro (Kd.int .u8) H v_c_ c_) (_h_d : Ro (Kd.int .u8) H v_d d), Wp Tryd.prog 4 102 radomelaw27_FspecReads.Kl1 (upd (upd (upd (upd (upd (upd (upd (upd (upd (upd (upd (upd (upd jk_ 6 (.bool t6)) 7 (.pointer (some ⟨b_h_, 0, none⟩))) 8 (errV 73 e_)) 9 (v_l)) 10 (.int .i64 n)) 11 (.int .i64 f_)) 12 (v_c_)) 13 (errV 73 g)) 14 (v_d)) 15 (.int .i64 k_)) 16 (.int .i64 i)) 17 (.bool in_)) 18 (.int .i64 j_)) H (some (b_h_, .cells ⟨[v_h_0, .int .i64 h_1]⟩ 43 (0, 0)) :: L) (radomelaw27_FspecReads.R H0 L r)
set_option maxRecDepth 100000 in
set_option maxHeartbeats 2000000 in
theorem radomelaw27_FspecReads.b0_ok {k : Nat} {h : radomelaw27_FspecReads.Hs} (hh : radomelaw27_FspecReads.OK h) {H0 H : Hp} {L : Items} {r : Bool} {jk_ : Nat → Value} {t6 : Bool} {h_0 : List Int} {h_1 : Int} {e_ : Option Int} {l : List Int} {n : Int} {f_ : Int} {c_ : List Int} {g : Option Int} {d : List Int} {k_ : Int} {i : Int} {v_h_0 : Value} {v_l : Value} {v_c_ : Value} {v_d : Value} {b_h_ : Nat} (hle : H0.le H) (hG : GH H) (he : radomelaw27_FspecReads.b0 k h t6 h_0 h_1 e_ l n f_ c_ g d k_ i = some r) (h_h_0 : Ro (Kd.int .i64) H v_h_0 h_0) (h_l : Ro (Kd.int .i64) H v_l l) (h_c_ : Ro (Kd.int .u8) H v_c_ c_) (h_d : Ro (Kd.int .u8) H v_d d) : Wp Tryd.prog 4 102 radomelaw27_FspecReads.Kl0 (upd (upd (upd (upd (upd (upd (upd (upd (upd (upd (upd jk_ 6 (.bool t6)) 7 (.pointer (some ⟨b_h_, 0, none⟩))) 8 (errV 73 e_)) 9 (v_l)) 10 (.int .i64 n)) 11 (.int .i64 f_)) 12 (v_c_)) 13 (errV 73 g)) 14 (v_d)) 15 (.int .i64 k_)) 16 (.int .i64 i)) H (some (b_h_, .cells ⟨[v_h_0, .int .i64 h_1]⟩ 43 (0, 0)) :: L) (radomelaw27_FspecReads.R H0 L r) := by
 unfold radomelaw27_FspecReads.b0 at he
 unfold radomelaw27_FspecReads.Kl0
 refine w_seq ?_
 refine w_seq ?_
 refine w_region rfl ?_
 refine w_d rfl (d_move (v := .int .i64 i) rfl) ?_
 refine w_d rfl (d_lss rfl rfl) ?_
 refine w_done ?_
 rcases its he with ⟨c31, he⟩ | ⟨c31, he⟩
 ·
  refine w_then rfl (decide_eq_true c31) ?_
  refine w_skip ?_
  refine w_seq ?_
  refine w_block ?_
  refine w_seq ?_
  refine w_region rfl ?_
  refine w_d rfl (d_assign (v := .bool false) rfl) ?_
  refine w_done ?_
  refine w_seq ?_
  refine w_seq ?_
  refine w_region rfl ?_
  refine w_d rfl (d_assign (v := .int .i64 0) rfl) ?_
  refine w_done ?_
  refine w_block ?_
  refine w_loop ?_
  refine w_sl 6 (.bool t6) rfl ?_
  refine w_sl 7 (.pointer (some ⟨b_h_, 0, none⟩)) rfl ?_
  refine w_sl 8 (errV 73 e_) rfl ?_
  refine w_sl 9 (v_l) rfl ?_
  refine w_sl 10 (.int .i64 n) rfl ?_
  refine w_sl 11 (.int .i64 f_) rfl ?_
  refine w_sl 12 (v_c_) rfl ?_
  refine w_sl 13 (errV 73 g) rfl ?_
  refine w_sl 14 (v_d) rfl ?_
  refine w_sl 15 (.int .i64 k_) rfl ?_
  refine w_sl 16 (.int .i64 i) rfl ?_
  refine w_sl 17 (.bool false) rfl ?_
  refine w_sl 18 (.int .i64 0) rfl ?_
  exact hh.l1 hle hG he h_h_0 h_l h_c_ h_d
 ·
  refine w_else rfl (decide_eq_false c31) ?_
  refine w_exit rfl ?_
  refine w_seq ?_
  refine w_region rfl ?_
  refine w_d rfl (d_fld (o' := 0) Tryd.underlying43 rfl sz41 rfl rfl rfl) ?_
  refine w_d rfl (d_loado (v := v_h_0) ty41 rfl .here rfl rfl rfl rfl) ?_
  refine w_d rfl (d_move (v := v_l) rfl) ?_
  obtain ⟨y32, hy33, he⟩ := Option.bind_eq_some_iff.1 he
  refine w_d rfl (call_d (o_call co22 (vs := [v_h_0, v_l]) rfl (radomelaw27_ints.calls k hy33 h_h_0 h_l))) ?_
  refine w_d rfl (d_move (v := .bool y32) rfl) ?_
  refine w_g (g := y32) rfl rfl rfl wn_t (fun g36 => d_fld (o' := 1) Tryd.underlying43 rfl sz3 rfl rfl rfl) ?_
  refine w_g (g := y32) rfl rfl rfl wn_t (fun g37 => d_loado (v := .int .i64 h_1) ty3 (cvt g37) .here rfl rfl rfl rfl) ?_
  refine w_g (g := y32) rfl rfl rfl wn_t (fun g38 => d_move (v := .int .i64 n) rfl) ?_
  refine w_g (g := y32) rfl rfl rfl wn_t (fun g39 => d_eql (cvt g39) (cvt g39)) ?_
  refine w_d rfl (d_and' (b := y32) (p := (decide (h_1 = n))) rfl rfl rfl) ?_
  refine w_d rfl (d_move (v := .bool (y32 && (decide (h_1 = n)))) rfl) ?_
  refine w_g (g := y32 && (decide (h_1 = n))) rfl rfl rfl wn_t (fun g40 => d_move (v := errV 73 e_) rfl) ?_
  refine w_g (g := y32 && (decide (h_1 = n))) rfl rfl rfl wn_t (fun g41 => call_d (o_call co23 (vs := [errV 73 e_]) (acons (cvt g41) (anil)) (num23.calls (hG) rfl))) ?_
  refine w_g (g := y32 && (decide (h_1 = n))) rfl rfl rfl wn_t (fun g42 => d_move (v := .int .i64 f_) rfl) ?_
  refine w_g (g := y32 && (decide (h_1 = n))) rfl rfl rfl wn_t (fun g43 => d_eql (cvt g43) (cvt g43)) ?_
  refine w_d rfl (d_and' (b := (y32 && (decide (h_1 = n)))) (p := (decide ((errN e_) = f_))) rfl rfl rfl) ?_
  refine w_d rfl (d_move (v := .bool ((y32 && (decide (h_1 = n))) && (decide ((errN e_) = f_)))) rfl) ?_
  refine w_g (g := (y32 && (decide (h_1 = n))) && (decide ((errN e_) = f_))) rfl rfl rfl wn_t (fun g44 => d_move (v := v_c_) rfl) ?_
  refine w_g (g := (y32 && (decide (h_1 = n))) && (decide ((errN e_) = f_))) rfl rfl rfl wn_t (fun g45 => d_strof Tryd.underlying26 Tryd.underlying5 Tryd.underlying9 (cvt g45) h_c_.src) ?_
  refine w_g (g := (y32 && (decide (h_1 = n))) && (decide ((errN e_) = f_))) rfl rfl rfl wn_t (fun g46 => d_move (v := v_d) rfl) ?_
  refine w_g (g := (y32 && (decide (h_1 = n))) && (decide ((errN e_) = f_))) rfl rfl rfl wn_t (fun g47 => d_strof Tryd.underlying26 Tryd.underlying5 Tryd.underlying9 (cvt g47) h_d.src) ?_
  refine w_g (g := (y32 && (decide (h_1 = n))) && (decide ((errN e_) = f_))) rfl rfl rfl wn_t (fun g48 => d_eqs (cvt g48) (cvt g48)) ?_
  refine w_d rfl (d_and' (b := ((y32 && (decide (h_1 = n))) && (decide ((errN e_) = f_)))) (p := (decide ((strOf c_) = (strOf d)))) rfl rfl rfl) ?_
  refine w_d rfl (d_move (v := .bool (((y32 && (decide (h_1 = n))) && (decide ((errN e_) = f_))) && (decide ((strOf c_) = (strOf d))))) rfl) ?_
  refine w_g (g := ((y32 && (decide (h_1 = n))) && (decide ((errN e_) = f_))) && (decide ((strOf c_) = (strOf d)))) rfl rfl rfl wn_t (fun g49 => d_move (v := errV 73 g) rfl) ?_
  refine w_g (g := ((y32 && (decide (h_1 = n))) && (decide ((errN e_) = f_))) && (decide ((strOf c_) = (strOf d)))) rfl rfl rfl wn_t (fun g50 => call_d (o_call co23 (vs := [errV 73 g]) (acons (cvt g50) (anil)) (num23.calls (hG) rfl))) ?_
  refine w_g (g := ((y32 && (decide (h_1 = n))) && (decide ((errN e_) = f_))) && (decide ((strOf c_) = (strOf d)))) rfl rfl rfl wn_t (fun g51 => d_move (v := .int .i64 k_) rfl) ?_
  refine w_g (g := ((y32 && (decide (h_1 = n))) && (decide ((errN e_) = f_))) && (decide ((strOf c_) = (strOf d)))) rfl rfl rfl wn_t (fun g52 => d_eql (cvt g52) (cvt g52)) ?_
  refine w_d rfl (d_and' (b := (((y32 && (decide (h_1 = n))) && (decide ((errN e_) = f_))) && (decide ((strOf c_) = (strOf d))))) (p := (decide ((errN g) = k_))) rfl rfl rfl) ?_
  refine w_d rfl (d_move (v := .bool ((((y32 && (decide (h_1 = n))) && (decide ((errN e_) = f_))) && (decide ((strOf c_) = (strOf d)))) && (decide ((errN g) = k_)))) rfl) ?_
  obtain ⟨y54, hy55, he⟩ := Option.bind_eq_some_iff.1 he
  refine w_g (g := (((y32 && (decide (h_1 = n))) && (decide ((errN e_) = f_))) && (decide ((strOf c_) = (strOf d)))) && (decide ((errN g) = k_))) rfl rfl rfl wn_t (fun g53 => call_d (o_call co20 (vs := []) rfl (radomelaw27_sure.calls k (gd_t g53 hy55)))) ?_
  refine w_d rfl (d_and' (b := ((((y32 && (decide (h_1 = n))) && (decide ((errN e_) = f_))) && (decide ((strOf c_) = (strOf d)))) && (decide ((errN g) = k_)))) (p := y54) rfl rfl rfl) ?_
  refine w_d rfl (d_assign (v := .bool (((((y32 && (decide (h_1 = n))) && (decide ((errN e_) = f_))) && (decide ((strOf c_) = (strOf d)))) && (decide ((errN g) = k_))) && y54)) rfl) ?_
  refine w_done ?_
  obtain rfl := Option.some.inj he
  refine w_return fn_4 rs_4 (.tmp (v := .bool (((((y32 && (decide (h_1 = n))) && (decide ((errN e_) = f_))) && (decide ((strOf c_) = (strOf d)))) && (decide ((errN g) = k_))) && y54)) rfl .nil) ?_
  exact ⟨⟨[_], rfl⟩, hle, rfl⟩
set_option maxRecDepth 100000 in
set_option maxHeartbeats 2000000 in
theorem radomelaw27_FspecReads.b1_ok {k : Nat} {h : radomelaw27_FspecReads.Hs} (hh : radomelaw27_FspecReads.OK h) {H0 H : Hp} {L : Items} {r : Bool} {jk_ : Nat → Value} {t6 : Bool} {h_0 : List Int} {h_1 : Int} {e_ : Option Int} {l : List Int} {n : Int} {f_ : Int} {c_ : List Int} {g : Option Int} {d : List Int} {k_ : Int} {i : Int} {in_ : Bool} {j_ : Int} {v_h_0 : Value} {v_l : Value} {v_c_ : Value} {v_d : Value} {b_h_ : Nat} (hle : H0.le H) (hG : GH H) (he : radomelaw27_FspecReads.b1 k h t6 h_0 h_1 e_ l n f_ c_ g d k_ i in_ j_ = some r) (h_h_0 : Ro (Kd.int .i64) H v_h_0 h_0) (h_l : Ro (Kd.int .i64) H v_l l) (h_c_ : Ro (Kd.int .u8) H v_c_ c_) (h_d : Ro (Kd.int .u8) H v_d d) : Wp Tryd.prog 4 102 radomelaw27_FspecReads.Kl1 (upd (upd (upd (upd (upd (upd (upd (upd (upd (upd (upd (upd (upd jk_ 6 (.bool t6)) 7 (.pointer (some ⟨b_h_, 0, none⟩))) 8 (errV 73 e_)) 9 (v_l)) 10 (.int .i64 n)) 11 (.int .i64 f_)) 12 (v_c_)) 13 (errV 73 g)) 14 (v_d)) 15 (.int .i64 k_)) 16 (.int .i64 i)) 17 (.bool in_)) 18 (.int .i64 j_)) H (some (b_h_, .cells ⟨[v_h_0, .int .i64 h_1]⟩ 43 (0, 0)) :: L) (radomelaw27_FspecReads.R H0 L r) := by
 unfold radomelaw27_FspecReads.b1 at he
 unfold radomelaw27_FspecReads.Kl1
 refine w_seq ?_
 refine w_seq ?_
 refine w_region rfl ?_
 refine w_d rfl (d_move (v := .int .i64 j_) rfl) ?_
 refine w_d rfl (d_move (v := v_l) rfl) ?_
 refine w_d rfl (d_len Tryd.underlying41 rfl h_l.src) ?_
 refine w_d rfl (d_lss rfl rfl) ?_
 refine w_done ?_
 rcases its he with ⟨c58, he⟩ | ⟨c58, he⟩
 ·
  refine w_then rfl (decide_eq_true c58) ?_
  refine w_skip ?_
  refine w_seq ?_
  refine w_block ?_
  refine w_region rfl ?_
  refine w_d rfl (d_move (v := .bool in_) rfl) ?_
  refine w_d rfl (d_move (v := .bool in_) rfl) ?_
  refine w_g (g := !in_) rfl rfl rfl wn_f (fun g59 => d_move (v := v_l) rfl) ?_
  refine w_g (g := !in_) rfl rfl rfl wn_f (fun g60 => d_move (v := .int .i64 j_) rfl) ?_
  obtain ⟨c62, he⟩ := rq he
  refine w_g (g := !in_) rfl rfl rfl wn_f (fun g61 => d_index (sz := 1) Tryd.underlying41 sz3 (cvt g61) h_l.src (cvt g61) (c62 g61)) ?_
  refine w_g (g := !in_) rfl rfl rfl wn_f (fun g63 => d_ldint ty3 (cvt g63) h_l.src (c62 g63)) ?_
  refine w_g (g := !in_) rfl rfl rfl wn_f (fun g64 => d_move (v := .int .i64 i) rfl) ?_
  refine w_g (g := !in_) rfl rfl rfl wn_f (fun g65 => d_eql (cvt g65) (cvt g65)) ?_
  refine w_d rfl (d_or' (b := in_) (p := (decide ((rd l j_) = i))) rfl rfl rfl) ?_
  refine w_d rfl (d_assign (v := .bool (in_ || (decide ((rd l j_) = i)))) rfl) ?_
  refine w_done ?_
  refine w_inBlock ?_
  refine w_region rfl ?_
  refine w_d rfl (d_move (v := .int .i64 j_) rfl) ?_
  refine w_d rfl (d_add (c := w64 (j_ + 1)) rfl rfl rfl) ?_
  refine w_d rfl (d_assign (v := .int .i64 (w64 (j_ + 1))) rfl) ?_
  refine w_done ?_
  refine w_inLoop ?_
  refine w_sl 6 (.bool t6) rfl ?_
  refine w_sl 7 (.pointer (some ⟨b_h_, 0, none⟩)) rfl ?_
  refine w_sl 8 (errV 73 e_) rfl ?_
  refine w_sl 9 (v_l) rfl ?_
  refine w_sl 10 (.int .i64 n) rfl ?_
  refine w_sl 11 (.int .i64 f_) rfl ?_
  refine w_sl 12 (v_c_) rfl ?_
  refine w_sl 13 (errV 73 g) rfl ?_
  refine w_sl 14 (v_d) rfl ?_
  refine w_sl 15 (.int .i64 k_) rfl ?_
  refine w_sl 16 (.int .i64 i) rfl ?_
  refine w_sl 17 (.bool (in_ || (decide ((rd l j_) = i)))) rfl ?_
  refine w_sl 18 (.int .i64 (w64 (j_ + 1))) rfl ?_
  exact hh.l1 hle hG he h_h_0 h_l h_c_ h_d
 ·
  refine w_else rfl (decide_eq_false c58) ?_
  refine w_exit rfl ?_
  refine w_seq ?_
  refine w_region rfl ?_
  refine w_d rfl (d_loado (v := .agg ⟨[v_h_0, .int .i64 h_1]⟩) ty43 rfl .here rfl rfl rfl rfl) ?_
  refine w_d rfl (d_move (v := .int .i64 i) rfl) ?_
  obtain ⟨y66, hy67, he⟩ := Option.bind_eq_some_iff.1 he
  refine w_d rfl (call_d (o_call co21 (vs := [.agg ⟨[v_h_0, .int .i64 h_1]⟩, .int .i64 i]) rfl (fspec_Has.calls k (h_ := (⟨h_0, h_1⟩ : fspec_Head)) hy67 h_h_0))) ?_
  refine w_d rfl (d_move (v := .bool in_) rfl) ?_
  refine w_d rfl (d_neb (a := y66) (b := in_) Tryd.underlying4 rfl rfl) ?_
  refine w_done ?_
  rcases its he with ⟨c70, he⟩ | ⟨c70, he⟩
  ·
   refine w_then rfl c70 ?_
   refine w_seq ?_
   refine w_region rfl ?_
   refine w_d rfl (d_assign (v := .bool false) rfl) ?_
   refine w_done ?_
   obtain rfl := Option.some.inj he
   refine w_return fn_4 rs_4 (.tmp (v := .bool false) rfl .nil) ?_
   exact ⟨⟨[_], rfl⟩, hle, rfl⟩
  ·
   refine w_else rfl (Bool.eq_false_iff.2 c70) ?_
   refine w_skip ?_
   refine w_inBlock ?_
   refine w_region rfl ?_
   refine w_d rfl (d_move (v := .int .i64 i) rfl) ?_
   refine w_d rfl (d_add (c := w64 (i + 1)) rfl rfl rfl) ?_
   refine w_d rfl (d_assign (v := .int .i64 (w64 (i + 1))) rfl) ?_
   refine w_done ?_
   refine w_inLoop ?_
   refine w_sl 6 (.bool t6) rfl ?_
   refine w_sl 7 (.pointer (some ⟨b_h_, 0, none⟩)) rfl ?_
   refine w_sl 8 (errV 73 e_) rfl ?_
   refine w_sl 9 (v_l) rfl ?_
   refine w_sl 10 (.int .i64 n) rfl ?_
   refine w_sl 11 (.int .i64 f_) rfl ?_
   refine w_sl 12 (v_c_) rfl ?_
   refine w_sl 13 (errV 73 g) rfl ?_
   refine w_sl 14 (v_d) rfl ?_
   refine w_sl 15 (.int .i64 k_) rfl ?_
   refine w_sl 16 (.int .i64 (w64 (i + 1))) rfl ?_
   exact hh.l0 hle hG he h_h_0 h_l h_c_ h_d
theorem radomelaw27_FspecReads.ok : ∀ k, radomelaw27_FspecReads.OK (radomelaw27_FspecReads.hs k)
 | 0 => ⟨(by intros; exact nomatch (show none = some _ from by assumption)), (by intros; exact nomatch (show none = some _ from by assumption))⟩
 | k + 1 => ⟨radomelaw27_FspecReads.b0_ok (k := k) (radomelaw27_FspecReads.ok k), radomelaw27_FspecReads.b1_ok (k := k) (radomelaw27_FspecReads.ok k)⟩
set_option maxRecDepth 100000 in
set_option maxHeartbeats 2000000 in
theorem radomelaw27_FspecReads.calls (k : Nat) {H : Hp} {L : Items} {b : List Int} {most : Int} {items : List Int} {v0_b : Value} {v1_items : Value} {r : Bool} (hG : GH H) (he : radomelaw27_FspecReads.f k b most items = some r) (h0_b : Ro (Kd.int .u8) H v0_b b) (h1_items : Ro (Kd.int .i64) H v1_items items) : Ct Tryd.prog 4 ⟨[v0_b, .int .i64 most, v1_items]⟩ H L (fun v H' L' => L = L' ∧ H = H' ∧ v = .bool r) := by
 refine ct_outs (O := radomelaw27_FspecReads.out r) (fun _ _ h => h) ?_
 have hle : H.le H := .refl _
 have hh := radomelaw27_FspecReads.ok k
 unfold radomelaw27_FspecReads.f at he
 refine ct_enter (args := [v0_b, .int .i64 most, v1_items]) fn_4 rfl nt_4 rfl ?_
 refine w_seq ?_
 refine w_region rfl ?_
 refine w_d rfl (d_assign (v := .bool false) rfl) ?_
 refine w_done ?_
 refine w_seq ?_
 refine w_region rfl ?_
 refine w_d rfl (d_move (v := v0_b) rfl) ?_
 refine w_d rfl (d_move (v := .int .i64 most) rfl) ?_
 obtain ⟨y1, hy2, he⟩ := Option.bind_eq_some_iff.1 he
 refine w_a rfl (o_call co16 (vs := [v0_b, .int .i64 most]) rfl (fspec_Decode.calls k hy2 h0_b)) ?_
 rintro _ H3 _ ⟨rfl, e4, ⟨v5, rfl, h6⟩⟩
 refine w_d rfl (d_move (v := .tuple ⟨[.agg ⟨[v5, .int .i64 y1.1.f_Bytes]⟩, errV 73 y1.2]⟩) rfl) ?_
 refine w_d rfl (d_ext (vs := [.agg ⟨[v5, .int .i64 y1.1.f_Bytes]⟩, errV 73 y1.2]) rfl rfl) ?_
 refine w_d rfl (d_ext (vs := [.agg ⟨[v5, .int .i64 y1.1.f_Bytes]⟩, errV 73 y1.2]) rfl rfl) ?_
 refine w_a rfl (o_alloc zr43 rfl) ?_
 rintro _ _ _ ⟨b7, rfl, rfl, rfl⟩
 refine w_a0 rfl (o_store (v := .agg ⟨[v5, .int .i64 y1.1.f_Bytes]⟩) sz43 rfl rfl rfl rfl (one_cons (h6.one) (one_cons rfl one_nil)) .here (.here (.here .done))) ?_
 rintro _ _ _ ⟨rfl, rfl, rfl⟩
 refine w_d rfl (d_assign (v := errV 73 y1.2) rfl) ?_
 refine w_done ?_
 refine w_seq ?_
 refine w_region rfl ?_
 refine w_d rfl (d_move (v := v0_b) rfl) ?_
 refine w_d rfl (d_move (v := .int .i64 most) rfl) ?_
 obtain ⟨y8, hy9, he⟩ := Option.bind_eq_some_iff.1 he
 refine w_a rfl (o_call co17 (vs := [v0_b, .int .i64 most]) rfl (radomeref27_Decode.calls k hy9 (h0_b.mono e4))) ?_
 rintro _ H10 _ ⟨rfl, e11, ⟨v12, rfl, h13⟩⟩
 refine w_d rfl (d_move (v := .tuple ⟨[v12, .int .i64 y8.2.1, .int .i64 y8.2.2]⟩) rfl) ?_
 refine w_d rfl (d_ext (vs := [v12, .int .i64 y8.2.1, .int .i64 y8.2.2]) rfl rfl) ?_
 refine w_d rfl (d_ext (vs := [v12, .int .i64 y8.2.1, .int .i64 y8.2.2]) rfl rfl) ?_
 refine w_d rfl (d_ext (vs := [v12, .int .i64 y8.2.1, .int .i64 y8.2.2]) rfl rfl) ?_
 refine w_d rfl (d_assign (v := v12) rfl) ?_
 refine w_d rfl (d_assign (v := .int .i64 y8.2.1) rfl) ?_
 refine w_d rfl (d_assign (v := .int .i64 y8.2.2) rfl) ?_
 refine w_done ?_
 refine w_seq ?_
 refine w_region rfl ?_
 refine w_d rfl (d_move (v := v1_items) rfl) ?_
 obtain ⟨y14, hy15, he⟩ := Option.bind_eq_some_iff.1 he
 refine w_a rfl (o_call co18 (vs := [v1_items]) rfl (fspec_Encode.calls k hy15 (h1_items.mono (e4.trans e11)))) ?_
 rintro _ H16 _ ⟨rfl, e17, ⟨v18, rfl, h19⟩⟩
 refine w_d rfl (d_move (v := .tuple ⟨[v18, errV 73 y14.2]⟩) rfl) ?_
 refine w_d rfl (d_ext (vs := [v18, errV 73 y14.2]) rfl rfl) ?_
 refine w_d rfl (d_ext (vs := [v18, errV 73 y14.2]) rfl rfl) ?_
 refine w_d rfl (d_assign (v := v18) rfl) ?_
 refine w_d rfl (d_assign (v := errV 73 y14.2) rfl) ?_
 refine w_done ?_
 refine w_seq ?_
 refine w_region rfl ?_
 refine w_d rfl (d_move (v := v1_items) rfl) ?_
 obtain ⟨y20, hy21, he⟩ := Option.bind_eq_some_iff.1 he
 refine w_a rfl (o_call co19 (vs := [v1_items]) rfl (radomeref27_Encode.calls k hy21 (h1_items.mono ((e4.trans e11).trans e17)))) ?_
 rintro _ H22 _ ⟨rfl, e23, ⟨v24, rfl, h25⟩⟩
 refine w_d rfl (d_move (v := .tuple ⟨[v24, .int .i64 y20.2]⟩) rfl) ?_
 refine w_d rfl (d_ext (vs := [v24, .int .i64 y20.2]) rfl rfl) ?_
 refine w_d rfl (d_ext (vs := [v24, .int .i64 y20.2]) rfl rfl) ?_
 refine w_d rfl (d_assign (v := v24) rfl) ?_
 refine w_d rfl (d_assign (v := .int .i64 y20.2) rfl) ?_
 refine w_done ?_
 refine w_seq ?_
 refine w_seq ?_
 refine w_region rfl ?_
 refine w_d rfl (d_move (v := v1_items) rfl) ?_
 refine w_d rfl (d_len Tryd.underlying41 rfl (h1_items.mono (((e4.trans e11).trans e17).trans e23)).src) ?_
 refine w_d rfl (d_gtr rfl rfl) ?_
 refine w_done ?_
 rcases its he with ⟨c26, he⟩ | ⟨c26, he⟩
 ·
  refine w_then rfl (decide_eq_true c26) ?_
  refine w_seq ?_
  refine w_region rfl ?_
  obtain ⟨y27, hy28, he⟩ := Option.bind_eq_some_iff.1 he
  refine w_d rfl (call_d (o_call co20 (vs := []) rfl (radomelaw27_sure.calls k hy28))) ?_
  refine w_d rfl (d_assign (v := .bool y27) rfl) ?_
  refine w_done ?_
  obtain rfl := Option.some.inj he
  refine w_return fn_4 rs_4 (.tmp (v := .bool y27) rfl .nil) ?_
  exact ⟨⟨[_], rfl⟩, hle.trans (((e4.trans e11).trans e17).trans e23), rfl⟩
 ·
  refine w_else rfl (decide_eq_false c26) ?_
  refine w_skip ?_
  refine w_seq ?_
  refine w_seq ?_
  refine w_region rfl ?_
  refine w_d rfl (d_assign (v := .int .i64 0) rfl) ?_
  refine w_done ?_
  refine w_block ?_
  refine w_loop ?_
  refine w_sl 6 (.bool false) rfl ?_
  refine w_sl 7 (.pointer (some ⟨b7, 0, none⟩)) rfl ?_
  refine w_sl 8 (errV 73 y1.2) rfl ?_
  refine w_sl 9 (v12) rfl ?_
  refine w_sl 10 (.int .i64 y8.2.1) rfl ?_
  refine w_sl 11 (.int .i64 y8.2.2) rfl ?_
  refine w_sl 12 (v18) rfl ?_
  refine w_sl 13 (errV 73 y14.2) rfl ?_
  refine w_sl 14 (v24) rfl ?_
  refine w_sl 15 (.int .i64 y20.2) rfl ?_
  refine w_sl 16 (.int .i64 0) rfl ?_
  exact hh.l0 (hle.trans (((e4.trans e11).trans e17).trans e23)) (hG.mono (((e4.trans e11).trans e17).trans e23)) he (h6.mono ((e11.trans e17).trans e23)) (h13.mono (e17.trans e23)) (h19.mono e23) h25
end Go.Proofs.YtlokgnjlnefbbaaDoor.GFS

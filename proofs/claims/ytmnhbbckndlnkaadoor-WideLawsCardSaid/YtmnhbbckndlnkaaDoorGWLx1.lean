/- A text of this session, written by a program (wip/k/gen.py): Go functions as Lean functions, and proofs that the code comes to them. -/
import Derived.Test.YtmnhbbckndlnkaaDoorGWLx0
namespace Go.Proofs.YtmnhbbckndlnkaaDoor.GWL
open Go Go.RowKit Go.Proofs.YtmnhbbckndlnkaaDoorK Go.Proofs.YtmnhbbckndlnkaaDoor
set_option linter.unusedVariables false
set_option linter.unusedSimpArgs false
/-! ### radome/wide.times -/
noncomputable def wide_times.C : Code := (Tryd.f49.body).getD .skip
abbrev wide_times.out (r : (List Int)) (H : Hp) (v : Value) : Prop := Ro (Kd.int .u32) H v r
abbrev wide_times.R (H0 : Hp) (L : Items) (r : (List Int)) : Value → Hp → Items → Prop := fun v H' L' => (∃ p, L' = p ++ L) ∧ H0.le H' ∧ wide_times.out r H' v
structure wide_times.Hs where
 l0 : (List Int) → (List Int) → (List Int) → Int → Int → Option (List Int)
 l1 : (List Int) → (List Int) → Int → Int → Int → (List Int) → Int → Int → (List Int) → Int → Int → Option (List Int)
noncomputable def wide_times.b0 (k : Nat) (h : wide_times.Hs)  (b : List Int) (out : List Int) (t18 : List Int) (t19 : Int) (t20 : Int) : Option (List Int) := if t20 < t19 then (if (0 : Int) ≤ t20 ∧ t20 < (t18.length : Int) then (h.l1 b out t20 (rd t18 t20) 0 t18 t19 t20 b (b.length : Int) 0) else none) else (some (out))
noncomputable def wide_times.b1 (k : Nat) (h : wide_times.Hs)  (b : List Int) (out : List Int) (i : Int) (x : Int) (carry : Int) (t18 : List Int) (t19 : Int) (t20 : Int) (t25 : List Int) (t26 : Int) (t27 : Int) : Option (List Int) := if t27 < t26 then (if (0 : Int) ≤ t27 ∧ t27 < (t25.length : Int) then (if (0 : Int) ≤ w64 (i + t27) ∧ w64 (i + t27) < (out.length : Int) then (if (0 : Int) ≤ w64 (i + t27) ∧ w64 (i + t27) < (out.length : Int) then (h.l1 b (out.set (w64 (i + t27) : Int).toNat (((((((((x) % 18446744073709551616) * ((rd t25 t27) % 18446744073709551616)) % 18446744073709551616) + ((rd out (w64 (i + t27))) % 18446744073709551616)) % 18446744073709551616) + carry) % 18446744073709551616) % 4294967296)) i x (((((((((x) % 18446744073709551616) * ((rd t25 t27) % 18446744073709551616)) % 18446744073709551616) + ((rd out (w64 (i + t27))) % 18446744073709551616)) % 18446744073709551616) + carry) % 18446744073709551616) / 4294967296) t18 t19 t20 t25 t26 (w64 (t27 + 1))) else none) else none) else none) else (if (0 : Int) ≤ w64 (i + (b.length : Int)) ∧ w64 (i + (b.length : Int)) < (out.length : Int) then (h.l0 b (out.set (w64 (i + (b.length : Int)) : Int).toNat ((carry) % 4294967296)) t18 t19 (w64 (t20 + 1))) else none)
noncomputable def wide_times.hs : Nat → wide_times.Hs
 | 0 => ⟨fun _ _ _ _ _ => none, fun _ _ _ _ _ _ _ _ _ _ _ => none⟩
 | k + 1 => ⟨fun x0 x1 x2 x3 x4 => wide_times.b0 k (wide_times.hs k) x0 x1 x2 x3 x4, fun x0 x1 x2 x3 x4 x5 x6 x7 x8 x9 x10 => wide_times.b1 k (wide_times.hs k) x0 x1 x2 x3 x4 x5 x6 x7 x8 x9 x10⟩
noncomputable def wide_times.f (k : Nat) (a : List Int) (b : List Int) : Option (List Int) := (fun h : wide_times.Hs => if 0 ≤ w64 ((a.length : Int) + (b.length : Int)) ∧ w64 ((a.length : Int) + (b.length : Int)) ≤ 70368744177664 then (h.l0 b (List.replicate (w64 ((a.length : Int) + (b.length : Int)) : Int).toNat (0 : Int)) a (a.length : Int) 0) else none) (wide_times.hs k)
structure wide_times.LE (h h' : wide_times.Hs) : Prop where
 l0 : ∀ y0 y1 y2 y3 y4, LeO (h.l0 y0 y1 y2 y3 y4) (h'.l0 y0 y1 y2 y3 y4)
 l1 : ∀ y0 y1 y2 y3 y4 y5 y6 y7 y8 y9 y10, LeO (h.l1 y0 y1 y2 y3 y4 y5 y6 y7 y8 y9 y10) (h'.l1 y0 y1 y2 y3 y4 y5 y6 y7 y8 y9 y10)
theorem wide_times.b0_mono {k : Nat} {h h' : wide_times.Hs} (hl : wide_times.LE h h') : ∀ y0 y1 y2 y3 y4, LeO (wide_times.b0 k h y0 y1 y2 y3 y4) (wide_times.b0 (k + 1) h' y0 y1 y2 y3 y4) := fun _ _ _ _ _ => (LeO.ite (LeO.ite (hl.l1 _ _ _ _ _ _ _ _ _ _ _) (LeO.refl _)) (LeO.refl _))
theorem wide_times.b1_mono {k : Nat} {h h' : wide_times.Hs} (hl : wide_times.LE h h') : ∀ y0 y1 y2 y3 y4 y5 y6 y7 y8 y9 y10, LeO (wide_times.b1 k h y0 y1 y2 y3 y4 y5 y6 y7 y8 y9 y10) (wide_times.b1 (k + 1) h' y0 y1 y2 y3 y4 y5 y6 y7 y8 y9 y10) := fun _ _ _ _ _ _ _ _ _ _ _ => (LeO.ite (LeO.ite (LeO.ite (LeO.ite (hl.l1 _ _ _ _ _ _ _ _ _ _ _) (LeO.refl _)) (LeO.refl _)) (LeO.refl _)) (LeO.ite (hl.l0 _ _ _ _ _) (LeO.refl _)))
theorem wide_times.hs_mono : ∀ k, wide_times.LE (wide_times.hs k) (wide_times.hs (k + 1))
 | 0 => ⟨fun _ _ _ _ _ => LeO.none _, fun _ _ _ _ _ _ _ _ _ _ _ => LeO.none _⟩
 | k + 1 => ⟨wide_times.b0_mono (k := k) (wide_times.hs_mono k), wide_times.b1_mono (k := k) (wide_times.hs_mono k)⟩
theorem wide_times.mono : ∀ k y0 y1, LeO (wide_times.f k y0 y1) (wide_times.f (k + 1) y0 y1) := fun k _ _ => have hl := wide_times.hs_mono k; by unfold wide_times.f; exact (LeO.ite (hl.l0 _ _ _ _ _) (LeO.refl _))
noncomputable def wide_times.Kl0 : List Item := .code (lopB (blkB (seqR (seqL (seqR (seqR wide_times.C)))))) :: .inLoop (lopB (blkB (seqR (seqL (seqR (seqR wide_times.C)))))) :: .inBlock 0 :: .code (seqR (seqR (seqR wide_times.C))) :: []
noncomputable def wide_times.Kl1 : List Item := .code (lopB (blkB (seqR (seqL (seqR (seqR (blkB (seqL (seqR (seqR (lopB (blkB (seqR (seqL (seqR (seqR wide_times.C)))))))))))))))) :: .inLoop (lopB (blkB (seqR (seqL (seqR (seqR (blkB (seqL (seqR (seqR (lopB (blkB (seqR (seqL (seqR (seqR wide_times.C)))))))))))))))) :: .inBlock 2 :: .code (seqR (seqR (seqR (blkB (seqL (seqR (seqR (lopB (blkB (seqR (seqL (seqR (seqR wide_times.C))))))))))))) :: .inBlock 1 :: .code (seqR (seqR (seqR (lopB (blkB (seqR (seqL (seqR (seqR wide_times.C))))))))) :: .inLoop (lopB (blkB (seqR (seqL (seqR (seqR wide_times.C)))))) :: .inBlock 0 :: .code (seqR (seqR (seqR wide_times.C))) :: []
structure wide_times.OK (h : wide_times.Hs) : Prop where
 l0 : ∀ {H0 H : Hp} {L : Items} {r : (List Int)} {jk_ : Nat → Value} {b : List Int} {out : List Int} {t18 : List Int} {t19 : Int} {t20 : Int} {v_b : Value} {v_out : Value} {v_t18 : Value} {i_out : Item'} (_ : H0.le H) (_he : h.l0 b out t18 t19 t20 = some r) (_h_b : Src (Kd.int .u32) H L v_b b) (_h_out : Sl (Kd.int .u32) H 93 i_out v_out out) (_h_t18 : Src (Kd.int .u32) H L v_t18 t18), Wp Tryd.prog 49 67 wide_times.Kl0 (upd (upd (upd (upd (upd (upd jk_ 1 (v_b)) 4 (.slice none 0 0)) 5 (v_out)) 18 (v_t18)) 19 (.int .i64 t19)) 20 (.int .i64 t20)) H (i_out :: L) (wide_times.R H0 L r)
 l1 : ∀ {H0 H : Hp} {L : Items} {r : (List Int)} {jk_ : Nat → Value} {b : List Int} {out : List Int} {i : Int} {x : Int} {carry : Int} {t18 : List Int} {t19 : Int} {t20 : Int} {t25 : List Int} {t26 : Int} {t27 : Int} {v_b : Value} {v_out : Value} {v_t18 : Value} {v_t25 : Value} {i_out : Item'} (_ : H0.le H) (_he : h.l1 b out i x carry t18 t19 t20 t25 t26 t27 = some r) (_h_b : Src (Kd.int .u32) H L v_b b) (_h_out : Sl (Kd.int .u32) H 93 i_out v_out out) (_h_t18 : Src (Kd.int .u32) H L v_t18 t18) (_h_t25 : Src (Kd.int .u32) H L v_t25 t25), Wp Tryd.prog 49 67 wide_times.Kl1 (upd (upd (upd (upd (upd (upd (upd (upd (upd (upd (upd (upd jk_ 1 (v_b)) 4 (.slice none 0 0)) 5 (v_out)) 6 (.int .i64 i)) 7 (.int .u32 x)) 8 (.int .u64 carry)) 18 (v_t18)) 19 (.int .i64 t19)) 20 (.int .i64 t20)) 25 (v_t25)) 26 (.int .i64 t26)) 27 (.int .i64 t27)) H (i_out :: L) (wide_times.R H0 L r)
set_option maxRecDepth 100000 in
set_option maxHeartbeats 2000000 in
theorem wide_times.b0_ok {k : Nat} {h : wide_times.Hs} (hh : wide_times.OK h) {H0 H : Hp} {L : Items} {r : (List Int)} {jk_ : Nat → Value} {b : List Int} {out : List Int} {t18 : List Int} {t19 : Int} {t20 : Int} {v_b : Value} {v_out : Value} {v_t18 : Value} {i_out : Item'} (hle : H0.le H) (he : wide_times.b0 k h b out t18 t19 t20 = some r) (h_b : Src (Kd.int .u32) H L v_b b) (h_out : Sl (Kd.int .u32) H 93 i_out v_out out) (h_t18 : Src (Kd.int .u32) H L v_t18 t18) : Wp Tryd.prog 49 67 wide_times.Kl0 (upd (upd (upd (upd (upd (upd jk_ 1 (v_b)) 4 (.slice none 0 0)) 5 (v_out)) 18 (v_t18)) 19 (.int .i64 t19)) 20 (.int .i64 t20)) H (i_out :: L) (wide_times.R H0 L r) := by
 unfold wide_times.b0 at he
 unfold wide_times.Kl0
 refine w_seq ?_
 refine w_region rfl ?_
 refine w_d rfl (d_lss rfl rfl) ?_
 refine w_done ?_
 refine w_seq ?_
 rcases its he with ⟨c5, he⟩ | ⟨c5, he⟩
 ·
  refine w_then rfl (decide_eq_true c5) ?_
  refine w_skip ?_
  refine w_seq ?_
  refine w_block ?_
  refine w_seq ?_
  refine w_region rfl ?_
  refine w_d rfl (d_move (v := .int .i64 t20) rfl) ?_
  obtain ⟨c6, he⟩ := rq he
  refine w_d rfl (d_index (sz := 1) Tryd.underlying28 sz93 rfl h_t18.th rfl c6) ?_
  refine w_d rfl (d_ldint ty93 rfl h_t18.th c6) ?_
  refine w_d rfl (d_assign (v := .int .i64 t20) rfl) ?_
  refine w_d rfl (d_assign (v := .int .u32 (rd t18 t20)) rfl) ?_
  refine w_done ?_
  refine w_seq ?_
  refine w_region rfl ?_
  refine w_d rfl (d_assign (v := .int .u64 0) rfl) ?_
  refine w_done ?_
  refine w_seq ?_
  refine w_seq ?_
  refine w_region rfl ?_
  refine w_d rfl (d_move (v := v_b) rfl) ?_
  refine w_d rfl (d_len Tryd.underlying28 rfl h_b.th) ?_
  refine w_d rfl (d_move (v := .int .i64 0) rfl) ?_
  refine w_done ?_
  refine w_block ?_
  refine w_loop ?_
  refine w_sl 1 (v_b) rfl ?_
  refine w_sl 4 (.slice none 0 0) rfl ?_
  refine w_sl 5 (v_out) rfl ?_
  refine w_sl 6 (.int .i64 t20) rfl ?_
  refine w_sl 7 (.int .u32 (rd t18 t20)) rfl ?_
  refine w_sl 8 (.int .u64 0) rfl ?_
  refine w_sl 18 (v_t18) rfl ?_
  refine w_sl 19 (.int .i64 t19) rfl ?_
  refine w_sl 20 (.int .i64 t20) rfl ?_
  refine w_sl 25 (v_b) rfl ?_
  refine w_sl 26 (.int .i64 (b.length : Int)) rfl ?_
  refine w_sl 27 (.int .i64 0) rfl ?_
  exact hh.l1 hle he h_b h_out h_t18 h_b
 ·
  refine w_else rfl (decide_eq_false c5) ?_
  refine w_exit rfl ?_
  refine w_seq ?_
  refine w_region rfl ?_
  refine w_d rfl (d_move (v := v_out) rfl) ?_
  refine w_d rfl (d_assign (v := v_out) rfl) ?_
  refine w_done ?_
  refine w_freeze h_out .here ?_
  intro H7 e8 h9
  obtain rfl := Option.some.inj he
  refine w_return fn_49 rs_49 (.tmp (v := v_out) rfl .nil) ?_
  exact ⟨⟨[_], rfl⟩, hle.trans e8, h9⟩
set_option maxRecDepth 100000 in
set_option maxHeartbeats 2000000 in
theorem wide_times.b1_ok {k : Nat} {h : wide_times.Hs} (hh : wide_times.OK h) {H0 H : Hp} {L : Items} {r : (List Int)} {jk_ : Nat → Value} {b : List Int} {out : List Int} {i : Int} {x : Int} {carry : Int} {t18 : List Int} {t19 : Int} {t20 : Int} {t25 : List Int} {t26 : Int} {t27 : Int} {v_b : Value} {v_out : Value} {v_t18 : Value} {v_t25 : Value} {i_out : Item'} (hle : H0.le H) (he : wide_times.b1 k h b out i x carry t18 t19 t20 t25 t26 t27 = some r) (h_b : Src (Kd.int .u32) H L v_b b) (h_out : Sl (Kd.int .u32) H 93 i_out v_out out) (h_t18 : Src (Kd.int .u32) H L v_t18 t18) (h_t25 : Src (Kd.int .u32) H L v_t25 t25) : Wp Tryd.prog 49 67 wide_times.Kl1 (upd (upd (upd (upd (upd (upd (upd (upd (upd (upd (upd (upd jk_ 1 (v_b)) 4 (.slice none 0 0)) 5 (v_out)) 6 (.int .i64 i)) 7 (.int .u32 x)) 8 (.int .u64 carry)) 18 (v_t18)) 19 (.int .i64 t19)) 20 (.int .i64 t20)) 25 (v_t25)) 26 (.int .i64 t26)) 27 (.int .i64 t27)) H (i_out :: L) (wide_times.R H0 L r) := by
 unfold wide_times.b1 at he
 unfold wide_times.Kl1
 refine w_seq ?_
 refine w_region rfl ?_
 refine w_d rfl (d_lss rfl rfl) ?_
 refine w_done ?_
 refine w_seq ?_
 rcases its he with ⟨c10, he⟩ | ⟨c10, he⟩
 ·
  refine w_then rfl (decide_eq_true c10) ?_
  refine w_skip ?_
  refine w_seq ?_
  refine w_block ?_
  refine w_seq ?_
  refine w_region rfl ?_
  refine w_d rfl (d_move (v := .int .i64 t27) rfl) ?_
  obtain ⟨c11, he⟩ := rq he
  refine w_d rfl (d_index (sz := 1) Tryd.underlying28 sz93 rfl h_t25.th rfl c11) ?_
  refine w_d rfl (d_ldint ty93 rfl h_t25.th c11) ?_
  refine w_d rfl (d_assign (v := .int .i64 t27) rfl) ?_
  refine w_d rfl (d_assign (v := .int .u32 (rd t25 t27)) rfl) ?_
  refine w_done ?_
  refine w_seq ?_
  refine w_region rfl ?_
  refine w_d rfl (d_move (v := .int .u32 x) rfl) ?_
  refine w_d rfl (d_conv (c := (x) % 18446744073709551616) Tryd.underlying93 Tryd.underlying99 rfl rfl) ?_
  refine w_d rfl (d_move (v := .int .u32 (rd t25 t27)) rfl) ?_
  refine w_d rfl (d_conv (c := (rd t25 t27) % 18446744073709551616) Tryd.underlying93 Tryd.underlying99 rfl rfl) ?_
  refine w_d rfl (d_mul (c := (((x) % 18446744073709551616) * ((rd t25 t27) % 18446744073709551616)) % 18446744073709551616) rfl rfl rfl) ?_
  refine w_d rfl (d_move (v := v_out) rfl) ?_
  refine w_d rfl (d_move (v := .int .i64 i) rfl) ?_
  refine w_d rfl (d_move (v := .int .i64 t27) rfl) ?_
  refine w_d rfl (d_add (c := w64 (i + t27)) rfl rfl rfl) ?_
  obtain ⟨c12, he⟩ := rq he
  refine w_d rfl (d_indexS (sz := 1) Tryd.underlying28 sz93 rfl h_out.shp rfl c12) ?_
  refine w_d rfl (d_ldint ty93 rfl (h_out.src .here) c12) ?_
  refine w_d rfl (d_conv (c := (rd out (w64 (i + t27))) % 18446744073709551616) Tryd.underlying93 Tryd.underlying99 rfl rfl) ?_
  refine w_d rfl (d_add (c := (((((x) % 18446744073709551616) * ((rd t25 t27) % 18446744073709551616)) % 18446744073709551616) + ((rd out (w64 (i + t27))) % 18446744073709551616)) % 18446744073709551616) rfl rfl rfl) ?_
  refine w_d rfl (d_move (v := .int .u64 carry) rfl) ?_
  refine w_d rfl (d_add (c := (((((((x) % 18446744073709551616) * ((rd t25 t27) % 18446744073709551616)) % 18446744073709551616) + ((rd out (w64 (i + t27))) % 18446744073709551616)) % 18446744073709551616) + carry) % 18446744073709551616) rfl rfl rfl) ?_
  refine w_d rfl (d_assign (v := .int .u64 ((((((((x) % 18446744073709551616) * ((rd t25 t27) % 18446744073709551616)) % 18446744073709551616) + ((rd out (w64 (i + t27))) % 18446744073709551616)) % 18446744073709551616) + carry) % 18446744073709551616)) rfl) ?_
  refine w_done ?_
  refine w_seq ?_
  refine w_region rfl ?_
  refine w_d rfl (d_move (v := v_out) rfl) ?_
  refine w_d rfl (d_move (v := .int .i64 i) rfl) ?_
  refine w_d rfl (d_move (v := .int .i64 t27) rfl) ?_
  refine w_d rfl (d_add (c := w64 (i + t27)) rfl rfl rfl) ?_
  refine w_d rfl (d_move (v := .int .u64 ((((((((x) % 18446744073709551616) * ((rd t25 t27) % 18446744073709551616)) % 18446744073709551616) + ((rd out (w64 (i + t27))) % 18446744073709551616)) % 18446744073709551616) + carry) % 18446744073709551616)) rfl) ?_
  refine w_d rfl (d_conv (c := ((((((((x) % 18446744073709551616) * ((rd t25 t27) % 18446744073709551616)) % 18446744073709551616) + ((rd out (w64 (i + t27))) % 18446744073709551616)) % 18446744073709551616) + carry) % 18446744073709551616) % 4294967296) Tryd.underlying99 Tryd.underlying93 rfl rfl) ?_
  obtain ⟨c13, he⟩ := rq he
  refine w_d rfl (d_indexS (sz := 1) Tryd.underlying28 sz93 rfl h_out.shp rfl c13) ?_
  refine w_a0 rfl (o_storeEl (kd := (Kd.int .u32)) (v := .int .u32 (((((((((x) % 18446744073709551616) * ((rd t25 t27) % 18446744073709551616)) % 18446744073709551616) + ((rd out (w64 (i + t27))) % 18446744073709551616)) % 18446744073709551616) + carry) % 18446744073709551616) % 4294967296)) (F := fun z_ => z_ :: L) sz93 rfl rfl rfl rfl h_out c13 (fun _ => .here)) ?_
  rintro _ _ _ ⟨i14, rfl, rfl, rfl, h15⟩
  refine w_done ?_
  refine w_region rfl ?_
  refine w_d rfl (d_move (v := .int .u64 ((((((((x) % 18446744073709551616) * ((rd t25 t27) % 18446744073709551616)) % 18446744073709551616) + ((rd out (w64 (i + t27))) % 18446744073709551616)) % 18446744073709551616) + carry) % 18446744073709551616)) rfl) ?_
  refine w_d rfl (d_shr (c := ((((((((x) % 18446744073709551616) * ((rd t25 t27) % 18446744073709551616)) % 18446744073709551616) + ((rd out (w64 (i + t27))) % 18446744073709551616)) % 18446744073709551616) + carry) % 18446744073709551616) / 4294967296) rfl rfl (by decide) rfl) ?_
  refine w_d rfl (d_assign (v := .int .u64 (((((((((x) % 18446744073709551616) * ((rd t25 t27) % 18446744073709551616)) % 18446744073709551616) + ((rd out (w64 (i + t27))) % 18446744073709551616)) % 18446744073709551616) + carry) % 18446744073709551616) / 4294967296)) rfl) ?_
  refine w_done ?_
  refine w_inBlock ?_
  refine w_region rfl ?_
  refine w_d rfl (d_add (c := w64 (t27 + 1)) rfl rfl rfl) ?_
  refine w_d rfl (d_move (v := .int .i64 (w64 (t27 + 1))) rfl) ?_
  refine w_done ?_
  refine w_inLoop ?_
  refine w_sl 1 (v_b) rfl ?_
  refine w_sl 4 (.slice none 0 0) rfl ?_
  refine w_sl 5 (v_out) rfl ?_
  refine w_sl 6 (.int .i64 i) rfl ?_
  refine w_sl 7 (.int .u32 x) rfl ?_
  refine w_sl 8 (.int .u64 (((((((((x) % 18446744073709551616) * ((rd t25 t27) % 18446744073709551616)) % 18446744073709551616) + ((rd out (w64 (i + t27))) % 18446744073709551616)) % 18446744073709551616) + carry) % 18446744073709551616) / 4294967296)) rfl ?_
  refine w_sl 18 (v_t18) rfl ?_
  refine w_sl 19 (.int .i64 t19) rfl ?_
  refine w_sl 20 (.int .i64 t20) rfl ?_
  refine w_sl 25 (v_t25) rfl ?_
  refine w_sl 26 (.int .i64 t26) rfl ?_
  refine w_sl 27 (.int .i64 (w64 (t27 + 1))) rfl ?_
  exact hh.l1 hle he h_b h15 h_t18 h_t25
 ·
  refine w_else rfl (decide_eq_false c10) ?_
  refine w_exit rfl ?_
  refine w_region rfl ?_
  refine w_d rfl (d_move (v := v_out) rfl) ?_
  refine w_d rfl (d_move (v := .int .i64 i) rfl) ?_
  refine w_d rfl (d_move (v := v_b) rfl) ?_
  refine w_d rfl (d_len Tryd.underlying28 rfl h_b.th) ?_
  refine w_d rfl (d_add (c := w64 (i + (b.length : Int))) rfl rfl rfl) ?_
  refine w_d rfl (d_move (v := .int .u64 carry) rfl) ?_
  refine w_d rfl (d_conv (c := (carry) % 4294967296) Tryd.underlying99 Tryd.underlying93 rfl rfl) ?_
  obtain ⟨c16, he⟩ := rq he
  refine w_d rfl (d_indexS (sz := 1) Tryd.underlying28 sz93 rfl h_out.shp rfl c16) ?_
  refine w_a0 rfl (o_storeEl (kd := (Kd.int .u32)) (v := .int .u32 ((carry) % 4294967296)) (F := fun z_ => z_ :: L) sz93 rfl rfl rfl rfl h_out c16 (fun _ => .here)) ?_
  rintro _ _ _ ⟨i17, rfl, rfl, rfl, h18⟩
  refine w_done ?_
  refine w_inBlock ?_
  refine w_region rfl ?_
  refine w_d rfl (d_add (c := w64 (t20 + 1)) rfl rfl rfl) ?_
  refine w_d rfl (d_move (v := .int .i64 (w64 (t20 + 1))) rfl) ?_
  refine w_done ?_
  refine w_inLoop ?_
  refine w_sl 1 (v_b) rfl ?_
  refine w_sl 4 (.slice none 0 0) rfl ?_
  refine w_sl 5 (v_out) rfl ?_
  refine w_sl 18 (v_t18) rfl ?_
  refine w_sl 19 (.int .i64 t19) rfl ?_
  refine w_sl 20 (.int .i64 (w64 (t20 + 1))) rfl ?_
  exact hh.l0 hle he h_b h18 h_t18
theorem wide_times.ok : ∀ k, wide_times.OK (wide_times.hs k)
 | 0 => ⟨(by intros; exact nomatch (show none = some _ from by assumption)), (by intros; exact nomatch (show none = some _ from by assumption))⟩
 | k + 1 => ⟨wide_times.b0_ok (k := k) (wide_times.ok k), wide_times.b1_ok (k := k) (wide_times.ok k)⟩
set_option maxRecDepth 100000 in
set_option maxHeartbeats 2000000 in
theorem wide_times.calls (k : Nat) {H : Hp} {L : Items} {a : List Int} {b : List Int} {v0_a : Value} {v1_b : Value} {r : (List Int)} (he : wide_times.f k a b = some r) (h0_a : Src (Kd.int .u32) H L v0_a a) (h1_b : Src (Kd.int .u32) H L v1_b b) : Ct Tryd.prog 49 ⟨[v0_a, v1_b]⟩ H L (fun v H' L' => L = L' ∧ H.le H' ∧ wide_times.out r H' v) := by
 refine ct_out (O := wide_times.out r) ?_
 have hle : H.le H := .refl _
 have hh := wide_times.ok k
 unfold wide_times.f at he
 refine ct_enter (args := [v0_a, v1_b]) fn_49 rfl nt_49 rfl ?_
 refine w_seq ?_
 refine w_region rfl ?_
 refine w_d rfl (d_assign (v := .slice none 0 0) rfl) ?_
 refine w_done ?_
 refine w_seq ?_
 refine w_region rfl ?_
 refine w_d rfl (d_move (v := v0_a) rfl) ?_
 refine w_d rfl (d_len Tryd.underlying28 rfl h0_a) ?_
 refine w_d rfl (d_move (v := v1_b) rfl) ?_
 refine w_d rfl (d_len Tryd.underlying28 rfl h1_b) ?_
 refine w_d rfl (d_add (c := w64 ((a.length : Int) + (b.length : Int))) rfl rfl rfl) ?_
 obtain ⟨c1, he⟩ := rq he
 refine w_a rfl (o_make' (kd := (Kd.int .u32)) (z0 := 0) Tryd.underlying28 ti93 (zp93 _) rfl rfl (by omega) (by omega) (by omega)) ?_
 rintro v2 _ _ ⟨i3, rfl, rfl, h4⟩
 refine w_d rfl (d_assign (v := v2) rfl) ?_
 refine w_done ?_
 refine w_seq ?_
 refine w_seq ?_
 refine w_region rfl ?_
 refine w_d rfl (d_move (v := v0_a) rfl) ?_
 refine w_d rfl (d_len Tryd.underlying28 rfl h0_a.th) ?_
 refine w_d rfl (d_move (v := .int .i64 0) rfl) ?_
 refine w_done ?_
 refine w_block ?_
 refine w_loop ?_
 refine w_sl 1 (v1_b) rfl ?_
 refine w_sl 4 (.slice none 0 0) rfl ?_
 refine w_sl 5 (v2) rfl ?_
 refine w_sl 18 (v0_a) rfl ?_
 refine w_sl 19 (.int .i64 (a.length : Int)) rfl ?_
 refine w_sl 20 (.int .i64 0) rfl ?_
 exact hh.l0 hle he h1_b h4 h0_a
/-! ### radome/wide.trim -/
noncomputable def wide_trim.C : Code := (Tryd.f64.body).getD .skip
abbrev wide_trim.out (r : (List Int)) (H : Hp) (v : Value) : Prop := Ro (Kd.int .u32) H v r
abbrev wide_trim.R (H0 : Hp) (L : Items) (r : (List Int)) : Value → Hp → Items → Prop := fun v H' L' => (∃ p, L' = p ++ L) ∧ H0.le H' ∧ wide_trim.out r H' v
structure wide_trim.Hs where
 l0 : (List Int) → Option (List Int)
noncomputable def wide_trim.b0 (k : Nat) (h : wide_trim.Hs)  (w : List Int) : Option (List Int) := if (decide (0 < (w.length : Int))) = true → (0 : Int) ≤ w64 ((w.length : Int) - 1) ∧ w64 ((w.length : Int) - 1) < (w.length : Int) then (if ((decide (0 < (w.length : Int))) && (decide ((rd w (w64 ((w.length : Int) - 1))) = 0))) = true then (if (0 : Int) ≤ 0 ∧ (0 : Int) ≤ w64 ((w.length : Int) - 1) ∧ w64 ((w.length : Int) - 1) ≤ (w.length : Int) then (h.l0 (cut w 0 (w64 ((w.length : Int) - 1)))) else none) else (some (w))) else none
noncomputable def wide_trim.hs : Nat → wide_trim.Hs
 | 0 => ⟨fun _ => none⟩
 | k + 1 => ⟨fun x0 => wide_trim.b0 k (wide_trim.hs k) x0⟩
noncomputable def wide_trim.f (k : Nat) (w : List Int) : Option (List Int) := (fun h : wide_trim.Hs => h.l0 w) (wide_trim.hs k)
structure wide_trim.LE (h h' : wide_trim.Hs) : Prop where
 l0 : ∀ y0, LeO (h.l0 y0) (h'.l0 y0)
theorem wide_trim.b0_mono {k : Nat} {h h' : wide_trim.Hs} (hl : wide_trim.LE h h') : ∀ y0, LeO (wide_trim.b0 k h y0) (wide_trim.b0 (k + 1) h' y0) := fun _ => (LeO.ite (LeO.ite (LeO.ite (hl.l0 _) (LeO.refl _)) (LeO.refl _)) (LeO.refl _))
theorem wide_trim.hs_mono : ∀ k, wide_trim.LE (wide_trim.hs k) (wide_trim.hs (k + 1))
 | 0 => ⟨fun _ => LeO.none _⟩
 | k + 1 => ⟨wide_trim.b0_mono (k := k) (wide_trim.hs_mono k)⟩
theorem wide_trim.mono : ∀ k y0, LeO (wide_trim.f k y0) (wide_trim.f (k + 1) y0) := fun k _ => have hl := wide_trim.hs_mono k; by unfold wide_trim.f; exact (hl.l0 _)
noncomputable def wide_trim.Kl0 : List Item := .code (lopB (blkB (seqL (seqR wide_trim.C)))) :: .inLoop (lopB (blkB (seqL (seqR wide_trim.C)))) :: .inBlock 0 :: .code (seqR (seqR wide_trim.C)) :: []
structure wide_trim.OK (h : wide_trim.Hs) : Prop where
 l0 : ∀ {H0 H : Hp} {L : Items} {r : (List Int)} {jk_ : Nat → Value} {w : List Int} {v_w : Value} (_ : H0.le H) (_he : h.l0 w = some r) (_h_w : Ro (Kd.int .u32) H v_w w), Wp Tryd.prog 64 21 wide_trim.Kl0 (upd (upd jk_ 0 (v_w)) 2 (.slice none 0 0)) H (L) (wide_trim.R H0 L r)
set_option maxRecDepth 100000 in
set_option maxHeartbeats 2000000 in
theorem wide_trim.b0_ok {k : Nat} {h : wide_trim.Hs} (hh : wide_trim.OK h) {H0 H : Hp} {L : Items} {r : (List Int)} {jk_ : Nat → Value} {w : List Int} {v_w : Value} (hle : H0.le H) (he : wide_trim.b0 k h w = some r) (h_w : Ro (Kd.int .u32) H v_w w) : Wp Tryd.prog 64 21 wide_trim.Kl0 (upd (upd jk_ 0 (v_w)) 2 (.slice none 0 0)) H (L) (wide_trim.R H0 L r) := by
 unfold wide_trim.b0 at he
 unfold wide_trim.Kl0
 refine w_seq ?_
 refine w_seq ?_
 refine w_region rfl ?_
 refine w_d rfl (d_move (v := v_w) rfl) ?_
 refine w_d rfl (d_len Tryd.underlying28 rfl h_w.src) ?_
 refine w_d rfl (d_gtr rfl rfl) ?_
 refine w_d rfl (d_move (v := .bool (decide (0 < (w.length : Int)))) rfl) ?_
 refine w_g (g := decide (0 < (w.length : Int))) rfl rfl rfl wn_t (fun g1 => d_move (v := v_w) rfl) ?_
 refine w_g (g := decide (0 < (w.length : Int))) rfl rfl rfl wn_t (fun g2 => d_move (v := v_w) rfl) ?_
 refine w_g (g := decide (0 < (w.length : Int))) rfl rfl rfl wn_t (fun g3 => d_len Tryd.underlying28 (cvt g3) h_w.src) ?_
 refine w_g (g := decide (0 < (w.length : Int))) rfl rfl rfl wn_t (fun g4 => d_sub (c := w64 ((w.length : Int) - 1)) (cvt g4) rfl rfl) ?_
 obtain ⟨c6, he⟩ := rq he
 refine w_g (g := decide (0 < (w.length : Int))) rfl rfl rfl wn_t (fun g5 => d_index (sz := 1) Tryd.underlying28 sz93 (cvt g5) h_w.src (cvt g5) (c6 g5)) ?_
 refine w_g (g := decide (0 < (w.length : Int))) rfl rfl rfl wn_t (fun g7 => d_ldint ty93 (cvt g7) h_w.src (c6 g7)) ?_
 refine w_g (g := decide (0 < (w.length : Int))) rfl rfl rfl wn_t (fun g8 => d_eql (cvt g8) rfl) ?_
 refine w_d rfl (d_and' (b := (decide (0 < (w.length : Int)))) (p := (decide ((rd w (w64 ((w.length : Int) - 1))) = 0))) rfl rfl rfl) ?_
 refine w_done ?_
 rcases its he with ⟨c9, he⟩ | ⟨c9, he⟩
 ·
  refine w_then rfl c9 ?_
  refine w_skip ?_
  refine w_block ?_
  refine w_region rfl ?_
  refine w_d rfl (d_move (v := v_w) rfl) ?_
  refine w_d rfl (d_move (v := v_w) rfl) ?_
  refine w_d rfl (d_len Tryd.underlying28 rfl h_w.src) ?_
  refine w_d rfl (d_sub (c := w64 ((w.length : Int) - 1)) rfl rfl rfl) ?_
  obtain ⟨c10, he⟩ := rq he
  refine w_a rfl (o_cut (kd := (Kd.int .u32)) Tryd.underlying28 sz93 rfl h_w (.inl ⟨rfl, rfl⟩) (.inr ⟨_, _, rfl, rfl⟩) c10) ?_
  rintro v11 _ _ ⟨h12, rfl, rfl⟩
  refine w_d rfl (d_assign (v := v11) rfl) ?_
  refine w_done ?_
  refine w_inBlock ?_
  refine w_inLoop ?_
  refine w_sl 0 (v11) rfl ?_
  refine w_sl 2 (.slice none 0 0) rfl ?_
  exact hh.l0 hle he h12
 ·
  refine w_else rfl (Bool.eq_false_iff.2 c9) ?_
  refine w_exit rfl ?_
  refine w_seq ?_
  refine w_region rfl ?_
  refine w_d rfl (d_move (v := v_w) rfl) ?_
  refine w_d rfl (d_assign (v := v_w) rfl) ?_
  refine w_done ?_
  obtain rfl := Option.some.inj he
  refine w_return fn_64 rs_64 (.tmp (v := v_w) rfl .nil) ?_
  exact ⟨⟨[], rfl⟩, hle, h_w⟩
theorem wide_trim.ok : ∀ k, wide_trim.OK (wide_trim.hs k)
 | 0 => ⟨(by intros; exact nomatch (show none = some _ from by assumption))⟩
 | k + 1 => ⟨wide_trim.b0_ok (k := k) (wide_trim.ok k)⟩
set_option maxRecDepth 100000 in
set_option maxHeartbeats 2000000 in
theorem wide_trim.calls (k : Nat) {H : Hp} {L : Items} {w : List Int} {v0_w : Value} {r : (List Int)} (he : wide_trim.f k w = some r) (h0_w : Ro (Kd.int .u32) H v0_w w) : Ct Tryd.prog 64 ⟨[v0_w]⟩ H L (fun v H' L' => L = L' ∧ H.le H' ∧ wide_trim.out r H' v) := by
 refine ct_out (O := wide_trim.out r) ?_
 have hle : H.le H := .refl _
 have hh := wide_trim.ok k
 unfold wide_trim.f at he
 refine ct_enter (args := [v0_w]) fn_64 rfl nt_64 rfl ?_
 refine w_seq ?_
 refine w_region rfl ?_
 refine w_d rfl (d_assign (v := .slice none 0 0) rfl) ?_
 refine w_done ?_
 refine w_seq ?_
 refine w_block ?_
 refine w_loop ?_
 refine w_sl 0 (v0_w) rfl ?_
 refine w_sl 2 (.slice none 0 0) rfl ?_
 exact hh.l0 hle he h0_w
/-! ### radome/wide.plus -/
noncomputable def wide_plus.C : Code := (Tryd.f46.body).getD .skip
abbrev wide_plus.out (r : (List Int)) (H : Hp) (v : Value) : Prop := Ro (Kd.int .u32) H v r
abbrev wide_plus.R (H0 : Hp) (L : Items) (r : (List Int)) : Value → Hp → Items → Prop := fun v H' L' => (∃ p, L' = p ++ L) ∧ H0.le H' ∧ wide_plus.out r H' v
structure wide_plus.Hs where
 l0 : (List Int) → (List Int) → Int → (List Int) → Int → Int → Option (List Int)
noncomputable def wide_plus.j1 (k : Nat) (h : wide_plus.Hs)  (a : List Int) (b : List Int) : Option (List Int) := if 0 ≤ 0 ∧ 0 ≤ w64 ((a.length : Int) + 1) ∧ w64 ((a.length : Int) + 1) ≤ 70368744177664 then (h.l0 b (List.replicate (0 : Int).toNat (0 : Int)) 0 a (a.length : Int) 0) else none
noncomputable def wide_plus.j3 (k : Nat) (h : wide_plus.Hs)  (b : List Int) (out : List Int) (carry : Int) (s : Int) (t21 : List Int) (t22 : Int) (t23 : Int) : Option (List Int) := if out.length + 1 ≤ 35184372088704 then (h.l0 b (out ++ [(s) % 4294967296]) (s / 4294967296) t21 t22 (w64 (t23 + 1))) else none
noncomputable def wide_plus.b0 (k : Nat) (h : wide_plus.Hs)  (b : List Int) (out : List Int) (carry : Int) (t21 : List Int) (t22 : Int) (t23 : Int) : Option (List Int) := if t23 < t22 then (if (0 : Int) ≤ t23 ∧ t23 < (t21.length : Int) then (if t23 < (b.length : Int) then (if (0 : Int) ≤ t23 ∧ t23 < (b.length : Int) then (wide_plus.j3 k h b out carry ((((((rd t21 t23) % 18446744073709551616) + carry) % 18446744073709551616) + ((rd b t23) % 18446744073709551616)) % 18446744073709551616) t21 t22 t23) else none) else (wide_plus.j3 k h b out carry ((((rd t21 t23) % 18446744073709551616) + carry) % 18446744073709551616) t21 t22 t23)) else none) else (if out.length + 1 ≤ 35184372088704 then (some (out ++ [(carry) % 4294967296])) else none)
noncomputable def wide_plus.hs : Nat → wide_plus.Hs
 | 0 => ⟨fun _ _ _ _ _ _ => none⟩
 | k + 1 => ⟨fun x0 x1 x2 x3 x4 x5 => wide_plus.b0 k (wide_plus.hs k) x0 x1 x2 x3 x4 x5⟩
noncomputable def wide_plus.f (k : Nat) (a : List Int) (b : List Int) : Option (List Int) := (fun h : wide_plus.Hs => if (a.length : Int) < (b.length : Int) then (wide_plus.j1 k h b a) else (wide_plus.j1 k h a b)) (wide_plus.hs k)
structure wide_plus.LE (h h' : wide_plus.Hs) : Prop where
 l0 : ∀ y0 y1 y2 y3 y4 y5, LeO (h.l0 y0 y1 y2 y3 y4 y5) (h'.l0 y0 y1 y2 y3 y4 y5)
theorem wide_plus.j1_mono {k : Nat} {h h' : wide_plus.Hs} (hl : wide_plus.LE h h') : ∀ y0 y1, LeO (wide_plus.j1 k h y0 y1) (wide_plus.j1 (k + 1) h' y0 y1) := fun _ _ => (LeO.ite (hl.l0 _ _ _ _ _ _) (LeO.refl _))
theorem wide_plus.j3_mono {k : Nat} {h h' : wide_plus.Hs} (hl : wide_plus.LE h h') : ∀ y0 y1 y2 y3 y4 y5 y6, LeO (wide_plus.j3 k h y0 y1 y2 y3 y4 y5 y6) (wide_plus.j3 (k + 1) h' y0 y1 y2 y3 y4 y5 y6) := fun _ _ _ _ _ _ _ => (LeO.ite (hl.l0 _ _ _ _ _ _) (LeO.refl _))
theorem wide_plus.b0_mono {k : Nat} {h h' : wide_plus.Hs} (hl : wide_plus.LE h h') : ∀ y0 y1 y2 y3 y4 y5, LeO (wide_plus.b0 k h y0 y1 y2 y3 y4 y5) (wide_plus.b0 (k + 1) h' y0 y1 y2 y3 y4 y5) := fun _ _ _ _ _ _ => (LeO.ite (LeO.ite (LeO.ite (LeO.ite (wide_plus.j3_mono (k := k) hl _ _ _ _ _ _ _) (LeO.refl _)) (wide_plus.j3_mono (k := k) hl _ _ _ _ _ _ _)) (LeO.refl _)) (LeO.ite (LeO.refl _) (LeO.refl _)))
theorem wide_plus.hs_mono : ∀ k, wide_plus.LE (wide_plus.hs k) (wide_plus.hs (k + 1))
 | 0 => ⟨fun _ _ _ _ _ _ => LeO.none _⟩
 | k + 1 => ⟨wide_plus.b0_mono (k := k) (wide_plus.hs_mono k)⟩
theorem wide_plus.mono : ∀ k y0 y1, LeO (wide_plus.f k y0 y1) (wide_plus.f (k + 1) y0 y1) := fun k _ _ => have hl := wide_plus.hs_mono k; by unfold wide_plus.f; exact (LeO.ite (wide_plus.j1_mono (k := k) hl _ _) (wide_plus.j1_mono (k := k) hl _ _))
noncomputable def wide_plus.Kj1 : List Item := .code (seqR (seqR wide_plus.C)) :: []
noncomputable def wide_plus.Kl0 : List Item := .code (lopB (blkB (seqR (seqL (seqR (seqR (seqR (seqR wide_plus.C)))))))) :: .inLoop (lopB (blkB (seqR (seqL (seqR (seqR (seqR (seqR wide_plus.C)))))))) :: .inBlock 0 :: .code (seqR (seqR (seqR (seqR (seqR wide_plus.C))))) :: []
noncomputable def wide_plus.Kj3 : List Item := .code (seqR (seqR (seqR (blkB (seqL (seqR (seqR (lopB (blkB (seqR (seqL (seqR (seqR (seqR (seqR wide_plus.C))))))))))))))) :: .inBlock 1 :: .code (seqR (seqR (seqR (lopB (blkB (seqR (seqL (seqR (seqR (seqR (seqR wide_plus.C))))))))))) :: .inLoop (lopB (blkB (seqR (seqL (seqR (seqR (seqR (seqR wide_plus.C)))))))) :: .inBlock 0 :: .code (seqR (seqR (seqR (seqR (seqR wide_plus.C))))) :: []
structure wide_plus.OK (h : wide_plus.Hs) : Prop where
 l0 : ∀ {H0 H : Hp} {L : Items} {r : (List Int)} {jk_ : Nat → Value} {b : List Int} {out : List Int} {carry : Int} {t21 : List Int} {t22 : Int} {t23 : Int} {v_b : Value} {v_out : Value} {v_t21 : Value} {i_out : Item'} (_ : H0.le H) (_he : h.l0 b out carry t21 t22 t23 = some r) (_h_b : Src (Kd.int .u32) H L v_b b) (_h_out : Sl (Kd.int .u32) H 93 i_out v_out out) (_h_t21 : Src (Kd.int .u32) H L v_t21 t21), Wp Tryd.prog 46 56 wide_plus.Kl0 (upd (upd (upd (upd (upd (upd (upd jk_ 1 (v_b)) 4 (.slice none 0 0)) 5 (v_out)) 6 (.int .u64 carry)) 21 (v_t21)) 22 (.int .i64 t22)) 23 (.int .i64 t23)) H (i_out :: L) (wide_plus.R H0 L r)
set_option maxRecDepth 100000 in
set_option maxHeartbeats 2000000 in
theorem wide_plus.j1_ok {k : Nat} {h : wide_plus.Hs} (hh : wide_plus.OK h) {H0 H : Hp} {L : Items} {r : (List Int)} {jk_ : Nat → Value} {a : List Int} {b : List Int} {v_a : Value} {v_b : Value} (hle : H0.le H) (he : wide_plus.j1 k h a b = some r) (h_a : Src (Kd.int .u32) H L v_a a) (h_b : Src (Kd.int .u32) H L v_b b) : Wp Tryd.prog 46 56 wide_plus.Kj1 (upd (upd (upd jk_ 0 (v_a)) 1 (v_b)) 4 (.slice none 0 0)) H (L) (wide_plus.R H0 L r) := by
 unfold wide_plus.j1 at he
 unfold wide_plus.Kj1
 refine w_seq ?_
 refine w_region rfl ?_
 refine w_d rfl (d_move (v := v_a) rfl) ?_
 refine w_d rfl (d_len Tryd.underlying28 rfl h_a) ?_
 refine w_d rfl (d_add (c := w64 ((a.length : Int) + 1)) rfl rfl rfl) ?_
 obtain ⟨c2, he⟩ := rq he
 refine w_a rfl (o_make' (kd := (Kd.int .u32)) (z0 := 0) Tryd.underlying28 ti93 (zp93 _) rfl rfl (by omega) (by omega) (by omega)) ?_
 rintro v3 _ _ ⟨i4, rfl, rfl, h5⟩
 refine w_d rfl (d_assign (v := v3) rfl) ?_
 refine w_done ?_
 refine w_seq ?_
 refine w_region rfl ?_
 refine w_d rfl (d_assign (v := .int .u64 0) rfl) ?_
 refine w_done ?_
 refine w_seq ?_
 refine w_seq ?_
 refine w_region rfl ?_
 refine w_d rfl (d_move (v := v_a) rfl) ?_
 refine w_d rfl (d_len Tryd.underlying28 rfl h_a.th) ?_
 refine w_d rfl (d_move (v := .int .i64 0) rfl) ?_
 refine w_done ?_
 refine w_block ?_
 refine w_loop ?_
 refine w_sl 1 (v_b) rfl ?_
 refine w_sl 4 (.slice none 0 0) rfl ?_
 refine w_sl 5 (v3) rfl ?_
 refine w_sl 6 (.int .u64 0) rfl ?_
 refine w_sl 21 (v_a) rfl ?_
 refine w_sl 22 (.int .i64 (a.length : Int)) rfl ?_
 refine w_sl 23 (.int .i64 0) rfl ?_
 exact hh.l0 hle he h_b h5 h_a
set_option maxRecDepth 100000 in
set_option maxHeartbeats 2000000 in
theorem wide_plus.j3_ok {k : Nat} {h : wide_plus.Hs} (hh : wide_plus.OK h) {H0 H : Hp} {L : Items} {r : (List Int)} {jk_ : Nat → Value} {b : List Int} {out : List Int} {carry : Int} {s : Int} {t21 : List Int} {t22 : Int} {t23 : Int} {v_b : Value} {v_out : Value} {v_t21 : Value} {i_out : Item'} (hle : H0.le H) (he : wide_plus.j3 k h b out carry s t21 t22 t23 = some r) (h_b : Src (Kd.int .u32) H L v_b b) (h_out : Sl (Kd.int .u32) H 93 i_out v_out out) (h_t21 : Src (Kd.int .u32) H L v_t21 t21) : Wp Tryd.prog 46 56 wide_plus.Kj3 (upd (upd (upd (upd (upd (upd (upd (upd jk_ 1 (v_b)) 4 (.slice none 0 0)) 5 (v_out)) 6 (.int .u64 carry)) 9 (.int .u64 s)) 21 (v_t21)) 22 (.int .i64 t22)) 23 (.int .i64 t23)) H (i_out :: L) (wide_plus.R H0 L r) := by
 unfold wide_plus.j3 at he
 unfold wide_plus.Kj3
 refine w_seq ?_
 refine w_region rfl ?_
 refine w_d rfl (d_move (v := v_out) rfl) ?_
 refine w_d rfl (d_move (v := .int .u64 s) rfl) ?_
 refine w_d rfl (d_conv (c := (s) % 4294967296) Tryd.underlying99 Tryd.underlying93 rfl rfl) ?_
 refine w_a rfl (o_buildSlice' (kd := (Kd.int .u32)) (css := [[.int .u32 ((s) % 4294967296)]]) (xs := [(s) % 4294967296]) (parts := [(0, .int .u32 ((s) % 4294967296))]) Tryd.underlying28 ti93 rfl ⟨_, _, rfl, rfl, rfl⟩ ⟨rfl, trivial⟩ rfl (by decide)) ?_
 rintro v20 _ _ ⟨i21, rfl, rfl, h22⟩
 obtain ⟨c23, he⟩ := rq he
 refine w_a rfl (o_append' (kd := (Kd.int .u32)) (F := fun z_ => i21 :: z_ :: L) Tryd.underlying28 Tryd.underlying28 ti93 rfl (by first | omega | (simp only [List.nil_append, List.length_cons, List.length_nil]; omega)) rfl rfl h_out (h22.src .here) (fun _ => (.there .here))) ?_
 rintro v24 _ _ ⟨i25, rfl, rfl, h26⟩
 refine w_d rfl (d_assign (v := v24) rfl) ?_
 refine w_done ?_
 refine w_region rfl ?_
 refine w_d rfl (d_move (v := .int .u64 s) rfl) ?_
 refine w_d rfl (d_shr (c := s / 4294967296) rfl rfl (by decide) rfl) ?_
 refine w_d rfl (d_assign (v := .int .u64 (s / 4294967296)) rfl) ?_
 refine w_done ?_
 refine w_inBlock ?_
 refine w_region rfl ?_
 refine w_d rfl (d_add (c := w64 (t23 + 1)) rfl rfl rfl) ?_
 refine w_d rfl (d_move (v := .int .i64 (w64 (t23 + 1))) rfl) ?_
 refine w_done ?_
 refine w_inLoop ?_
 refine w_del .here ?_
 refine w_sl 1 (v_b) rfl ?_
 refine w_sl 4 (.slice none 0 0) rfl ?_
 refine w_sl 5 (v24) rfl ?_
 refine w_sl 6 (.int .u64 (s / 4294967296)) rfl ?_
 refine w_sl 21 (v_t21) rfl ?_
 refine w_sl 22 (.int .i64 t22) rfl ?_
 refine w_sl 23 (.int .i64 (w64 (t23 + 1))) rfl ?_
 exact hh.l0 hle he h_b h26 h_t21
set_option maxRecDepth 100000 in
set_option maxHeartbeats 2000000 in
theorem wide_plus.b0_ok {k : Nat} {h : wide_plus.Hs} (hh : wide_plus.OK h) {H0 H : Hp} {L : Items} {r : (List Int)} {jk_ : Nat → Value} {b : List Int} {out : List Int} {carry : Int} {t21 : List Int} {t22 : Int} {t23 : Int} {v_b : Value} {v_out : Value} {v_t21 : Value} {i_out : Item'} (hle : H0.le H) (he : wide_plus.b0 k h b out carry t21 t22 t23 = some r) (h_b : Src (Kd.int .u32) H L v_b b) (h_out : Sl (Kd.int .u32) H 93 i_out v_out out) (h_t21 : Src (Kd.int .u32) H L v_t21 t21) : Wp Tryd.prog 46 56 wide_plus.Kl0 (upd (upd (upd (upd (upd (upd (upd jk_ 1 (v_b)) 4 (.slice none 0 0)) 5 (v_out)) 6 (.int .u64 carry)) 21 (v_t21)) 22 (.int .i64 t22)) 23 (.int .i64 t23)) H (i_out :: L) (wide_plus.R H0 L r) := by
 unfold wide_plus.b0 at he
 unfold wide_plus.Kl0
 refine w_seq ?_
 refine w_region rfl ?_
 refine w_d rfl (d_lss rfl rfl) ?_
 refine w_done ?_
 refine w_seq ?_
 rcases its he with ⟨c6, he⟩ | ⟨c6, he⟩
 ·
  refine w_then rfl (decide_eq_true c6) ?_
  refine w_skip ?_
  refine w_seq ?_
  refine w_block ?_
  refine w_seq ?_
  refine w_region rfl ?_
  refine w_d rfl (d_move (v := .int .i64 t23) rfl) ?_
  obtain ⟨c7, he⟩ := rq he
  refine w_d rfl (d_index (sz := 1) Tryd.underlying28 sz93 rfl h_t21.th rfl c7) ?_
  refine w_d rfl (d_ldint ty93 rfl h_t21.th c7) ?_
  refine w_d rfl (d_assign (v := .int .i64 t23) rfl) ?_
  refine w_d rfl (d_assign (v := .int .u32 (rd t21 t23)) rfl) ?_
  refine w_done ?_
  refine w_seq ?_
  refine w_region rfl ?_
  refine w_d rfl (d_move (v := .int .u32 (rd t21 t23)) rfl) ?_
  refine w_d rfl (d_conv (c := (rd t21 t23) % 18446744073709551616) Tryd.underlying93 Tryd.underlying99 rfl rfl) ?_
  refine w_d rfl (d_move (v := .int .u64 carry) rfl) ?_
  refine w_d rfl (d_add (c := (((rd t21 t23) % 18446744073709551616) + carry) % 18446744073709551616) rfl rfl rfl) ?_
  refine w_d rfl (d_assign (v := .int .u64 ((((rd t21 t23) % 18446744073709551616) + carry) % 18446744073709551616)) rfl) ?_
  refine w_done ?_
  refine w_seq ?_
  refine w_seq ?_
  refine w_region rfl ?_
  refine w_d rfl (d_move (v := .int .i64 t23) rfl) ?_
  refine w_d rfl (d_move (v := v_b) rfl) ?_
  refine w_d rfl (d_len Tryd.underlying28 rfl h_b.th) ?_
  refine w_d rfl (d_lss rfl rfl) ?_
  refine w_done ?_
  rcases its he with ⟨c8, he⟩ | ⟨c8, he⟩
  ·
   refine w_then rfl (decide_eq_true c8) ?_
   refine w_region rfl ?_
   refine w_d rfl (d_move (v := .int .u64 ((((rd t21 t23) % 18446744073709551616) + carry) % 18446744073709551616)) rfl) ?_
   refine w_d rfl (d_move (v := v_b) rfl) ?_
   refine w_d rfl (d_move (v := .int .i64 t23) rfl) ?_
   obtain ⟨c9, he⟩ := rq he
   refine w_d rfl (d_index (sz := 1) Tryd.underlying28 sz93 rfl h_b.th rfl c9) ?_
   refine w_d rfl (d_ldint ty93 rfl h_b.th c9) ?_
   refine w_d rfl (d_conv (c := (rd b t23) % 18446744073709551616) Tryd.underlying93 Tryd.underlying99 rfl rfl) ?_
   refine w_d rfl (d_add (c := (((((rd t21 t23) % 18446744073709551616) + carry) % 18446744073709551616) + ((rd b t23) % 18446744073709551616)) % 18446744073709551616) rfl rfl rfl) ?_
   refine w_d rfl (d_assign (v := .int .u64 ((((((rd t21 t23) % 18446744073709551616) + carry) % 18446744073709551616) + ((rd b t23) % 18446744073709551616)) % 18446744073709551616)) rfl) ?_
   refine w_done ?_
   refine w_sl 1 (v_b) rfl ?_
   refine w_sl 4 (.slice none 0 0) rfl ?_
   refine w_sl 5 (v_out) rfl ?_
   refine w_sl 6 (.int .u64 carry) rfl ?_
   refine w_sl 9 (.int .u64 ((((((rd t21 t23) % 18446744073709551616) + carry) % 18446744073709551616) + ((rd b t23) % 18446744073709551616)) % 18446744073709551616)) rfl ?_
   refine w_sl 21 (v_t21) rfl ?_
   refine w_sl 22 (.int .i64 t22) rfl ?_
   refine w_sl 23 (.int .i64 t23) rfl ?_
   exact wide_plus.j3_ok (k := k) hh hle he h_b h_out h_t21
  ·
   refine w_else rfl (decide_eq_false c8) ?_
   refine w_skip ?_
   refine w_sl 1 (v_b) rfl ?_
   refine w_sl 4 (.slice none 0 0) rfl ?_
   refine w_sl 5 (v_out) rfl ?_
   refine w_sl 6 (.int .u64 carry) rfl ?_
   refine w_sl 9 (.int .u64 ((((rd t21 t23) % 18446744073709551616) + carry) % 18446744073709551616)) rfl ?_
   refine w_sl 21 (v_t21) rfl ?_
   refine w_sl 22 (.int .i64 t22) rfl ?_
   refine w_sl 23 (.int .i64 t23) rfl ?_
   exact wide_plus.j3_ok (k := k) hh hle he h_b h_out h_t21
 ·
  refine w_else rfl (decide_eq_false c6) ?_
  refine w_exit rfl ?_
  refine w_seq ?_
  refine w_region rfl ?_
  refine w_d rfl (d_move (v := v_out) rfl) ?_
  refine w_d rfl (d_move (v := .int .u64 carry) rfl) ?_
  refine w_d rfl (d_conv (c := (carry) % 4294967296) Tryd.underlying99 Tryd.underlying93 rfl rfl) ?_
  refine w_a rfl (o_buildSlice' (kd := (Kd.int .u32)) (css := [[.int .u32 ((carry) % 4294967296)]]) (xs := [(carry) % 4294967296]) (parts := [(0, .int .u32 ((carry) % 4294967296))]) Tryd.underlying28 ti93 rfl ⟨_, _, rfl, rfl, rfl⟩ ⟨rfl, trivial⟩ rfl (by decide)) ?_
  rintro v10 _ _ ⟨i11, rfl, rfl, h12⟩
  obtain ⟨c13, he⟩ := rq he
  refine w_a rfl (o_append' (kd := (Kd.int .u32)) (F := fun z_ => i11 :: z_ :: L) Tryd.underlying28 Tryd.underlying28 ti93 rfl (by first | omega | (simp only [List.nil_append, List.length_cons, List.length_nil]; omega)) rfl rfl h_out (h12.src .here) (fun _ => (.there .here))) ?_
  rintro v14 _ _ ⟨i15, rfl, rfl, h16⟩
  refine w_d rfl (d_assign (v := v14) rfl) ?_
  refine w_done ?_
  refine w_freeze h16 (.there .here) ?_
  intro H17 e18 h19
  obtain rfl := Option.some.inj he
  refine w_return fn_46 rs_46 (.tmp (v := v14) rfl .nil) ?_
  exact ⟨⟨[_, _], rfl⟩, hle.trans e18, h19⟩
theorem wide_plus.ok : ∀ k, wide_plus.OK (wide_plus.hs k)
 | 0 => ⟨(by intros; exact nomatch (show none = some _ from by assumption))⟩
 | k + 1 => ⟨wide_plus.b0_ok (k := k) (wide_plus.ok k)⟩
set_option maxRecDepth 100000 in
set_option maxHeartbeats 2000000 in
theorem wide_plus.calls (k : Nat) {H : Hp} {L : Items} {a : List Int} {b : List Int} {v0_a : Value} {v1_b : Value} {r : (List Int)} (he : wide_plus.f k a b = some r) (h0_a : Src (Kd.int .u32) H L v0_a a) (h1_b : Src (Kd.int .u32) H L v1_b b) : Ct Tryd.prog 46 ⟨[v0_a, v1_b]⟩ H L (fun v H' L' => L = L' ∧ H.le H' ∧ wide_plus.out r H' v) := by
 refine ct_out (O := wide_plus.out r) ?_
 have hle : H.le H := .refl _
 have hh := wide_plus.ok k
 unfold wide_plus.f at he
 refine ct_enter (args := [v0_a, v1_b]) fn_46 rfl nt_46 rfl ?_
 refine w_seq ?_
 refine w_region rfl ?_
 refine w_d rfl (d_assign (v := .slice none 0 0) rfl) ?_
 refine w_done ?_
 refine w_seq ?_
 refine w_seq ?_
 refine w_region rfl ?_
 refine w_d rfl (d_move (v := v0_a) rfl) ?_
 refine w_d rfl (d_len Tryd.underlying28 rfl h0_a) ?_
 refine w_d rfl (d_move (v := v1_b) rfl) ?_
 refine w_d rfl (d_len Tryd.underlying28 rfl h1_b) ?_
 refine w_d rfl (d_lss rfl rfl) ?_
 refine w_done ?_
 rcases its he with ⟨c1, he⟩ | ⟨c1, he⟩
 ·
  refine w_then rfl (decide_eq_true c1) ?_
  refine w_region rfl ?_
  refine w_d rfl (d_move (v := v1_b) rfl) ?_
  refine w_d rfl (d_move (v := v0_a) rfl) ?_
  refine w_d rfl (d_assign (v := v1_b) rfl) ?_
  refine w_d rfl (d_assign (v := v0_a) rfl) ?_
  refine w_done ?_
  refine w_sl 0 (v1_b) rfl ?_
  refine w_sl 1 (v0_a) rfl ?_
  refine w_sl 4 (.slice none 0 0) rfl ?_
  exact wide_plus.j1_ok (k := k) hh hle he h1_b h0_a
 ·
  refine w_else rfl (decide_eq_false c1) ?_
  refine w_skip ?_
  refine w_sl 0 (v0_a) rfl ?_
  refine w_sl 1 (v1_b) rfl ?_
  refine w_sl 4 (.slice none 0 0) rfl ?_
  exact wide_plus.j1_ok (k := k) hh hle he h0_a h1_b
/-! ### radome/wide.made -/
noncomputable def wide_made.C : Code := (Tryd.f45.body).getD .skip
def wide_made.out (r : wide_Int × (Option Int)) (H : Hp) (v : Value) : Prop := ∃ v0, v = .tuple ⟨[.agg ⟨[.bool r.1.f_neg, v0]⟩, errV 89 r.2]⟩ ∧ Ro (Kd.int .u32) H v0 r.1.f_w
theorem wide_made.out_mono (r : wide_Int × (Option Int)) {H H' : Hp} {v : Value} (hle : H.le H') (h : wide_made.out r H v) : wide_made.out r H' v := by
 obtain ⟨v0, rfl, h0⟩ := h; exact ⟨v0, rfl, h0.mono hle⟩
abbrev wide_made.R (H0 : Hp) (L : Items) (r : wide_Int × (Option Int)) : Value → Hp → Items → Prop := fun v H' L' => (∃ p, L' = p ++ L) ∧ H0.le H' ∧ wide_made.out r H' v
noncomputable def wide_made.f (k : Nat) (neg : Bool) (w : List Int) : Option (wide_Int × (Option Int)) := (wide_trim.f k w).bind fun y2 => if 128 < (y2.length : Int) then (some ((⟨false, []⟩ : wide_Int), some 12)) else (some ((⟨neg && (decide (0 < (y2.length : Int))), y2⟩ : wide_Int), none))
theorem wide_made.mono : ∀ k y0 y1, LeO (wide_made.f k y0 y1) (wide_made.f (k + 1) y0 y1) := fun k _ _ => by unfold wide_made.f; exact (LeO.bind (wide_trim.mono k _) fun _ => LeO.ite (LeO.refl _) (LeO.refl _))
set_option maxRecDepth 100000 in
set_option maxHeartbeats 2000000 in
theorem wide_made.calls (k : Nat) {H : Hp} {L : Items} {neg : Bool} {w : List Int} {v0_w : Value} {r : wide_Int × (Option Int)} (he : wide_made.f k neg w = some r) (h0_w : Ro (Kd.int .u32) H v0_w w) : Ct Tryd.prog 45 ⟨[.bool neg, v0_w]⟩ H L (fun v H' L' => L = L' ∧ H.le H' ∧ wide_made.out r H' v) := by
 refine ct_out (O := wide_made.out r) ?_
 have hle : H.le H := .refl _
 unfold wide_made.f at he
 refine ct_enter (args := [.bool neg, v0_w]) fn_45 rfl nt_45 rfl ?_
 refine w_seq ?_
 refine w_region rfl ?_
 refine w_a rfl (o_alloc zr30 rfl) ?_
 rintro _ _ _ ⟨b1, rfl, rfl, rfl⟩
 refine w_d rfl (d_assign (v := errV 89 none) rfl) ?_
 refine w_done ?_
 refine w_seq ?_
 refine w_region rfl ?_
 refine w_d rfl (d_move (v := v0_w) rfl) ?_
 obtain ⟨y2, hy3, he⟩ := Option.bind_eq_some_iff.1 he
 refine w_a rfl (o_call co64 (vs := [v0_w]) rfl (wide_trim.calls k hy3 h0_w)) ?_
 rintro v6 H4 _ ⟨rfl, e5, h7⟩
 refine w_d rfl (d_assign (v := v6) rfl) ?_
 refine w_done ?_
 refine w_seq ?_
 refine w_seq ?_
 refine w_region rfl ?_
 refine w_d rfl (d_move (v := v6) rfl) ?_
 refine w_d rfl (d_len Tryd.underlying28 rfl h7.src) ?_
 refine w_d rfl (d_gtr rfl rfl) ?_
 refine w_done ?_
 rcases its he with ⟨c8, he⟩ | ⟨c8, he⟩
 ·
  refine w_then rfl (decide_eq_true c8) ?_
  refine w_seq ?_
  refine w_region rfl ?_
  refine w_d rfl (d_build (cs' := [.bool false, .slice none 0 0]) Tryd.underlying30 zr30 rfl (by kernel_rfl) (parts := []) rfl .nil) ?_
  refine w_d rfl (d_iface (v := .int .i64 12) Tryd.underlying89 rfl rfl) ?_
  refine w_a0 rfl (o_store (v := .agg ⟨[.bool false, .slice none 0 0]⟩) sz30 rfl rfl rfl rfl (one_cons rfl (one_cons rfl one_nil)) .here (.here (.here .done))) ?_
  rintro _ _ _ ⟨rfl, rfl, rfl⟩
  refine w_d rfl (d_assign (v := errV 89 (some 12)) rfl) ?_
  refine w_done ?_
  obtain rfl := Option.some.inj he
  refine w_return fn_45 rs_45 (.box (v := .agg ⟨[.bool false, .slice none 0 0]⟩) rfl ty30 rfl rfl .here rfl (.tmp (v := errV 89 (some 12)) rfl .nil)) ?_
  exact ⟨⟨[_], rfl⟩, hle.trans e5, ⟨.slice none 0 0, rfl, (ro_nil _ _)⟩⟩
 ·
  refine w_else rfl (decide_eq_false c8) ?_
  refine w_skip ?_
  refine w_seq ?_
  refine w_region rfl ?_
  refine w_d rfl (d_move (v := .bool neg) rfl) ?_
  refine w_d rfl (d_move (v := .bool neg) rfl) ?_
  refine w_g (g := neg) rfl rfl rfl wn_t (fun g9 => d_move (v := v6) rfl) ?_
  refine w_g (g := neg) rfl rfl rfl wn_t (fun g10 => d_len Tryd.underlying28 (cvt g10) h7.src) ?_
  refine w_g (g := neg) rfl rfl rfl wn_t (fun g11 => d_gtr (cvt g11) rfl) ?_
  refine w_d rfl (d_and' (b := neg) (p := (decide (0 < (y2.length : Int)))) rfl rfl rfl) ?_
  refine w_d rfl (d_move (v := v6) rfl) ?_
  refine w_d rfl (d_build (cs' := [.bool (neg && (decide (0 < (y2.length : Int)))), v6]) Tryd.underlying30 zr30 rfl (by kernel_rfl) (parts := [(0, .bool (neg && (decide (0 < (y2.length : Int))))), (1, v6)]) rfl (.cons (place_of rfl sz4 rfl) rfl rfl (.here .done) (.cons (place_of rfl sz28 rfl) h7.cells rfl (.there (.here .done)) .nil))) ?_
  refine w_a0 rfl (o_store (v := .agg ⟨[.bool (neg && (decide (0 < (y2.length : Int)))), v6]⟩) sz30 rfl rfl rfl rfl (one_cons rfl (one_cons (h7.one) one_nil)) .here (.here (.here .done))) ?_
  rintro _ _ _ ⟨rfl, rfl, rfl⟩
  refine w_d rfl (d_assign (v := errV 89 none) rfl) ?_
  refine w_done ?_
  obtain rfl := Option.some.inj he
  refine w_return fn_45 rs_45 (.box (v := .agg ⟨[.bool (neg && (decide (0 < (y2.length : Int)))), v6]⟩) rfl ty30 rfl rfl .here rfl (.tmp (v := errV 89 none) rfl .nil)) ?_
  exact ⟨⟨[_], rfl⟩, hle.trans e5, ⟨v6, rfl, h7⟩⟩
/-! ### radome/wide.Parse -/
noncomputable def wide_Parse.C : Code := (Tryd.f43.body).getD .skip
def wide_Parse.out (r : wide_Int × (Option Int)) (H : Hp) (v : Value) : Prop := ∃ v0, v = .tuple ⟨[.agg ⟨[.bool r.1.f_neg, v0]⟩, errV 89 r.2]⟩ ∧ Ro (Kd.int .u32) H v0 r.1.f_w
theorem wide_Parse.out_mono (r : wide_Int × (Option Int)) {H H' : Hp} {v : Value} (hle : H.le H') (h : wide_Parse.out r H v) : wide_Parse.out r H' v := by
 obtain ⟨v0, rfl, h0⟩ := h; exact ⟨v0, rfl, h0.mono hle⟩
abbrev wide_Parse.R (H0 : Hp) (L : Items) (r : wide_Int × (Option Int)) : Value → Hp → Items → Prop := fun v H' L' => (∃ p, L' = p ++ L) ∧ H0.le H' ∧ wide_Parse.out r H' v
structure wide_Parse.Hs where
 l0 : Bool → (List Int) → (List Int) → Int → Int → Option (wide_Int × (Option Int))
noncomputable def wide_Parse.j1 (k : Nat) (h : wide_Parse.Hs)  (t : ByteArray) (neg : Bool) : Option (wide_Int × (Option Int)) := (wide_digits.f k t).bind fun y8 => if ((!y8) || (neg && (decide (t = str_2)))) = true then (some ((⟨false, []⟩ : wide_Int), some 3)) else (h.l0 neg [] (bytesOf t) ((bytesOf t).length : Int) 0)
noncomputable def wide_Parse.b0 (k : Nat) (h : wide_Parse.Hs)  (neg : Bool) (w : List Int) (t34 : List Int) (t35 : Int) (t36 : Int) : Option (wide_Int × (Option Int)) := if t36 < t35 then (if (0 : Int) ≤ t36 ∧ t36 < (t34.length : Int) then ((wide_times.f k w [10]).bind fun y27 => (wide_trim.f k [(((rd t34 t36) - 48) % 256) % 4294967296]).bind fun y39 => (wide_plus.f k y27 y39).bind fun y45 => (wide_trim.f k y45).bind fun y51 => h.l0 neg y51 t34 t35 (w64 (t36 + 1))) else none) else ((wide_made.f k neg w).bind fun y57 => some ((⟨y57.1.f_neg, y57.1.f_w⟩ : wide_Int), y57.2))
noncomputable def wide_Parse.hs : Nat → wide_Parse.Hs
 | 0 => ⟨fun _ _ _ _ _ => none⟩
 | k + 1 => ⟨fun x0 x1 x2 x3 x4 => wide_Parse.b0 k (wide_Parse.hs k) x0 x1 x2 x3 x4⟩
noncomputable def wide_Parse.f (k : Nat) (s : ByteArray) : Option (wide_Int × (Option Int)) := (fun h : wide_Parse.Hs => if (decide (1 < (s.size : Int))) = true → (0 : Int) ≤ 0 ∧ 0 < (s.size : Int) then (if ((decide (1 < (s.size : Int))) && (decide ((bt s 0) = 45))) = true then (if (0 : Int) ≤ 1 ∧ (1 : Int) ≤ (s.size : Int) ∧ (s.size : Int) ≤ (s.size : Int) then (wide_Parse.j1 k h (scut s 1 (s.size : Int)) ((decide (1 < (s.size : Int))) && (decide ((bt s 0) = 45)))) else none) else (wide_Parse.j1 k h s ((decide (1 < (s.size : Int))) && (decide ((bt s 0) = 45))))) else none) (wide_Parse.hs k)
structure wide_Parse.LE (h h' : wide_Parse.Hs) : Prop where
 l0 : ∀ y0 y1 y2 y3 y4, LeO (h.l0 y0 y1 y2 y3 y4) (h'.l0 y0 y1 y2 y3 y4)
theorem wide_Parse.j1_mono {k : Nat} {h h' : wide_Parse.Hs} (hl : wide_Parse.LE h h') : ∀ y0 y1, LeO (wide_Parse.j1 k h y0 y1) (wide_Parse.j1 (k + 1) h' y0 y1) := fun _ _ => (LeO.bind (wide_digits.mono k _) fun _ => LeO.ite (LeO.refl _) (hl.l0 _ _ _ _ _))
theorem wide_Parse.b0_mono {k : Nat} {h h' : wide_Parse.Hs} (hl : wide_Parse.LE h h') : ∀ y0 y1 y2 y3 y4, LeO (wide_Parse.b0 k h y0 y1 y2 y3 y4) (wide_Parse.b0 (k + 1) h' y0 y1 y2 y3 y4) := fun _ _ _ _ _ => (LeO.ite (LeO.ite (LeO.bind (wide_times.mono k _ _) fun _ => LeO.bind (wide_trim.mono k _) fun _ => LeO.bind (wide_plus.mono k _ _) fun _ => LeO.bind (wide_trim.mono k _) fun _ => hl.l0 _ _ _ _ _) (LeO.refl _)) (LeO.bind (wide_made.mono k _ _) fun _ => LeO.refl _))
theorem wide_Parse.hs_mono : ∀ k, wide_Parse.LE (wide_Parse.hs k) (wide_Parse.hs (k + 1))
 | 0 => ⟨fun _ _ _ _ _ => LeO.none _⟩
 | k + 1 => ⟨wide_Parse.b0_mono (k := k) (wide_Parse.hs_mono k)⟩
theorem wide_Parse.mono : ∀ k y0, LeO (wide_Parse.f k y0) (wide_Parse.f (k + 1) y0) := fun k _ => have hl := wide_Parse.hs_mono k; by unfold wide_Parse.f; exact (LeO.ite (LeO.ite (LeO.ite (wide_Parse.j1_mono (k := k) hl _ _) (LeO.refl _)) (wide_Parse.j1_mono (k := k) hl _ _)) (LeO.refl _))
noncomputable def wide_Parse.Kj1 : List Item := .code (seqR (seqR (seqR (seqR wide_Parse.C)))) :: []
noncomputable def wide_Parse.Kl0 : List Item := .code (lopB (blkB (seqR (seqL (seqR (seqR (seqR (seqR (seqR (seqR wide_Parse.C)))))))))) :: .inLoop (lopB (blkB (seqR (seqL (seqR (seqR (seqR (seqR (seqR (seqR wide_Parse.C)))))))))) :: .inBlock 0 :: .code (seqR (seqR (seqR (seqR (seqR (seqR (seqR wide_Parse.C))))))) :: []
structure wide_Parse.OK (h : wide_Parse.Hs) : Prop where
 l0 : ∀ {H0 H : Hp} {L : Items} {r : wide_Int × (Option Int)} {jk_ : Nat → Value} {neg : Bool} {w : List Int} {t34 : List Int} {t35 : Int} {t36 : Int} {v_w : Value} {v_t34 : Value} {b_t2 : Nat} (_ : H0.le H) (_he : h.l0 neg w t34 t35 t36 = some r) (_h_w : Ro (Kd.int .u32) H v_w w) (_h_t34 : Ro (Kd.int .u8) H v_t34 t34), Wp Tryd.prog 43 56 wide_Parse.Kl0 (upd (upd (upd (upd (upd (upd (upd jk_ 2 (.pointer (some ⟨b_t2, 0, none⟩))) 3 (errV 89 none)) 5 (.bool neg)) 6 (v_w)) 34 (v_t34)) 35 (.int .i64 t35)) 36 (.int .i64 t36)) H (some (b_t2, .cells ⟨[.bool false, .slice none 0 0]⟩ 30 (0, 0)) :: L) (wide_Parse.R H0 L r)
set_option maxRecDepth 100000 in
set_option maxHeartbeats 2000000 in
theorem wide_Parse.j1_ok {k : Nat} {h : wide_Parse.Hs} (hh : wide_Parse.OK h) {H0 H : Hp} {L : Items} {r : wide_Int × (Option Int)} {jk_ : Nat → Value} {t : ByteArray} {neg : Bool} {b_t2 : Nat} (hle : H0.le H) (he : wide_Parse.j1 k h t neg = some r) : Wp Tryd.prog 43 56 wide_Parse.Kj1 (upd (upd (upd (upd jk_ 2 (.pointer (some ⟨b_t2, 0, none⟩))) 3 (errV 89 none)) 4 (.string t)) 5 (.bool neg)) H (some (b_t2, .cells ⟨[.bool false, .slice none 0 0]⟩ 30 (0, 0)) :: L) (wide_Parse.R H0 L r) := by
 unfold wide_Parse.j1 at he
 unfold wide_Parse.Kj1
 refine w_seq ?_
 refine w_seq ?_
 refine w_region rfl ?_
 refine w_d rfl (d_move (v := .string t) rfl) ?_
 obtain ⟨y8, hy9, he⟩ := Option.bind_eq_some_iff.1 he
 refine w_d rfl (call_d (o_call co73 (vs := [.string t]) rfl (wide_digits.calls k hy9))) ?_
 refine w_d rfl (d_not (b := y8) rfl) ?_
 refine w_d rfl (d_move (v := .bool (!y8)) rfl) ?_
 refine w_g (g := !(!y8)) rfl rfl rfl wn_f (fun g12 => d_move (v := .bool neg) rfl) ?_
 refine w_g (g := !(!y8)) rfl rfl rfl wn_f (fun g13 => d_move (v := .bool neg) (cvt g13)) ?_
 refine w_g (g := (!(!y8)) && neg) rfl rfl rfl wn_gt (fun g14 => d_move (v := .string t) rfl) ?_
 refine w_g (g := (!(!y8)) && neg) rfl rfl rfl wn_gt (fun g15 => d_eqs (cvt g15) rfl) ?_
 refine w_g (g := !(!y8)) rfl rfl rfl wn_f (fun g16 => d_and' (b := neg) (p := (decide (t = str_2))) (cvt g16) (cva g16) rfl) ?_
 refine w_d rfl (d_or' (b := (!y8)) (p := (neg && (decide (t = str_2)))) rfl rfl rfl) ?_
 refine w_done ?_
 rcases its he with ⟨c17, he⟩ | ⟨c17, he⟩
 ·
  refine w_then rfl c17 ?_
  refine w_seq ?_
  refine w_region rfl ?_
  refine w_d rfl (d_build (cs' := [.bool false, .slice none 0 0]) Tryd.underlying30 zr30 rfl (by kernel_rfl) (parts := []) rfl .nil) ?_
  refine w_d rfl (d_iface (v := .int .i64 3) Tryd.underlying89 rfl rfl) ?_
  refine w_a0 rfl (o_store (v := .agg ⟨[.bool false, .slice none 0 0]⟩) sz30 rfl rfl rfl rfl (one_cons rfl (one_cons rfl one_nil)) .here (.here (.here .done))) ?_
  rintro _ _ _ ⟨rfl, rfl, rfl⟩
  refine w_d rfl (d_assign (v := errV 89 (some 3)) rfl) ?_
  refine w_done ?_
  obtain rfl := Option.some.inj he
  refine w_return fn_43 rs_43 (.box (v := .agg ⟨[.bool false, .slice none 0 0]⟩) rfl ty30 rfl rfl .here rfl (.tmp (v := errV 89 (some 3)) rfl .nil)) ?_
  exact ⟨⟨[_], rfl⟩, hle, ⟨.slice none 0 0, rfl, (ro_nil _ _)⟩⟩
 ·
  refine w_else rfl (Bool.eq_false_iff.2 c17) ?_
  refine w_skip ?_
  refine w_seq ?_
  refine w_region rfl ?_
  refine w_d rfl (d_assign (v := .slice none 0 0) rfl) ?_
  refine w_done ?_
  refine w_seq ?_
  refine w_seq ?_
  refine w_region rfl ?_
  refine w_d rfl (d_move (v := .string t) rfl) ?_
  refine w_a rfl (o_bytes Tryd.underlying9 Tryd.underlying22 Tryd.underlying5 rfl) ?_
  rintro v18 H19 _ ⟨rfl, e20, h21⟩
  refine w_d rfl (d_len Tryd.underlying22 rfl h21.src) ?_
  refine w_d rfl (d_move (v := .int .i64 0) rfl) ?_
  refine w_done ?_
  refine w_block ?_
  refine w_loop ?_
  refine w_sl 2 (.pointer (some ⟨b_t2, 0, none⟩)) rfl ?_
  refine w_sl 3 (errV 89 none) rfl ?_
  refine w_sl 5 (.bool neg) rfl ?_
  refine w_sl 6 (.slice none 0 0) rfl ?_
  refine w_sl 34 (v18) rfl ?_
  refine w_sl 35 (.int .i64 ((bytesOf t).length : Int)) rfl ?_
  refine w_sl 36 (.int .i64 0) rfl ?_
  exact hh.l0 (hle.trans e20) he (ro_nil _ _) h21
set_option maxRecDepth 100000 in
set_option maxHeartbeats 2000000 in
theorem wide_Parse.b0_ok {k : Nat} {h : wide_Parse.Hs} (hh : wide_Parse.OK h) {H0 H : Hp} {L : Items} {r : wide_Int × (Option Int)} {jk_ : Nat → Value} {neg : Bool} {w : List Int} {t34 : List Int} {t35 : Int} {t36 : Int} {v_w : Value} {v_t34 : Value} {b_t2 : Nat} (hle : H0.le H) (he : wide_Parse.b0 k h neg w t34 t35 t36 = some r) (h_w : Ro (Kd.int .u32) H v_w w) (h_t34 : Ro (Kd.int .u8) H v_t34 t34) : Wp Tryd.prog 43 56 wide_Parse.Kl0 (upd (upd (upd (upd (upd (upd (upd jk_ 2 (.pointer (some ⟨b_t2, 0, none⟩))) 3 (errV 89 none)) 5 (.bool neg)) 6 (v_w)) 34 (v_t34)) 35 (.int .i64 t35)) 36 (.int .i64 t36)) H (some (b_t2, .cells ⟨[.bool false, .slice none 0 0]⟩ 30 (0, 0)) :: L) (wide_Parse.R H0 L r) := by
 unfold wide_Parse.b0 at he
 unfold wide_Parse.Kl0
 refine w_seq ?_
 refine w_region rfl ?_
 refine w_d rfl (d_lss rfl rfl) ?_
 refine w_done ?_
 refine w_seq ?_
 rcases its he with ⟨c22, he⟩ | ⟨c22, he⟩
 ·
  refine w_then rfl (decide_eq_true c22) ?_
  refine w_skip ?_
  refine w_seq ?_
  refine w_block ?_
  refine w_seq ?_
  refine w_region rfl ?_
  obtain ⟨c23, he⟩ := rq he
  refine w_d rfl (d_index (sz := 1) Tryd.underlying22 sz5 rfl h_t34.src rfl c23) ?_
  refine w_d rfl (d_ldint ty5 rfl h_t34.src c23) ?_
  refine w_d rfl (d_assign (v := .int .u8 (rd t34 t36)) rfl) ?_
  refine w_done ?_
  refine w_region rfl ?_
  refine w_d rfl (d_move (v := v_w) rfl) ?_
  refine w_a rfl (o_buildSlice' (kd := (Kd.int .u32)) (css := [[.int .u32 10]]) (xs := [10]) (parts := [(0, .int .u32 10)]) Tryd.underlying28 ti93 rfl ⟨_, _, rfl, rfl, rfl⟩ ⟨rfl, trivial⟩ rfl (by decide)) ?_
  rintro v24 _ _ ⟨i25, rfl, rfl, h26⟩
  obtain ⟨y27, hy28, he⟩ := Option.bind_eq_some_iff.1 he
  refine w_a rfl (o_call co49 (vs := [v_w, v24]) rfl (wide_times.calls k hy28 h_w.src (h26.src .here))) ?_
  rintro v31 H29 _ ⟨rfl, e30, h32⟩
  refine w_d rfl (d_move (v := .int .u8 (rd t34 t36)) rfl) ?_
  refine w_d rfl (d_sub (c := ((rd t34 t36) - 48) % 256) rfl rfl rfl) ?_
  refine w_d rfl (d_conv (c := (((rd t34 t36) - 48) % 256) % 4294967296) Tryd.underlying5 Tryd.underlying93 rfl rfl) ?_
  refine w_a rfl (o_buildSlice' (kd := (Kd.int .u32)) (css := [[.int .u32 ((((rd t34 t36) - 48) % 256) % 4294967296)]]) (xs := [(((rd t34 t36) - 48) % 256) % 4294967296]) (parts := [(0, .int .u32 ((((rd t34 t36) - 48) % 256) % 4294967296))]) Tryd.underlying28 ti93 rfl ⟨_, _, rfl, rfl, rfl⟩ ⟨rfl, trivial⟩ rfl (by decide)) ?_
  rintro v33 _ _ ⟨i34, rfl, rfl, h35⟩
  refine w_freeze h35 .here ?_
  intro H36 e37 h38
  obtain ⟨y39, hy40, he⟩ := Option.bind_eq_some_iff.1 he
  refine w_a rfl (o_call co64 (vs := [v33]) rfl (wide_trim.calls k hy40 h38)) ?_
  rintro v43 H41 _ ⟨rfl, e42, h44⟩
  obtain ⟨y45, hy46, he⟩ := Option.bind_eq_some_iff.1 he
  refine w_a rfl (o_call co46 (vs := [v31, v43]) rfl (wide_plus.calls k hy46 ((h32.mono (e37.trans e42)).src) h44.src)) ?_
  rintro v49 H47 _ ⟨rfl, e48, h50⟩
  obtain ⟨y51, hy52, he⟩ := Option.bind_eq_some_iff.1 he
  refine w_a rfl (o_call co64 (vs := [v49]) rfl (wide_trim.calls k hy52 h50)) ?_
  rintro v55 H53 _ ⟨rfl, e54, h56⟩
  refine w_d rfl (d_assign (v := v55) rfl) ?_
  refine w_done ?_
  refine w_inBlock ?_
  refine w_region rfl ?_
  refine w_d rfl (d_add (c := w64 (t36 + 1)) rfl rfl rfl) ?_
  refine w_d rfl (d_move (v := .int .i64 (w64 (t36 + 1))) rfl) ?_
  refine w_done ?_
  refine w_inLoop ?_
  refine w_del (.there .here) ?_
  refine w_del .here ?_
  refine w_sl 2 (.pointer (some ⟨b_t2, 0, none⟩)) rfl ?_
  refine w_sl 3 (errV 89 none) rfl ?_
  refine w_sl 5 (.bool neg) rfl ?_
  refine w_sl 6 (v55) rfl ?_
  refine w_sl 34 (v_t34) rfl ?_
  refine w_sl 35 (.int .i64 t35) rfl ?_
  refine w_sl 36 (.int .i64 (w64 (t36 + 1))) rfl ?_
  exact hh.l0 (hle.trans ((((e30.trans e37).trans e42).trans e48).trans e54)) he h56 (h_t34.mono ((((e30.trans e37).trans e42).trans e48).trans e54))
 ·
  refine w_else rfl (decide_eq_false c22) ?_
  refine w_exit rfl ?_
  refine w_seq ?_
  refine w_region rfl ?_
  refine w_d rfl (d_move (v := .bool neg) rfl) ?_
  refine w_d rfl (d_move (v := v_w) rfl) ?_
  obtain ⟨y57, hy58, he⟩ := Option.bind_eq_some_iff.1 he
  refine w_a rfl (o_call co45 (vs := [.bool neg, v_w]) rfl (wide_made.calls k hy58 h_w)) ?_
  rintro _ H59 _ ⟨rfl, e60, ⟨v61, rfl, h62⟩⟩
  refine w_d rfl (d_ext (vs := [.agg ⟨[.bool y57.1.f_neg, v61]⟩, errV 89 y57.2]) rfl rfl) ?_
  refine w_d rfl (d_ext (vs := [.agg ⟨[.bool y57.1.f_neg, v61]⟩, errV 89 y57.2]) rfl rfl) ?_
  refine w_a0 rfl (o_store (v := .agg ⟨[.bool y57.1.f_neg, v61]⟩) sz30 rfl rfl rfl rfl (one_cons rfl (one_cons (h62.one) one_nil)) .here (.here (.here .done))) ?_
  rintro _ _ _ ⟨rfl, rfl, rfl⟩
  refine w_d rfl (d_assign (v := errV 89 y57.2) rfl) ?_
  refine w_done ?_
  obtain rfl := Option.some.inj he
  refine w_return fn_43 rs_43 (.box (v := .agg ⟨[.bool y57.1.f_neg, v61]⟩) rfl ty30 rfl rfl .here rfl (.tmp (v := errV 89 y57.2) rfl .nil)) ?_
  exact ⟨⟨[_], rfl⟩, hle.trans e60, ⟨v61, rfl, h62⟩⟩
theorem wide_Parse.ok : ∀ k, wide_Parse.OK (wide_Parse.hs k)
 | 0 => ⟨(by intros; exact nomatch (show none = some _ from by assumption))⟩
 | k + 1 => ⟨wide_Parse.b0_ok (k := k) (wide_Parse.ok k)⟩
set_option maxRecDepth 100000 in
set_option maxHeartbeats 2000000 in
theorem wide_Parse.calls (k : Nat) {H : Hp} {L : Items} {s : ByteArray} {r : wide_Int × (Option Int)} (he : wide_Parse.f k s = some r) : Ct Tryd.prog 43 ⟨[.string s]⟩ H L (fun v H' L' => L = L' ∧ H.le H' ∧ wide_Parse.out r H' v) := by
 refine ct_out (O := wide_Parse.out r) ?_
 have hle : H.le H := .refl _
 have hh := wide_Parse.ok k
 unfold wide_Parse.f at he
 refine ct_enter (args := [.string s]) fn_43 rfl nt_43 rfl ?_
 refine w_seq ?_
 refine w_region rfl ?_
 refine w_a rfl (o_alloc zr30 rfl) ?_
 rintro _ _ _ ⟨b1, rfl, rfl, rfl⟩
 refine w_d rfl (d_assign (v := errV 89 none) rfl) ?_
 refine w_done ?_
 refine w_seq ?_
 refine w_region rfl ?_
 refine w_d rfl (d_move (v := .string s) rfl) ?_
 refine w_d rfl (d_assign (v := .string s) rfl) ?_
 refine w_done ?_
 refine w_seq ?_
 refine w_region rfl ?_
 refine w_d rfl (d_move (v := .string s) rfl) ?_
 refine w_d rfl (d_lens Tryd.underlying9 rfl) ?_
 refine w_d rfl (d_gtr rfl rfl) ?_
 refine w_d rfl (d_move (v := .bool (decide (1 < (s.size : Int)))) rfl) ?_
 refine w_g (g := decide (1 < (s.size : Int))) rfl rfl rfl wn_t (fun g2 => d_move (v := .string s) rfl) ?_
 obtain ⟨c4, he⟩ := rq he
 refine w_g (g := decide (1 < (s.size : Int))) rfl rfl rfl wn_t (fun g3 => d_bt Tryd.underlying9 (cvt g3) rfl (c4 g3)) ?_
 refine w_g (g := decide (1 < (s.size : Int))) rfl rfl rfl wn_t (fun g5 => d_eql (cvt g5) rfl) ?_
 refine w_d rfl (d_and' (b := (decide (1 < (s.size : Int)))) (p := (decide ((bt s 0) = 45))) rfl rfl rfl) ?_
 refine w_d rfl (d_assign (v := .bool ((decide (1 < (s.size : Int))) && (decide ((bt s 0) = 45)))) rfl) ?_
 refine w_done ?_
 refine w_seq ?_
 refine w_seq ?_
 refine w_region rfl ?_
 refine w_d rfl (d_move (v := .bool ((decide (1 < (s.size : Int))) && (decide ((bt s 0) = 45)))) rfl) ?_
 refine w_done ?_
 rcases its he with ⟨c6, he⟩ | ⟨c6, he⟩
 ·
  refine w_then rfl c6 ?_
  refine w_region rfl ?_
  refine w_d rfl (d_move (v := .string s) rfl) ?_
  obtain ⟨c7, he⟩ := rq he
  refine w_d rfl (d_scut Tryd.underlying9 rfl (.inr ⟨_, _, rfl, rfl⟩) (.inl ⟨rfl, rfl⟩) c7) ?_
  refine w_d rfl (d_assign (v := .string (scut s 1 (s.size : Int))) rfl) ?_
  refine w_done ?_
  refine w_sl 2 (.pointer (some ⟨b1, 0, none⟩)) rfl ?_
  refine w_sl 3 (errV 89 none) rfl ?_
  refine w_sl 4 (.string (scut s 1 (s.size : Int))) rfl ?_
  refine w_sl 5 (.bool ((decide (1 < (s.size : Int))) && (decide ((bt s 0) = 45)))) rfl ?_
  exact wide_Parse.j1_ok (k := k) hh hle he
 ·
  refine w_else rfl (Bool.eq_false_iff.2 c6) ?_
  refine w_skip ?_
  refine w_sl 2 (.pointer (some ⟨b1, 0, none⟩)) rfl ?_
  refine w_sl 3 (errV 89 none) rfl ?_
  refine w_sl 4 (.string s) rfl ?_
  refine w_sl 5 (.bool ((decide (1 < (s.size : Int))) && (decide ((bt s 0) = 45)))) rfl ?_
  exact wide_Parse.j1_ok (k := k) hh hle he
/-! ### radome/radomelaw01.giveInt -/
noncomputable def radomelaw01_giveInt.C : Code := (Tryd.f8.body).getD .skip
def radomelaw01_giveInt.out (r : wide_Int) (H : Hp) (v : Value) : Prop := ∃ v0, v = .agg ⟨[.bool r.f_neg, v0]⟩ ∧ Ro (Kd.int .u32) H v0 r.f_w
theorem radomelaw01_giveInt.out_mono (r : wide_Int) {H H' : Hp} {v : Value} (hle : H.le H') (h : radomelaw01_giveInt.out r H v) : radomelaw01_giveInt.out r H' v := by
 obtain ⟨v0, rfl, h0⟩ := h; exact ⟨v0, rfl, h0.mono hle⟩
abbrev radomelaw01_giveInt.R (H0 : Hp) (L : Items) (r : wide_Int) : Value → Hp → Items → Prop := fun v H' L' => (∃ p, L' = p ++ L) ∧ H0.le H' ∧ radomelaw01_giveInt.out r H' v
noncomputable def radomelaw01_giveInt.f (k : Nat) (a : radomeref01_Num) : Option wide_Int := (radomeref01_Text.f k (⟨a.f_Neg, a.f_D⟩ : radomeref01_Num)).bind fun y3 => (wide_Parse.f k y3).bind fun y7 => some ((⟨y7.1.f_neg, y7.1.f_w⟩ : wide_Int))
theorem radomelaw01_giveInt.mono : ∀ k y0, LeO (radomelaw01_giveInt.f k y0) (radomelaw01_giveInt.f (k + 1) y0) := fun k _ => by unfold radomelaw01_giveInt.f; exact (LeO.bind (radomeref01_Text.mono k _) fun _ => LeO.bind (wide_Parse.mono k _) fun _ => LeO.refl _)
set_option maxRecDepth 100000 in
set_option maxHeartbeats 2000000 in
theorem radomelaw01_giveInt.calls (k : Nat) {H : Hp} {L : Items} {a : radomeref01_Num} {v0_a : Value} {r : wide_Int} (he : radomelaw01_giveInt.f k a = some r) (h0_a : Ro (Kd.int .i64) H v0_a a.f_D) : Ct Tryd.prog 8 ⟨[.agg ⟨[.bool a.f_Neg, v0_a]⟩]⟩ H L (fun v H' L' => L = L' ∧ H.le H' ∧ radomelaw01_giveInt.out r H' v) := by
 refine ct_out (O := radomelaw01_giveInt.out r) ?_
 have hle : H.le H := .refl _
 unfold radomelaw01_giveInt.f at he
 refine ct_enter (args := [.agg ⟨[.bool a.f_Neg, v0_a]⟩]) fn_8 rfl nt_8 rfl ?_
 refine w_seq ?_
 refine w_region rfl ?_
 refine w_a rfl (o_box (v := .agg ⟨[.bool a.f_Neg, v0_a]⟩) rfl rfl) ?_
 rintro _ _ _ ⟨b1, rfl, rfl, rfl⟩
 refine w_a rfl (o_alloc zr30 rfl) ?_
 rintro _ _ _ ⟨b2, rfl, rfl, rfl⟩
 refine w_done ?_
 refine w_seq ?_
 refine w_region rfl ?_
 refine w_d rfl (d_loado (v := .agg ⟨[.bool a.f_Neg, v0_a]⟩) ty26 rfl (.there .here) rfl rfl rfl rfl) ?_
 obtain ⟨y3, hy4, he⟩ := Option.bind_eq_some_iff.1 he
 refine w_d rfl (call_d (o_call co44 (vs := [.agg ⟨[.bool a.f_Neg, v0_a]⟩]) rfl (radomeref01_Text.calls k (a := (⟨a.f_Neg, a.f_D⟩ : radomeref01_Num)) hy4 h0_a))) ?_
 obtain ⟨y7, hy8, he⟩ := Option.bind_eq_some_iff.1 he
 refine w_a rfl (o_call co43 (vs := [.string y3]) rfl (wide_Parse.calls k hy8)) ?_
 rintro _ H9 _ ⟨rfl, e10, ⟨v11, rfl, h12⟩⟩
 refine w_d rfl (d_move (v := .tuple ⟨[.agg ⟨[.bool y7.1.f_neg, v11]⟩, errV 89 y7.2]⟩) rfl) ?_
 refine w_d rfl (d_ext (vs := [.agg ⟨[.bool y7.1.f_neg, v11]⟩, errV 89 y7.2]) rfl rfl) ?_
 refine w_d rfl (d_ext (vs := [.agg ⟨[.bool y7.1.f_neg, v11]⟩, errV 89 y7.2]) rfl rfl) ?_
 refine w_a rfl (o_alloc zr30 rfl) ?_
 rintro _ _ _ ⟨b13, rfl, rfl, rfl⟩
 refine w_a0 rfl (o_store (v := .agg ⟨[.bool y7.1.f_neg, v11]⟩) sz30 rfl rfl rfl rfl (one_cons rfl (one_cons (h12.one) one_nil)) .here (.here (.here .done))) ?_
 rintro _ _ _ ⟨rfl, rfl, rfl⟩
 refine w_d rfl (d_assign (v := errV 89 y7.2) rfl) ?_
 refine w_done ?_
 refine w_seq ?_
 refine w_region rfl ?_
 refine w_d rfl (d_loado (v := .agg ⟨[.bool y7.1.f_neg, v11]⟩) ty30 rfl .here rfl rfl rfl rfl) ?_
 refine w_a0 rfl (o_store (v := .agg ⟨[.bool y7.1.f_neg, v11]⟩) sz30 rfl rfl rfl rfl (one_cons rfl (one_cons (h12.one) one_nil)) (.there .here) (.here (.here .done))) ?_
 rintro _ _ _ ⟨rfl, rfl, rfl⟩
 refine w_done ?_
 obtain rfl := Option.some.inj he
 refine w_return fn_8 rs_8 (.box (v := .agg ⟨[.bool y7.1.f_neg, v11]⟩) rfl ty30 rfl rfl (.there .here) rfl .nil) ?_
 exact ⟨⟨[_, _, _], rfl⟩, hle.trans e10, ⟨v11, rfl, h12⟩⟩
/-! ### radome/wide.up -/
noncomputable def wide_up.C : Code := (Tryd.f60.body).getD .skip
abbrev wide_up.out (r : (List Int)) (H : Hp) (v : Value) : Prop := Ro (Kd.int .u32) H v r
abbrev wide_up.R (H0 : Hp) (L : Items) (r : (List Int)) : Value → Hp → Items → Prop := fun v H' L' => (∃ p it, L' = p ++ it :: L ∧ Sl (Kd.int .u32) H' 93 it v r) ∧ H0.le H'
structure wide_up.Hs where
 l0 : Int → (List Int) → Int → (List Int) → Int → Int → Option (List Int)
noncomputable def wide_up.b0 (k : Nat) (h : wide_up.Hs)  (n : Int) (out : List Int) (carry : Int) (t14 : List Int) (t15 : Int) (t16 : Int) : Option (List Int) := if t16 < t15 then (if (0 : Int) ≤ t16 ∧ t16 < (t14.length : Int) then (if 0 ≤ n then (if out.length + 1 ≤ 35184372088704 then (h.l0 n (out ++ [(ior .u64 ((((rd t14 t16) % 18446744073709551616) * 2 ^ shn .u64 n) % 18446744073709551616) ((carry) % 18446744073709551616)) % 4294967296]) (((ior .u64 ((((rd t14 t16) % 18446744073709551616) * 2 ^ shn .u64 n) % 18446744073709551616) ((carry) % 18446744073709551616)) / 4294967296) % 4294967296) t14 t15 (w64 (t16 + 1))) else none) else none) else none) else (if out.length + 1 ≤ 35184372088704 then (some (out ++ [carry])) else none)
noncomputable def wide_up.hs : Nat → wide_up.Hs
 | 0 => ⟨fun _ _ _ _ _ _ => none⟩
 | k + 1 => ⟨fun x0 x1 x2 x3 x4 x5 => wide_up.b0 k (wide_up.hs k) x0 x1 x2 x3 x4 x5⟩
noncomputable def wide_up.f (k : Nat) (w : List Int) (n : Int) : Option (List Int) := (fun h : wide_up.Hs => if 0 ≤ 0 ∧ 0 ≤ w64 ((w.length : Int) + 1) ∧ w64 ((w.length : Int) + 1) ≤ 70368744177664 then (h.l0 n (List.replicate (0 : Int).toNat (0 : Int)) 0 w (w.length : Int) 0) else none) (wide_up.hs k)
structure wide_up.LE (h h' : wide_up.Hs) : Prop where
 l0 : ∀ y0 y1 y2 y3 y4 y5, LeO (h.l0 y0 y1 y2 y3 y4 y5) (h'.l0 y0 y1 y2 y3 y4 y5)
theorem wide_up.b0_mono {k : Nat} {h h' : wide_up.Hs} (hl : wide_up.LE h h') : ∀ y0 y1 y2 y3 y4 y5, LeO (wide_up.b0 k h y0 y1 y2 y3 y4 y5) (wide_up.b0 (k + 1) h' y0 y1 y2 y3 y4 y5) := fun _ _ _ _ _ _ => (LeO.ite (LeO.ite (LeO.ite (LeO.ite (hl.l0 _ _ _ _ _ _) (LeO.refl _)) (LeO.refl _)) (LeO.refl _)) (LeO.ite (LeO.refl _) (LeO.refl _)))
theorem wide_up.hs_mono : ∀ k, wide_up.LE (wide_up.hs k) (wide_up.hs (k + 1))
 | 0 => ⟨fun _ _ _ _ _ _ => LeO.none _⟩
 | k + 1 => ⟨wide_up.b0_mono (k := k) (wide_up.hs_mono k)⟩
theorem wide_up.mono : ∀ k y0 y1, LeO (wide_up.f k y0 y1) (wide_up.f (k + 1) y0 y1) := fun k _ _ => have hl := wide_up.hs_mono k; by unfold wide_up.f; exact (LeO.ite (hl.l0 _ _ _ _ _ _) (LeO.refl _))
noncomputable def wide_up.Kl0 : List Item := .code (lopB (blkB (seqR (seqL (seqR (seqR (seqR wide_up.C))))))) :: .inLoop (lopB (blkB (seqR (seqL (seqR (seqR (seqR wide_up.C))))))) :: .inBlock 0 :: .code (seqR (seqR (seqR (seqR wide_up.C)))) :: []
structure wide_up.OK (h : wide_up.Hs) : Prop where
 l0 : ∀ {H0 H : Hp} {L : Items} {r : (List Int)} {jk_ : Nat → Value} {n : Int} {out : List Int} {carry : Int} {t14 : List Int} {t15 : Int} {t16 : Int} {v_out : Value} {v_t14 : Value} {i_out : Item'} (_ : H0.le H) (_he : h.l0 n out carry t14 t15 t16 = some r) (_h_out : Sl (Kd.int .u32) H 93 i_out v_out out) (_h_t14 : Src (Kd.int .u32) H L v_t14 t14), Wp Tryd.prog 60 40 wide_up.Kl0 (upd (upd (upd (upd (upd (upd (upd jk_ 1 (.int .i64 n)) 4 (.slice none 0 0)) 5 (v_out)) 6 (.int .u32 carry)) 14 (v_t14)) 15 (.int .i64 t15)) 16 (.int .i64 t16)) H (i_out :: L) (wide_up.R H0 L r)
set_option maxRecDepth 100000 in
set_option maxHeartbeats 2000000 in
theorem wide_up.b0_ok {k : Nat} {h : wide_up.Hs} (hh : wide_up.OK h) {H0 H : Hp} {L : Items} {r : (List Int)} {jk_ : Nat → Value} {n : Int} {out : List Int} {carry : Int} {t14 : List Int} {t15 : Int} {t16 : Int} {v_out : Value} {v_t14 : Value} {i_out : Item'} (hle : H0.le H) (he : wide_up.b0 k h n out carry t14 t15 t16 = some r) (h_out : Sl (Kd.int .u32) H 93 i_out v_out out) (h_t14 : Src (Kd.int .u32) H L v_t14 t14) : Wp Tryd.prog 60 40 wide_up.Kl0 (upd (upd (upd (upd (upd (upd (upd jk_ 1 (.int .i64 n)) 4 (.slice none 0 0)) 5 (v_out)) 6 (.int .u32 carry)) 14 (v_t14)) 15 (.int .i64 t15)) 16 (.int .i64 t16)) H (i_out :: L) (wide_up.R H0 L r) := by
 unfold wide_up.b0 at he
 unfold wide_up.Kl0
 refine w_seq ?_
 refine w_region rfl ?_
 refine w_d rfl (d_lss rfl rfl) ?_
 refine w_done ?_
 refine w_seq ?_
 rcases its he with ⟨c5, he⟩ | ⟨c5, he⟩
 ·
  refine w_then rfl (decide_eq_true c5) ?_
  refine w_skip ?_
  refine w_seq ?_
  refine w_block ?_
  refine w_seq ?_
  refine w_region rfl ?_
  obtain ⟨c6, he⟩ := rq he
  refine w_d rfl (d_index (sz := 1) Tryd.underlying28 sz93 rfl h_t14.th rfl c6) ?_
  refine w_d rfl (d_ldint ty93 rfl h_t14.th c6) ?_
  refine w_d rfl (d_assign (v := .int .u32 (rd t14 t16)) rfl) ?_
  refine w_done ?_
  refine w_seq ?_
  refine w_region rfl ?_
  refine w_d rfl (d_move (v := .int .u32 (rd t14 t16)) rfl) ?_
  refine w_d rfl (d_conv (c := (rd t14 t16) % 18446744073709551616) Tryd.underlying93 Tryd.underlying99 rfl rfl) ?_
  refine w_d rfl (d_move (v := .int .i64 n) rfl) ?_
  obtain ⟨c7, he⟩ := rq he
  refine w_d rfl (d_shl (c := (((rd t14 t16) % 18446744073709551616) * 2 ^ shn .u64 n) % 18446744073709551616) rfl rfl c7 rfl) ?_
  refine w_d rfl (d_move (v := .int .u32 carry) rfl) ?_
  refine w_d rfl (d_conv (c := (carry) % 18446744073709551616) Tryd.underlying93 Tryd.underlying99 rfl rfl) ?_
  refine w_d rfl (d_bor rfl rfl) ?_
  refine w_d rfl (d_assign (v := .int .u64 (ior .u64 ((((rd t14 t16) % 18446744073709551616) * 2 ^ shn .u64 n) % 18446744073709551616) ((carry) % 18446744073709551616))) rfl) ?_
  refine w_done ?_
  refine w_seq ?_
  refine w_region rfl ?_
  refine w_d rfl (d_move (v := v_out) rfl) ?_
  refine w_d rfl (d_move (v := .int .u64 (ior .u64 ((((rd t14 t16) % 18446744073709551616) * 2 ^ shn .u64 n) % 18446744073709551616) ((carry) % 18446744073709551616))) rfl) ?_
  refine w_d rfl (d_conv (c := (ior .u64 ((((rd t14 t16) % 18446744073709551616) * 2 ^ shn .u64 n) % 18446744073709551616) ((carry) % 18446744073709551616)) % 4294967296) Tryd.underlying99 Tryd.underlying93 rfl rfl) ?_
  refine w_a rfl (o_buildSlice' (kd := (Kd.int .u32)) (css := [[.int .u32 ((ior .u64 ((((rd t14 t16) % 18446744073709551616) * 2 ^ shn .u64 n) % 18446744073709551616) ((carry) % 18446744073709551616)) % 4294967296)]]) (xs := [(ior .u64 ((((rd t14 t16) % 18446744073709551616) * 2 ^ shn .u64 n) % 18446744073709551616) ((carry) % 18446744073709551616)) % 4294967296]) (parts := [(0, .int .u32 ((ior .u64 ((((rd t14 t16) % 18446744073709551616) * 2 ^ shn .u64 n) % 18446744073709551616) ((carry) % 18446744073709551616)) % 4294967296))]) Tryd.underlying28 ti93 rfl ⟨_, _, rfl, rfl, rfl⟩ ⟨rfl, trivial⟩ rfl (by decide)) ?_
  rintro v8 _ _ ⟨i9, rfl, rfl, h10⟩
  obtain ⟨c11, he⟩ := rq he
  refine w_a rfl (o_append' (kd := (Kd.int .u32)) (F := fun z_ => i9 :: z_ :: L) Tryd.underlying28 Tryd.underlying28 ti93 rfl (by first | omega | (simp only [List.nil_append, List.length_cons, List.length_nil]; omega)) rfl rfl h_out (h10.src .here) (fun _ => (.there .here))) ?_
  rintro v12 _ _ ⟨i13, rfl, rfl, h14⟩
  refine w_d rfl (d_assign (v := v12) rfl) ?_
  refine w_done ?_
  refine w_region rfl ?_
  refine w_d rfl (d_move (v := .int .u64 (ior .u64 ((((rd t14 t16) % 18446744073709551616) * 2 ^ shn .u64 n) % 18446744073709551616) ((carry) % 18446744073709551616))) rfl) ?_
  refine w_d rfl (d_shr (c := (ior .u64 ((((rd t14 t16) % 18446744073709551616) * 2 ^ shn .u64 n) % 18446744073709551616) ((carry) % 18446744073709551616)) / 4294967296) rfl rfl (by decide) rfl) ?_
  refine w_d rfl (d_conv (c := ((ior .u64 ((((rd t14 t16) % 18446744073709551616) * 2 ^ shn .u64 n) % 18446744073709551616) ((carry) % 18446744073709551616)) / 4294967296) % 4294967296) Tryd.underlying99 Tryd.underlying93 rfl rfl) ?_
  refine w_d rfl (d_assign (v := .int .u32 (((ior .u64 ((((rd t14 t16) % 18446744073709551616) * 2 ^ shn .u64 n) % 18446744073709551616) ((carry) % 18446744073709551616)) / 4294967296) % 4294967296)) rfl) ?_
  refine w_done ?_
  refine w_inBlock ?_
  refine w_region rfl ?_
  refine w_d rfl (d_add (c := w64 (t16 + 1)) rfl rfl rfl) ?_
  refine w_d rfl (d_move (v := .int .i64 (w64 (t16 + 1))) rfl) ?_
  refine w_done ?_
  refine w_inLoop ?_
  refine w_del .here ?_
  refine w_sl 1 (.int .i64 n) rfl ?_
  refine w_sl 4 (.slice none 0 0) rfl ?_
  refine w_sl 5 (v12) rfl ?_
  refine w_sl 6 (.int .u32 (((ior .u64 ((((rd t14 t16) % 18446744073709551616) * 2 ^ shn .u64 n) % 18446744073709551616) ((carry) % 18446744073709551616)) / 4294967296) % 4294967296)) rfl ?_
  refine w_sl 14 (v_t14) rfl ?_
  refine w_sl 15 (.int .i64 t15) rfl ?_
  refine w_sl 16 (.int .i64 (w64 (t16 + 1))) rfl ?_
  exact hh.l0 hle he h14 h_t14
 ·
  refine w_else rfl (decide_eq_false c5) ?_
  refine w_exit rfl ?_
  refine w_seq ?_
  refine w_region rfl ?_
  refine w_d rfl (d_move (v := v_out) rfl) ?_
  refine w_d rfl (d_move (v := .int .u32 carry) rfl) ?_
  refine w_a rfl (o_buildSlice' (kd := (Kd.int .u32)) (css := [[.int .u32 carry]]) (xs := [carry]) (parts := [(0, .int .u32 carry)]) Tryd.underlying28 ti93 rfl ⟨_, _, rfl, rfl, rfl⟩ ⟨rfl, trivial⟩ rfl (by decide)) ?_
  rintro v15 _ _ ⟨i16, rfl, rfl, h17⟩
  obtain ⟨c18, he⟩ := rq he
  refine w_a rfl (o_append' (kd := (Kd.int .u32)) (F := fun z_ => i16 :: z_ :: L) Tryd.underlying28 Tryd.underlying28 ti93 rfl (by first | omega | (simp only [List.nil_append, List.length_cons, List.length_nil]; omega)) rfl rfl h_out (h17.src .here) (fun _ => (.there .here))) ?_
  rintro v19 _ _ ⟨i20, rfl, rfl, h21⟩
  refine w_d rfl (d_assign (v := v19) rfl) ?_
  refine w_done ?_
  obtain rfl := Option.some.inj he
  refine w_del .here ?_
  refine w_return fn_60 rs_60 (.tmp (v := v19) rfl .nil) ?_
  exact ⟨⟨[], _, rfl, h21⟩, hle⟩
theorem wide_up.ok : ∀ k, wide_up.OK (wide_up.hs k)
 | 0 => ⟨(by intros; exact nomatch (show none = some _ from by assumption))⟩
 | k + 1 => ⟨wide_up.b0_ok (k := k) (wide_up.ok k)⟩
set_option maxRecDepth 100000 in
set_option maxHeartbeats 2000000 in
theorem wide_up.calls (k : Nat) {H : Hp} {L : Items} {w : List Int} {n : Int} {v0_w : Value} {r : (List Int)} (he : wide_up.f k w n = some r) (h0_w : Src (Kd.int .u32) H L v0_w w) : Ct Tryd.prog 60 ⟨[v0_w, .int .i64 n]⟩ H L (fun v H' L' => ∃ it, L' = it :: L ∧ H.le H' ∧ Sl (Kd.int .u32) H' 93 it v r) := by
 refine ct_own ?_
 have hle : H.le H := .refl _
 have hh := wide_up.ok k
 unfold wide_up.f at he
 refine ct_enter (args := [v0_w, .int .i64 n]) fn_60 rfl nt_60 rfl ?_
 refine w_seq ?_
 refine w_region rfl ?_
 refine w_d rfl (d_assign (v := .slice none 0 0) rfl) ?_
 refine w_done ?_
 refine w_seq ?_
 refine w_region rfl ?_
 refine w_d rfl (d_move (v := v0_w) rfl) ?_
 refine w_d rfl (d_len Tryd.underlying28 rfl h0_w) ?_
 refine w_d rfl (d_add (c := w64 ((w.length : Int) + 1)) rfl rfl rfl) ?_
 obtain ⟨c1, he⟩ := rq he
 refine w_a rfl (o_make' (kd := (Kd.int .u32)) (z0 := 0) Tryd.underlying28 ti93 (zp93 _) rfl rfl (by omega) (by omega) (by omega)) ?_
 rintro v2 _ _ ⟨i3, rfl, rfl, h4⟩
 refine w_d rfl (d_assign (v := v2) rfl) ?_
 refine w_done ?_
 refine w_seq ?_
 refine w_region rfl ?_
 refine w_d rfl (d_assign (v := .int .u32 0) rfl) ?_
 refine w_done ?_
 refine w_seq ?_
 refine w_seq ?_
 refine w_region rfl ?_
 refine w_d rfl (d_move (v := v0_w) rfl) ?_
 refine w_d rfl (d_len Tryd.underlying28 rfl h0_w.th) ?_
 refine w_d rfl (d_move (v := .int .i64 0) rfl) ?_
 refine w_done ?_
 refine w_block ?_
 refine w_loop ?_
 refine w_sl 1 (.int .i64 n) rfl ?_
 refine w_sl 4 (.slice none 0 0) rfl ?_
 refine w_sl 5 (v2) rfl ?_
 refine w_sl 6 (.int .u32 0) rfl ?_
 refine w_sl 14 (v0_w) rfl ?_
 refine w_sl 15 (.int .i64 (w.length : Int)) rfl ?_
 refine w_sl 16 (.int .i64 0) rfl ?_
 exact hh.l0 hle he h4 h0_w
theorem wide_up.callsR (k : Nat) {H : Hp} {L : Items} {w : List Int} {n : Int} {v0_w : Value} {r : (List Int)} (he : wide_up.f k w n = some r) (h0_w : Src (Kd.int .u32) H L v0_w w) : Ct Tryd.prog 60 ⟨[v0_w, .int .i64 n]⟩ H L (fun v H' L' => L = L' ∧ H.le H' ∧ wide_up.out r H' v) := ct_ro (wide_up.calls k he h0_w)
/-! ### (radome/wide.Int).Move$1 -/
noncomputable def wide_Int_Move_1.C : Code := (Tryd.f62.body).getD .skip
def wide_Int_Move_1.out (r : Bool) (H : Hp) (v : Value) : Prop := v = .bool r
abbrev wide_Int_Move_1.R (H0 : Hp) (L : Items) (r : Bool) : Value → Hp → Items → Prop := fun v H' L' => (∃ p, L' = p ++ L) ∧ H0.le H' ∧ wide_Int_Move_1.out r H' v
noncomputable def wide_Int_Move_1.f (k : Nat) (x : Int) : Option Bool := some (!decide (x = 0))
theorem wide_Int_Move_1.mono : ∀ k y0, LeO (wide_Int_Move_1.f k y0) (wide_Int_Move_1.f (k + 1) y0) := fun k _ => by unfold wide_Int_Move_1.f; exact (LeO.refl _)
set_option maxRecDepth 100000 in
set_option maxHeartbeats 2000000 in
theorem wide_Int_Move_1.calls (k : Nat) {H : Hp} {L : Items} {x : Int} {r : Bool} (he : wide_Int_Move_1.f k x = some r) : Ct Tryd.prog 62 ⟨[.int .u32 x]⟩ H L (fun v H' L' => L = L' ∧ H = H' ∧ v = .bool r) := by
 refine ct_outs (O := wide_Int_Move_1.out r) (fun _ _ h => h) ?_
 have hle : H.le H := .refl _
 unfold wide_Int_Move_1.f at he
 refine ct_enter (args := [.int .u32 x]) fn_62 rfl nt_62 rfl ?_
 refine w_seq ?_
 refine w_region rfl ?_
 refine w_d rfl (d_assign (v := .bool false) rfl) ?_
 refine w_done ?_
 refine w_seq ?_
 refine w_region rfl ?_
 refine w_d rfl (d_move (v := .int .u32 x) rfl) ?_
 refine w_d rfl (d_neq rfl rfl) ?_
 refine w_d rfl (d_assign (v := .bool (!decide (x = 0))) rfl) ?_
 refine w_done ?_
 obtain rfl := Option.some.inj he
 refine w_return fn_62 rs_62 (.tmp (v := .bool (!decide (x = 0))) rfl .nil) ?_
 exact ⟨⟨[], rfl⟩, hle, rfl⟩
/-! ### slices.IndexFunc[[]uint32,uint32] -/
noncomputable def slices_IndexFunc_uint32_uint32_wide_Int_Move_1.C : Code := (Tryd.f87.body).getD .skip
def slices_IndexFunc_uint32_uint32_wide_Int_Move_1.out (r : Int) (H : Hp) (v : Value) : Prop := v = .int .i64 r
abbrev slices_IndexFunc_uint32_uint32_wide_Int_Move_1.R (H0 : Hp) (L : Items) (r : Int) : Value → Hp → Items → Prop := fun v H' L' => (∃ p, L' = p ++ L) ∧ H0.le H' ∧ slices_IndexFunc_uint32_uint32_wide_Int_Move_1.out r H' v
structure slices_IndexFunc_uint32_uint32_wide_Int_Move_1.Hs where
 l0 : (List Int) → Int → Int → Int → Option Int
noncomputable def slices_IndexFunc_uint32_uint32_wide_Int_Move_1.b0 (k : Nat) (h : slices_IndexFunc_uint32_uint32_wide_Int_Move_1.Hs)  (s : List Int) (t4 : Int) (t7 : Int) (t8 : Int) : Option Int := if t8 < t7 then (if (0 : Int) ≤ t8 ∧ t8 < (s.length : Int) then ((wide_Int_Move_1.f k (rd s t8)).bind fun y3 => if y3 = true then (some (t8)) else (h.l0 s t4 t7 (w64 (t8 + 1)))) else none) else (some ((-1)))
noncomputable def slices_IndexFunc_uint32_uint32_wide_Int_Move_1.hs : Nat → slices_IndexFunc_uint32_uint32_wide_Int_Move_1.Hs
 | 0 => ⟨fun _ _ _ _ => none⟩
 | k + 1 => ⟨fun x0 x1 x2 x3 => slices_IndexFunc_uint32_uint32_wide_Int_Move_1.b0 k (slices_IndexFunc_uint32_uint32_wide_Int_Move_1.hs k) x0 x1 x2 x3⟩
noncomputable def slices_IndexFunc_uint32_uint32_wide_Int_Move_1.f (k : Nat) (s : List Int) : Option Int := (fun h : slices_IndexFunc_uint32_uint32_wide_Int_Move_1.Hs => h.l0 s 0 (s.length : Int) 0) (slices_IndexFunc_uint32_uint32_wide_Int_Move_1.hs k)
structure slices_IndexFunc_uint32_uint32_wide_Int_Move_1.LE (h h' : slices_IndexFunc_uint32_uint32_wide_Int_Move_1.Hs) : Prop where
 l0 : ∀ y0 y1 y2 y3, LeO (h.l0 y0 y1 y2 y3) (h'.l0 y0 y1 y2 y3)
theorem slices_IndexFunc_uint32_uint32_wide_Int_Move_1.b0_mono {k : Nat} {h h' : slices_IndexFunc_uint32_uint32_wide_Int_Move_1.Hs} (hl : slices_IndexFunc_uint32_uint32_wide_Int_Move_1.LE h h') : ∀ y0 y1 y2 y3, LeO (slices_IndexFunc_uint32_uint32_wide_Int_Move_1.b0 k h y0 y1 y2 y3) (slices_IndexFunc_uint32_uint32_wide_Int_Move_1.b0 (k + 1) h' y0 y1 y2 y3) := fun _ _ _ _ => (LeO.ite (LeO.ite (LeO.bind (wide_Int_Move_1.mono k _) fun _ => LeO.ite (LeO.refl _) (hl.l0 _ _ _ _)) (LeO.refl _)) (LeO.refl _))
theorem slices_IndexFunc_uint32_uint32_wide_Int_Move_1.hs_mono : ∀ k, slices_IndexFunc_uint32_uint32_wide_Int_Move_1.LE (slices_IndexFunc_uint32_uint32_wide_Int_Move_1.hs k) (slices_IndexFunc_uint32_uint32_wide_Int_Move_1.hs (k + 1))
 | 0 => ⟨fun _ _ _ _ => LeO.none _⟩
 | k + 1 => ⟨slices_IndexFunc_uint32_uint32_wide_Int_Move_1.b0_mono (k := k) (slices_IndexFunc_uint32_uint32_wide_Int_Move_1.hs_mono k)⟩
theorem slices_IndexFunc_uint32_uint32_wide_Int_Move_1.mono : ∀ k y0, LeO (slices_IndexFunc_uint32_uint32_wide_Int_Move_1.f k y0) (slices_IndexFunc_uint32_uint32_wide_Int_Move_1.f (k + 1) y0) := fun k _ => have hl := slices_IndexFunc_uint32_uint32_wide_Int_Move_1.hs_mono k; by unfold slices_IndexFunc_uint32_uint32_wide_Int_Move_1.f; exact (hl.l0 _ _ _ _)
noncomputable def slices_IndexFunc_uint32_uint32_wide_Int_Move_1.Kl0 : List Item := .code (lopB (blkB (seqR (seqL (seqR slices_IndexFunc_uint32_uint32_wide_Int_Move_1.C))))) :: .inLoop (lopB (blkB (seqR (seqL (seqR slices_IndexFunc_uint32_uint32_wide_Int_Move_1.C))))) :: .inBlock 0 :: .code (seqR (seqR slices_IndexFunc_uint32_uint32_wide_Int_Move_1.C)) :: []
structure slices_IndexFunc_uint32_uint32_wide_Int_Move_1.OK (h : slices_IndexFunc_uint32_uint32_wide_Int_Move_1.Hs) : Prop where
 l0 : ∀ {H0 H : Hp} {L : Items} {r : Int} {jk_ : Nat → Value} {s : List Int} {t4 : Int} {t7 : Int} {t8 : Int} {v_s : Value} (_ : H0.le H) (_he : h.l0 s t4 t7 t8 = some r) (_h_s : Src (Kd.int .u32) H L v_s s), Wp Tryd.prog 87 19 slices_IndexFunc_uint32_uint32_wide_Int_Move_1.Kl0 (upd (upd (upd (upd (upd jk_ 0 (v_s)) 1 (.func (.func 62) #[] #[])) 4 (.int .i64 t4)) 7 (.int .i64 t7)) 8 (.int .i64 t8)) H (L) (slices_IndexFunc_uint32_uint32_wide_Int_Move_1.R H0 L r)
set_option maxRecDepth 100000 in
set_option maxHeartbeats 2000000 in
theorem slices_IndexFunc_uint32_uint32_wide_Int_Move_1.b0_ok {k : Nat} {h : slices_IndexFunc_uint32_uint32_wide_Int_Move_1.Hs} (hh : slices_IndexFunc_uint32_uint32_wide_Int_Move_1.OK h) {H0 H : Hp} {L : Items} {r : Int} {jk_ : Nat → Value} {s : List Int} {t4 : Int} {t7 : Int} {t8 : Int} {v_s : Value} (hle : H0.le H) (he : slices_IndexFunc_uint32_uint32_wide_Int_Move_1.b0 k h s t4 t7 t8 = some r) (h_s : Src (Kd.int .u32) H L v_s s) : Wp Tryd.prog 87 19 slices_IndexFunc_uint32_uint32_wide_Int_Move_1.Kl0 (upd (upd (upd (upd (upd jk_ 0 (v_s)) 1 (.func (.func 62) #[] #[])) 4 (.int .i64 t4)) 7 (.int .i64 t7)) 8 (.int .i64 t8)) H (L) (slices_IndexFunc_uint32_uint32_wide_Int_Move_1.R H0 L r) := by
 unfold slices_IndexFunc_uint32_uint32_wide_Int_Move_1.b0 at he
 unfold slices_IndexFunc_uint32_uint32_wide_Int_Move_1.Kl0
 refine w_seq ?_
 refine w_region rfl ?_
 refine w_d rfl (d_lss rfl rfl) ?_
 refine w_done ?_
 refine w_seq ?_
 rcases its he with ⟨c1, he⟩ | ⟨c1, he⟩
 ·
  refine w_then rfl (decide_eq_true c1) ?_
  refine w_skip ?_
  refine w_seq ?_
  refine w_block ?_
  refine w_seq ?_
  refine w_region rfl ?_
  refine w_d rfl (d_move (v := .int .i64 t8) rfl) ?_
  refine w_d rfl (d_assign (v := .int .i64 t8) rfl) ?_
  refine w_done ?_
  refine w_seq ?_
  refine w_region rfl ?_
  refine w_d rfl (d_move (v := .func (.func 62) #[] #[]) rfl) ?_
  refine w_d rfl (d_move (v := v_s) rfl) ?_
  refine w_d rfl (d_move (v := .int .i64 t8) rfl) ?_
  obtain ⟨c2, he⟩ := rq he
  refine w_d rfl (d_index (sz := 1) Tryd.underlying28 sz93 rfl h_s rfl c2) ?_
  refine w_d rfl (d_ldint ty93 rfl h_s c2) ?_
  obtain ⟨y3, hy4, he⟩ := Option.bind_eq_some_iff.1 he
  refine w_d rfl (call_d (o_callv rfl co62 (vs := [.int .u32 (rd s t8)]) rfl (wide_Int_Move_1.calls k hy4))) ?_
  refine w_done ?_
  rcases its he with ⟨c7, he⟩ | ⟨c7, he⟩
  ·
   refine w_then rfl c7 ?_
   refine w_seq ?_
   refine w_region rfl ?_
   refine w_d rfl (d_move (v := .int .i64 t8) rfl) ?_
   refine w_d rfl (d_assign (v := .int .i64 t8) rfl) ?_
   refine w_done ?_
   obtain rfl := Option.some.inj he
   refine w_return fn_87 rs_87 (.tmp (v := .int .i64 t8) rfl .nil) ?_
   exact ⟨⟨[], rfl⟩, hle, rfl⟩
  ·
   refine w_else rfl (Bool.eq_false_iff.2 c7) ?_
   refine w_skip ?_
   refine w_inBlock ?_
   refine w_region rfl ?_
   refine w_d rfl (d_add (c := w64 (t8 + 1)) rfl rfl rfl) ?_
   refine w_d rfl (d_move (v := .int .i64 (w64 (t8 + 1))) rfl) ?_
   refine w_done ?_
   refine w_inLoop ?_
   refine w_sl 0 (v_s) rfl ?_
   refine w_sl 1 (.func (.func 62) #[] #[]) rfl ?_
   refine w_sl 4 (.int .i64 t4) rfl ?_
   refine w_sl 7 (.int .i64 t7) rfl ?_
   refine w_sl 8 (.int .i64 (w64 (t8 + 1))) rfl ?_
   exact hh.l0 hle he h_s
 ·
  refine w_else rfl (decide_eq_false c1) ?_
  refine w_exit rfl ?_
  refine w_seq ?_
  refine w_region rfl ?_
  refine w_d rfl (d_assign (v := .int .i64 (-1)) rfl) ?_
  refine w_done ?_
  obtain rfl := Option.some.inj he
  refine w_return fn_87 rs_87 (.tmp (v := .int .i64 (-1)) rfl .nil) ?_
  exact ⟨⟨[], rfl⟩, hle, rfl⟩
theorem slices_IndexFunc_uint32_uint32_wide_Int_Move_1.ok : ∀ k, slices_IndexFunc_uint32_uint32_wide_Int_Move_1.OK (slices_IndexFunc_uint32_uint32_wide_Int_Move_1.hs k)
 | 0 => ⟨(by intros; exact nomatch (show none = some _ from by assumption))⟩
 | k + 1 => ⟨slices_IndexFunc_uint32_uint32_wide_Int_Move_1.b0_ok (k := k) (slices_IndexFunc_uint32_uint32_wide_Int_Move_1.ok k)⟩
set_option maxRecDepth 100000 in
set_option maxHeartbeats 2000000 in
theorem slices_IndexFunc_uint32_uint32_wide_Int_Move_1.calls (k : Nat) {H : Hp} {L : Items} {s : List Int} {v0_s : Value} {r : Int} (he : slices_IndexFunc_uint32_uint32_wide_Int_Move_1.f k s = some r) (h0_s : Src (Kd.int .u32) H L v0_s s) : Ct Tryd.prog 87 ⟨[v0_s, .func (.func 62) #[] #[]]⟩ H L (fun v H' L' => L = L' ∧ H = H' ∧ v = .int .i64 r) := by
 refine ct_outs (O := slices_IndexFunc_uint32_uint32_wide_Int_Move_1.out r) (fun _ _ h => h) ?_
 have hle : H.le H := .refl _
 have hh := slices_IndexFunc_uint32_uint32_wide_Int_Move_1.ok k
 unfold slices_IndexFunc_uint32_uint32_wide_Int_Move_1.f at he
 refine ct_enter (args := [v0_s, .func (.func 62) #[] #[]]) fn_87 rfl nt_87 rfl ?_
 refine w_seq ?_
 refine w_region rfl ?_
 refine w_d rfl (d_assign (v := .int .i64 0) rfl) ?_
 refine w_done ?_
 refine w_seq ?_
 refine w_seq ?_
 refine w_region rfl ?_
 refine w_d rfl (d_move (v := v0_s) rfl) ?_
 refine w_d rfl (d_len Tryd.underlying28 rfl h0_s) ?_
 refine w_d rfl (d_move (v := .int .i64 0) rfl) ?_
 refine w_done ?_
 refine w_block ?_
 refine w_loop ?_
 refine w_sl 0 (v0_s) rfl ?_
 refine w_sl 1 (.func (.func 62) #[] #[]) rfl ?_
 refine w_sl 4 (.int .i64 0) rfl ?_
 refine w_sl 7 (.int .i64 (s.length : Int)) rfl ?_
 refine w_sl 8 (.int .i64 0) rfl ?_
 exact hh.l0 hle he h0_s
/-! ### slices.ContainsFunc[[]uint32,uint32] -/
noncomputable def slices_ContainsFunc_uint32_uint32_wide_Int_Move_1.C : Code := (Tryd.f61.body).getD .skip
def slices_ContainsFunc_uint32_uint32_wide_Int_Move_1.out (r : Bool) (H : Hp) (v : Value) : Prop := v = .bool r
abbrev slices_ContainsFunc_uint32_uint32_wide_Int_Move_1.R (H0 : Hp) (L : Items) (r : Bool) : Value → Hp → Items → Prop := fun v H' L' => (∃ p, L' = p ++ L) ∧ H0.le H' ∧ slices_ContainsFunc_uint32_uint32_wide_Int_Move_1.out r H' v
noncomputable def slices_ContainsFunc_uint32_uint32_wide_Int_Move_1.f (k : Nat) (s : List Int) : Option Bool := (slices_IndexFunc_uint32_uint32_wide_Int_Move_1.f k s).bind fun y1 => some (decide (0 ≤ y1))
theorem slices_ContainsFunc_uint32_uint32_wide_Int_Move_1.mono : ∀ k y0, LeO (slices_ContainsFunc_uint32_uint32_wide_Int_Move_1.f k y0) (slices_ContainsFunc_uint32_uint32_wide_Int_Move_1.f (k + 1) y0) := fun k _ => by unfold slices_ContainsFunc_uint32_uint32_wide_Int_Move_1.f; exact (LeO.bind (slices_IndexFunc_uint32_uint32_wide_Int_Move_1.mono k _) fun _ => LeO.refl _)
set_option maxRecDepth 100000 in
set_option maxHeartbeats 2000000 in
theorem slices_ContainsFunc_uint32_uint32_wide_Int_Move_1.calls (k : Nat) {H : Hp} {L : Items} {s : List Int} {v0_s : Value} {r : Bool} (he : slices_ContainsFunc_uint32_uint32_wide_Int_Move_1.f k s = some r) (h0_s : Src (Kd.int .u32) H L v0_s s) : Ct Tryd.prog 61 ⟨[v0_s, .func (.func 62) #[] #[]]⟩ H L (fun v H' L' => L = L' ∧ H = H' ∧ v = .bool r) := by
 refine ct_outs (O := slices_ContainsFunc_uint32_uint32_wide_Int_Move_1.out r) (fun _ _ h => h) ?_
 have hle : H.le H := .refl _
 unfold slices_ContainsFunc_uint32_uint32_wide_Int_Move_1.f at he
 refine ct_enter (args := [v0_s, .func (.func 62) #[] #[]]) fn_61 rfl nt_61 rfl ?_
 refine w_seq ?_
 refine w_region rfl ?_
 refine w_d rfl (d_assign (v := .bool false) rfl) ?_
 refine w_done ?_
 refine w_seq ?_
 refine w_region rfl ?_
 refine w_d rfl (d_move (v := v0_s) rfl) ?_
 refine w_d rfl (d_move (v := .func (.func 62) #[] #[]) rfl) ?_
 obtain ⟨y1, hy2, he⟩ := Option.bind_eq_some_iff.1 he
 refine w_d rfl (call_d (o_call co87 (vs := [v0_s, .func (.func 62) #[] #[]]) rfl (slices_IndexFunc_uint32_uint32_wide_Int_Move_1.calls k hy2 h0_s))) ?_
 refine w_d rfl (d_geq rfl rfl) ?_
 refine w_d rfl (d_assign (v := .bool (decide (0 ≤ y1))) rfl) ?_
 refine w_done ?_
 obtain rfl := Option.some.inj he
 refine w_return fn_61 rs_61 (.tmp (v := .bool (decide (0 ≤ y1))) rfl .nil) ?_
 exact ⟨⟨[], rfl⟩, hle, rfl⟩
/-! ### slices.Clone[[]uint32,uint32] -/
noncomputable def slices_Clone_uint32_uint32.C : Code := (Tryd.f58.body).getD .skip
abbrev slices_Clone_uint32_uint32.out (r : (List Int)) (H : Hp) (v : Value) : Prop := Ro (Kd.int .u32) H v r
abbrev slices_Clone_uint32_uint32.R (H0 : Hp) (L : Items) (r : (List Int)) : Value → Hp → Items → Prop := fun v H' L' => (∃ p it, L' = p ++ it :: L ∧ Sl (Kd.int .u32) H' 93 it v r) ∧ H0.le H'
noncomputable def slices_Clone_uint32_uint32.f (k : Nat) (s : List Int) : Option (List Int) := if 0 + s.length ≤ 35184372088704 then (some (s)) else none
theorem slices_Clone_uint32_uint32.mono : ∀ k y0, LeO (slices_Clone_uint32_uint32.f k y0) (slices_Clone_uint32_uint32.f (k + 1) y0) := fun k _ => by unfold slices_Clone_uint32_uint32.f; exact (LeO.ite (LeO.refl _) (LeO.refl _))
set_option maxRecDepth 100000 in
set_option maxHeartbeats 2000000 in
theorem slices_Clone_uint32_uint32.calls (k : Nat) {H : Hp} {L : Items} {s : List Int} {v0_s : Value} {r : (List Int)} (he : slices_Clone_uint32_uint32.f k s = some r) (h0_s : Ro (Kd.int .u32) H v0_s s) : Ct Tryd.prog 58 ⟨[v0_s]⟩ H L (fun v H' L' => ∃ it, L' = it :: L ∧ H.le H' ∧ Sl (Kd.int .u32) H' 93 it v r) := by
 refine ct_own ?_
 have hle : H.le H := .refl _
 unfold slices_Clone_uint32_uint32.f at he
 obtain ⟨A_, n_, rfl, hc_, h1_⟩ := h0_s
 cases A_ with
 | none =>
  have e_ : s = [] := h1_.elim id fun h => (by obtain ⟨_, _, h, _⟩ := h; cases h)
  subst e_
  obtain ⟨_, he⟩ := rq he
  refine ct_enter (args := [.slice none 0 n_]) fn_58 rfl nt_58 rfl ?_
  refine w_seq ?_
  refine w_region rfl ?_
  refine w_d rfl (d_assign (v := .slice none 0 0) rfl) ?_
  refine w_done ?_
  refine w_seq ?_
  refine w_seq ?_
  refine w_region rfl ?_
  refine w_d rfl (d_move (v := .slice none 0 n_) rfl) ?_
  refine w_d rfl (d_eqnil_n Tryd.underlying28 rfl) ?_
  refine w_done ?_
  refine w_then rfl rfl ?_
  refine w_seq ?_
  refine w_region rfl ?_
  refine w_d rfl (d_assign (v := .slice none 0 0) rfl) ?_
  refine w_done ?_
  refine w_none ?_
  obtain rfl := Option.some.inj he
  refine w_return fn_58 rs_58 (.tmp (v := .slice none 0 0) rfl .nil) ?_
  exact ⟨⟨[], _, rfl, (sl_nil _ _ _)⟩, hle⟩
 | some a_ =>
  have h0_s : Ro (Kd.int .u32) H (.slice (some a_) s.length n_) s := ⟨some a_, n_, rfl, hc_, h1_⟩
  refine ct_enter (args := [.slice (some a_) s.length n_]) fn_58 rfl nt_58 rfl ?_
  refine w_seq ?_
  refine w_region rfl ?_
  refine w_d rfl (d_assign (v := .slice none 0 0) rfl) ?_
  refine w_done ?_
  refine w_seq ?_
  refine w_seq ?_
  refine w_region rfl ?_
  refine w_d rfl (d_move (v := .slice (some a_) s.length n_) rfl) ?_
  refine w_d rfl (d_eqnil_sl Tryd.underlying28 rfl rfl) ?_
  refine w_done ?_
  refine w_else rfl rfl ?_
  refine w_skip ?_
  refine w_seq ?_
  refine w_region rfl ?_
  refine w_a rfl (o_buildSlice' (kd := (Kd.int .u32)) (css := []) (xs := []) (parts := []) Tryd.underlying28 ti93 rfl rfl trivial rfl (by decide)) ?_
  rintro v1 _ _ ⟨i2, rfl, rfl, h3⟩
  refine w_d rfl (d_move (v := .slice (some a_) s.length n_) rfl) ?_
  obtain ⟨c4, he⟩ := rq he
  refine w_a rfl (o_append' (kd := (Kd.int .u32)) (F := fun z_ => z_ :: L) Tryd.underlying28 Tryd.underlying28 ti93 rfl (by first | omega | (simp only [List.nil_append, List.length_cons, List.length_nil]; omega)) rfl rfl h3 h0_s.src (fun _ => .here)) ?_
  rintro v5 _ _ ⟨i6, rfl, rfl, h7⟩
  refine w_d rfl (d_assign (v := v5) rfl) ?_
  refine w_done ?_
  obtain rfl := Option.some.inj he
  refine w_return fn_58 rs_58 (.tmp (v := v5) rfl .nil) ?_
  exact ⟨⟨[], _, rfl, h7⟩, hle⟩
theorem slices_Clone_uint32_uint32.callsR (k : Nat) {H : Hp} {L : Items} {s : List Int} {v0_s : Value} {r : (List Int)} (he : slices_Clone_uint32_uint32.f k s = some r) (h0_s : Ro (Kd.int .u32) H v0_s s) : Ct Tryd.prog 58 ⟨[v0_s]⟩ H L (fun v H' L' => L = L' ∧ H.le H' ∧ slices_Clone_uint32_uint32.out r H' v) := ct_ro (slices_Clone_uint32_uint32.calls k he h0_s)
/-! ### radome/wide.down -/
noncomputable def wide_down.C : Code := (Tryd.f63.body).getD .skip
abbrev wide_down.out (r : (List Int)) (H : Hp) (v : Value) : Prop := Ro (Kd.int .u32) H v r
abbrev wide_down.R (H0 : Hp) (L : Items) (r : (List Int)) : Value → Hp → Items → Prop := fun v H' L' => (∃ p, L' = p ++ L) ∧ H0.le H' ∧ wide_down.out r H' v
structure wide_down.Hs where
 l0 : Int → (List Int) → Int → Int → Option (List Int)
noncomputable def wide_down.j2 (k : Nat) (h : wide_down.Hs)  (n : Int) (out : List Int) (i : Int) (v_ : Int) (t11 : Int) (t12 : Int) : Option (List Int) := if 0 ≤ n then (if (0 : Int) ≤ i ∧ i < (out.length : Int) then (h.l0 n (out.set (i : Int).toNat ((v_ / 2 ^ shn .u64 n) % 4294967296)) t11 (w64 (t12 + 1))) else none) else none
noncomputable def wide_down.b0 (k : Nat) (h : wide_down.Hs)  (n : Int) (out : List Int) (t11 : Int) (t12 : Int) : Option (List Int) := if t12 < t11 then (if (0 : Int) ≤ t12 ∧ t12 < (out.length : Int) then (if (w64 (t12 + 1)) < (out.length : Int) then (if (0 : Int) ≤ w64 (t12 + 1) ∧ w64 (t12 + 1) < (out.length : Int) then (wide_down.j2 k h n out t12 (ior .u64 ((rd out t12) % 18446744073709551616) ((((rd out (w64 (t12 + 1))) % 18446744073709551616) * 4294967296) % 18446744073709551616)) t11 t12) else none) else (wide_down.j2 k h n out t12 ((rd out t12) % 18446744073709551616) t11 t12)) else none) else ((wide_trim.f k out).bind fun y17 => some (y17))
noncomputable def wide_down.hs : Nat → wide_down.Hs
 | 0 => ⟨fun _ _ _ _ => none⟩
 | k + 1 => ⟨fun x0 x1 x2 x3 => wide_down.b0 k (wide_down.hs k) x0 x1 x2 x3⟩
noncomputable def wide_down.f (k : Nat) (w : List Int) (n : Int) : Option (List Int) := (fun h : wide_down.Hs => (slices_Clone_uint32_uint32.f k w).bind fun y1 => h.l0 n y1 (y1.length : Int) 0) (wide_down.hs k)
structure wide_down.LE (h h' : wide_down.Hs) : Prop where
 l0 : ∀ y0 y1 y2 y3, LeO (h.l0 y0 y1 y2 y3) (h'.l0 y0 y1 y2 y3)
theorem wide_down.j2_mono {k : Nat} {h h' : wide_down.Hs} (hl : wide_down.LE h h') : ∀ y0 y1 y2 y3 y4 y5, LeO (wide_down.j2 k h y0 y1 y2 y3 y4 y5) (wide_down.j2 (k + 1) h' y0 y1 y2 y3 y4 y5) := fun _ _ _ _ _ _ => (LeO.ite (LeO.ite (hl.l0 _ _ _ _) (LeO.refl _)) (LeO.refl _))
theorem wide_down.b0_mono {k : Nat} {h h' : wide_down.Hs} (hl : wide_down.LE h h') : ∀ y0 y1 y2 y3, LeO (wide_down.b0 k h y0 y1 y2 y3) (wide_down.b0 (k + 1) h' y0 y1 y2 y3) := fun _ _ _ _ => (LeO.ite (LeO.ite (LeO.ite (LeO.ite (wide_down.j2_mono (k := k) hl _ _ _ _ _ _) (LeO.refl _)) (wide_down.j2_mono (k := k) hl _ _ _ _ _ _)) (LeO.refl _)) (LeO.bind (wide_trim.mono k _) fun _ => LeO.refl _))
theorem wide_down.hs_mono : ∀ k, wide_down.LE (wide_down.hs k) (wide_down.hs (k + 1))
 | 0 => ⟨fun _ _ _ _ => LeO.none _⟩
 | k + 1 => ⟨wide_down.b0_mono (k := k) (wide_down.hs_mono k)⟩
theorem wide_down.mono : ∀ k y0 y1, LeO (wide_down.f k y0 y1) (wide_down.f (k + 1) y0 y1) := fun k _ _ => have hl := wide_down.hs_mono k; by unfold wide_down.f; exact (LeO.bind (slices_Clone_uint32_uint32.mono k _) fun _ => hl.l0 _ _ _ _)
noncomputable def wide_down.Kl0 : List Item := .code (lopB (blkB (seqR (seqL (seqR (seqR wide_down.C)))))) :: .inLoop (lopB (blkB (seqR (seqL (seqR (seqR wide_down.C)))))) :: .inBlock 0 :: .code (seqR (seqR (seqR wide_down.C))) :: []
noncomputable def wide_down.Kj2 : List Item := .code (seqR (seqR (seqR (blkB (seqL (seqR (seqR (lopB (blkB (seqR (seqL (seqR (seqR wide_down.C))))))))))))) :: .inBlock 1 :: .code (seqR (seqR (seqR (lopB (blkB (seqR (seqL (seqR (seqR wide_down.C))))))))) :: .inLoop (lopB (blkB (seqR (seqL (seqR (seqR wide_down.C)))))) :: .inBlock 0 :: .code (seqR (seqR (seqR wide_down.C))) :: []
structure wide_down.OK (h : wide_down.Hs) : Prop where
 l0 : ∀ {H0 H : Hp} {L : Items} {r : (List Int)} {jk_ : Nat → Value} {n : Int} {out : List Int} {t11 : Int} {t12 : Int} {v_out : Value} {i_out : Item'} (_ : H0.le H) (_he : h.l0 n out t11 t12 = some r) (_h_out : Sl (Kd.int .u32) H 93 i_out v_out out), Wp Tryd.prog 63 44 wide_down.Kl0 (upd (upd (upd (upd (upd jk_ 1 (.int .i64 n)) 4 (.slice none 0 0)) 5 (v_out)) 11 (.int .i64 t11)) 12 (.int .i64 t12)) H (i_out :: L) (wide_down.R H0 L r)
set_option maxRecDepth 100000 in
set_option maxHeartbeats 2000000 in
theorem wide_down.j2_ok {k : Nat} {h : wide_down.Hs} (hh : wide_down.OK h) {H0 H : Hp} {L : Items} {r : (List Int)} {jk_ : Nat → Value} {n : Int} {out : List Int} {i : Int} {v_ : Int} {t11 : Int} {t12 : Int} {v_out : Value} {i_out : Item'} (hle : H0.le H) (he : wide_down.j2 k h n out i v_ t11 t12 = some r) (h_out : Sl (Kd.int .u32) H 93 i_out v_out out) : Wp Tryd.prog 63 44 wide_down.Kj2 (upd (upd (upd (upd (upd (upd (upd jk_ 1 (.int .i64 n)) 4 (.slice none 0 0)) 5 (v_out)) 6 (.int .i64 i)) 7 (.int .u64 v_)) 11 (.int .i64 t11)) 12 (.int .i64 t12)) H (i_out :: L) (wide_down.R H0 L r) := by
 unfold wide_down.j2 at he
 unfold wide_down.Kj2
 refine w_region rfl ?_
 refine w_d rfl (d_move (v := v_out) rfl) ?_
 refine w_d rfl (d_move (v := .int .i64 i) rfl) ?_
 refine w_d rfl (d_move (v := .int .u64 v_) rfl) ?_
 refine w_d rfl (d_move (v := .int .i64 n) rfl) ?_
 obtain ⟨c23, he⟩ := rq he
 refine w_d rfl (d_shr (c := v_ / 2 ^ shn .u64 n) rfl rfl c23 rfl) ?_
 refine w_d rfl (d_conv (c := (v_ / 2 ^ shn .u64 n) % 4294967296) Tryd.underlying99 Tryd.underlying93 rfl rfl) ?_
 obtain ⟨c24, he⟩ := rq he
 refine w_d rfl (d_indexS (sz := 1) Tryd.underlying28 sz93 rfl h_out.shp rfl c24) ?_
 refine w_a0 rfl (o_storeEl (kd := (Kd.int .u32)) (v := .int .u32 ((v_ / 2 ^ shn .u64 n) % 4294967296)) (F := fun z_ => z_ :: L) sz93 rfl rfl rfl rfl h_out c24 (fun _ => .here)) ?_
 rintro _ _ _ ⟨i25, rfl, rfl, rfl, h26⟩
 refine w_done ?_
 refine w_inBlock ?_
 refine w_region rfl ?_
 refine w_d rfl (d_add (c := w64 (t12 + 1)) rfl rfl rfl) ?_
 refine w_d rfl (d_move (v := .int .i64 (w64 (t12 + 1))) rfl) ?_
 refine w_done ?_
 refine w_inLoop ?_
 refine w_sl 1 (.int .i64 n) rfl ?_
 refine w_sl 4 (.slice none 0 0) rfl ?_
 refine w_sl 5 (v_out) rfl ?_
 refine w_sl 11 (.int .i64 t11) rfl ?_
 refine w_sl 12 (.int .i64 (w64 (t12 + 1))) rfl ?_
 exact hh.l0 hle he h26
set_option maxRecDepth 100000 in
set_option maxHeartbeats 2000000 in
theorem wide_down.b0_ok {k : Nat} {h : wide_down.Hs} (hh : wide_down.OK h) {H0 H : Hp} {L : Items} {r : (List Int)} {jk_ : Nat → Value} {n : Int} {out : List Int} {t11 : Int} {t12 : Int} {v_out : Value} {i_out : Item'} (hle : H0.le H) (he : wide_down.b0 k h n out t11 t12 = some r) (h_out : Sl (Kd.int .u32) H 93 i_out v_out out) : Wp Tryd.prog 63 44 wide_down.Kl0 (upd (upd (upd (upd (upd jk_ 1 (.int .i64 n)) 4 (.slice none 0 0)) 5 (v_out)) 11 (.int .i64 t11)) 12 (.int .i64 t12)) H (i_out :: L) (wide_down.R H0 L r) := by
 unfold wide_down.b0 at he
 unfold wide_down.Kl0
 refine w_seq ?_
 refine w_region rfl ?_
 refine w_d rfl (d_lss rfl rfl) ?_
 refine w_done ?_
 refine w_seq ?_
 rcases its he with ⟨c10, he⟩ | ⟨c10, he⟩
 ·
  refine w_then rfl (decide_eq_true c10) ?_
  refine w_skip ?_
  refine w_seq ?_
  refine w_block ?_
  refine w_seq ?_
  refine w_region rfl ?_
  refine w_d rfl (d_move (v := .int .i64 t12) rfl) ?_
  refine w_d rfl (d_assign (v := .int .i64 t12) rfl) ?_
  refine w_done ?_
  refine w_seq ?_
  refine w_region rfl ?_
  refine w_d rfl (d_move (v := v_out) rfl) ?_
  refine w_d rfl (d_move (v := .int .i64 t12) rfl) ?_
  obtain ⟨c11, he⟩ := rq he
  refine w_d rfl (d_indexS (sz := 1) Tryd.underlying28 sz93 rfl h_out.shp rfl c11) ?_
  refine w_d rfl (d_ldint ty93 rfl (h_out.src .here) c11) ?_
  refine w_d rfl (d_conv (c := (rd out t12) % 18446744073709551616) Tryd.underlying93 Tryd.underlying99 rfl rfl) ?_
  refine w_d rfl (d_assign (v := .int .u64 ((rd out t12) % 18446744073709551616)) rfl) ?_
  refine w_done ?_
  refine w_seq ?_
  refine w_seq ?_
  refine w_region rfl ?_
  refine w_d rfl (d_move (v := .int .i64 t12) rfl) ?_
  refine w_d rfl (d_add (c := w64 (t12 + 1)) rfl rfl rfl) ?_
  refine w_d rfl (d_move (v := v_out) rfl) ?_
  refine w_d rfl (d_lenS Tryd.underlying28 rfl h_out.shp) ?_
  refine w_d rfl (d_lss rfl rfl) ?_
  refine w_done ?_
  rcases its he with ⟨c12, he⟩ | ⟨c12, he⟩
  ·
   refine w_then rfl (decide_eq_true c12) ?_
   refine w_region rfl ?_
   refine w_d rfl (d_move (v := .int .u64 ((rd out t12) % 18446744073709551616)) rfl) ?_
   refine w_d rfl (d_move (v := v_out) rfl) ?_
   refine w_d rfl (d_move (v := .int .i64 t12) rfl) ?_
   refine w_d rfl (d_add (c := w64 (t12 + 1)) rfl rfl rfl) ?_
   obtain ⟨c13, he⟩ := rq he
   refine w_d rfl (d_indexS (sz := 1) Tryd.underlying28 sz93 rfl h_out.shp rfl c13) ?_
   refine w_d rfl (d_ldint ty93 rfl (h_out.src .here) c13) ?_
   refine w_d rfl (d_conv (c := (rd out (w64 (t12 + 1))) % 18446744073709551616) Tryd.underlying93 Tryd.underlying99 rfl rfl) ?_
   refine w_d rfl (d_shl (c := (((rd out (w64 (t12 + 1))) % 18446744073709551616) * 4294967296) % 18446744073709551616) rfl rfl (by decide) rfl) ?_
   refine w_d rfl (d_bor rfl rfl) ?_
   refine w_d rfl (d_assign (v := .int .u64 (ior .u64 ((rd out t12) % 18446744073709551616) ((((rd out (w64 (t12 + 1))) % 18446744073709551616) * 4294967296) % 18446744073709551616))) rfl) ?_
   refine w_done ?_
   refine w_sl 1 (.int .i64 n) rfl ?_
   refine w_sl 4 (.slice none 0 0) rfl ?_
   refine w_sl 5 (v_out) rfl ?_
   refine w_sl 6 (.int .i64 t12) rfl ?_
   refine w_sl 7 (.int .u64 (ior .u64 ((rd out t12) % 18446744073709551616) ((((rd out (w64 (t12 + 1))) % 18446744073709551616) * 4294967296) % 18446744073709551616))) rfl ?_
   refine w_sl 11 (.int .i64 t11) rfl ?_
   refine w_sl 12 (.int .i64 t12) rfl ?_
   exact wide_down.j2_ok (k := k) hh hle he h_out
  ·
   refine w_else rfl (decide_eq_false c12) ?_
   refine w_skip ?_
   refine w_sl 1 (.int .i64 n) rfl ?_
   refine w_sl 4 (.slice none 0 0) rfl ?_
   refine w_sl 5 (v_out) rfl ?_
   refine w_sl 6 (.int .i64 t12) rfl ?_
   refine w_sl 7 (.int .u64 ((rd out t12) % 18446744073709551616)) rfl ?_
   refine w_sl 11 (.int .i64 t11) rfl ?_
   refine w_sl 12 (.int .i64 t12) rfl ?_
   exact wide_down.j2_ok (k := k) hh hle he h_out
 ·
  refine w_else rfl (decide_eq_false c10) ?_
  refine w_exit rfl ?_
  refine w_seq ?_
  refine w_region rfl ?_
  refine w_d rfl (d_move (v := v_out) rfl) ?_
  refine w_freeze h_out .here ?_
  intro H14 e15 h16
  obtain ⟨y17, hy18, he⟩ := Option.bind_eq_some_iff.1 he
  refine w_a rfl (o_call co64 (vs := [v_out]) rfl (wide_trim.calls k hy18 h16)) ?_
  rintro v21 H19 _ ⟨rfl, e20, h22⟩
  refine w_d rfl (d_assign (v := v21) rfl) ?_
  refine w_done ?_
  obtain rfl := Option.some.inj he
  refine w_return fn_63 rs_63 (.tmp (v := v21) rfl .nil) ?_
  exact ⟨⟨[_], rfl⟩, hle.trans (e15.trans e20), h22⟩
theorem wide_down.ok : ∀ k, wide_down.OK (wide_down.hs k)
 | 0 => ⟨(by intros; exact nomatch (show none = some _ from by assumption))⟩
 | k + 1 => ⟨wide_down.b0_ok (k := k) (wide_down.ok k)⟩
set_option maxRecDepth 100000 in
set_option maxHeartbeats 2000000 in
theorem wide_down.calls (k : Nat) {H : Hp} {L : Items} {w : List Int} {n : Int} {v0_w : Value} {r : (List Int)} (he : wide_down.f k w n = some r) (h0_w : Ro (Kd.int .u32) H v0_w w) : Ct Tryd.prog 63 ⟨[v0_w, .int .i64 n]⟩ H L (fun v H' L' => L = L' ∧ H.le H' ∧ wide_down.out r H' v) := by
 refine ct_out (O := wide_down.out r) ?_
 have hle : H.le H := .refl _
 have hh := wide_down.ok k
 unfold wide_down.f at he
 refine ct_enter (args := [v0_w, .int .i64 n]) fn_63 rfl nt_63 rfl ?_
 refine w_seq ?_
 refine w_region rfl ?_
 refine w_d rfl (d_assign (v := .slice none 0 0) rfl) ?_
 refine w_done ?_
 refine w_seq ?_
 refine w_region rfl ?_
 refine w_d rfl (d_move (v := v0_w) rfl) ?_
 obtain ⟨y1, hy2, he⟩ := Option.bind_eq_some_iff.1 he
 refine w_a rfl (o_call co58 (vs := [v0_w]) rfl (slices_Clone_uint32_uint32.calls k hy2 h0_w)) ?_
 rintro v7 H3 _ ⟨i8, rfl, e4, h9⟩
 refine w_d rfl (d_assign (v := v7) rfl) ?_
 refine w_done ?_
 refine w_seq ?_
 refine w_seq ?_
 refine w_region rfl ?_
 refine w_d rfl (d_move (v := v7) rfl) ?_
 refine w_d rfl (d_lenS Tryd.underlying28 rfl h9.shp) ?_
 refine w_d rfl (d_move (v := .int .i64 0) rfl) ?_
 refine w_done ?_
 refine w_block ?_
 refine w_loop ?_
 refine w_sl 1 (.int .i64 n) rfl ?_
 refine w_sl 4 (.slice none 0 0) rfl ?_
 refine w_sl 5 (v7) rfl ?_
 refine w_sl 11 (.int .i64 (y1.length : Int)) rfl ?_
 refine w_sl 12 (.int .i64 0) rfl ?_
 exact hh.l0 (hle.trans e4) he h9
/-! ### radome/wide.Of -/
noncomputable def wide_Of.C : Code := (Tryd.f28.body).getD .skip
def wide_Of.out (r : wide_Int) (H : Hp) (v : Value) : Prop := ∃ v0, v = .agg ⟨[.bool r.f_neg, v0]⟩ ∧ Ro (Kd.int .u32) H v0 r.f_w
theorem wide_Of.out_mono (r : wide_Int) {H H' : Hp} {v : Value} (hle : H.le H') (h : wide_Of.out r H v) : wide_Of.out r H' v := by
 obtain ⟨v0, rfl, h0⟩ := h; exact ⟨v0, rfl, h0.mono hle⟩
abbrev wide_Of.R (H0 : Hp) (L : Items) (r : wide_Int) : Value → Hp → Items → Prop := fun v H' L' => (∃ p, L' = p ++ L) ∧ H0.le H' ∧ wide_Of.out r H' v
noncomputable def wide_Of.j1 (k : Nat)  (n : Int) (v_ : Int) : Option wide_Int := (wide_trim.f k [(v_) % 4294967296, (v_ / 4294967296) % 4294967296]).bind fun y9 => some ((⟨decide (n < 0), y9⟩ : wide_Int))
noncomputable def wide_Of.f (k : Nat) (n : Int) : Option wide_Int := if n < 0 then (wide_Of.j1 k n ((0 - ((n) % 18446744073709551616)) % 18446744073709551616)) else (wide_Of.j1 k n ((n) % 18446744073709551616))
theorem wide_Of.j1_mono {k : Nat} : ∀ y0 y1, LeO (wide_Of.j1 k y0 y1) (wide_Of.j1 (k + 1) y0 y1) := fun _ _ => (LeO.bind (wide_trim.mono k _) fun _ => LeO.refl _)
theorem wide_Of.mono : ∀ k y0, LeO (wide_Of.f k y0) (wide_Of.f (k + 1) y0) := fun k _ => by unfold wide_Of.f; exact (LeO.ite (wide_Of.j1_mono (k := k)  _ _) (wide_Of.j1_mono (k := k)  _ _))
noncomputable def wide_Of.Kj1 : List Item := .code (seqR (seqR (seqR wide_Of.C))) :: []
set_option maxRecDepth 100000 in
set_option maxHeartbeats 2000000 in
theorem wide_Of.j1_ok {k : Nat} {H0 H : Hp} {L : Items} {r : wide_Int} {jk_ : Nat → Value} {n : Int} {v_ : Int} {b_t2 : Nat} (hle : H0.le H) (he : wide_Of.j1 k n v_ = some r) : Wp Tryd.prog 28 20 wide_Of.Kj1 (upd (upd (upd jk_ 0 (.int .i64 n)) 2 (.pointer (some ⟨b_t2, 0, none⟩))) 3 (.int .u64 v_)) H (some (b_t2, .cells ⟨[.bool false, .slice none 0 0]⟩ 30 (0, 0)) :: L) (wide_Of.R H0 L r) := by
 unfold wide_Of.j1 at he
 unfold wide_Of.Kj1
 refine w_seq ?_
 refine w_region rfl ?_
 refine w_d rfl (d_move (v := .int .i64 n) rfl) ?_
 refine w_d rfl (d_lss rfl rfl) ?_
 refine w_d rfl (d_move (v := .int .u64 v_) rfl) ?_
 refine w_d rfl (d_conv (c := (v_) % 4294967296) Tryd.underlying99 Tryd.underlying93 rfl rfl) ?_
 refine w_d rfl (d_move (v := .int .u64 v_) rfl) ?_
 refine w_d rfl (d_shr (c := v_ / 4294967296) rfl rfl (by decide) rfl) ?_
 refine w_d rfl (d_conv (c := (v_ / 4294967296) % 4294967296) Tryd.underlying99 Tryd.underlying93 rfl rfl) ?_
 refine w_a rfl (o_buildSlice' (kd := (Kd.int .u32)) (css := [[.int .u32 ((v_) % 4294967296)], [.int .u32 ((v_ / 4294967296) % 4294967296)]]) (xs := [(v_) % 4294967296, (v_ / 4294967296) % 4294967296]) (parts := [(0, .int .u32 ((v_) % 4294967296)), (1, .int .u32 ((v_ / 4294967296) % 4294967296))]) Tryd.underlying28 ti93 rfl ⟨_, _, rfl, rfl, ⟨_, _, rfl, rfl, rfl⟩⟩ ⟨rfl, ⟨rfl, trivial⟩⟩ rfl (by decide)) ?_
 rintro v3 _ _ ⟨i4, rfl, rfl, h5⟩
 refine w_freeze h5 .here ?_
 intro H6 e7 h8
 obtain ⟨y9, hy10, he⟩ := Option.bind_eq_some_iff.1 he
 refine w_a rfl (o_call co64 (vs := [v3]) rfl (wide_trim.calls k hy10 h8)) ?_
 rintro v13 H11 _ ⟨rfl, e12, h14⟩
 refine w_d rfl (d_build (cs' := [.bool (decide (n < 0)), v13]) Tryd.underlying30 zr30 rfl (by kernel_rfl) (parts := [(0, .bool (decide (n < 0))), (1, v13)]) rfl (.cons (place_of rfl sz4 rfl) rfl rfl (.here .done) (.cons (place_of rfl sz28 rfl) h14.cells rfl (.there (.here .done)) .nil))) ?_
 refine w_a0 rfl (o_store (v := .agg ⟨[.bool (decide (n < 0)), v13]⟩) sz30 rfl rfl rfl rfl (one_cons rfl (one_cons (h14.one) one_nil)) (.there .here) (.here (.here .done))) ?_
 rintro _ _ _ ⟨rfl, rfl, rfl⟩
 refine w_done ?_
 obtain rfl := Option.some.inj he
 refine w_return fn_28 rs_28 (.box (v := .agg ⟨[.bool (decide (n < 0)), v13]⟩) rfl ty30 rfl rfl (.there .here) rfl .nil) ?_
 exact ⟨⟨[_, _], rfl⟩, hle.trans (e7.trans e12), ⟨v13, rfl, h14⟩⟩
set_option maxRecDepth 100000 in
set_option maxHeartbeats 2000000 in
theorem wide_Of.calls (k : Nat) {H : Hp} {L : Items} {n : Int} {r : wide_Int} (he : wide_Of.f k n = some r) : Ct Tryd.prog 28 ⟨[.int .i64 n]⟩ H L (fun v H' L' => L = L' ∧ H.le H' ∧ wide_Of.out r H' v) := by
 refine ct_out (O := wide_Of.out r) ?_
 have hle : H.le H := .refl _
 unfold wide_Of.f at he
 refine ct_enter (args := [.int .i64 n]) fn_28 rfl nt_28 rfl ?_
 refine w_seq ?_
 refine w_region rfl ?_
 refine w_a rfl (o_alloc zr30 rfl) ?_
 rintro _ _ _ ⟨b1, rfl, rfl, rfl⟩
 refine w_done ?_
 refine w_seq ?_
 refine w_region rfl ?_
 refine w_d rfl (d_move (v := .int .i64 n) rfl) ?_
 refine w_d rfl (d_conv (c := (n) % 18446744073709551616) Tryd.underlying2 Tryd.underlying99 rfl rfl) ?_
 refine w_d rfl (d_assign (v := .int .u64 ((n) % 18446744073709551616)) rfl) ?_
 refine w_done ?_
 refine w_seq ?_
 refine w_seq ?_
 refine w_region rfl ?_
 refine w_d rfl (d_move (v := .int .i64 n) rfl) ?_
 refine w_d rfl (d_lss rfl rfl) ?_
 refine w_done ?_
 rcases its he with ⟨c2, he⟩ | ⟨c2, he⟩
 ·
  refine w_then rfl (decide_eq_true c2) ?_
  refine w_region rfl ?_
  refine w_d rfl (d_move (v := .int .u64 ((n) % 18446744073709551616)) rfl) ?_
  refine w_d rfl (d_neg (c := (0 - ((n) % 18446744073709551616)) % 18446744073709551616) rfl rfl) ?_
  refine w_d rfl (d_assign (v := .int .u64 ((0 - ((n) % 18446744073709551616)) % 18446744073709551616)) rfl) ?_
  refine w_done ?_
  refine w_sl 0 (.int .i64 n) rfl ?_
  refine w_sl 2 (.pointer (some ⟨b1, 0, none⟩)) rfl ?_
  refine w_sl 3 (.int .u64 ((0 - ((n) % 18446744073709551616)) % 18446744073709551616)) rfl ?_
  exact wide_Of.j1_ok (k := k) hle he
 ·
  refine w_else rfl (decide_eq_false c2) ?_
  refine w_skip ?_
  refine w_sl 0 (.int .i64 n) rfl ?_
  refine w_sl 2 (.pointer (some ⟨b1, 0, none⟩)) rfl ?_
  refine w_sl 3 (.int .u64 ((n) % 18446744073709551616)) rfl ?_
  exact wide_Of.j1_ok (k := k) hle he
/-! ### (radome/wide.Int).Neg -/
noncomputable def wide_Int_Neg.C : Code := (Tryd.f20.body).getD .skip
def wide_Int_Neg.out (r : wide_Int) (H : Hp) (v : Value) : Prop := ∃ v0, v = .agg ⟨[.bool r.f_neg, v0]⟩ ∧ Ro (Kd.int .u32) H v0 r.f_w
theorem wide_Int_Neg.out_mono (r : wide_Int) {H H' : Hp} {v : Value} (hle : H.le H') (h : wide_Int_Neg.out r H v) : wide_Int_Neg.out r H' v := by
 obtain ⟨v0, rfl, h0⟩ := h; exact ⟨v0, rfl, h0.mono hle⟩
abbrev wide_Int_Neg.R (H0 : Hp) (L : Items) (r : wide_Int) : Value → Hp → Items → Prop := fun v H' L' => (∃ p, L' = p ++ L) ∧ H0.le H' ∧ wide_Int_Neg.out r H' v
noncomputable def wide_Int_Neg.f (k : Nat) (a : wide_Int) : Option wide_Int := some ((⟨(!a.f_neg) && (decide (0 < (a.f_w.length : Int))), a.f_w⟩ : wide_Int))
theorem wide_Int_Neg.mono : ∀ k y0, LeO (wide_Int_Neg.f k y0) (wide_Int_Neg.f (k + 1) y0) := fun k _ => by unfold wide_Int_Neg.f; exact (LeO.refl _)
set_option maxRecDepth 100000 in
set_option maxHeartbeats 2000000 in
theorem wide_Int_Neg.calls (k : Nat) {H : Hp} {L : Items} {a : wide_Int} {v0_a : Value} {r : wide_Int} (he : wide_Int_Neg.f k a = some r) (h0_a : Ro (Kd.int .u32) H v0_a a.f_w) : Ct Tryd.prog 20 ⟨[.agg ⟨[.bool a.f_neg, v0_a]⟩]⟩ H L (fun v H' L' => L = L' ∧ H.le H' ∧ wide_Int_Neg.out r H' v) := by
 refine ct_out (O := wide_Int_Neg.out r) ?_
 have hle : H.le H := .refl _
 unfold wide_Int_Neg.f at he
 refine ct_enter (args := [.agg ⟨[.bool a.f_neg, v0_a]⟩]) fn_20 rfl nt_20 rfl ?_
 refine w_seq ?_
 refine w_region rfl ?_
 refine w_a rfl (o_box (v := .agg ⟨[.bool a.f_neg, v0_a]⟩) rfl rfl) ?_
 rintro _ _ _ ⟨b1, rfl, rfl, rfl⟩
 refine w_a rfl (o_alloc zr30 rfl) ?_
 rintro _ _ _ ⟨b2, rfl, rfl, rfl⟩
 refine w_done ?_
 refine w_seq ?_
 refine w_region rfl ?_
 refine w_d rfl (d_fld (o' := 0) Tryd.underlying30 rfl sz4 rfl rfl rfl) ?_
 refine w_d rfl (d_loado (v := .bool a.f_neg) ty4 rfl (.there .here) rfl rfl rfl rfl) ?_
 refine w_d rfl (d_not (b := a.f_neg) rfl) ?_
 refine w_d rfl (d_move (v := .bool (!a.f_neg)) rfl) ?_
 refine w_g (g := !a.f_neg) rfl rfl rfl wn_t (fun g3 => d_fld (o' := 1) Tryd.underlying30 rfl sz28 rfl rfl rfl) ?_
 refine w_g (g := !a.f_neg) rfl rfl rfl wn_t (fun g4 => d_loado (v := v0_a) ty28 (cvt g4) (.there .here) rfl rfl rfl rfl) ?_
 refine w_g (g := !a.f_neg) rfl rfl rfl wn_t (fun g5 => d_len Tryd.underlying28 (cvt g5) h0_a.src) ?_
 refine w_g (g := !a.f_neg) rfl rfl rfl wn_t (fun g6 => d_gtr (cvt g6) rfl) ?_
 refine w_d rfl (d_and' (b := (!a.f_neg)) (p := (decide (0 < (a.f_w.length : Int)))) rfl rfl rfl) ?_
 refine w_d rfl (d_fld (o' := 1) Tryd.underlying30 rfl sz28 rfl rfl rfl) ?_
 refine w_d rfl (d_loado (v := v0_a) ty28 rfl (.there .here) rfl rfl rfl rfl) ?_
 refine w_d rfl (d_build (cs' := [.bool ((!a.f_neg) && (decide (0 < (a.f_w.length : Int)))), v0_a]) Tryd.underlying30 zr30 rfl (by kernel_rfl) (parts := [(0, .bool ((!a.f_neg) && (decide (0 < (a.f_w.length : Int))))), (1, v0_a)]) rfl (.cons (place_of rfl sz4 rfl) rfl rfl (.here .done) (.cons (place_of rfl sz28 rfl) h0_a.cells rfl (.there (.here .done)) .nil))) ?_
 refine w_a0 rfl (o_store (v := .agg ⟨[.bool ((!a.f_neg) && (decide (0 < (a.f_w.length : Int)))), v0_a]⟩) sz30 rfl rfl rfl rfl (one_cons rfl (one_cons (h0_a.one) one_nil)) .here (.here (.here .done))) ?_
 rintro _ _ _ ⟨rfl, rfl, rfl⟩
 refine w_done ?_
 obtain rfl := Option.some.inj he
 refine w_return fn_20 rs_20 (.box (v := .agg ⟨[.bool ((!a.f_neg) && (decide (0 < (a.f_w.length : Int)))), v0_a]⟩) rfl ty30 rfl rfl .here rfl .nil) ?_
 exact ⟨⟨[_, _], rfl⟩, hle, ⟨v0_a, rfl, h0_a⟩⟩
/-! ### cmp.isNaN[int] -/
noncomputable def cmp_isNaN_int.C : Code := (Tryd.f78.body).getD .skip
def cmp_isNaN_int.out (r : Bool) (H : Hp) (v : Value) : Prop := v = .bool r
abbrev cmp_isNaN_int.R (H0 : Hp) (L : Items) (r : Bool) : Value → Hp → Items → Prop := fun v H' L' => (∃ p, L' = p ++ L) ∧ H0.le H' ∧ cmp_isNaN_int.out r H' v
noncomputable def cmp_isNaN_int.f (k : Nat) (x : Int) : Option Bool := some (!decide (x = x))
theorem cmp_isNaN_int.mono : ∀ k y0, LeO (cmp_isNaN_int.f k y0) (cmp_isNaN_int.f (k + 1) y0) := fun k _ => by unfold cmp_isNaN_int.f; exact (LeO.refl _)
set_option maxRecDepth 100000 in
set_option maxHeartbeats 2000000 in
theorem cmp_isNaN_int.calls (k : Nat) {H : Hp} {L : Items} {x : Int} {r : Bool} (he : cmp_isNaN_int.f k x = some r) : Ct Tryd.prog 78 ⟨[.int .i64 x]⟩ H L (fun v H' L' => L = L' ∧ H = H' ∧ v = .bool r) := by
 refine ct_outs (O := cmp_isNaN_int.out r) (fun _ _ h => h) ?_
 have hle : H.le H := .refl _
 unfold cmp_isNaN_int.f at he
 refine ct_enter (args := [.int .i64 x]) fn_78 rfl nt_78 rfl ?_
 refine w_seq ?_
 refine w_region rfl ?_
 refine w_d rfl (d_assign (v := .bool false) rfl) ?_
 refine w_done ?_
 refine w_seq ?_
 refine w_region rfl ?_
 refine w_d rfl (d_move (v := .int .i64 x) rfl) ?_
 refine w_d rfl (d_move (v := .int .i64 x) rfl) ?_
 refine w_d rfl (d_neq rfl rfl) ?_
 refine w_d rfl (d_assign (v := .bool (!decide (x = x))) rfl) ?_
 refine w_done ?_
 obtain rfl := Option.some.inj he
 refine w_return fn_78 rs_78 (.tmp (v := .bool (!decide (x = x))) rfl .nil) ?_
 exact ⟨⟨[], rfl⟩, hle, rfl⟩
/-! ### cmp.Compare[int] -/
noncomputable def cmp_Compare_int.C : Code := (Tryd.f56.body).getD .skip
def cmp_Compare_int.out (r : Int) (H : Hp) (v : Value) : Prop := v = .int .i64 r
abbrev cmp_Compare_int.R (H0 : Hp) (L : Items) (r : Int) : Value → Hp → Items → Prop := fun v H' L' => (∃ p, L' = p ++ L) ∧ H0.le H' ∧ cmp_Compare_int.out r H' v
noncomputable def cmp_Compare_int.f (k : Nat) (x : Int) (y : Int) : Option Int := (cmp_isNaN_int.f k x).bind fun y1 => (cmp_isNaN_int.f k y).bind fun y5 => if y1 = true then (if y5 = true then (some (0)) else (some ((-1)))) else (if y5 = true then (some (1)) else (if x < y then (some ((-1))) else (if y < x then (some (1)) else (some (0)))))
theorem cmp_Compare_int.mono : ∀ k y0 y1, LeO (cmp_Compare_int.f k y0 y1) (cmp_Compare_int.f (k + 1) y0 y1) := fun k _ _ => by unfold cmp_Compare_int.f; exact (LeO.bind (cmp_isNaN_int.mono k _) fun _ => LeO.bind (cmp_isNaN_int.mono k _) fun _ => LeO.ite (LeO.ite (LeO.refl _) (LeO.refl _)) (LeO.ite (LeO.refl _) (LeO.ite (LeO.refl _) (LeO.ite (LeO.refl _) (LeO.refl _)))))
set_option maxRecDepth 100000 in
set_option maxHeartbeats 2000000 in
theorem cmp_Compare_int.calls (k : Nat) {H : Hp} {L : Items} {x : Int} {y : Int} {r : Int} (he : cmp_Compare_int.f k x y = some r) : Ct Tryd.prog 56 ⟨[.int .i64 x, .int .i64 y]⟩ H L (fun v H' L' => L = L' ∧ H = H' ∧ v = .int .i64 r) := by
 refine ct_outs (O := cmp_Compare_int.out r) (fun _ _ h => h) ?_
 have hle : H.le H := .refl _
 unfold cmp_Compare_int.f at he
 refine ct_enter (args := [.int .i64 x, .int .i64 y]) fn_56 rfl nt_56 rfl ?_
 refine w_seq ?_
 refine w_region rfl ?_
 refine w_d rfl (d_assign (v := .int .i64 0) rfl) ?_
 refine w_done ?_
 refine w_seq ?_
 refine w_region rfl ?_
 refine w_d rfl (d_move (v := .int .i64 x) rfl) ?_
 obtain ⟨y1, hy2, he⟩ := Option.bind_eq_some_iff.1 he
 refine w_d rfl (call_d (o_call co78 (vs := [.int .i64 x]) rfl (cmp_isNaN_int.calls k hy2))) ?_
 refine w_d rfl (d_assign (v := .bool y1) rfl) ?_
 refine w_done ?_
 refine w_seq ?_
 refine w_region rfl ?_
 refine w_d rfl (d_move (v := .int .i64 y) rfl) ?_
 obtain ⟨y5, hy6, he⟩ := Option.bind_eq_some_iff.1 he
 refine w_d rfl (call_d (o_call co78 (vs := [.int .i64 y]) rfl (cmp_isNaN_int.calls k hy6))) ?_
 refine w_d rfl (d_assign (v := .bool y5) rfl) ?_
 refine w_done ?_
 refine w_seq ?_
 refine w_seq ?_
 refine w_region rfl ?_
 refine w_d rfl (d_move (v := .bool y1) rfl) ?_
 refine w_done ?_
 rcases its he with ⟨c9, he⟩ | ⟨c9, he⟩
 ·
  refine w_then rfl c9 ?_
  refine w_seq ?_
  refine w_seq ?_
  refine w_region rfl ?_
  refine w_d rfl (d_move (v := .bool y5) rfl) ?_
  refine w_done ?_
  rcases its he with ⟨c10, he⟩ | ⟨c10, he⟩
  ·
   refine w_then rfl c10 ?_
   refine w_seq ?_
   refine w_region rfl ?_
   refine w_d rfl (d_assign (v := .int .i64 0) rfl) ?_
   refine w_done ?_
   obtain rfl := Option.some.inj he
   refine w_return fn_56 rs_56 (.tmp (v := .int .i64 0) rfl .nil) ?_
   exact ⟨⟨[], rfl⟩, hle, rfl⟩
  ·
   refine w_else rfl (Bool.eq_false_iff.2 c10) ?_
   refine w_skip ?_
   refine w_seq ?_
   refine w_region rfl ?_
   refine w_d rfl (d_assign (v := .int .i64 (-1)) rfl) ?_
   refine w_done ?_
   obtain rfl := Option.some.inj he
   refine w_return fn_56 rs_56 (.tmp (v := .int .i64 (-1)) rfl .nil) ?_
   exact ⟨⟨[], rfl⟩, hle, rfl⟩
 ·
  refine w_else rfl (Bool.eq_false_iff.2 c9) ?_
  refine w_skip ?_
  refine w_seq ?_
  refine w_seq ?_
  refine w_region rfl ?_
  refine w_d rfl (d_move (v := .bool y5) rfl) ?_
  refine w_done ?_
  rcases its he with ⟨c11, he⟩ | ⟨c11, he⟩
  ·
   refine w_then rfl c11 ?_
   refine w_seq ?_
   refine w_region rfl ?_
   refine w_d rfl (d_assign (v := .int .i64 1) rfl) ?_
   refine w_done ?_
   obtain rfl := Option.some.inj he
   refine w_return fn_56 rs_56 (.tmp (v := .int .i64 1) rfl .nil) ?_
   exact ⟨⟨[], rfl⟩, hle, rfl⟩
  ·
   refine w_else rfl (Bool.eq_false_iff.2 c11) ?_
   refine w_skip ?_
   refine w_seq ?_
   refine w_seq ?_
   refine w_region rfl ?_
   refine w_d rfl (d_move (v := .int .i64 x) rfl) ?_
   refine w_d rfl (d_move (v := .int .i64 y) rfl) ?_
   refine w_d rfl (d_lss rfl rfl) ?_
   refine w_done ?_
   rcases its he with ⟨c12, he⟩ | ⟨c12, he⟩
   ·
    refine w_then rfl (decide_eq_true c12) ?_
    refine w_seq ?_
    refine w_region rfl ?_
    refine w_d rfl (d_assign (v := .int .i64 (-1)) rfl) ?_
    refine w_done ?_
    obtain rfl := Option.some.inj he
    refine w_return fn_56 rs_56 (.tmp (v := .int .i64 (-1)) rfl .nil) ?_
    exact ⟨⟨[], rfl⟩, hle, rfl⟩
   ·
    refine w_else rfl (decide_eq_false c12) ?_
    refine w_skip ?_
    refine w_seq ?_
    refine w_seq ?_
    refine w_region rfl ?_
    refine w_d rfl (d_move (v := .int .i64 x) rfl) ?_
    refine w_d rfl (d_move (v := .int .i64 y) rfl) ?_
    refine w_d rfl (d_gtr rfl rfl) ?_
    refine w_done ?_
    rcases its he with ⟨c13, he⟩ | ⟨c13, he⟩
    ·
     refine w_then rfl (decide_eq_true c13) ?_
     refine w_seq ?_
     refine w_region rfl ?_
     refine w_d rfl (d_assign (v := .int .i64 1) rfl) ?_
     refine w_done ?_
     obtain rfl := Option.some.inj he
     refine w_return fn_56 rs_56 (.tmp (v := .int .i64 1) rfl .nil) ?_
     exact ⟨⟨[], rfl⟩, hle, rfl⟩
    ·
     refine w_else rfl (decide_eq_false c13) ?_
     refine w_skip ?_
     refine w_seq ?_
     refine w_region rfl ?_
     refine w_d rfl (d_assign (v := .int .i64 0) rfl) ?_
     refine w_done ?_
     obtain rfl := Option.some.inj he
     refine w_return fn_56 rs_56 (.tmp (v := .int .i64 0) rfl .nil) ?_
     exact ⟨⟨[], rfl⟩, hle, rfl⟩
/-! ### cmp.isNaN[uint32] -/
noncomputable def cmp_isNaN_uint32.C : Code := (Tryd.f92.body).getD .skip
def cmp_isNaN_uint32.out (r : Bool) (H : Hp) (v : Value) : Prop := v = .bool r
abbrev cmp_isNaN_uint32.R (H0 : Hp) (L : Items) (r : Bool) : Value → Hp → Items → Prop := fun v H' L' => (∃ p, L' = p ++ L) ∧ H0.le H' ∧ cmp_isNaN_uint32.out r H' v
noncomputable def cmp_isNaN_uint32.f (k : Nat) (x : Int) : Option Bool := some (!decide (x = x))
theorem cmp_isNaN_uint32.mono : ∀ k y0, LeO (cmp_isNaN_uint32.f k y0) (cmp_isNaN_uint32.f (k + 1) y0) := fun k _ => by unfold cmp_isNaN_uint32.f; exact (LeO.refl _)
set_option maxRecDepth 100000 in
set_option maxHeartbeats 2000000 in
theorem cmp_isNaN_uint32.calls (k : Nat) {H : Hp} {L : Items} {x : Int} {r : Bool} (he : cmp_isNaN_uint32.f k x = some r) : Ct Tryd.prog 92 ⟨[.int .u32 x]⟩ H L (fun v H' L' => L = L' ∧ H = H' ∧ v = .bool r) := by
 refine ct_outs (O := cmp_isNaN_uint32.out r) (fun _ _ h => h) ?_
 have hle : H.le H := .refl _
 unfold cmp_isNaN_uint32.f at he
 refine ct_enter (args := [.int .u32 x]) fn_92 rfl nt_92 rfl ?_
 refine w_seq ?_
 refine w_region rfl ?_
 refine w_d rfl (d_assign (v := .bool false) rfl) ?_
 refine w_done ?_
 refine w_seq ?_
 refine w_region rfl ?_
 refine w_d rfl (d_move (v := .int .u32 x) rfl) ?_
 refine w_d rfl (d_move (v := .int .u32 x) rfl) ?_
 refine w_d rfl (d_neq rfl rfl) ?_
 refine w_d rfl (d_assign (v := .bool (!decide (x = x))) rfl) ?_
 refine w_done ?_
 obtain rfl := Option.some.inj he
 refine w_return fn_92 rs_92 (.tmp (v := .bool (!decide (x = x))) rfl .nil) ?_
 exact ⟨⟨[], rfl⟩, hle, rfl⟩
/-! ### cmp.Compare[uint32] -/
noncomputable def cmp_Compare_uint32.C : Code := (Tryd.f74.body).getD .skip
def cmp_Compare_uint32.out (r : Int) (H : Hp) (v : Value) : Prop := v = .int .i64 r
abbrev cmp_Compare_uint32.R (H0 : Hp) (L : Items) (r : Int) : Value → Hp → Items → Prop := fun v H' L' => (∃ p, L' = p ++ L) ∧ H0.le H' ∧ cmp_Compare_uint32.out r H' v
noncomputable def cmp_Compare_uint32.f (k : Nat) (x : Int) (y : Int) : Option Int := (cmp_isNaN_uint32.f k x).bind fun y1 => (cmp_isNaN_uint32.f k y).bind fun y5 => if y1 = true then (if y5 = true then (some (0)) else (some ((-1)))) else (if y5 = true then (some (1)) else (if x < y then (some ((-1))) else (if y < x then (some (1)) else (some (0)))))
theorem cmp_Compare_uint32.mono : ∀ k y0 y1, LeO (cmp_Compare_uint32.f k y0 y1) (cmp_Compare_uint32.f (k + 1) y0 y1) := fun k _ _ => by unfold cmp_Compare_uint32.f; exact (LeO.bind (cmp_isNaN_uint32.mono k _) fun _ => LeO.bind (cmp_isNaN_uint32.mono k _) fun _ => LeO.ite (LeO.ite (LeO.refl _) (LeO.refl _)) (LeO.ite (LeO.refl _) (LeO.ite (LeO.refl _) (LeO.ite (LeO.refl _) (LeO.refl _)))))
set_option maxRecDepth 100000 in
set_option maxHeartbeats 2000000 in
theorem cmp_Compare_uint32.calls (k : Nat) {H : Hp} {L : Items} {x : Int} {y : Int} {r : Int} (he : cmp_Compare_uint32.f k x y = some r) : Ct Tryd.prog 74 ⟨[.int .u32 x, .int .u32 y]⟩ H L (fun v H' L' => L = L' ∧ H = H' ∧ v = .int .i64 r) := by
 refine ct_outs (O := cmp_Compare_uint32.out r) (fun _ _ h => h) ?_
 have hle : H.le H := .refl _
 unfold cmp_Compare_uint32.f at he
 refine ct_enter (args := [.int .u32 x, .int .u32 y]) fn_74 rfl nt_74 rfl ?_
 refine w_seq ?_
 refine w_region rfl ?_
 refine w_d rfl (d_assign (v := .int .i64 0) rfl) ?_
 refine w_done ?_
 refine w_seq ?_
 refine w_region rfl ?_
 refine w_d rfl (d_move (v := .int .u32 x) rfl) ?_
 obtain ⟨y1, hy2, he⟩ := Option.bind_eq_some_iff.1 he
 refine w_d rfl (call_d (o_call co92 (vs := [.int .u32 x]) rfl (cmp_isNaN_uint32.calls k hy2))) ?_
 refine w_d rfl (d_assign (v := .bool y1) rfl) ?_
 refine w_done ?_
 refine w_seq ?_
 refine w_region rfl ?_
 refine w_d rfl (d_move (v := .int .u32 y) rfl) ?_
 obtain ⟨y5, hy6, he⟩ := Option.bind_eq_some_iff.1 he
 refine w_d rfl (call_d (o_call co92 (vs := [.int .u32 y]) rfl (cmp_isNaN_uint32.calls k hy6))) ?_
 refine w_d rfl (d_assign (v := .bool y5) rfl) ?_
 refine w_done ?_
 refine w_seq ?_
 refine w_seq ?_
 refine w_region rfl ?_
 refine w_d rfl (d_move (v := .bool y1) rfl) ?_
 refine w_done ?_
 rcases its he with ⟨c9, he⟩ | ⟨c9, he⟩
 ·
  refine w_then rfl c9 ?_
  refine w_seq ?_
  refine w_seq ?_
  refine w_region rfl ?_
  refine w_d rfl (d_move (v := .bool y5) rfl) ?_
  refine w_done ?_
  rcases its he with ⟨c10, he⟩ | ⟨c10, he⟩
  ·
   refine w_then rfl c10 ?_
   refine w_seq ?_
   refine w_region rfl ?_
   refine w_d rfl (d_assign (v := .int .i64 0) rfl) ?_
   refine w_done ?_
   obtain rfl := Option.some.inj he
   refine w_return fn_74 rs_74 (.tmp (v := .int .i64 0) rfl .nil) ?_
   exact ⟨⟨[], rfl⟩, hle, rfl⟩
  ·
   refine w_else rfl (Bool.eq_false_iff.2 c10) ?_
   refine w_skip ?_
   refine w_seq ?_
   refine w_region rfl ?_
   refine w_d rfl (d_assign (v := .int .i64 (-1)) rfl) ?_
   refine w_done ?_
   obtain rfl := Option.some.inj he
   refine w_return fn_74 rs_74 (.tmp (v := .int .i64 (-1)) rfl .nil) ?_
   exact ⟨⟨[], rfl⟩, hle, rfl⟩
 ·
  refine w_else rfl (Bool.eq_false_iff.2 c9) ?_
  refine w_skip ?_
  refine w_seq ?_
  refine w_seq ?_
  refine w_region rfl ?_
  refine w_d rfl (d_move (v := .bool y5) rfl) ?_
  refine w_done ?_
  rcases its he with ⟨c11, he⟩ | ⟨c11, he⟩
  ·
   refine w_then rfl c11 ?_
   refine w_seq ?_
   refine w_region rfl ?_
   refine w_d rfl (d_assign (v := .int .i64 1) rfl) ?_
   refine w_done ?_
   obtain rfl := Option.some.inj he
   refine w_return fn_74 rs_74 (.tmp (v := .int .i64 1) rfl .nil) ?_
   exact ⟨⟨[], rfl⟩, hle, rfl⟩
  ·
   refine w_else rfl (Bool.eq_false_iff.2 c11) ?_
   refine w_skip ?_
   refine w_seq ?_
   refine w_seq ?_
   refine w_region rfl ?_
   refine w_d rfl (d_move (v := .int .u32 x) rfl) ?_
   refine w_d rfl (d_move (v := .int .u32 y) rfl) ?_
   refine w_d rfl (d_lss rfl rfl) ?_
   refine w_done ?_
   rcases its he with ⟨c12, he⟩ | ⟨c12, he⟩
   ·
    refine w_then rfl (decide_eq_true c12) ?_
    refine w_seq ?_
    refine w_region rfl ?_
    refine w_d rfl (d_assign (v := .int .i64 (-1)) rfl) ?_
    refine w_done ?_
    obtain rfl := Option.some.inj he
    refine w_return fn_74 rs_74 (.tmp (v := .int .i64 (-1)) rfl .nil) ?_
    exact ⟨⟨[], rfl⟩, hle, rfl⟩
   ·
    refine w_else rfl (decide_eq_false c12) ?_
    refine w_skip ?_
    refine w_seq ?_
    refine w_seq ?_
    refine w_region rfl ?_
    refine w_d rfl (d_move (v := .int .u32 x) rfl) ?_
    refine w_d rfl (d_move (v := .int .u32 y) rfl) ?_
    refine w_d rfl (d_gtr rfl rfl) ?_
    refine w_done ?_
    rcases its he with ⟨c13, he⟩ | ⟨c13, he⟩
    ·
     refine w_then rfl (decide_eq_true c13) ?_
     refine w_seq ?_
     refine w_region rfl ?_
     refine w_d rfl (d_assign (v := .int .i64 1) rfl) ?_
     refine w_done ?_
     obtain rfl := Option.some.inj he
     refine w_return fn_74 rs_74 (.tmp (v := .int .i64 1) rfl .nil) ?_
     exact ⟨⟨[], rfl⟩, hle, rfl⟩
    ·
     refine w_else rfl (decide_eq_false c13) ?_
     refine w_skip ?_
     refine w_seq ?_
     refine w_region rfl ?_
     refine w_d rfl (d_assign (v := .int .i64 0) rfl) ?_
     refine w_done ?_
     obtain rfl := Option.some.inj he
     refine w_return fn_74 rs_74 (.tmp (v := .int .i64 0) rfl .nil) ?_
     exact ⟨⟨[], rfl⟩, hle, rfl⟩
/-! ### radome/wide.less -/
noncomputable def wide_less.C : Code := (Tryd.f47.body).getD .skip
def wide_less.out (r : Int) (H : Hp) (v : Value) : Prop := v = .int .i64 r
abbrev wide_less.R (H0 : Hp) (L : Items) (r : Int) : Value → Hp → Items → Prop := fun v H' L' => (∃ p, L' = p ++ L) ∧ H0.le H' ∧ wide_less.out r H' v
structure wide_less.Hs where
 l0 : (List Int) → (List Int) → Int → Int → Option Int
noncomputable def wide_less.b0 (k : Nat) (h : wide_less.Hs)  (a : List Int) (b : List Int) (t4 : Int) (i : Int) : Option Int := if 0 ≤ i then (if (0 : Int) ≤ i ∧ i < (a.length : Int) then (if (0 : Int) ≤ i ∧ i < (b.length : Int) then ((cmp_Compare_uint32.f k (rd a i) (rd b i)).bind fun y11 => if y11 = 0 then (h.l0 a b t4 (w64 (i - 1))) else (some (y11))) else none) else none) else (some (0))
noncomputable def wide_less.hs : Nat → wide_less.Hs
 | 0 => ⟨fun _ _ _ _ => none⟩
 | k + 1 => ⟨fun x0 x1 x2 x3 => wide_less.b0 k (wide_less.hs k) x0 x1 x2 x3⟩
noncomputable def wide_less.f (k : Nat) (a : List Int) (b : List Int) : Option Int := (fun h : wide_less.Hs => (cmp_Compare_int.f k (a.length : Int) (b.length : Int)).bind fun y1 => if y1 = 0 then (h.l0 a b 0 (w64 ((a.length : Int) - 1))) else (some (y1))) (wide_less.hs k)
structure wide_less.LE (h h' : wide_less.Hs) : Prop where
 l0 : ∀ y0 y1 y2 y3, LeO (h.l0 y0 y1 y2 y3) (h'.l0 y0 y1 y2 y3)
theorem wide_less.b0_mono {k : Nat} {h h' : wide_less.Hs} (hl : wide_less.LE h h') : ∀ y0 y1 y2 y3, LeO (wide_less.b0 k h y0 y1 y2 y3) (wide_less.b0 (k + 1) h' y0 y1 y2 y3) := fun _ _ _ _ => (LeO.ite (LeO.ite (LeO.ite (LeO.bind (cmp_Compare_uint32.mono k _ _) fun _ => LeO.ite (hl.l0 _ _ _ _) (LeO.refl _)) (LeO.refl _)) (LeO.refl _)) (LeO.refl _))
theorem wide_less.hs_mono : ∀ k, wide_less.LE (wide_less.hs k) (wide_less.hs (k + 1))
 | 0 => ⟨fun _ _ _ _ => LeO.none _⟩
 | k + 1 => ⟨wide_less.b0_mono (k := k) (wide_less.hs_mono k)⟩
theorem wide_less.mono : ∀ k y0 y1, LeO (wide_less.f k y0 y1) (wide_less.f (k + 1) y0 y1) := fun k _ _ => have hl := wide_less.hs_mono k; by unfold wide_less.f; exact (LeO.bind (cmp_Compare_int.mono k _ _) fun _ => LeO.ite (hl.l0 _ _ _ _) (LeO.refl _))
noncomputable def wide_less.Kl0 : List Item := .code (lopB (blkB (seqR (seqL (seqR (seqR wide_less.C)))))) :: .inLoop (lopB (blkB (seqR (seqL (seqR (seqR wide_less.C)))))) :: .inBlock 0 :: .code (seqR (seqR (seqR wide_less.C))) :: []
structure wide_less.OK (h : wide_less.Hs) : Prop where
 l0 : ∀ {H0 H : Hp} {L : Items} {r : Int} {jk_ : Nat → Value} {a : List Int} {b : List Int} {t4 : Int} {i : Int} {v_a : Value} {v_b : Value} (_ : H0.le H) (_he : h.l0 a b t4 i = some r) (_h_a : Src (Kd.int .u32) H L v_a a) (_h_b : Src (Kd.int .u32) H L v_b b), Wp Tryd.prog 47 35 wide_less.Kl0 (upd (upd (upd (upd jk_ 0 (v_a)) 1 (v_b)) 4 (.int .i64 t4)) 6 (.int .i64 i)) H (L) (wide_less.R H0 L r)
set_option maxRecDepth 100000 in
set_option maxHeartbeats 2000000 in
theorem wide_less.b0_ok {k : Nat} {h : wide_less.Hs} (hh : wide_less.OK h) {H0 H : Hp} {L : Items} {r : Int} {jk_ : Nat → Value} {a : List Int} {b : List Int} {t4 : Int} {i : Int} {v_a : Value} {v_b : Value} (hle : H0.le H) (he : wide_less.b0 k h a b t4 i = some r) (h_a : Src (Kd.int .u32) H L v_a a) (h_b : Src (Kd.int .u32) H L v_b b) : Wp Tryd.prog 47 35 wide_less.Kl0 (upd (upd (upd (upd jk_ 0 (v_a)) 1 (v_b)) 4 (.int .i64 t4)) 6 (.int .i64 i)) H (L) (wide_less.R H0 L r) := by
 unfold wide_less.b0 at he
 unfold wide_less.Kl0
 refine w_seq ?_
 refine w_seq ?_
 refine w_region rfl ?_
 refine w_d rfl (d_move (v := .int .i64 i) rfl) ?_
 refine w_d rfl (d_geq rfl rfl) ?_
 refine w_done ?_
 rcases its he with ⟨c6, he⟩ | ⟨c6, he⟩
 ·
  refine w_then rfl (decide_eq_true c6) ?_
  refine w_skip ?_
  refine w_seq ?_
  refine w_block ?_
  refine w_seq ?_
  obtain ⟨c7, he⟩ := rq he
  obtain ⟨c8, he⟩ := rq he
  refine w_drawn (p := 8) (tl := [8, 9]) [[], [], [(0, some 23), (1, some 24)], [(2, some 25)], [], [], [(4, some 27), (5, some 28)], [(6, some 29)]] [some 23, some 24, some 25, some 26, some 27, some 28, some 29, some 30] (fctF (.is (v_a) :: .is (.int .i64 i) :: .is (.pointer (some (pel v_a i 1))) :: .is (.int .u32 (rd a i)) :: .is (v_b) :: .is (.int .i64 i) :: .is (.pointer (some (pel v_b i 1))) :: .is (.int .u32 (rd b i)) :: [])) (fun m_ => L) (fun _ => none) mixed (by kernel_rfl) (by kernel_rfl) rfl (fct_mono (by kernel_rfl)) ⟨(by intro H' m_ hH hm_ hu_; refine depK_nil ?_; exact s_d (m_ 0) rfl (d_move (v := v_a) rfl) (by exact rfl) rfl), (by intro H' m_ hH hm_ hu_; refine depK_nil ?_; exact s_d (m_ 1) rfl (d_move (v := .int .i64 i) rfl) (by exact rfl) rfl), (by intro H' m_ hH hm_ hu_; rintro _ rfl _ rfl; refine depK_nil ?_; exact s_d (m_ 2) rfl (d_index (sz := 1) Tryd.underlying28 sz93 rfl (h_a.mono hH) rfl c7) (by exact rfl) rfl), (by intro H' m_ hH hm_ hu_; rintro _ rfl; refine depK_nil ?_; exact s_d (m_ 3) rfl (d_ldint ty93 rfl (h_a.mono hH) c7) (by exact rfl) rfl), (by intro H' m_ hH hm_ hu_; refine depK_nil ?_; exact s_d (m_ 4) rfl (d_move (v := v_b) rfl) (by exact rfl) rfl), (by intro H' m_ hH hm_ hu_; refine depK_nil ?_; exact s_d (m_ 5) rfl (d_move (v := .int .i64 i) rfl) (by exact rfl) rfl), (by intro H' m_ hH hm_ hu_; rintro _ rfl _ rfl; refine depK_nil ?_; exact s_d (m_ 6) rfl (d_index (sz := 1) Tryd.underlying28 sz93 rfl (h_b.mono hH) rfl c8) (by exact rfl) rfl), (by intro H' m_ hH hm_ hu_; rintro _ rfl; refine depK_nil ?_; exact s_d (m_ 7) rfl (d_ldint ty93 rfl (h_b.mono hH) c8) (by exact rfl) rfl), trivial⟩ ?_
  intro H9 e10
  rintro _ _ rfl _ _ rfl _ _ rfl _ _ rfl _ _ rfl _ _ rfl _ _ rfl _ _ rfl
  obtain ⟨y11, hy12, he⟩ := Option.bind_eq_some_iff.1 he
  refine w_d rfl (call_d (o_call co74 (vs := [.int .u32 (rd a i), .int .u32 (rd b i)]) rfl (cmp_Compare_uint32.calls k hy12))) ?_
  refine w_d rfl (d_assign (v := .int .i64 y11) rfl) ?_
  refine w_done ?_
  refine w_seq ?_
  refine w_region rfl ?_
  refine w_d rfl (d_move (v := .int .i64 y11) rfl) ?_
  refine w_d rfl (d_neq rfl rfl) ?_
  refine w_done ?_
  rcases its he with ⟨c15, he⟩ | ⟨c15, he⟩
  ·
   refine w_else rfl (nd_t c15) ?_
   refine w_skip ?_
   refine w_inBlock ?_
   refine w_region rfl ?_
   refine w_d rfl (d_move (v := .int .i64 i) rfl) ?_
   refine w_d rfl (d_sub (c := w64 (i - 1)) rfl rfl rfl) ?_
   refine w_d rfl (d_assign (v := .int .i64 (w64 (i - 1))) rfl) ?_
   refine w_done ?_
   refine w_inLoop ?_
   refine w_sl 0 (v_a) rfl ?_
   refine w_sl 1 (v_b) rfl ?_
   refine w_sl 4 (.int .i64 t4) rfl ?_
   refine w_sl 6 (.int .i64 (w64 (i - 1))) rfl ?_
   exact hh.l0 (hle.trans e10) he (h_a.mono e10) (h_b.mono e10)
  ·
   refine w_then rfl (nd_f c15) ?_
   refine w_seq ?_
   refine w_region rfl ?_
   refine w_d rfl (d_move (v := .int .i64 y11) rfl) ?_
   refine w_d rfl (d_assign (v := .int .i64 y11) rfl) ?_
   refine w_done ?_
   obtain rfl := Option.some.inj he
   refine w_return fn_47 rs_47 (.tmp (v := .int .i64 y11) rfl .nil) ?_
   exact ⟨⟨[], rfl⟩, hle.trans e10, rfl⟩
 ·
  refine w_else rfl (decide_eq_false c6) ?_
  refine w_exit rfl ?_
  refine w_seq ?_
  refine w_region rfl ?_
  refine w_d rfl (d_assign (v := .int .i64 0) rfl) ?_
  refine w_done ?_
  obtain rfl := Option.some.inj he
  refine w_return fn_47 rs_47 (.tmp (v := .int .i64 0) rfl .nil) ?_
  exact ⟨⟨[], rfl⟩, hle, rfl⟩
theorem wide_less.ok : ∀ k, wide_less.OK (wide_less.hs k)
 | 0 => ⟨(by intros; exact nomatch (show none = some _ from by assumption))⟩
 | k + 1 => ⟨wide_less.b0_ok (k := k) (wide_less.ok k)⟩
set_option maxRecDepth 100000 in
set_option maxHeartbeats 2000000 in
theorem wide_less.calls (k : Nat) {H : Hp} {L : Items} {a : List Int} {b : List Int} {v0_a : Value} {v1_b : Value} {r : Int} (he : wide_less.f k a b = some r) (h0_a : Src (Kd.int .u32) H L v0_a a) (h1_b : Src (Kd.int .u32) H L v1_b b) : Ct Tryd.prog 47 ⟨[v0_a, v1_b]⟩ H L (fun v H' L' => L = L' ∧ H = H' ∧ v = .int .i64 r) := by
 refine ct_outs (O := wide_less.out r) (fun _ _ h => h) ?_
 have hle : H.le H := .refl _
 have hh := wide_less.ok k
 unfold wide_less.f at he
 refine ct_enter (args := [v0_a, v1_b]) fn_47 rfl nt_47 rfl ?_
 refine w_seq ?_
 refine w_region rfl ?_
 refine w_d rfl (d_assign (v := .int .i64 0) rfl) ?_
 refine w_done ?_
 refine w_seq ?_
 refine w_seq ?_
 refine w_region rfl ?_
 refine w_d rfl (d_move (v := v0_a) rfl) ?_
 refine w_d rfl (d_len Tryd.underlying28 rfl h0_a) ?_
 refine w_d rfl (d_move (v := v1_b) rfl) ?_
 refine w_d rfl (d_len Tryd.underlying28 rfl h1_b) ?_
 obtain ⟨y1, hy2, he⟩ := Option.bind_eq_some_iff.1 he
 refine w_d rfl (call_d (o_call co56 (vs := [.int .i64 (a.length : Int), .int .i64 (b.length : Int)]) rfl (cmp_Compare_int.calls k hy2))) ?_
 refine w_d rfl (d_assign (v := .int .i64 y1) rfl) ?_
 refine w_done ?_
 refine w_seq ?_
 refine w_region rfl ?_
 refine w_d rfl (d_move (v := .int .i64 y1) rfl) ?_
 refine w_d rfl (d_neq rfl rfl) ?_
 refine w_done ?_
 rcases its he with ⟨c5, he⟩ | ⟨c5, he⟩
 ·
  refine w_else rfl (nd_t c5) ?_
  refine w_skip ?_
  refine w_seq ?_
  refine w_seq ?_
  refine w_region rfl ?_
  refine w_d rfl (d_move (v := v0_a) rfl) ?_
  refine w_d rfl (d_len Tryd.underlying28 rfl h0_a) ?_
  refine w_d rfl (d_sub (c := w64 ((a.length : Int) - 1)) rfl rfl rfl) ?_
  refine w_d rfl (d_assign (v := .int .i64 (w64 ((a.length : Int) - 1))) rfl) ?_
  refine w_done ?_
  refine w_block ?_
  refine w_loop ?_
  refine w_sl 0 (v0_a) rfl ?_
  refine w_sl 1 (v1_b) rfl ?_
  refine w_sl 4 (.int .i64 0) rfl ?_
  refine w_sl 6 (.int .i64 (w64 ((a.length : Int) - 1))) rfl ?_
  exact hh.l0 hle he h0_a h1_b
 ·
  refine w_then rfl (nd_f c5) ?_
  refine w_seq ?_
  refine w_region rfl ?_
  refine w_d rfl (d_move (v := .int .i64 y1) rfl) ?_
  refine w_d rfl (d_assign (v := .int .i64 y1) rfl) ?_
  refine w_done ?_
  obtain rfl := Option.some.inj he
  refine w_return fn_47 rs_47 (.tmp (v := .int .i64 y1) rfl .nil) ?_
  exact ⟨⟨[], rfl⟩, hle, rfl⟩
/-! ### math/bits.Sub32 -/
noncomputable def bits_Sub32.C : Code := (Tryd.f75.body).getD .skip
def bits_Sub32.out (r : Int × Int) (H : Hp) (v : Value) : Prop := v = .tuple ⟨[.int .u32 r.1, .int .u32 r.2]⟩
abbrev bits_Sub32.R (H0 : Hp) (L : Items) (r : Int × Int) : Value → Hp → Items → Prop := fun v H' L' => (∃ p, L' = p ++ L) ∧ H0.le H' ∧ bits_Sub32.out r H' v
noncomputable def bits_Sub32.f (k : Nat) (x : Int) (y : Int) (borrow : Int) : Option (Int × Int) := some ((((x - y) % 4294967296) - borrow) % 4294967296, (ior .u32 (iand .u32 (ixor .u32 4294967295 x) y) (iand .u32 (ixor .u32 4294967295 (ixor .u32 x y)) ((((x - y) % 4294967296) - borrow) % 4294967296))) / 2147483648)
theorem bits_Sub32.mono : ∀ k y0 y1 y2, LeO (bits_Sub32.f k y0 y1 y2) (bits_Sub32.f (k + 1) y0 y1 y2) := fun k _ _ _ => by unfold bits_Sub32.f; exact (LeO.refl _)
set_option maxRecDepth 100000 in
set_option maxHeartbeats 2000000 in
theorem bits_Sub32.calls (k : Nat) {H : Hp} {L : Items} {x : Int} {y : Int} {borrow : Int} {r : Int × Int} (he : bits_Sub32.f k x y borrow = some r) : Ct Tryd.prog 75 ⟨[.int .u32 x, .int .u32 y, .int .u32 borrow]⟩ H L (fun v H' L' => L = L' ∧ H = H' ∧ v = .tuple ⟨[.int .u32 r.1, .int .u32 r.2]⟩) := by
 refine ct_outs (O := bits_Sub32.out r) (fun _ _ h => h) ?_
 have hle : H.le H := .refl _
 unfold bits_Sub32.f at he
 refine ct_enter (args := [.int .u32 x, .int .u32 y, .int .u32 borrow]) fn_75 rfl nt_75 rfl ?_
 refine w_seq ?_
 refine w_region rfl ?_
 refine w_d rfl (d_assign (v := .int .u32 0) rfl) ?_
 refine w_d rfl (d_assign (v := .int .u32 0) rfl) ?_
 refine w_done ?_
 refine w_seq ?_
 refine w_region rfl ?_
 refine w_d rfl (d_move (v := .int .u32 x) rfl) ?_
 refine w_d rfl (d_move (v := .int .u32 y) rfl) ?_
 refine w_d rfl (d_sub (c := (x - y) % 4294967296) rfl rfl rfl) ?_
 refine w_d rfl (d_move (v := .int .u32 borrow) rfl) ?_
 refine w_d rfl (d_sub (c := (((x - y) % 4294967296) - borrow) % 4294967296) rfl rfl rfl) ?_
 refine w_d rfl (d_assign (v := .int .u32 ((((x - y) % 4294967296) - borrow) % 4294967296)) rfl) ?_
 refine w_done ?_
 refine w_seq ?_
 refine w_region rfl ?_
 refine w_d rfl (d_move (v := .int .u32 x) rfl) ?_
 refine w_d rfl (d_inv rfl) ?_
 refine w_d rfl (d_move (v := .int .u32 y) rfl) ?_
 refine w_d rfl (d_band rfl rfl) ?_
 refine w_d rfl (d_move (v := .int .u32 x) rfl) ?_
 refine w_d rfl (d_move (v := .int .u32 y) rfl) ?_
 refine w_d rfl (d_bxor rfl rfl) ?_
 refine w_d rfl (d_inv rfl) ?_
 refine w_d rfl (d_move (v := .int .u32 ((((x - y) % 4294967296) - borrow) % 4294967296)) rfl) ?_
 refine w_d rfl (d_band rfl rfl) ?_
 refine w_d rfl (d_bor rfl rfl) ?_
 refine w_d rfl (d_shr (c := (ior .u32 (iand .u32 (ixor .u32 4294967295 x) y) (iand .u32 (ixor .u32 4294967295 (ixor .u32 x y)) ((((x - y) % 4294967296) - borrow) % 4294967296))) / 2147483648) rfl rfl (by decide) rfl) ?_
 refine w_d rfl (d_assign (v := .int .u32 ((ior .u32 (iand .u32 (ixor .u32 4294967295 x) y) (iand .u32 (ixor .u32 4294967295 (ixor .u32 x y)) ((((x - y) % 4294967296) - borrow) % 4294967296))) / 2147483648)) rfl) ?_
 refine w_done ?_
 obtain rfl := Option.some.inj he
 refine w_return fn_75 rs_75 (.tmp (v := .int .u32 ((((x - y) % 4294967296) - borrow) % 4294967296)) rfl (.tmp (v := .int .u32 ((ior .u32 (iand .u32 (ixor .u32 4294967295 x) y) (iand .u32 (ixor .u32 4294967295 (ixor .u32 x y)) ((((x - y) % 4294967296) - borrow) % 4294967296))) / 2147483648)) rfl .nil)) ?_
 exact ⟨⟨[], rfl⟩, hle, rfl⟩
end Go.Proofs.YtmnhbbckndlnkaaDoor.GWL

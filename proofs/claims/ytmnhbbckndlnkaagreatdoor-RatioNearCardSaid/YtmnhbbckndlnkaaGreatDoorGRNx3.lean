/- A text of this session, written by a program (wip/k/gen.py): Go functions as Lean functions, and proofs that the code comes to them. -/
import Derived.Test.YtmnhbbckndlnkaaGreatDoorGRNx2
namespace Go.Proofs.YtmnhbbckndlnkaaGreatDoor.GRN
open Go Go.RowKit Go.Proofs.YtmnhbbckndlnkaaGreatDoorK Go.Proofs.YtmnhbbckndlnkaaGreatDoor
set_option maxRecDepth 100000
set_option maxHeartbeats 2000000
set_option linter.unusedVariables false
set_option linter.unusedSimpArgs false
/-! ### radome/wide.down -/
noncomputable def wide_down.C : Code := (Tryz.f64.body).getD .skip
abbrev wide_down.out (r : (List Int)) (H : Hp) (v : Value) : Prop := Ro (Kd.int .u32) H v r
abbrev wide_down.R (H0 : Hp) (L : Items) (r : (List Int)) : Value → Hp → Items → Prop := fun v H' L' => (∃ p, L' = p ++ L) ∧ H0.le H' ∧ wide_down.out r H' v
structure wide_down.Hs where
 l0 : Int → (List Int) → Int → Int → Option (List Int)
noncomputable def wide_down.j2 (k : Nat) (h : wide_down.Hs)  (n : Int) (out : List Int) (i : Int) (v_ : Int) (t11 : Int) (t12 : Int) : Option (List Int) := if 0 ≤ n then (if (0 : Int) ≤ i ∧ i < (out.length : Int) then (h.l0 n (out.set (i : Int).toNat ((v_ / 2 ^ shn .u64 n) % 4294967296)) t11 (w64 (t12 + 1))) else none) else none
noncomputable def wide_down.b0 (k : Nat) (h : wide_down.Hs)  (n : Int) (out : List Int) (t11 : Int) (t12 : Int) : Option (List Int) := if t12 < t11 then (if (0 : Int) ≤ t12 ∧ t12 < (out.length : Int) then (if (w64 (t12 + 1)) < (out.length : Int) then (if (0 : Int) ≤ w64 (t12 + 1) ∧ w64 (t12 + 1) < (out.length : Int) then (wide_down.j2 k h n out t12 (ior .u64 ((rd out t12) % 18446744073709551616) ((((rd out (w64 (t12 + 1))) % 18446744073709551616) * 4294967296) % 18446744073709551616)) t11 t12) else none) else (wide_down.j2 k h n out t12 ((rd out t12) % 18446744073709551616) t11 t12)) else none) else ((wide_trim.f k out).bind fun y17 => some (y17))
noncomputable def wide_down.hs : Nat → wide_down.Hs
 | 0 => ⟨fun _ _ _ _ => none⟩
 | k + 1 => ⟨fun x0 x1 x2 x3 => wide_down.b0 k (wide_down.hs k) x0 x1 x2 x3⟩
noncomputable def wide_down.f (k : Nat) (w : List Int) (n : Int) : Option (List Int) := (fun h : wide_down.Hs => (slices_Clone_uint32_uint32.f k w).bind fun y1 => h.l0 n y1 (y1.length : Int) 0) (wide_down.hs k)
structure wide_down.LE (h h' : wide_down.Hs) : Prop where
 l0 : ∀ y0 y1 y2 y3, LeO (h.l0 y0 y1 y2 y3) (h'.l0 y0 y1 y2 y3)
theorem wide_down.j2_mono {k : Nat} {h h' : wide_down.Hs} (hl : wide_down.LE h h') : ∀ y0 y1 y2 y3 y4 y5, LeO (wide_down.j2 k h y0 y1 y2 y3 y4 y5) (wide_down.j2 (k + 1) h' y0 y1 y2 y3 y4 y5) := fun _ _ _ _ _ _ => (LeO.ite (LeO.ite (hl.l0 _ _ _ _) (LeO.refl _)) (LeO.refl _))
theorem wide_down.b0_mono {k : Nat} {h h' : wide_down.Hs} (hl : wide_down.LE h h') : ∀ y0 y1 y2 y3, LeO (wide_down.b0 k h y0 y1 y2 y3) (wide_down.b0 (k + 1) h' y0 y1 y2 y3) := fun _ _ _ _ => (LeO.ite (LeO.ite (LeO.ite (LeO.ite (wide_down.j2_mono (k := k) hl _ _ _ _ _ _) (LeO.refl _)) (wide_down.j2_mono (k := k) hl _ _ _ _ _ _)) (LeO.refl _)) (LeO.bind (wide_trim.mono k _) fun _ => LeO.refl _))
theorem wide_down.hs_mono : ∀ k, wide_down.LE (wide_down.hs k) (wide_down.hs (k + 1))
 | 0 => ⟨fun _ _ _ _ => LeO.none _⟩
 | k + 1 => ⟨wide_down.b0_mono (k := k) (wide_down.hs_mono k)⟩
theorem wide_down.mono : ∀ k y0 y1, LeO (wide_down.f k y0 y1) (wide_down.f (k + 1) y0 y1) := fun k _ _ => have hl := wide_down.hs_mono k; by unfold wide_down.f; exact (LeO.bind (slices_Clone_uint32_uint32.mono k _) fun _ => hl.l0 _ _ _ _)
noncomputable def wide_down.Kl0 : List Item := .code (lopB (blkB (seqR (seqL (seqR (seqR wide_down.C)))))) :: .inLoop (lopB (blkB (seqR (seqL (seqR (seqR wide_down.C)))))) :: .inBlock 0 :: .code (seqR (seqR (seqR wide_down.C))) :: []
noncomputable def wide_down.Kj2 : List Item := .code (seqR (seqR (seqR (blkB (seqL (seqR (seqR (lopB (blkB (seqR (seqL (seqR (seqR wide_down.C))))))))))))) :: .inBlock 1 :: .code (seqR (seqR (seqR (lopB (blkB (seqR (seqL (seqR (seqR wide_down.C))))))))) :: .inLoop (lopB (blkB (seqR (seqL (seqR (seqR wide_down.C)))))) :: .inBlock 0 :: .code (seqR (seqR (seqR wide_down.C))) :: []
structure wide_down.OK (h : wide_down.Hs) : Prop where
 l0 : ∀ {H0 H : Hp} {L : Items} {r : (List Int)} {jk_ : Nat → Value} {n : Int} {out : List Int} {t11 : Int} {t12 : Int} {v_out : Value} {i_out : Item'} (_ : H0.le H) (_he : h.l0 n out t11 t12 = some r) (_h_out : Sl (Kd.int .u32) H 90 i_out v_out out), Wp Tryz.prog 64 44 wide_down.Kl0 (upd (upd (upd (upd (upd jk_ 1 (.int .i64 n)) 4 (.slice none 0 0)) 5 (v_out)) 11 (.int .i64 t11)) 12 (.int .i64 t12)) H (i_out :: L) (wide_down.R H0 L r)
theorem wide_down.j2_ok {k : Nat} {h : wide_down.Hs} (hh : wide_down.OK h) {H0 H : Hp} {L : Items} {r : (List Int)} {jk_ : Nat → Value} {n : Int} {out : List Int} {i : Int} {v_ : Int} {t11 : Int} {t12 : Int} {v_out : Value} {i_out : Item'} (hle : H0.le H) (he : wide_down.j2 k h n out i v_ t11 t12 = some r) (h_out : Sl (Kd.int .u32) H 90 i_out v_out out) : Wp Tryz.prog 64 44 wide_down.Kj2 (upd (upd (upd (upd (upd (upd (upd jk_ 1 (.int .i64 n)) 4 (.slice none 0 0)) 5 (v_out)) 6 (.int .i64 i)) 7 (.int .u64 v_)) 11 (.int .i64 t11)) 12 (.int .i64 t12)) H (i_out :: L) (wide_down.R H0 L r) := by
 unfold wide_down.j2 at he
 unfold wide_down.Kj2
 refine w_region rfl <| w_d rfl (d_move (v := v_out) rfl) <| w_d rfl (d_move (v := .int .i64 i) rfl) <| w_d rfl (d_move (v := .int .u64 v_) rfl) <| w_d rfl (d_move (v := .int .i64 n) rfl) ?_
 obtain ⟨c23, he⟩ := rq he
 refine w_d rfl (d_shr (c := v_ / 2 ^ shn .u64 n) rfl rfl c23 rfl) <| w_d rfl (d_conv (c := (v_ / 2 ^ shn .u64 n) % 4294967296) Tryz.underlying88 Tryz.underlying90 rfl rfl) ?_
 obtain ⟨c24, he⟩ := rq he
 refine w_d rfl (d_indexS (sz := 1) Tryz.underlying34 sz90 rfl h_out.shp rfl c24) <| w_a0 rfl (o_storeEl (kd := (Kd.int .u32)) (v := .int .u32 ((v_ / 2 ^ shn .u64 n) % 4294967296)) (F := fun z_ => z_ :: L) sz90 rfl rfl rfl rfl h_out c24 (fun _ => .here)) ?_
 rintro _ _ _ ⟨i25, rfl, rfl, rfl, h26⟩
 refine w_done <| w_inBlock <| w_region rfl <| w_d rfl (d_add (c := w64 (t12 + 1)) rfl rfl rfl) <| w_d rfl (d_move (v := .int .i64 (w64 (t12 + 1))) rfl) <| w_done <| w_inLoop <| w_sl 1 (.int .i64 n) rfl <| w_sl 4 (.slice none 0 0) rfl <| w_sl 5 (v_out) rfl <| w_sl 11 (.int .i64 t11) rfl <| w_sl 12 (.int .i64 (w64 (t12 + 1))) rfl <| hh.l0 hle he h26
theorem wide_down.b0_ok {k : Nat} {h : wide_down.Hs} (hh : wide_down.OK h) {H0 H : Hp} {L : Items} {r : (List Int)} {jk_ : Nat → Value} {n : Int} {out : List Int} {t11 : Int} {t12 : Int} {v_out : Value} {i_out : Item'} (hle : H0.le H) (he : wide_down.b0 k h n out t11 t12 = some r) (h_out : Sl (Kd.int .u32) H 90 i_out v_out out) : Wp Tryz.prog 64 44 wide_down.Kl0 (upd (upd (upd (upd (upd jk_ 1 (.int .i64 n)) 4 (.slice none 0 0)) 5 (v_out)) 11 (.int .i64 t11)) 12 (.int .i64 t12)) H (i_out :: L) (wide_down.R H0 L r) := by
 unfold wide_down.b0 at he
 unfold wide_down.Kl0
 refine w_seq <| w_region rfl <| w_d rfl (d_lss rfl rfl) <| w_done <| w_seq ?_
 rcases its he with ⟨c10, he⟩ | ⟨c10, he⟩
 ·
  refine w_then rfl (decide_eq_true c10) <| w_skip <| w_seq <| w_block <| w_seq <| w_region rfl <| w_d rfl (d_move (v := .int .i64 t12) rfl) <| w_d rfl (d_assign (v := .int .i64 t12) rfl) <| w_done <| w_seq <| w_region rfl <| w_d rfl (d_move (v := v_out) rfl) ?_
  refine w_d rfl (d_move (v := .int .i64 t12) rfl) ?_
  obtain ⟨c11, he⟩ := rq he
  refine w_d rfl (d_indexS (sz := 1) Tryz.underlying34 sz90 rfl h_out.shp rfl c11) <| w_d rfl (d_ldint ty90 rfl (h_out.src .here) c11) <| w_d rfl (d_conv (c := (rd out t12) % 18446744073709551616) Tryz.underlying90 Tryz.underlying88 rfl rfl) <| w_d rfl (d_assign (v := .int .u64 ((rd out t12) % 18446744073709551616)) rfl) <| w_done <| w_seq <| w_seq <| w_region rfl <| w_d rfl (d_move (v := .int .i64 t12) rfl) <| w_d rfl (d_add (c := w64 (t12 + 1)) rfl rfl rfl) <| w_d rfl (d_move (v := v_out) rfl) <| w_d rfl (d_lenS Tryz.underlying34 rfl h_out.shp) ?_
  refine w_d rfl (d_lss rfl rfl) <| w_done ?_
  rcases its he with ⟨c12, he⟩ | ⟨c12, he⟩
  ·
   refine w_then rfl (decide_eq_true c12) <| w_region rfl <| w_d rfl (d_move (v := .int .u64 ((rd out t12) % 18446744073709551616)) rfl) <| w_d rfl (d_move (v := v_out) rfl) <| w_d rfl (d_move (v := .int .i64 t12) rfl) <| w_d rfl (d_add (c := w64 (t12 + 1)) rfl rfl rfl) ?_
   obtain ⟨c13, he⟩ := rq he
   refine w_d rfl (d_indexS (sz := 1) Tryz.underlying34 sz90 rfl h_out.shp rfl c13) <| w_d rfl (d_ldint ty90 rfl (h_out.src .here) c13) <| w_d rfl (d_conv (c := (rd out (w64 (t12 + 1))) % 18446744073709551616) Tryz.underlying90 Tryz.underlying88 rfl rfl) <| w_d rfl (d_shl (c := (((rd out (w64 (t12 + 1))) % 18446744073709551616) * 4294967296) % 18446744073709551616) rfl rfl (by decide) rfl) <| w_d rfl (d_bor rfl rfl) <| w_d rfl (d_assign (v := .int .u64 (ior .u64 ((rd out t12) % 18446744073709551616) ((((rd out (w64 (t12 + 1))) % 18446744073709551616) * 4294967296) % 18446744073709551616))) rfl) <| w_done <| w_sl 1 (.int .i64 n) rfl <| w_sl 4 (.slice none 0 0) rfl <| w_sl 5 (v_out) rfl <| w_sl 6 (.int .i64 t12) rfl <| w_sl 7 (.int .u64 (ior .u64 ((rd out t12) % 18446744073709551616) ((((rd out (w64 (t12 + 1))) % 18446744073709551616) * 4294967296) % 18446744073709551616))) rfl ?_
   refine w_sl 11 (.int .i64 t11) rfl <| w_sl 12 (.int .i64 t12) rfl <| wide_down.j2_ok (k := k) hh hle he h_out
  ·
   refine w_else rfl (decide_eq_false c12) <| w_skip <| w_sl 1 (.int .i64 n) rfl <| w_sl 4 (.slice none 0 0) rfl <| w_sl 5 (v_out) rfl <| w_sl 6 (.int .i64 t12) rfl <| w_sl 7 (.int .u64 ((rd out t12) % 18446744073709551616)) rfl <| w_sl 11 (.int .i64 t11) rfl <| w_sl 12 (.int .i64 t12) rfl <| wide_down.j2_ok (k := k) hh hle he h_out
 ·
  refine w_else rfl (decide_eq_false c10) <| w_exit rfl <| w_seq <| w_region rfl <| w_d rfl (d_move (v := v_out) rfl) <| w_freeze h_out .here ?_
  intro H14 e15 h16
  obtain ⟨y17, hy18, he⟩ := Option.bind_eq_some_iff.1 he
  refine w_a rfl (o_call co47 (vs := [v_out]) rfl (wide_trim.calls k hy18 h16)) ?_
  rintro v21 H19 _ ⟨rfl, e20, h22⟩
  refine w_d rfl (d_assign (v := v21) rfl) <| w_done ?_
  obtain rfl := Option.some.inj he
  refine w_return fn_64 rs_64 (.tmp (v := v21) rfl .nil) <| ⟨⟨[_], rfl⟩, hle.trans (e15.trans e20), h22⟩
theorem wide_down.ok : ∀ k, wide_down.OK (wide_down.hs k)
 | 0 => ⟨(by intros; exact nomatch (show none = some _ from by assumption))⟩
 | k + 1 => ⟨wide_down.b0_ok (k := k) (wide_down.ok k)⟩
theorem wide_down.calls (k : Nat) {H : Hp} {L : Items} {w : List Int} {n : Int} {v0_w : Value} {r : (List Int)} (he : wide_down.f k w n = some r) (h0_w : Ro (Kd.int .u32) H v0_w w) : Ct Tryz.prog 64 ⟨[v0_w, .int .i64 n]⟩ H L (fun v H' L' => L = L' ∧ H.le H' ∧ wide_down.out r H' v) := by
 refine ct_out (O := wide_down.out r) ?_
 have hle : H.le H := .refl _
 have hh := wide_down.ok k
 unfold wide_down.f at he
 refine ct_enter (args := [v0_w, .int .i64 n]) fn_64 rfl nt_64 rfl <| w_seq <| w_region rfl <| w_d rfl (d_assign (v := .slice none 0 0) rfl) <| w_done <| w_seq <| w_region rfl <| w_d rfl (d_move (v := v0_w) rfl) ?_
 obtain ⟨y1, hy2, he⟩ := Option.bind_eq_some_iff.1 he
 refine w_a rfl (o_call co65 (vs := [v0_w]) rfl (slices_Clone_uint32_uint32.calls k hy2 h0_w)) ?_
 rintro v7 H3 _ ⟨i8, rfl, e4, h9⟩
 refine w_d rfl (d_assign (v := v7) rfl) <| w_done <| w_seq <| w_seq <| w_region rfl <| w_d rfl (d_move (v := v7) rfl) <| w_d rfl (d_lenS Tryz.underlying34 rfl h9.shp) <| w_d rfl (d_move (v := .int .i64 0) rfl) <| w_done <| w_block <| w_loop <| w_sl 1 (.int .i64 n) rfl ?_
 refine w_sl 4 (.slice none 0 0) rfl <| w_sl 5 (v7) rfl <| w_sl 11 (.int .i64 (y1.length : Int)) rfl <| w_sl 12 (.int .i64 0) rfl <| hh.l0 (hle.trans e4) he h9
/-! ### radome/wide.long -/
noncomputable def wide_long.C : Code := (Tryz.f67.body).getD .skip
def wide_long.out (r : (List Int) × (List Int)) (H : Hp) (v : Value) : Prop := ∃ v0, ∃ v1, v = .tuple ⟨[v0, v1]⟩ ∧ Ro (Kd.int .u32) H v0 r.1 ∧ Ro (Kd.int .u32) H v1 r.2
theorem wide_long.out_mono (r : (List Int) × (List Int)) {H H' : Hp} {v : Value} (hle : H.le H') (h : wide_long.out r H v) : wide_long.out r H' v := by
 obtain ⟨v0, v1, rfl, h0, h1⟩ := h; exact ⟨v0, v1, rfl, h0.mono hle, h1.mono hle⟩
abbrev wide_long.R (H0 : Hp) (L : Items) (r : (List Int) × (List Int)) : Value → Hp → Items → Prop := fun v H' L' => (∃ p, L' = p ++ L) ∧ H0.le H' ∧ wide_long.out r H' v
structure wide_long.Hs where
 l0 : Int → (List Int) → (List Int) → (List Int) → Int → Option ((List Int) × (List Int))
noncomputable def wide_long.j2 (k : Nat) (h : wide_long.Hs)  (n : Int) (d : List Int) (r_ : List Int) (q : List Int) (i : Int) (g : Int) : Option ((List Int) × (List Int)) := if (0 : Int) ≤ i ∧ i < (q.length : Int) then (h.l0 n d r_ (q.set (i : Int).toNat ((g) % 4294967296)) (w64 (i - 1))) else none
noncomputable def wide_long.b0 (k : Nat) (h : wide_long.Hs)  (n : Int) (d : List Int) (r_ : List Int) (q : List Int) (i : Int) : Option ((List Int) × (List Int)) := if 0 ≤ i then ((wide_guess.f k r_ d i).bind fun y63 => (wide_takeOff.f k r_ d i y63).bind fun y67 => if y67.1 = true then ((wide_giveBack.f k y67.2 d i).bind fun y74 => wide_long.j2 k h n d y74 q i ((y63 - 1) % 18446744073709551616)) else (wide_long.j2 k h n d y67.2 q i y63)) else ((wide_trim.f k q).bind fun y83 => (wide_down.f k r_ n).bind fun y92 => some (y83, y92))
noncomputable def wide_long.hs : Nat → wide_long.Hs
 | 0 => ⟨fun _ _ _ _ _ => none⟩
 | k + 1 => ⟨fun x0 x1 x2 x3 x4 => wide_long.b0 k (wide_long.hs k) x0 x1 x2 x3 x4⟩
noncomputable def wide_long.f (k : Nat) (a : List Int) (b : List Int) : Option ((List Int) × (List Int)) := (fun h : wide_long.Hs => (wide_less.f k a b).bind fun y1 => if y1 < 0 then (some ([], a)) else (if (b.length : Int) = 1 then (if (0 : Int) ≤ 0 ∧ 0 < (b.length : Int) then ((wide_short.f k a (rd b 0)).bind fun y8 => (wide_trim.f k [y8.2]).bind fun y20 => some (y8.1, y20)) else none) else (if (0 : Int) ≤ w64 ((b.length : Int) - 1) ∧ w64 ((b.length : Int) - 1) < (b.length : Int) then ((bits_LeadingZeros32.f k (rd b (w64 ((b.length : Int) - 1)))).bind fun y27 => (wide_up.f k b y27).bind fun y31 => (wide_trim.f k y31).bind fun y43 => (wide_up.f k a y27).bind fun y49 => if 0 ≤ w64 ((y49.length : Int) - (y43.length : Int)) ∧ w64 ((y49.length : Int) - (y43.length : Int)) ≤ 70368744177664 then (h.l0 y27 y43 y49 (List.replicate (w64 ((y49.length : Int) - (y43.length : Int)) : Int).toNat (0 : Int)) (w64 (((List.replicate (w64 ((y49.length : Int) - (y43.length : Int)) : Int).toNat (0 : Int)).length : Int) - 1))) else none) else none))) (wide_long.hs k)
structure wide_long.LE (h h' : wide_long.Hs) : Prop where
 l0 : ∀ y0 y1 y2 y3 y4, LeO (h.l0 y0 y1 y2 y3 y4) (h'.l0 y0 y1 y2 y3 y4)
theorem wide_long.j2_mono {k : Nat} {h h' : wide_long.Hs} (hl : wide_long.LE h h') : ∀ y0 y1 y2 y3 y4 y5, LeO (wide_long.j2 k h y0 y1 y2 y3 y4 y5) (wide_long.j2 (k + 1) h' y0 y1 y2 y3 y4 y5) := fun _ _ _ _ _ _ => (LeO.ite (hl.l0 _ _ _ _ _) (LeO.refl _))
theorem wide_long.b0_mono {k : Nat} {h h' : wide_long.Hs} (hl : wide_long.LE h h') : ∀ y0 y1 y2 y3 y4, LeO (wide_long.b0 k h y0 y1 y2 y3 y4) (wide_long.b0 (k + 1) h' y0 y1 y2 y3 y4) := fun _ _ _ _ _ => (LeO.ite (LeO.bind (wide_guess.mono k _ _ _) fun _ => LeO.bind (wide_takeOff.mono k _ _ _ _) fun _ => LeO.ite (LeO.bind (wide_giveBack.mono k _ _ _) fun _ => wide_long.j2_mono (k := k) hl _ _ _ _ _ _) (wide_long.j2_mono (k := k) hl _ _ _ _ _ _)) (LeO.bind (wide_trim.mono k _) fun _ => LeO.bind (wide_down.mono k _ _) fun _ => LeO.refl _))
theorem wide_long.hs_mono : ∀ k, wide_long.LE (wide_long.hs k) (wide_long.hs (k + 1))
 | 0 => ⟨fun _ _ _ _ _ => LeO.none _⟩
 | k + 1 => ⟨wide_long.b0_mono (k := k) (wide_long.hs_mono k)⟩
theorem wide_long.mono : ∀ k y0 y1, LeO (wide_long.f k y0 y1) (wide_long.f (k + 1) y0 y1) := fun k _ _ => have hl := wide_long.hs_mono k; by unfold wide_long.f; exact (LeO.bind (wide_less.mono k _ _) fun _ => LeO.ite (LeO.refl _) (LeO.ite (LeO.ite (LeO.bind (wide_short.mono k _ _) fun _ => LeO.bind (wide_trim.mono k _) fun _ => LeO.refl _) (LeO.refl _)) (LeO.ite (LeO.bind (bits_LeadingZeros32.mono k _) fun _ => LeO.bind (wide_up.mono k _ _) fun _ => LeO.bind (wide_trim.mono k _) fun _ => LeO.bind (wide_up.mono k _ _) fun _ => LeO.ite (hl.l0 _ _ _ _ _) (LeO.refl _)) (LeO.refl _))))
noncomputable def wide_long.Kl0 : List Item := .code (lopB (blkB (seqR (seqL (seqR (seqR (seqR (seqR (seqR (seqR (seqR wide_long.C))))))))))) :: .inLoop (lopB (blkB (seqR (seqL (seqR (seqR (seqR (seqR (seqR (seqR (seqR wide_long.C))))))))))) :: .inBlock 0 :: .code (seqR (seqR (seqR (seqR (seqR (seqR (seqR (seqR wide_long.C)))))))) :: []
noncomputable def wide_long.Kj2 : List Item := .code (seqR (seqR (blkB (seqL (seqR (lopB (blkB (seqR (seqL (seqR (seqR (seqR (seqR (seqR (seqR (seqR wide_long.C)))))))))))))))) :: .inBlock 1 :: .code (seqR (seqR (lopB (blkB (seqR (seqL (seqR (seqR (seqR (seqR (seqR (seqR (seqR wide_long.C))))))))))))) :: .inLoop (lopB (blkB (seqR (seqL (seqR (seqR (seqR (seqR (seqR (seqR (seqR wide_long.C))))))))))) :: .inBlock 0 :: .code (seqR (seqR (seqR (seqR (seqR (seqR (seqR (seqR wide_long.C)))))))) :: []
structure wide_long.OK (h : wide_long.Hs) : Prop where
 l0 : ∀ {H0 H : Hp} {L : Items} {r : (List Int) × (List Int)} {jk_ : Nat → Value} {n : Int} {d : List Int} {r_ : List Int} {q : List Int} {i : Int} {v_d : Value} {v_r_ : Value} {v_q : Value} {i_r_ : Item'} {i_q : Item'} (_ : H0.le H) (_he : h.l0 n d r_ q i = some r) (_h_d : Ro (Kd.int .u32) H v_d d) (_h_r_ : Sl (Kd.int .u32) H 90 i_r_ v_r_ r_) (_h_q : Sl (Kd.int .u32) H 90 i_q v_q q), Wp Tryz.prog 67 86 wide_long.Kl0 (upd (upd (upd (upd (upd (upd (upd jk_ 4 (.slice none 0 0)) 5 (.slice none 0 0)) 8 (.int .i64 n)) 9 (v_d)) 10 (v_r_)) 11 (v_q)) 12 (.int .i64 i)) H (i_q :: i_r_ :: L) (wide_long.R H0 L r)
theorem wide_long.j2_ok {k : Nat} {h : wide_long.Hs} (hh : wide_long.OK h) {H0 H : Hp} {L : Items} {r : (List Int) × (List Int)} {jk_ : Nat → Value} {n : Int} {d : List Int} {r_ : List Int} {q : List Int} {i : Int} {g : Int} {v_d : Value} {v_r_ : Value} {v_q : Value} {i_r_ : Item'} {i_q : Item'} (hle : H0.le H) (he : wide_long.j2 k h n d r_ q i g = some r) (h_d : Ro (Kd.int .u32) H v_d d) (h_r_ : Sl (Kd.int .u32) H 90 i_r_ v_r_ r_) (h_q : Sl (Kd.int .u32) H 90 i_q v_q q) : Wp Tryz.prog 67 86 wide_long.Kj2 (upd (upd (upd (upd (upd (upd (upd (upd jk_ 4 (.slice none 0 0)) 5 (.slice none 0 0)) 8 (.int .i64 n)) 9 (v_d)) 10 (v_r_)) 11 (v_q)) 12 (.int .i64 i)) 13 (.int .u64 g)) H (i_q :: i_r_ :: L) (wide_long.R H0 L r) := by
 unfold wide_long.j2 at he
 unfold wide_long.Kj2
 refine w_region rfl <| w_d rfl (d_move (v := v_q) rfl) <| w_d rfl (d_move (v := .int .i64 i) rfl) <| w_d rfl (d_move (v := .int .u64 g) rfl) <| w_d rfl (d_conv (c := (g) % 4294967296) Tryz.underlying88 Tryz.underlying90 rfl rfl) ?_
 obtain ⟨c98, he⟩ := rq he
 refine w_d rfl (d_indexS (sz := 1) Tryz.underlying34 sz90 rfl h_q.shp rfl c98) <| w_a0 rfl (o_storeEl (kd := (Kd.int .u32)) (v := .int .u32 ((g) % 4294967296)) (F := fun z_ => z_ :: i_r_ :: L) sz90 rfl rfl rfl rfl h_q c98 (fun _ => .here)) ?_
 rintro _ _ _ ⟨i99, rfl, rfl, rfl, h100⟩
 refine w_done <| w_inBlock <| w_region rfl <| w_d rfl (d_move (v := .int .i64 i) rfl) <| w_d rfl (d_sub (c := w64 (i - 1)) rfl rfl rfl) <| w_d rfl (d_assign (v := .int .i64 (w64 (i - 1))) rfl) <| w_done <| w_inLoop <| w_sl 4 (.slice none 0 0) rfl <| w_sl 5 (.slice none 0 0) rfl <| w_sl 8 (.int .i64 n) rfl <| w_sl 9 (v_d) rfl ?_
 refine w_sl 10 (v_r_) rfl <| w_sl 11 (v_q) rfl <| w_sl 12 (.int .i64 (w64 (i - 1))) rfl <| hh.l0 hle he h_d h_r_ h100
theorem wide_long.b0_ok {k : Nat} {h : wide_long.Hs} (hh : wide_long.OK h) {H0 H : Hp} {L : Items} {r : (List Int) × (List Int)} {jk_ : Nat → Value} {n : Int} {d : List Int} {r_ : List Int} {q : List Int} {i : Int} {v_d : Value} {v_r_ : Value} {v_q : Value} {i_r_ : Item'} {i_q : Item'} (hle : H0.le H) (he : wide_long.b0 k h n d r_ q i = some r) (h_d : Ro (Kd.int .u32) H v_d d) (h_r_ : Sl (Kd.int .u32) H 90 i_r_ v_r_ r_) (h_q : Sl (Kd.int .u32) H 90 i_q v_q q) : Wp Tryz.prog 67 86 wide_long.Kl0 (upd (upd (upd (upd (upd (upd (upd jk_ 4 (.slice none 0 0)) 5 (.slice none 0 0)) 8 (.int .i64 n)) 9 (v_d)) 10 (v_r_)) 11 (v_q)) 12 (.int .i64 i)) H (i_q :: i_r_ :: L) (wide_long.R H0 L r) := by
 unfold wide_long.b0 at he
 unfold wide_long.Kl0
 refine w_seq <| w_seq <| w_region rfl <| w_d rfl (d_move (v := .int .i64 i) rfl) <| w_d rfl (d_geq rfl rfl) <| w_done ?_
 rcases its he with ⟨c62, he⟩ | ⟨c62, he⟩
 ·
  refine w_then rfl (decide_eq_true c62) <| w_skip <| w_seq <| w_block <| w_seq <| w_region rfl <| w_d rfl (d_move (v := v_r_) rfl) <| w_d rfl (d_move (v := v_d) rfl) <| w_d rfl (d_move (v := .int .i64 i) rfl) ?_
  obtain ⟨y63, hy64, he⟩ := Option.bind_eq_some_iff.1 he
  refine w_d rfl (call_d (o_call co89 (vs := [v_r_, v_d, .int .i64 i]) rfl (wide_guess.calls k hy64 (h_r_.src (.there .here)) h_d.src))) <| w_d rfl (d_assign (v := .int .u64 y63) rfl) <| w_done <| w_seq <| w_seq <| w_region rfl <| w_d rfl (d_move (v := v_r_) rfl) <| w_d rfl (d_move (v := v_d) rfl) <| w_d rfl (d_move (v := .int .i64 i) rfl) <| w_d rfl (d_move (v := .int .u64 y63) rfl) ?_
  obtain ⟨y67, hy68, he⟩ := Option.bind_eq_some_iff.1 he
  refine w_a rfl (o_call co90 (vs := [v_r_, v_d, .int .i64 i, .int .u64 y63]) rfl (ct_at (F := fun z_ => i_q :: z_ :: L) (wide_takeOff.calls k hy68 h_r_ h_d.src) (.there .here) (fun _ => (.there .here)))) ?_
  rintro _ H69 _ ⟨i71, rfl, e70, h72, rfl⟩
  refine w_done ?_
  rcases its he with ⟨c73, he⟩ | ⟨c73, he⟩
  ·
   refine w_then rfl c73 <| w_seq <| w_region rfl <| w_d rfl (d_move (v := .int .u64 y63) rfl) <| w_d rfl (d_sub (c := (y63 - 1) % 18446744073709551616) rfl rfl rfl) <| w_d rfl (d_assign (v := .int .u64 ((y63 - 1) % 18446744073709551616)) rfl) <| w_done <| w_region rfl <| w_d rfl (d_move (v := v_r_) rfl) <| w_d rfl (d_move (v := v_d) rfl) <| w_d rfl (d_move (v := .int .i64 i) rfl) ?_
   obtain ⟨y74, hy75, he⟩ := Option.bind_eq_some_iff.1 he
   refine w_a rfl (o_call co91 (vs := [v_r_, v_d, .int .i64 i]) rfl (ct_at (F := fun z_ => i_q :: z_ :: L) (wide_giveBack.calls k hy75 h72 ((h_d.mono e70).src)) (.there .here) (fun _ => (.there .here)))) ?_
   rintro _ H76 _ ⟨i78, rfl, e77, h79, rfl⟩
   refine w_done <| w_sl 4 (.slice none 0 0) rfl <| w_sl 5 (.slice none 0 0) rfl <| w_sl 8 (.int .i64 n) rfl <| w_sl 9 (v_d) rfl <| w_sl 10 (v_r_) rfl <| w_sl 11 (v_q) rfl <| w_sl 12 (.int .i64 i) rfl <| w_sl 13 (.int .u64 ((y63 - 1) % 18446744073709551616)) rfl <| wide_long.j2_ok (k := k) hh (hle.trans (e70.trans e77)) he (h_d.mono (e70.trans e77)) h79 (h_q.mono (e70.trans e77))
  ·
   refine w_else rfl (Bool.eq_false_iff.2 c73) <| w_skip <| w_sl 4 (.slice none 0 0) rfl <| w_sl 5 (.slice none 0 0) rfl <| w_sl 8 (.int .i64 n) rfl <| w_sl 9 (v_d) rfl <| w_sl 10 (v_r_) rfl <| w_sl 11 (v_q) rfl <| w_sl 12 (.int .i64 i) rfl <| w_sl 13 (.int .u64 y63) rfl <| wide_long.j2_ok (k := k) hh (hle.trans e70) he (h_d.mono e70) h72 (h_q.mono e70)
 ·
  refine w_else rfl (decide_eq_false c62) <| w_exit rfl <| w_seq <| w_region rfl <| w_d rfl (d_move (v := v_q) rfl) <| w_freeze h_q .here ?_
  intro H80 e81 h82
  obtain ⟨y83, hy84, he⟩ := Option.bind_eq_some_iff.1 he
  refine w_a rfl (o_call co47 (vs := [v_q]) rfl (wide_trim.calls k hy84 h82)) ?_
  rintro v87 H85 _ ⟨rfl, e86, h88⟩
  refine w_d rfl (d_move (v := v_r_) rfl) <| w_d rfl (d_move (v := .int .i64 n) rfl) <| w_freeze (h_r_.mono (e81.trans e86)) (.there .here) ?_
  intro H89 e90 h91
  obtain ⟨y92, hy93, he⟩ := Option.bind_eq_some_iff.1 he
  refine w_a rfl (o_call co64 (vs := [v_r_, .int .i64 n]) rfl (wide_down.calls k hy93 h91)) ?_
  rintro v96 H94 _ ⟨rfl, e95, h97⟩
  refine w_d rfl (d_assign (v := v87) rfl) <| w_d rfl (d_assign (v := v96) rfl) <| w_done ?_
  obtain rfl := Option.some.inj he
  refine w_return fn_67 rs_67 (.tmp (v := v87) rfl (.tmp (v := v96) rfl .nil)) <| ⟨⟨[_, _], rfl⟩, hle.trans (((e81.trans e86).trans e90).trans e95), ⟨v87, v96, rfl, (h88.mono (e90.trans e95)), h97⟩⟩
theorem wide_long.ok : ∀ k, wide_long.OK (wide_long.hs k)
 | 0 => ⟨(by intros; exact nomatch (show none = some _ from by assumption))⟩
 | k + 1 => ⟨wide_long.b0_ok (k := k) (wide_long.ok k)⟩
theorem wide_long.calls (k : Nat) {H : Hp} {L : Items} {a : List Int} {b : List Int} {v0_a : Value} {v1_b : Value} {r : (List Int) × (List Int)} (he : wide_long.f k a b = some r) (h0_a : Ro (Kd.int .u32) H v0_a a) (h1_b : Src (Kd.int .u32) H L v1_b b) : Ct Tryz.prog 67 ⟨[v0_a, v1_b]⟩ H L (fun v H' L' => L = L' ∧ H.le H' ∧ wide_long.out r H' v) := by
 refine ct_out (O := wide_long.out r) ?_
 have hle : H.le H := .refl _
 have hh := wide_long.ok k
 unfold wide_long.f at he
 refine ct_enter (args := [v0_a, v1_b]) fn_67 rfl nt_67 rfl <| w_seq <| w_region rfl <| w_d rfl (d_assign (v := .slice none 0 0) rfl) <| w_d rfl (d_assign (v := .slice none 0 0) rfl) <| w_done <| w_seq <| w_seq <| w_region rfl <| w_d rfl (d_move (v := v0_a) rfl) <| w_d rfl (d_move (v := v1_b) rfl) ?_
 obtain ⟨y1, hy2, he⟩ := Option.bind_eq_some_iff.1 he
 refine w_d rfl (call_d (o_call co70 (vs := [v0_a, v1_b]) rfl (wide_less.calls k hy2 h0_a.src h1_b))) <| w_d rfl (d_lss rfl rfl) <| w_done ?_
 rcases its he with ⟨c5, he⟩ | ⟨c5, he⟩
 ·
  refine w_then rfl (decide_eq_true c5) <| w_seq <| w_region rfl <| w_d rfl (d_move (v := v0_a) rfl) <| w_d rfl (d_assign (v := .slice none 0 0) rfl) <| w_d rfl (d_assign (v := v0_a) rfl) <| w_done ?_
  obtain rfl := Option.some.inj he
  refine w_return fn_67 rs_67 (.tmp (v := .slice none 0 0) rfl (.tmp (v := v0_a) rfl .nil)) <| ⟨⟨[], rfl⟩, hle, ⟨.slice none 0 0, v0_a, rfl, (ro_nil _ _), h0_a⟩⟩
 ·
  refine w_else rfl (decide_eq_false c5) <| w_skip <| w_seq <| w_seq <| w_region rfl <| w_d rfl (d_move (v := v1_b) rfl) <| w_d rfl (d_len Tryz.underlying34 rfl h1_b) <| w_d rfl (d_eql rfl rfl) <| w_done ?_
  rcases its he with ⟨c6, he⟩ | ⟨c6, he⟩
  ·
   refine w_then rfl (decide_eq_true c6) <| w_seq <| w_region rfl <| w_d rfl (d_move (v := v0_a) rfl) <| w_d rfl (d_move (v := v1_b) rfl) ?_
   obtain ⟨c7, he⟩ := rq he
   refine w_d rfl (d_index (sz := 1) Tryz.underlying34 sz90 rfl h1_b rfl c7) <| w_d rfl (d_ldint ty90 rfl h1_b c7) ?_
   obtain ⟨y8, hy9, he⟩ := Option.bind_eq_some_iff.1 he
   refine w_a rfl (o_call co76 (vs := [v0_a, .int .u32 (rd b 0)]) rfl (wide_short.calls k hy9 h0_a.src)) ?_
   rintro _ H10 _ ⟨rfl, e11, ⟨v12, rfl, h13⟩⟩
   refine w_d rfl (d_move (v := .tuple ⟨[v12, .int .u32 y8.2]⟩) rfl) <| w_d rfl (d_ext (vs := [v12, .int .u32 y8.2]) rfl rfl) <| w_d rfl (d_ext (vs := [v12, .int .u32 y8.2]) rfl rfl) <| w_d rfl (d_assign (v := v12) rfl) <| w_d rfl (d_assign (v := .int .u32 y8.2) rfl) <| w_done <| w_seq <| w_region rfl <| w_d rfl (d_move (v := v12) rfl) <| w_d rfl (d_move (v := .int .u32 y8.2) rfl) <| w_a rfl (o_buildSlice' (kd := (Kd.int .u32)) (css := [[.int .u32 y8.2]]) (xs := [y8.2]) (parts := [(0, .int .u32 y8.2)]) Tryz.underlying34 ti90 rfl ⟨_, _, rfl, rfl, rfl⟩ ⟨rfl, trivial⟩ rfl (by decide)) ?_
   rintro v14 _ _ ⟨i15, rfl, rfl, h16⟩
   refine w_freeze h16 .here ?_
   intro H17 e18 h19
   obtain ⟨y20, hy21, he⟩ := Option.bind_eq_some_iff.1 he
   refine w_a rfl (o_call co47 (vs := [v14]) rfl (wide_trim.calls k hy21 h19)) ?_
   rintro v24 H22 _ ⟨rfl, e23, h25⟩
   refine w_d rfl (d_assign (v := v12) rfl) <| w_d rfl (d_assign (v := v24) rfl) <| w_done ?_
   obtain rfl := Option.some.inj he
   refine w_return fn_67 rs_67 (.tmp (v := v12) rfl (.tmp (v := v24) rfl .nil)) <| ⟨⟨[_], rfl⟩, hle.trans ((e11.trans e18).trans e23), ⟨v12, v24, rfl, (h13.mono (e18.trans e23)), h25⟩⟩
  ·
   refine w_else rfl (decide_eq_false c6) <| w_skip <| w_seq <| w_region rfl <| w_d rfl (d_move (v := v1_b) rfl) <| w_d rfl (d_move (v := v1_b) rfl) <| w_d rfl (d_len Tryz.underlying34 rfl h1_b) <| w_d rfl (d_sub (c := w64 ((b.length : Int) - 1)) rfl rfl rfl) ?_
   obtain ⟨c26, he⟩ := rq he
   refine w_d rfl (d_index (sz := 1) Tryz.underlying34 sz90 rfl h1_b rfl c26) <| w_d rfl (d_ldint ty90 rfl h1_b c26) ?_
   obtain ⟨y27, hy28, he⟩ := Option.bind_eq_some_iff.1 he
   refine w_d rfl (call_d (o_call co88 (vs := [.int .u32 (rd b (w64 ((b.length : Int) - 1)))]) rfl (bits_LeadingZeros32.calls k hy28))) <| w_d rfl (d_assign (v := .int .i64 y27) rfl) <| w_done <| w_seq <| w_region rfl <| w_d rfl (d_move (v := v1_b) rfl) <| w_d rfl (d_move (v := .int .i64 y27) rfl) ?_
   obtain ⟨y31, hy32, he⟩ := Option.bind_eq_some_iff.1 he
   refine w_a rfl (o_call co60 (vs := [v1_b, .int .i64 y27]) rfl (wide_up.calls k hy32 h1_b)) ?_
   rintro v37 H33 _ ⟨i38, rfl, e34, h39⟩
   refine w_freeze h39 .here ?_
   intro H40 e41 h42
   obtain ⟨y43, hy44, he⟩ := Option.bind_eq_some_iff.1 he
   refine w_a rfl (o_call co47 (vs := [v37]) rfl (wide_trim.calls k hy44 h42)) ?_
   rintro v47 H45 _ ⟨rfl, e46, h48⟩
   refine w_d rfl (d_assign (v := v47) rfl) <| w_done <| w_seq <| w_region rfl <| w_d rfl (d_move (v := v0_a) rfl) <| w_d rfl (d_move (v := .int .i64 y27) rfl) ?_
   obtain ⟨y49, hy50, he⟩ := Option.bind_eq_some_iff.1 he
   refine w_a rfl (o_call co60 (vs := [v0_a, .int .i64 y27]) rfl (wide_up.calls k hy50 ((h0_a.mono ((e34.trans e41).trans e46)).src))) ?_
   rintro v55 H51 _ ⟨i56, rfl, e52, h57⟩
   refine w_d rfl (d_assign (v := v55) rfl) <| w_done <| w_seq <| w_region rfl <| w_d rfl (d_move (v := v55) rfl) <| w_d rfl (d_lenS Tryz.underlying34 rfl h57.shp) <| w_d rfl (d_move (v := v47) rfl) <| w_d rfl (d_len Tryz.underlying34 rfl (h48.mono e52).src) <| w_d rfl (d_sub (c := w64 ((y49.length : Int) - (y43.length : Int))) rfl rfl rfl) ?_
   obtain ⟨c58, he⟩ := rq he
   refine w_a rfl (o_make' (kd := (Kd.int .u32)) (z0 := 0) Tryz.underlying34 ti90 (zp90 _) rfl rfl (by omega) (by omega) (by omega)) ?_
   rintro v59 _ _ ⟨i60, rfl, rfl, h61⟩
   refine w_d rfl (d_assign (v := v59) rfl) <| w_done <| w_seq <| w_seq <| w_region rfl <| w_d rfl (d_move (v := v59) rfl) <| w_d rfl (d_lenS Tryz.underlying34 rfl h61.shp) <| w_d rfl (d_sub (c := w64 (((List.replicate (w64 ((y49.length : Int) - (y43.length : Int)) : Int).toNat (0 : Int)).length : Int) - 1)) rfl rfl rfl) <| w_d rfl (d_assign (v := .int .i64 (w64 (((List.replicate (w64 ((y49.length : Int) - (y43.length : Int)) : Int).toNat (0 : Int)).length : Int) - 1))) rfl) <| w_done <| w_block <| w_loop ?_
   refine w_del (.there (.there .here)) <| w_sl 4 (.slice none 0 0) rfl <| w_sl 5 (.slice none 0 0) rfl <| w_sl 8 (.int .i64 y27) rfl <| w_sl 9 (v47) rfl <| w_sl 10 (v55) rfl <| w_sl 11 (v59) rfl <| w_sl 12 (.int .i64 (w64 (((List.replicate (w64 ((y49.length : Int) - (y43.length : Int)) : Int).toNat (0 : Int)).length : Int) - 1))) rfl <| hh.l0 (hle.trans (((e34.trans e41).trans e46).trans e52)) he (h48.mono e52) h57 h61
/-! ### radome/wide.Of -/
noncomputable def wide_Of.C : Code := (Tryz.f14.body).getD .skip
def wide_Of.out (r : wide_Int) (H : Hp) (v : Value) : Prop := ∃ v0, v = .agg ⟨[.bool r.f_neg, v0]⟩ ∧ Ro (Kd.int .u32) H v0 r.f_w
theorem wide_Of.out_mono (r : wide_Int) {H H' : Hp} {v : Value} (hle : H.le H') (h : wide_Of.out r H v) : wide_Of.out r H' v := by
 obtain ⟨v0, rfl, h0⟩ := h; exact ⟨v0, rfl, h0.mono hle⟩
abbrev wide_Of.R (H0 : Hp) (L : Items) (r : wide_Int) : Value → Hp → Items → Prop := fun v H' L' => (∃ p, L' = p ++ L) ∧ H0.le H' ∧ wide_Of.out r H' v
noncomputable def wide_Of.j1 (k : Nat)  (n : Int) (v_ : Int) : Option wide_Int := (wide_trim.f k [(v_) % 4294967296, (v_ / 4294967296) % 4294967296]).bind fun y9 => some ((⟨decide (n < 0), y9⟩ : wide_Int))
noncomputable def wide_Of.f (k : Nat) (n : Int) : Option wide_Int := if n < 0 then (wide_Of.j1 k n ((0 - ((n) % 18446744073709551616)) % 18446744073709551616)) else (wide_Of.j1 k n ((n) % 18446744073709551616))
theorem wide_Of.j1_mono {k : Nat} : ∀ y0 y1, LeO (wide_Of.j1 k y0 y1) (wide_Of.j1 (k + 1) y0 y1) := fun _ _ => (LeO.bind (wide_trim.mono k _) fun _ => LeO.refl _)
theorem wide_Of.mono : ∀ k y0, LeO (wide_Of.f k y0) (wide_Of.f (k + 1) y0) := fun k _ => by unfold wide_Of.f; exact (LeO.ite (wide_Of.j1_mono (k := k)  _ _) (wide_Of.j1_mono (k := k)  _ _))
noncomputable def wide_Of.Kj1 : List Item := .code (seqR (seqR (seqR wide_Of.C))) :: []
theorem wide_Of.j1_ok {k : Nat} {H0 H : Hp} {L : Items} {r : wide_Int} {jk_ : Nat → Value} {n : Int} {v_ : Int} {b_t2 : Nat} (hle : H0.le H) (he : wide_Of.j1 k n v_ = some r) : Wp Tryz.prog 14 20 wide_Of.Kj1 (upd (upd (upd jk_ 0 (.int .i64 n)) 2 (.pointer (some ⟨b_t2, 0, none⟩))) 3 (.int .u64 v_)) H (some (b_t2, .cells ⟨[.bool false, .slice none 0 0]⟩ 36 (0, 0)) :: L) (wide_Of.R H0 L r) := by
 unfold wide_Of.j1 at he
 unfold wide_Of.Kj1
 refine w_seq <| w_region rfl <| w_d rfl (d_move (v := .int .i64 n) rfl) <| w_d rfl (d_lss rfl rfl) <| w_d rfl (d_move (v := .int .u64 v_) rfl) <| w_d rfl (d_conv (c := (v_) % 4294967296) Tryz.underlying88 Tryz.underlying90 rfl rfl) <| w_d rfl (d_move (v := .int .u64 v_) rfl) <| w_d rfl (d_shr (c := v_ / 4294967296) rfl rfl (by decide) rfl) <| w_d rfl (d_conv (c := (v_ / 4294967296) % 4294967296) Tryz.underlying88 Tryz.underlying90 rfl rfl) <| w_a rfl (o_buildSlice' (kd := (Kd.int .u32)) (css := [[.int .u32 ((v_) % 4294967296)], [.int .u32 ((v_ / 4294967296) % 4294967296)]]) (xs := [(v_) % 4294967296, (v_ / 4294967296) % 4294967296]) (parts := [(0, .int .u32 ((v_) % 4294967296)), (1, .int .u32 ((v_ / 4294967296) % 4294967296))]) Tryz.underlying34 ti90 rfl ⟨_, _, rfl, rfl, ⟨_, _, rfl, rfl, rfl⟩⟩ ⟨rfl, ⟨rfl, trivial⟩⟩ rfl (by decide)) ?_
 rintro v3 _ _ ⟨i4, rfl, rfl, h5⟩
 refine w_freeze h5 .here ?_
 intro H6 e7 h8
 obtain ⟨y9, hy10, he⟩ := Option.bind_eq_some_iff.1 he
 refine w_a rfl (o_call co47 (vs := [v3]) rfl (wide_trim.calls k hy10 h8)) ?_
 rintro v13 H11 _ ⟨rfl, e12, h14⟩
 refine w_d rfl (d_build (cs' := [.bool (decide (n < 0)), v13]) Tryz.underlying36 zr36 rfl (by kernel_rfl) (parts := [(0, .bool (decide (n < 0))), (1, v13)]) rfl (.cons (place_of rfl sz4 rfl) rfl rfl (.here .done) (.cons (place_of rfl sz34 rfl) h14.cells rfl (.there (.here .done)) .nil))) <| w_a0 rfl (o_store (v := .agg ⟨[.bool (decide (n < 0)), v13]⟩) sz36 rfl rfl rfl rfl (one_cons rfl (one_cons (h14.one) one_nil)) (.there .here) (.here (.here .done))) ?_
 rintro _ _ _ ⟨rfl, rfl, rfl⟩
 refine w_done ?_
 obtain rfl := Option.some.inj he
 refine w_return fn_14 rs_14 (.box (v := .agg ⟨[.bool (decide (n < 0)), v13]⟩) rfl ty36 rfl rfl (.there .here) rfl .nil) <| ⟨⟨[_, _], rfl⟩, hle.trans (e7.trans e12), ⟨v13, rfl, h14⟩⟩
theorem wide_Of.calls (k : Nat) {H : Hp} {L : Items} {n : Int} {r : wide_Int} (he : wide_Of.f k n = some r) : Ct Tryz.prog 14 ⟨[.int .i64 n]⟩ H L (fun v H' L' => L = L' ∧ H.le H' ∧ wide_Of.out r H' v) := by
 refine ct_out (O := wide_Of.out r) ?_
 have hle : H.le H := .refl _
 unfold wide_Of.f at he
 refine ct_enter (args := [.int .i64 n]) fn_14 rfl nt_14 rfl <| w_seq <| w_region rfl <| w_a rfl (o_alloc zr36 rfl) ?_
 rintro _ _ _ ⟨b1, rfl, rfl, rfl⟩
 refine w_done <| w_seq <| w_region rfl <| w_d rfl (d_move (v := .int .i64 n) rfl) <| w_d rfl (d_conv (c := (n) % 18446744073709551616) Tryz.underlying2 Tryz.underlying88 rfl rfl) <| w_d rfl (d_assign (v := .int .u64 ((n) % 18446744073709551616)) rfl) <| w_done <| w_seq <| w_seq <| w_region rfl <| w_d rfl (d_move (v := .int .i64 n) rfl) <| w_d rfl (d_lss rfl rfl) ?_
 refine w_done ?_
 rcases its he with ⟨c2, he⟩ | ⟨c2, he⟩
 ·
  refine w_then rfl (decide_eq_true c2) <| w_region rfl <| w_d rfl (d_move (v := .int .u64 ((n) % 18446744073709551616)) rfl) <| w_d rfl (d_neg (c := (0 - ((n) % 18446744073709551616)) % 18446744073709551616) rfl rfl) <| w_d rfl (d_assign (v := .int .u64 ((0 - ((n) % 18446744073709551616)) % 18446744073709551616)) rfl) <| w_done <| w_sl 0 (.int .i64 n) rfl <| w_sl 2 (.pointer (some ⟨b1, 0, none⟩)) rfl <| w_sl 3 (.int .u64 ((0 - ((n) % 18446744073709551616)) % 18446744073709551616)) rfl <| wide_Of.j1_ok (k := k) hle he
 ·
  refine w_else rfl (decide_eq_false c2) <| w_skip <| w_sl 0 (.int .i64 n) rfl <| w_sl 2 (.pointer (some ⟨b1, 0, none⟩)) rfl <| w_sl 3 (.int .u64 ((n) % 18446744073709551616)) rfl <| wide_Of.j1_ok (k := k) hle he
/-! ### math/bits.Sub32 -/
noncomputable def bits_Sub32.C : Code := (Tryz.f92.body).getD .skip
def bits_Sub32.out (r : Int × Int) (H : Hp) (v : Value) : Prop := v = .tuple ⟨[.int .u32 r.1, .int .u32 r.2]⟩
abbrev bits_Sub32.R (H0 : Hp) (L : Items) (r : Int × Int) : Value → Hp → Items → Prop := fun v H' L' => (∃ p, L' = p ++ L) ∧ H0.le H' ∧ bits_Sub32.out r H' v
noncomputable def bits_Sub32.f (k : Nat) (x : Int) (y : Int) (borrow : Int) : Option (Int × Int) := some ((((x - y) % 4294967296) - borrow) % 4294967296, (ior .u32 (iand .u32 (ixor .u32 4294967295 x) y) (iand .u32 (ixor .u32 4294967295 (ixor .u32 x y)) ((((x - y) % 4294967296) - borrow) % 4294967296))) / 2147483648)
theorem bits_Sub32.mono : ∀ k y0 y1 y2, LeO (bits_Sub32.f k y0 y1 y2) (bits_Sub32.f (k + 1) y0 y1 y2) := fun k _ _ _ => by unfold bits_Sub32.f; exact (LeO.refl _)
theorem bits_Sub32.calls (k : Nat) {H : Hp} {L : Items} {x : Int} {y : Int} {borrow : Int} {r : Int × Int} (he : bits_Sub32.f k x y borrow = some r) : Ct Tryz.prog 92 ⟨[.int .u32 x, .int .u32 y, .int .u32 borrow]⟩ H L (fun v H' L' => L = L' ∧ H = H' ∧ v = .tuple ⟨[.int .u32 r.1, .int .u32 r.2]⟩) := by
 refine ct_outs (O := bits_Sub32.out r) (fun _ _ h => h) ?_
 have hle : H.le H := .refl _
 unfold bits_Sub32.f at he
 refine ct_enter (args := [.int .u32 x, .int .u32 y, .int .u32 borrow]) fn_92 rfl nt_92 rfl <| w_seq <| w_region rfl <| w_d rfl (d_assign (v := .int .u32 0) rfl) <| w_d rfl (d_assign (v := .int .u32 0) rfl) <| w_done <| w_seq <| w_region rfl <| w_d rfl (d_move (v := .int .u32 x) rfl) <| w_d rfl (d_move (v := .int .u32 y) rfl) <| w_d rfl (d_sub (c := (x - y) % 4294967296) rfl rfl rfl) <| w_d rfl (d_move (v := .int .u32 borrow) rfl) ?_
 refine w_d rfl (d_sub (c := (((x - y) % 4294967296) - borrow) % 4294967296) rfl rfl rfl) <| w_d rfl (d_assign (v := .int .u32 ((((x - y) % 4294967296) - borrow) % 4294967296)) rfl) <| w_done <| w_seq <| w_region rfl <| w_d rfl (d_move (v := .int .u32 x) rfl) <| w_d rfl (d_inv rfl) <| w_d rfl (d_move (v := .int .u32 y) rfl) <| w_d rfl (d_band rfl rfl) <| w_d rfl (d_move (v := .int .u32 x) rfl) <| w_d rfl (d_move (v := .int .u32 y) rfl) <| w_d rfl (d_bxor rfl rfl) ?_
 refine w_d rfl (d_inv rfl) <| w_d rfl (d_move (v := .int .u32 ((((x - y) % 4294967296) - borrow) % 4294967296)) rfl) <| w_d rfl (d_band rfl rfl) <| w_d rfl (d_bor rfl rfl) <| w_d rfl (d_shr (c := (ior .u32 (iand .u32 (ixor .u32 4294967295 x) y) (iand .u32 (ixor .u32 4294967295 (ixor .u32 x y)) ((((x - y) % 4294967296) - borrow) % 4294967296))) / 2147483648) rfl rfl (by decide) rfl) <| w_d rfl (d_assign (v := .int .u32 ((ior .u32 (iand .u32 (ixor .u32 4294967295 x) y) (iand .u32 (ixor .u32 4294967295 (ixor .u32 x y)) ((((x - y) % 4294967296) - borrow) % 4294967296))) / 2147483648)) rfl) <| w_done ?_
 obtain rfl := Option.some.inj he
 refine w_return fn_92 rs_92 (.tmp (v := .int .u32 ((((x - y) % 4294967296) - borrow) % 4294967296)) rfl (.tmp (v := .int .u32 ((ior .u32 (iand .u32 (ixor .u32 4294967295 x) y) (iand .u32 (ixor .u32 4294967295 (ixor .u32 x y)) ((((x - y) % 4294967296) - borrow) % 4294967296))) / 2147483648)) rfl .nil)) <| ⟨⟨[], rfl⟩, hle, rfl⟩
/-! ### radome/wide.minus -/
noncomputable def wide_minus.C : Code := (Tryz.f68.body).getD .skip
abbrev wide_minus.out (r : (List Int)) (H : Hp) (v : Value) : Prop := Ro (Kd.int .u32) H v r
abbrev wide_minus.R (H0 : Hp) (L : Items) (r : (List Int)) : Value → Hp → Items → Prop := fun v H' L' => (∃ p, L' = p ++ L) ∧ H0.le H' ∧ wide_minus.out r H' v
structure wide_minus.Hs where
 l0 : (List Int) → (List Int) → Int → (List Int) → Int → Int → Option (List Int)
noncomputable def wide_minus.j2 (k : Nat) (h : wide_minus.Hs)  (b : List Int) (out : List Int) (borrow : Int) (x : Int) (y : Int) (t14 : List Int) (t15 : Int) (t16 : Int) : Option (List Int) := (bits_Sub32.f k x y borrow).bind fun y18 => if out.length + 1 ≤ 35184372088704 then (h.l0 b (out ++ [y18.1]) y18.2 t14 t15 (w64 (t16 + 1))) else none
noncomputable def wide_minus.b0 (k : Nat) (h : wide_minus.Hs)  (b : List Int) (out : List Int) (borrow : Int) (t14 : List Int) (t15 : Int) (t16 : Int) : Option (List Int) := if t16 < t15 then (if (0 : Int) ≤ t16 ∧ t16 < (t14.length : Int) then (if t16 < (b.length : Int) then (if (0 : Int) ≤ t16 ∧ t16 < (b.length : Int) then (wide_minus.j2 k h b out borrow (rd t14 t16) (rd b t16) t14 t15 t16) else none) else (wide_minus.j2 k h b out borrow (rd t14 t16) 0 t14 t15 t16)) else none) else ((wide_trim.f k out).bind fun y12 => some (y12))
noncomputable def wide_minus.hs : Nat → wide_minus.Hs
 | 0 => ⟨fun _ _ _ _ _ _ => none⟩
 | k + 1 => ⟨fun x0 x1 x2 x3 x4 x5 => wide_minus.b0 k (wide_minus.hs k) x0 x1 x2 x3 x4 x5⟩
noncomputable def wide_minus.f (k : Nat) (a : List Int) (b : List Int) : Option (List Int) := (fun h : wide_minus.Hs => if 0 ≤ 0 ∧ 0 ≤ (a.length : Int) ∧ (a.length : Int) ≤ 70368744177664 then (h.l0 b (List.replicate (0 : Int).toNat (0 : Int)) 0 a (a.length : Int) 0) else none) (wide_minus.hs k)
structure wide_minus.LE (h h' : wide_minus.Hs) : Prop where
 l0 : ∀ y0 y1 y2 y3 y4 y5, LeO (h.l0 y0 y1 y2 y3 y4 y5) (h'.l0 y0 y1 y2 y3 y4 y5)
theorem wide_minus.j2_mono {k : Nat} {h h' : wide_minus.Hs} (hl : wide_minus.LE h h') : ∀ y0 y1 y2 y3 y4 y5 y6 y7, LeO (wide_minus.j2 k h y0 y1 y2 y3 y4 y5 y6 y7) (wide_minus.j2 (k + 1) h' y0 y1 y2 y3 y4 y5 y6 y7) := fun _ _ _ _ _ _ _ _ => (LeO.bind (bits_Sub32.mono k _ _ _) fun _ => LeO.ite (hl.l0 _ _ _ _ _ _) (LeO.refl _))
theorem wide_minus.b0_mono {k : Nat} {h h' : wide_minus.Hs} (hl : wide_minus.LE h h') : ∀ y0 y1 y2 y3 y4 y5, LeO (wide_minus.b0 k h y0 y1 y2 y3 y4 y5) (wide_minus.b0 (k + 1) h' y0 y1 y2 y3 y4 y5) := fun _ _ _ _ _ _ => (LeO.ite (LeO.ite (LeO.ite (LeO.ite (wide_minus.j2_mono (k := k) hl _ _ _ _ _ _ _ _) (LeO.refl _)) (wide_minus.j2_mono (k := k) hl _ _ _ _ _ _ _ _)) (LeO.refl _)) (LeO.bind (wide_trim.mono k _) fun _ => LeO.refl _))
theorem wide_minus.hs_mono : ∀ k, wide_minus.LE (wide_minus.hs k) (wide_minus.hs (k + 1))
 | 0 => ⟨fun _ _ _ _ _ _ => LeO.none _⟩
 | k + 1 => ⟨wide_minus.b0_mono (k := k) (wide_minus.hs_mono k)⟩
theorem wide_minus.mono : ∀ k y0 y1, LeO (wide_minus.f k y0 y1) (wide_minus.f (k + 1) y0 y1) := fun k _ _ => have hl := wide_minus.hs_mono k; by unfold wide_minus.f; exact (LeO.ite (hl.l0 _ _ _ _ _ _) (LeO.refl _))
noncomputable def wide_minus.Kl0 : List Item := .code (lopB (blkB (seqR (seqL (seqR (seqR (seqR wide_minus.C))))))) :: .inLoop (lopB (blkB (seqR (seqL (seqR (seqR (seqR wide_minus.C))))))) :: .inBlock 0 :: .code (seqR (seqR (seqR (seqR wide_minus.C)))) :: []
noncomputable def wide_minus.Kj2 : List Item := .code (seqR (seqR (seqR (blkB (seqL (seqR (seqR (lopB (blkB (seqR (seqL (seqR (seqR (seqR wide_minus.C)))))))))))))) :: .inBlock 1 :: .code (seqR (seqR (seqR (lopB (blkB (seqR (seqL (seqR (seqR (seqR wide_minus.C)))))))))) :: .inLoop (lopB (blkB (seqR (seqL (seqR (seqR (seqR wide_minus.C))))))) :: .inBlock 0 :: .code (seqR (seqR (seqR (seqR wide_minus.C)))) :: []
structure wide_minus.OK (h : wide_minus.Hs) : Prop where
 l0 : ∀ {H0 H : Hp} {L : Items} {r : (List Int)} {jk_ : Nat → Value} {b : List Int} {out : List Int} {borrow : Int} {t14 : List Int} {t15 : Int} {t16 : Int} {v_b : Value} {v_out : Value} {v_t14 : Value} {i_out : Item'} (_ : H0.le H) (_he : h.l0 b out borrow t14 t15 t16 = some r) (_h_b : Src (Kd.int .u32) H L v_b b) (_h_out : Sl (Kd.int .u32) H 90 i_out v_out out) (_h_t14 : Src (Kd.int .u32) H L v_t14 t14), Wp Tryz.prog 68 43 wide_minus.Kl0 (upd (upd (upd (upd (upd (upd (upd jk_ 1 (v_b)) 4 (.slice none 0 0)) 5 (v_out)) 6 (.int .u32 borrow)) 14 (v_t14)) 15 (.int .i64 t15)) 16 (.int .i64 t16)) H (i_out :: L) (wide_minus.R H0 L r)
theorem wide_minus.j2_ok {k : Nat} {h : wide_minus.Hs} (hh : wide_minus.OK h) {H0 H : Hp} {L : Items} {r : (List Int)} {jk_ : Nat → Value} {b : List Int} {out : List Int} {borrow : Int} {x : Int} {y : Int} {t14 : List Int} {t15 : Int} {t16 : Int} {v_b : Value} {v_out : Value} {v_t14 : Value} {i_out : Item'} (hle : H0.le H) (he : wide_minus.j2 k h b out borrow x y t14 t15 t16 = some r) (h_b : Src (Kd.int .u32) H L v_b b) (h_out : Sl (Kd.int .u32) H 90 i_out v_out out) (h_t14 : Src (Kd.int .u32) H L v_t14 t14) : Wp Tryz.prog 68 43 wide_minus.Kj2 (upd (upd (upd (upd (upd (upd (upd (upd (upd jk_ 1 (v_b)) 4 (.slice none 0 0)) 5 (v_out)) 6 (.int .u32 borrow)) 8 (.int .u32 x)) 9 (.int .u32 y)) 14 (v_t14)) 15 (.int .i64 t15)) 16 (.int .i64 t16)) H (i_out :: L) (wide_minus.R H0 L r) := by
 unfold wide_minus.j2 at he
 unfold wide_minus.Kj2
 refine w_seq <| w_region rfl <| w_d rfl (d_assign (v := .int .u32 0) rfl) <| w_done <| w_seq <| w_region rfl <| w_d rfl (d_move (v := .int .u32 x) rfl) <| w_d rfl (d_move (v := .int .u32 y) rfl) <| w_d rfl (d_move (v := .int .u32 borrow) rfl) ?_
 obtain ⟨y18, hy19, he⟩ := Option.bind_eq_some_iff.1 he
 refine w_d rfl (call_d (o_call co92 (vs := [.int .u32 x, .int .u32 y, .int .u32 borrow]) rfl (bits_Sub32.calls k hy19))) <| w_d rfl (d_move (v := .tuple ⟨[.int .u32 y18.1, .int .u32 y18.2]⟩) rfl) <| w_d rfl (d_ext (vs := [.int .u32 y18.1, .int .u32 y18.2]) rfl rfl) <| w_d rfl (d_ext (vs := [.int .u32 y18.1, .int .u32 y18.2]) rfl rfl) <| w_d rfl (d_assign (v := .int .u32 y18.1) rfl) <| w_d rfl (d_assign (v := .int .u32 y18.2) rfl) <| w_done <| w_region rfl <| w_d rfl (d_move (v := v_out) rfl) <| w_d rfl (d_move (v := .int .u32 y18.1) rfl) <| w_a rfl (o_buildSlice' (kd := (Kd.int .u32)) (css := [[.int .u32 y18.1]]) (xs := [y18.1]) (parts := [(0, .int .u32 y18.1)]) Tryz.underlying34 ti90 rfl ⟨_, _, rfl, rfl, rfl⟩ ⟨rfl, trivial⟩ rfl (by decide)) ?_
 rintro v22 _ _ ⟨i23, rfl, rfl, h24⟩
 obtain ⟨c25, he⟩ := rq he
 refine w_a rfl (o_append' (kd := (Kd.int .u32)) (F := fun z_ => i23 :: z_ :: L) Tryz.underlying34 Tryz.underlying34 ti90 rfl (by first | omega | (simp only [List.nil_append, List.length_cons, List.length_nil]; omega)) rfl rfl h_out (h24.src .here) (fun _ => (.there .here))) ?_
 rintro v26 _ _ ⟨i27, rfl, rfl, h28⟩
 refine w_d rfl (d_assign (v := v26) rfl) <| w_done <| w_inBlock <| w_region rfl <| w_d rfl (d_add (c := w64 (t16 + 1)) rfl rfl rfl) <| w_d rfl (d_move (v := .int .i64 (w64 (t16 + 1))) rfl) <| w_done <| w_inLoop <| w_del .here <| w_sl 1 (v_b) rfl <| w_sl 4 (.slice none 0 0) rfl <| w_sl 5 (v26) rfl ?_
 refine w_sl 6 (.int .u32 y18.2) rfl <| w_sl 14 (v_t14) rfl <| w_sl 15 (.int .i64 t15) rfl <| w_sl 16 (.int .i64 (w64 (t16 + 1))) rfl <| hh.l0 hle he h_b h28 h_t14
theorem wide_minus.b0_ok {k : Nat} {h : wide_minus.Hs} (hh : wide_minus.OK h) {H0 H : Hp} {L : Items} {r : (List Int)} {jk_ : Nat → Value} {b : List Int} {out : List Int} {borrow : Int} {t14 : List Int} {t15 : Int} {t16 : Int} {v_b : Value} {v_out : Value} {v_t14 : Value} {i_out : Item'} (hle : H0.le H) (he : wide_minus.b0 k h b out borrow t14 t15 t16 = some r) (h_b : Src (Kd.int .u32) H L v_b b) (h_out : Sl (Kd.int .u32) H 90 i_out v_out out) (h_t14 : Src (Kd.int .u32) H L v_t14 t14) : Wp Tryz.prog 68 43 wide_minus.Kl0 (upd (upd (upd (upd (upd (upd (upd jk_ 1 (v_b)) 4 (.slice none 0 0)) 5 (v_out)) 6 (.int .u32 borrow)) 14 (v_t14)) 15 (.int .i64 t15)) 16 (.int .i64 t16)) H (i_out :: L) (wide_minus.R H0 L r) := by
 unfold wide_minus.b0 at he
 unfold wide_minus.Kl0
 refine w_seq <| w_region rfl <| w_d rfl (d_lss rfl rfl) <| w_done <| w_seq ?_
 rcases its he with ⟨c5, he⟩ | ⟨c5, he⟩
 ·
  refine w_then rfl (decide_eq_true c5) <| w_skip <| w_seq <| w_block <| w_seq <| w_region rfl <| w_d rfl (d_move (v := .int .i64 t16) rfl) ?_
  obtain ⟨c6, he⟩ := rq he
  refine w_d rfl (d_index (sz := 1) Tryz.underlying34 sz90 rfl h_t14.th rfl c6) <| w_d rfl (d_ldint ty90 rfl h_t14.th c6) <| w_d rfl (d_assign (v := .int .i64 t16) rfl) <| w_d rfl (d_assign (v := .int .u32 (rd t14 t16)) rfl) <| w_done <| w_seq <| w_region rfl <| w_d rfl (d_assign (v := .int .u32 0) rfl) <| w_done <| w_seq <| w_seq <| w_region rfl ?_
  refine w_d rfl (d_move (v := .int .i64 t16) rfl) <| w_d rfl (d_move (v := v_b) rfl) <| w_d rfl (d_len Tryz.underlying34 rfl h_b.th) <| w_d rfl (d_lss rfl rfl) <| w_done ?_
  rcases its he with ⟨c7, he⟩ | ⟨c7, he⟩
  ·
   refine w_then rfl (decide_eq_true c7) <| w_region rfl <| w_d rfl (d_move (v := v_b) rfl) <| w_d rfl (d_move (v := .int .i64 t16) rfl) ?_
   obtain ⟨c8, he⟩ := rq he
   refine w_d rfl (d_index (sz := 1) Tryz.underlying34 sz90 rfl h_b.th rfl c8) <| w_d rfl (d_ldint ty90 rfl h_b.th c8) <| w_d rfl (d_assign (v := .int .u32 (rd b t16)) rfl) <| w_done <| w_sl 1 (v_b) rfl <| w_sl 4 (.slice none 0 0) rfl <| w_sl 5 (v_out) rfl <| w_sl 6 (.int .u32 borrow) rfl <| w_sl 8 (.int .u32 (rd t14 t16)) rfl <| w_sl 9 (.int .u32 (rd b t16)) rfl <| w_sl 14 (v_t14) rfl <| w_sl 15 (.int .i64 t15) rfl ?_
   refine w_sl 16 (.int .i64 t16) rfl <| wide_minus.j2_ok (k := k) hh hle he h_b h_out h_t14
  ·
   refine w_else rfl (decide_eq_false c7) <| w_skip <| w_sl 1 (v_b) rfl <| w_sl 4 (.slice none 0 0) rfl <| w_sl 5 (v_out) rfl <| w_sl 6 (.int .u32 borrow) rfl <| w_sl 8 (.int .u32 (rd t14 t16)) rfl <| w_sl 9 (.int .u32 0) rfl <| w_sl 14 (v_t14) rfl <| w_sl 15 (.int .i64 t15) rfl <| w_sl 16 (.int .i64 t16) rfl <| wide_minus.j2_ok (k := k) hh hle he h_b h_out h_t14
 ·
  refine w_else rfl (decide_eq_false c5) <| w_exit rfl <| w_seq <| w_region rfl <| w_d rfl (d_move (v := v_out) rfl) <| w_freeze h_out .here ?_
  intro H9 e10 h11
  obtain ⟨y12, hy13, he⟩ := Option.bind_eq_some_iff.1 he
  refine w_a rfl (o_call co47 (vs := [v_out]) rfl (wide_trim.calls k hy13 h11)) ?_
  rintro v16 H14 _ ⟨rfl, e15, h17⟩
  refine w_d rfl (d_assign (v := v16) rfl) <| w_done ?_
  obtain rfl := Option.some.inj he
  refine w_return fn_68 rs_68 (.tmp (v := v16) rfl .nil) <| ⟨⟨[_], rfl⟩, hle.trans (e10.trans e15), h17⟩
theorem wide_minus.ok : ∀ k, wide_minus.OK (wide_minus.hs k)
 | 0 => ⟨(by intros; exact nomatch (show none = some _ from by assumption))⟩
 | k + 1 => ⟨wide_minus.b0_ok (k := k) (wide_minus.ok k)⟩
theorem wide_minus.calls (k : Nat) {H : Hp} {L : Items} {a : List Int} {b : List Int} {v0_a : Value} {v1_b : Value} {r : (List Int)} (he : wide_minus.f k a b = some r) (h0_a : Src (Kd.int .u32) H L v0_a a) (h1_b : Src (Kd.int .u32) H L v1_b b) : Ct Tryz.prog 68 ⟨[v0_a, v1_b]⟩ H L (fun v H' L' => L = L' ∧ H.le H' ∧ wide_minus.out r H' v) := by
 refine ct_out (O := wide_minus.out r) ?_
 have hle : H.le H := .refl _
 have hh := wide_minus.ok k
 unfold wide_minus.f at he
 refine ct_enter (args := [v0_a, v1_b]) fn_68 rfl nt_68 rfl <| w_seq <| w_region rfl <| w_d rfl (d_assign (v := .slice none 0 0) rfl) <| w_done <| w_seq <| w_region rfl <| w_d rfl (d_move (v := v0_a) rfl) <| w_d rfl (d_len Tryz.underlying34 rfl h0_a) ?_
 obtain ⟨c1, he⟩ := rq he
 refine w_a rfl (o_make' (kd := (Kd.int .u32)) (z0 := 0) Tryz.underlying34 ti90 (zp90 _) rfl rfl (by omega) (by omega) (by omega)) ?_
 rintro v2 _ _ ⟨i3, rfl, rfl, h4⟩
 refine w_d rfl (d_assign (v := v2) rfl) <| w_done <| w_seq <| w_region rfl <| w_d rfl (d_assign (v := .int .u32 0) rfl) <| w_done <| w_seq <| w_seq <| w_region rfl <| w_d rfl (d_move (v := v0_a) rfl) <| w_d rfl (d_len Tryz.underlying34 rfl h0_a.th) <| w_d rfl (d_move (v := .int .i64 0) rfl) ?_
 refine w_done <| w_block <| w_loop <| w_sl 1 (v1_b) rfl <| w_sl 4 (.slice none 0 0) rfl <| w_sl 5 (v2) rfl <| w_sl 6 (.int .u32 0) rfl <| w_sl 14 (v0_a) rfl <| w_sl 15 (.int .i64 (a.length : Int)) rfl <| w_sl 16 (.int .i64 0) rfl <| hh.l0 hle he h1_b h4 h0_a
/-! ### (radome/wide.Int).Add -/
noncomputable def wide_Int_Add.C : Code := (Tryz.f38.body).getD .skip
def wide_Int_Add.out (r : wide_Int × (Option Int)) (H : Hp) (v : Value) : Prop := ∃ v0, v = .tuple ⟨[.agg ⟨[.bool r.1.f_neg, v0]⟩, errV 71 r.2]⟩ ∧ Ro (Kd.int .u32) H v0 r.1.f_w
theorem wide_Int_Add.out_mono (r : wide_Int × (Option Int)) {H H' : Hp} {v : Value} (hle : H.le H') (h : wide_Int_Add.out r H v) : wide_Int_Add.out r H' v := by
 obtain ⟨v0, rfl, h0⟩ := h; exact ⟨v0, rfl, h0.mono hle⟩
abbrev wide_Int_Add.R (H0 : Hp) (L : Items) (r : wide_Int × (Option Int)) : Value → Hp → Items → Prop := fun v H' L' => (∃ p, L' = p ++ L) ∧ H0.le H' ∧ wide_Int_Add.out r H' v
noncomputable def wide_Int_Add.j1 (k : Nat)  (a_0 : Bool) (a_1 : List Int) (b_0 : Bool) (b_1 : List Int) : Option (wide_Int × (Option Int)) := (wide_minus.f k a_1 b_1).bind fun y26 => (wide_made.f k a_0 y26).bind fun y32 => some ((⟨y32.1.f_neg, y32.1.f_w⟩ : wide_Int), y32.2)
noncomputable def wide_Int_Add.f (k : Nat) (a : wide_Int) (b : wide_Int) : Option (wide_Int × (Option Int)) := if (a.f_neg == b.f_neg) = true then ((wide_plus.f k a.f_w b.f_w).bind fun y5 => (wide_made.f k a.f_neg y5).bind fun y11 => some ((⟨y11.1.f_neg, y11.1.f_w⟩ : wide_Int), y11.2)) else ((wide_less.f k a.f_w b.f_w).bind fun y21 => if y21 < 0 then (wide_Int_Add.j1 k b.f_neg b.f_w a.f_neg a.f_w) else (wide_Int_Add.j1 k a.f_neg a.f_w b.f_neg b.f_w))
theorem wide_Int_Add.j1_mono {k : Nat} : ∀ y0 y1 y2 y3, LeO (wide_Int_Add.j1 k y0 y1 y2 y3) (wide_Int_Add.j1 (k + 1) y0 y1 y2 y3) := fun _ _ _ _ => (LeO.bind (wide_minus.mono k _ _) fun _ => LeO.bind (wide_made.mono k _ _) fun _ => LeO.refl _)
theorem wide_Int_Add.mono : ∀ k y0 y1, LeO (wide_Int_Add.f k y0 y1) (wide_Int_Add.f (k + 1) y0 y1) := fun k _ _ => by unfold wide_Int_Add.f; exact (LeO.ite (LeO.bind (wide_plus.mono k _ _) fun _ => LeO.bind (wide_made.mono k _ _) fun _ => LeO.refl _) (LeO.bind (wide_less.mono k _ _) fun _ => LeO.ite (wide_Int_Add.j1_mono (k := k)  _ _ _ _) (wide_Int_Add.j1_mono (k := k)  _ _ _ _)))
noncomputable def wide_Int_Add.Kj1 : List Item := .code (seqR (seqR (seqR wide_Int_Add.C))) :: []
theorem wide_Int_Add.j1_ok {k : Nat} {H0 H : Hp} {L : Items} {r : wide_Int × (Option Int)} {jk_ : Nat → Value} {a_0 : Bool} {a_1 : List Int} {b_0 : Bool} {b_1 : List Int} {v_a_1 : Value} {v_b_1 : Value} {b_a : Nat} {b_b : Nat} {b_t4 : Nat} (hle : H0.le H) (he : wide_Int_Add.j1 k a_0 a_1 b_0 b_1 = some r) (h_a_1 : Ro (Kd.int .u32) H v_a_1 a_1) (h_b_1 : Ro (Kd.int .u32) H v_b_1 b_1) : Wp Tryz.prog 38 39 wide_Int_Add.Kj1 (upd (upd (upd (upd jk_ 2 (.pointer (some ⟨b_a, 0, none⟩))) 3 (.pointer (some ⟨b_b, 0, none⟩))) 4 (.pointer (some ⟨b_t4, 0, none⟩))) 5 (errV 71 none)) H (some (b_t4, .cells ⟨[.bool false, .slice none 0 0]⟩ 36 (0, 0)) :: some (b_b, .cells ⟨[.bool b_0, v_b_1]⟩ 36 (0, 0)) :: some (b_a, .cells ⟨[.bool a_0, v_a_1]⟩ 36 (0, 0)) :: L) (wide_Int_Add.R H0 L r) := by
 unfold wide_Int_Add.j1 at he
 unfold wide_Int_Add.Kj1
 refine w_seq ?_
 obtain ⟨y26, hy27, he⟩ := Option.bind_eq_some_iff.1 he
 obtain ⟨y32, hy33, he⟩ := Option.bind_eq_some_iff.1 he
 refine w_drawn (p := 10) (tl := [10, 11]) [[], [(0, some 29)], [], [(2, some 31)], [], [(4, some 33)], [(3, some 32), (5, some 34)], [(1, some 30), (6, some 35)], [(7, some 36)], [(7, some 36)]] [some 29, some 30, some 31, some 32, some 33, some 34, some 35, some 36, some 37, some 38] (fctF (.is (.pointer (some ⟨b_a, 0, none⟩)) :: .is (.bool a_0) :: .is (.pointer (some ⟨b_a, 1, none⟩)) :: .is (v_a_1) :: .is (.pointer (some ⟨b_b, 1, none⟩)) :: .is (v_b_1) :: .ro (Kd.int .u32) (y26) :: .of (wide_made.out y32) (wide_made.out_mono _) :: .of (fun H v => ∃ v38, v = .agg ⟨[.bool y32.1.f_neg, v38]⟩ ∧ Ro (Kd.int .u32) H v38 y32.1.f_w) (by rintro _ _ _ hle ⟨v38, rfl, h39⟩; exact ⟨v38, rfl, h39.mono hle⟩) :: .is (errV 71 y32.2) :: [])) (fun m_ => some (b_t4, .cells ⟨[.bool false, .slice none 0 0]⟩ 36 (0, 0)) :: some (b_b, .cells ⟨[.bool b_0, v_b_1]⟩ 36 (0, 0)) :: some (b_a, .cells ⟨[.bool a_0, v_a_1]⟩ 36 (0, 0)) :: L) (fun _ => none) mixed (by kernel_rfl) (by kernel_rfl) rfl (fct_mono (by kernel_rfl)) ⟨(fun H' m_ hH hm_ hu_ => depK_nil <| s_d (m_ 0) rfl (d_fld (o' := 0) Tryz.underlying36 rfl sz4 rfl rfl rfl) (by exact rfl) rfl), (by rintro H' m_ hH hm_ hu_ _ rfl; exact depK_nil <| s_d (m_ 1) rfl (d_loado (v := .bool a_0) ty4 rfl (.there (.there .here)) rfl rfl rfl rfl) (by exact rfl) rfl), (fun H' m_ hH hm_ hu_ => depK_nil <| s_d (m_ 2) rfl (d_fld (o' := 1) Tryz.underlying36 rfl sz34 rfl rfl rfl) (by exact rfl) rfl), (by rintro H' m_ hH hm_ hu_ _ rfl; exact depK_nil <| s_d (m_ 3) rfl (d_loado (v := v_a_1) ty34 rfl (.there (.there .here)) rfl rfl rfl rfl) (by exact rfl) rfl), (fun H' m_ hH hm_ hu_ => depK_nil <| s_d (m_ 4) rfl (d_fld (o' := 1) Tryz.underlying36 rfl sz34 rfl rfl rfl) (by exact rfl) rfl), (by rintro H' m_ hH hm_ hu_ _ rfl; exact depK_nil <| s_d (m_ 5) rfl (d_loado (v := v_b_1) ty34 rfl (.there .here) rfl rfl rfl rfl) (by exact rfl) rfl), (by rintro H' m_ hH hm_ hu_ _ rfl _ rfl; exact depK_nil <| s_k (m_ 6) rfl (o_call co68 (vs := [v_a_1, v_b_1]) rfl (wide_minus.calls k hy27 ((h_a_1.mono hH).src) ((h_b_1.mono hH).src))) rfl (by rintro v_ H_ _ ⟨rfl, e_, h_⟩; exact ⟨rfl, e_, h_⟩)), (by rintro H' m_ hH hm_ hu_ _ rfl v30 (h31 : Ro (Kd.int .u32) H' v30 y26); exact depK_nil <| s_k (m_ 7) rfl (o_call co61 (vs := [.bool a_0, v30]) rfl (wide_made.calls k hy33 h31)) rfl (by rintro v_ H_ _ ⟨rfl, e_, h_⟩; exact ⟨rfl, e_, h_⟩)), (by rintro H' m_ hH hm_ hu_ _ ⟨v36, rfl, h37⟩; exact depK_nil <| s_d (m_ 8) rfl (d_ext (vs := [.agg ⟨[.bool y32.1.f_neg, v36]⟩, errV 71 y32.2]) rfl rfl) (by exact ⟨v36, rfl, h37⟩) rfl), (by rintro H' m_ hH hm_ hu_ _ ⟨v36, rfl, h37⟩; exact depK_nil <| s_d (m_ 9) rfl (d_ext (vs := [.agg ⟨[.bool y32.1.f_neg, v36]⟩, errV 71 y32.2]) rfl rfl) (by exact rfl) rfl), trivial⟩ ?_
 intro H40 e41
 rintro _ _ rfl _ _ rfl _ _ rfl _ _ rfl _ _ rfl _ _ rfl v30 _ (h31 : Ro (Kd.int .u32) H40 v30 y26) _ _ ⟨v36, rfl, h37⟩ _ _ ⟨v38, rfl, h39⟩ _ _ rfl
 refine w_a0 rfl (o_store (v := .agg ⟨[.bool y32.1.f_neg, v38]⟩) sz36 rfl rfl rfl rfl (one_cons rfl (one_cons (h39.one) one_nil)) .here (.here (.here .done))) ?_
 rintro _ _ _ ⟨rfl, rfl, rfl⟩
 refine w_d rfl (d_assign (v := errV 71 y32.2) rfl) <| w_done ?_
 obtain rfl := Option.some.inj he
 refine w_return fn_38 rs_38 (.box (v := .agg ⟨[.bool y32.1.f_neg, v38]⟩) rfl ty36 rfl rfl .here rfl (.tmp (v := errV 71 y32.2) rfl .nil)) <| ⟨⟨[_, _, _], rfl⟩, hle.trans e41, ⟨v38, rfl, h39⟩⟩
theorem wide_Int_Add.calls (k : Nat) {H : Hp} {L : Items} {a : wide_Int} {b : wide_Int} {v0_a : Value} {v1_b : Value} {r : wide_Int × (Option Int)} (he : wide_Int_Add.f k a b = some r) (h0_a : Ro (Kd.int .u32) H v0_a a.f_w) (h1_b : Ro (Kd.int .u32) H v1_b b.f_w) : Ct Tryz.prog 38 ⟨[.agg ⟨[.bool a.f_neg, v0_a]⟩, .agg ⟨[.bool b.f_neg, v1_b]⟩]⟩ H L (fun v H' L' => L = L' ∧ H.le H' ∧ wide_Int_Add.out r H' v) := by
 refine ct_out (O := wide_Int_Add.out r) ?_
 have hle : H.le H := .refl _
 unfold wide_Int_Add.f at he
 refine ct_enter (args := [.agg ⟨[.bool a.f_neg, v0_a]⟩, .agg ⟨[.bool b.f_neg, v1_b]⟩]) fn_38 rfl nt_38 rfl <| w_seq <| w_region rfl <| w_a rfl (o_box (v := .agg ⟨[.bool a.f_neg, v0_a]⟩) rfl rfl) ?_
 rintro _ _ _ ⟨b1, rfl, rfl, rfl⟩
 refine w_a rfl (o_box (v := .agg ⟨[.bool b.f_neg, v1_b]⟩) rfl rfl) ?_
 rintro _ _ _ ⟨b2, rfl, rfl, rfl⟩
 refine w_a rfl (o_alloc zr36 rfl) ?_
 rintro _ _ _ ⟨b3, rfl, rfl, rfl⟩
 refine w_d rfl (d_assign (v := errV 71 none) rfl) <| w_done <| w_seq <| w_seq <| w_region rfl <| w_d rfl (d_fld (o' := 0) Tryz.underlying36 rfl sz4 rfl rfl rfl) <| w_d rfl (d_loado (v := .bool a.f_neg) ty4 rfl (.there (.there .here)) rfl rfl rfl rfl) <| w_d rfl (d_fld (o' := 0) Tryz.underlying36 rfl sz4 rfl rfl rfl) <| w_d rfl (d_loado (v := .bool b.f_neg) ty4 rfl (.there .here) rfl rfl rfl rfl) <| w_d rfl (d_eqb (a := a.f_neg) (b := b.f_neg) Tryz.underlying4 rfl rfl) <| w_done ?_
 rcases its he with ⟨c4, he⟩ | ⟨c4, he⟩
 ·
  refine w_then rfl c4 <| w_seq ?_
  obtain ⟨y5, hy6, he⟩ := Option.bind_eq_some_iff.1 he
  obtain ⟨y11, hy12, he⟩ := Option.bind_eq_some_iff.1 he
  refine w_drawn (p := 10) (tl := [10, 11]) [[], [(0, some 11)], [], [(2, some 13)], [], [(4, some 15)], [(3, some 14), (5, some 16)], [(1, some 12), (6, some 17)], [(7, some 18)], [(7, some 18)]] [some 11, some 12, some 13, some 14, some 15, some 16, some 17, some 18, some 19, some 20] (fctF (.is (.pointer (some ⟨b1, 0, none⟩)) :: .is (.bool a.f_neg) :: .is (.pointer (some ⟨b1, 1, none⟩)) :: .is (v0_a) :: .is (.pointer (some ⟨b2, 1, none⟩)) :: .is (v1_b) :: .ro (Kd.int .u32) (y5) :: .of (wide_made.out y11) (wide_made.out_mono _) :: .of (fun H v => ∃ v17, v = .agg ⟨[.bool y11.1.f_neg, v17]⟩ ∧ Ro (Kd.int .u32) H v17 y11.1.f_w) (by rintro _ _ _ hle ⟨v17, rfl, h18⟩; exact ⟨v17, rfl, h18.mono hle⟩) :: .is (errV 71 y11.2) :: [])) (fun m_ => some (b3, .cells ⟨[.bool false, .slice none 0 0]⟩ 36 (0, 0)) :: some (b2, .cells ⟨[.bool b.f_neg, v1_b]⟩ 36 (0, 0)) :: some (b1, .cells ⟨[.bool a.f_neg, v0_a]⟩ 36 (0, 0)) :: L) (fun _ => none) mixed (by kernel_rfl) (by kernel_rfl) rfl (fct_mono (by kernel_rfl)) ⟨(fun H' m_ hH hm_ hu_ => depK_nil <| s_d (m_ 0) rfl (d_fld (o' := 0) Tryz.underlying36 rfl sz4 rfl rfl rfl) (by exact rfl) rfl), (by rintro H' m_ hH hm_ hu_ _ rfl; exact depK_nil <| s_d (m_ 1) rfl (d_loado (v := .bool a.f_neg) ty4 rfl (.there (.there .here)) rfl rfl rfl rfl) (by exact rfl) rfl), (fun H' m_ hH hm_ hu_ => depK_nil <| s_d (m_ 2) rfl (d_fld (o' := 1) Tryz.underlying36 rfl sz34 rfl rfl rfl) (by exact rfl) rfl), (by rintro H' m_ hH hm_ hu_ _ rfl; exact depK_nil <| s_d (m_ 3) rfl (d_loado (v := v0_a) ty34 rfl (.there (.there .here)) rfl rfl rfl rfl) (by exact rfl) rfl), (fun H' m_ hH hm_ hu_ => depK_nil <| s_d (m_ 4) rfl (d_fld (o' := 1) Tryz.underlying36 rfl sz34 rfl rfl rfl) (by exact rfl) rfl), (by rintro H' m_ hH hm_ hu_ _ rfl; exact depK_nil <| s_d (m_ 5) rfl (d_loado (v := v1_b) ty34 rfl (.there .here) rfl rfl rfl rfl) (by exact rfl) rfl), (by rintro H' m_ hH hm_ hu_ _ rfl _ rfl; exact depK_nil <| s_k (m_ 6) rfl (o_call co71 (vs := [v0_a, v1_b]) rfl (wide_plus.calls k hy6 ((h0_a.mono hH).src) ((h1_b.mono hH).src))) rfl (by rintro v_ H_ _ ⟨rfl, e_, h_⟩; exact ⟨rfl, e_, h_⟩)), (by rintro H' m_ hH hm_ hu_ _ rfl v9 (h10 : Ro (Kd.int .u32) H' v9 y5); exact depK_nil <| s_k (m_ 7) rfl (o_call co61 (vs := [.bool a.f_neg, v9]) rfl (wide_made.calls k hy12 h10)) rfl (by rintro v_ H_ _ ⟨rfl, e_, h_⟩; exact ⟨rfl, e_, h_⟩)), (by rintro H' m_ hH hm_ hu_ _ ⟨v15, rfl, h16⟩; exact depK_nil <| s_d (m_ 8) rfl (d_ext (vs := [.agg ⟨[.bool y11.1.f_neg, v15]⟩, errV 71 y11.2]) rfl rfl) (by exact ⟨v15, rfl, h16⟩) rfl), (by rintro H' m_ hH hm_ hu_ _ ⟨v15, rfl, h16⟩; exact depK_nil <| s_d (m_ 9) rfl (d_ext (vs := [.agg ⟨[.bool y11.1.f_neg, v15]⟩, errV 71 y11.2]) rfl rfl) (by exact rfl) rfl), trivial⟩ ?_
  intro H19 e20
  rintro _ _ rfl _ _ rfl _ _ rfl _ _ rfl _ _ rfl _ _ rfl v9 _ (h10 : Ro (Kd.int .u32) H19 v9 y5) _ _ ⟨v15, rfl, h16⟩ _ _ ⟨v17, rfl, h18⟩ _ _ rfl
  refine w_a0 rfl (o_store (v := .agg ⟨[.bool y11.1.f_neg, v17]⟩) sz36 rfl rfl rfl rfl (one_cons rfl (one_cons (h18.one) one_nil)) .here (.here (.here .done))) ?_
  rintro _ _ _ ⟨rfl, rfl, rfl⟩
  refine w_d rfl (d_assign (v := errV 71 y11.2) rfl) <| w_done ?_
  obtain rfl := Option.some.inj he
  refine w_return fn_38 rs_38 (.box (v := .agg ⟨[.bool y11.1.f_neg, v17]⟩) rfl ty36 rfl rfl .here rfl (.tmp (v := errV 71 y11.2) rfl .nil)) <| ⟨⟨[_, _, _], rfl⟩, hle.trans e20, ⟨v17, rfl, h18⟩⟩
 ·
  refine w_else rfl (Bool.eq_false_iff.2 c4) <| w_skip <| w_seq <| w_seq <| w_region rfl <| w_d rfl (d_fld (o' := 1) Tryz.underlying36 rfl sz34 rfl rfl rfl) <| w_d rfl (d_loado (v := v0_a) ty34 rfl (.there (.there .here)) rfl rfl rfl rfl) <| w_d rfl (d_fld (o' := 1) Tryz.underlying36 rfl sz34 rfl rfl rfl) <| w_d rfl (d_loado (v := v1_b) ty34 rfl (.there .here) rfl rfl rfl rfl) ?_
  obtain ⟨y21, hy22, he⟩ := Option.bind_eq_some_iff.1 he
  refine w_d rfl (call_d (o_call co70 (vs := [v0_a, v1_b]) rfl (wide_less.calls k hy22 h0_a.src h1_b.src))) <| w_d rfl (d_lss rfl rfl) <| w_done ?_
  rcases its he with ⟨c25, he⟩ | ⟨c25, he⟩
  ·
   refine w_then rfl (decide_eq_true c25) <| w_region rfl <| w_d rfl (d_loado (v := .agg ⟨[.bool b.f_neg, v1_b]⟩) ty36 rfl (.there .here) rfl rfl rfl rfl) <| w_d rfl (d_loado (v := .agg ⟨[.bool a.f_neg, v0_a]⟩) ty36 rfl (.there (.there .here)) rfl rfl rfl rfl) <| w_a0 rfl (o_store (v := .agg ⟨[.bool b.f_neg, v1_b]⟩) sz36 rfl rfl rfl rfl (one_cons rfl (one_cons (h1_b.one) one_nil)) (.there (.there .here)) (.here (.here .done))) ?_
   rintro _ _ _ ⟨rfl, rfl, rfl⟩
   refine w_a0 rfl (o_store (v := .agg ⟨[.bool a.f_neg, v0_a]⟩) sz36 rfl rfl rfl rfl (one_cons rfl (one_cons (h0_a.one) one_nil)) (.there .here) (.here (.here .done))) ?_
   rintro _ _ _ ⟨rfl, rfl, rfl⟩
   refine w_done <| w_sl 2 (.pointer (some ⟨b1, 0, none⟩)) rfl <| w_sl 3 (.pointer (some ⟨b2, 0, none⟩)) rfl <| w_sl 4 (.pointer (some ⟨b3, 0, none⟩)) rfl <| w_sl 5 (errV 71 none) rfl <| wide_Int_Add.j1_ok (k := k) hle he h1_b h0_a
  ·
   refine w_else rfl (decide_eq_false c25) <| w_skip <| w_sl 2 (.pointer (some ⟨b1, 0, none⟩)) rfl <| w_sl 3 (.pointer (some ⟨b2, 0, none⟩)) rfl <| w_sl 4 (.pointer (some ⟨b3, 0, none⟩)) rfl <| w_sl 5 (errV 71 none) rfl <| wide_Int_Add.j1_ok (k := k) hle he h0_a h1_b
/-! ### (radome/wide.Int).Div -/
noncomputable def wide_Int_Div.C : Code := (Tryz.f33.body).getD .skip
def wide_Int_Div.out (r : wide_Int × wide_Int × (Option Int)) (H : Hp) (v : Value) : Prop := ∃ v0, ∃ v1, v = .tuple ⟨[.agg ⟨[.bool r.1.f_neg, v0]⟩, .agg ⟨[.bool r.2.1.f_neg, v1]⟩, errV 71 r.2.2]⟩ ∧ Ro (Kd.int .u32) H v0 r.1.f_w ∧ Ro (Kd.int .u32) H v1 r.2.1.f_w
theorem wide_Int_Div.out_mono (r : wide_Int × wide_Int × (Option Int)) {H H' : Hp} {v : Value} (hle : H.le H') (h : wide_Int_Div.out r H v) : wide_Int_Div.out r H' v := by
 obtain ⟨v0, v1, rfl, h0, h1⟩ := h; exact ⟨v0, v1, rfl, h0.mono hle, h1.mono hle⟩
abbrev wide_Int_Div.R (H0 : Hp) (L : Items) (r : wide_Int × wide_Int × (Option Int)) : Value → Hp → Items → Prop := fun v H' L' => (∃ p, L' = p ++ L) ∧ H0.le H' ∧ wide_Int_Div.out r H' v
noncomputable def wide_Int_Div.j1 (k : Nat)  (b_0 : Bool) (b_1 : List Int) (r_ : List Int) (x_0 : Bool) (x_1 : List Int) (one_0 : Bool) (one_1 : List Int) : Option (wide_Int × wide_Int × (Option Int)) := (wide_Int_Add.f k (⟨x_0, x_1⟩ : wide_Int) (⟨one_0, one_1⟩ : wide_Int)).bind fun y50 => if y50.2.isSome = true then (some ((⟨false, []⟩ : wide_Int), (⟨false, []⟩ : wide_Int), y50.2)) else ((wide_minus.f k b_1 r_).bind fun y57 => some ((⟨y50.1.f_neg, y50.1.f_w⟩ : wide_Int), (⟨false, y57⟩ : wide_Int), none))
noncomputable def wide_Int_Div.f (k : Nat) (a : wide_Int) (b : wide_Int) : Option (wide_Int × wide_Int × (Option Int)) := if (b.f_w.length : Int) = 0 then (some ((⟨false, []⟩ : wide_Int), (⟨false, []⟩ : wide_Int), some 11)) else ((wide_long.f k a.f_w b.f_w).bind fun y6 => (wide_made.f k (!(a.f_neg == b.f_neg)) y6.1).bind fun y14 => if y14.2.isSome = true then (some ((⟨false, []⟩ : wide_Int), (⟨false, []⟩ : wide_Int), y14.2)) else (if ((!a.f_neg) || (decide ((y6.2.length : Int) = 0))) = true then ((slices_Clone_uint32_uint32.f k y6.2).bind fun y26 => some ((⟨y14.1.f_neg, y14.1.f_w⟩ : wide_Int), (⟨false, y26⟩ : wide_Int), none)) else ((wide_Of.f k 1).bind fun y36 => if (!b.f_neg) = true then ((wide_Int_Neg.f k (⟨y36.f_neg, y36.f_w⟩ : wide_Int)).bind fun y44 => wide_Int_Div.j1 k b.f_neg b.f_w y6.2 y14.1.f_neg y14.1.f_w y44.f_neg y44.f_w) else (wide_Int_Div.j1 k b.f_neg b.f_w y6.2 y14.1.f_neg y14.1.f_w y36.f_neg y36.f_w))))
theorem wide_Int_Div.j1_mono {k : Nat} : ∀ y0 y1 y2 y3 y4 y5 y6, LeO (wide_Int_Div.j1 k y0 y1 y2 y3 y4 y5 y6) (wide_Int_Div.j1 (k + 1) y0 y1 y2 y3 y4 y5 y6) := fun _ _ _ _ _ _ _ => (LeO.bind (wide_Int_Add.mono k _ _) fun _ => LeO.ite (LeO.refl _) (LeO.bind (wide_minus.mono k _ _) fun _ => LeO.refl _))
theorem wide_Int_Div.mono : ∀ k y0 y1, LeO (wide_Int_Div.f k y0 y1) (wide_Int_Div.f (k + 1) y0 y1) := fun k _ _ => by unfold wide_Int_Div.f; exact (LeO.ite (LeO.refl _) (LeO.bind (wide_long.mono k _ _) fun _ => LeO.bind (wide_made.mono k _ _) fun _ => LeO.ite (LeO.refl _) (LeO.ite (LeO.bind (slices_Clone_uint32_uint32.mono k _) fun _ => LeO.refl _) (LeO.bind (wide_Of.mono k _) fun _ => LeO.ite (LeO.bind (wide_Int_Neg.mono k _) fun _ => wide_Int_Div.j1_mono (k := k)  _ _ _ _ _ _ _) (wide_Int_Div.j1_mono (k := k)  _ _ _ _ _ _ _)))))
noncomputable def wide_Int_Div.Kj1 : List Item := .code (seqR (seqR (seqR (seqR (seqR (seqR (seqR (seqR wide_Int_Div.C)))))))) :: []
theorem wide_Int_Div.j1_ok {k : Nat} {H0 H : Hp} {L : Items} {r : wide_Int × wide_Int × (Option Int)} {jk_ : Nat → Value} {b_0 : Bool} {b_1 : List Int} {r_ : List Int} {x_0 : Bool} {x_1 : List Int} {one_0 : Bool} {one_1 : List Int} {v_b_1 : Value} {v_r_ : Value} {v_x_1 : Value} {v_one_1 : Value} {b_b : Nat} {b_t4 : Nat} {b_t5 : Nat} {b_x : Nat} {b_one_ : Nat} (hle : H0.le H) (he : wide_Int_Div.j1 k b_0 b_1 r_ x_0 x_1 one_0 one_1 = some r) (h_b_1 : Ro (Kd.int .u32) H v_b_1 b_1) (h_r_ : Ro (Kd.int .u32) H v_r_ r_) (h_x_1 : Ro (Kd.int .u32) H v_x_1 x_1) (h_one_1 : Ro (Kd.int .u32) H v_one_1 one_1) : Wp Tryz.prog 33 77 wide_Int_Div.Kj1 (upd (upd (upd (upd (upd (upd (upd jk_ 3 (.pointer (some ⟨b_b, 0, none⟩))) 4 (.pointer (some ⟨b_t4, 0, none⟩))) 5 (.pointer (some ⟨b_t5, 0, none⟩))) 6 (errV 71 none)) 8 (v_r_)) 9 (.pointer (some ⟨b_x, 0, none⟩))) 11 (.pointer (some ⟨b_one_, 0, none⟩))) H (some (b_one_, .cells ⟨[.bool one_0, v_one_1]⟩ 36 (0, 0)) :: some (b_x, .cells ⟨[.bool x_0, v_x_1]⟩ 36 (0, 0)) :: some (b_t5, .cells ⟨[.bool false, .slice none 0 0]⟩ 36 (0, 0)) :: some (b_t4, .cells ⟨[.bool false, .slice none 0 0]⟩ 36 (0, 0)) :: some (b_b, .cells ⟨[.bool b_0, v_b_1]⟩ 36 (0, 0)) :: L) (wide_Int_Div.R H0 L r) := by
 unfold wide_Int_Div.j1 at he
 unfold wide_Int_Div.Kj1
 refine w_seq <| w_region rfl <| w_d rfl (d_loado (v := .agg ⟨[.bool x_0, v_x_1]⟩) ty36 rfl (.there .here) rfl rfl rfl rfl) <| w_d rfl (d_loado (v := .agg ⟨[.bool one_0, v_one_1]⟩) ty36 rfl .here rfl rfl rfl rfl) ?_
 obtain ⟨y50, hy51, he⟩ := Option.bind_eq_some_iff.1 he
 refine w_a rfl (o_call co38 (vs := [.agg ⟨[.bool x_0, v_x_1]⟩, .agg ⟨[.bool one_0, v_one_1]⟩]) rfl (wide_Int_Add.calls k (a := ⟨x_0, x_1⟩) (b := ⟨one_0, one_1⟩) hy51 h_x_1 h_one_1)) ?_
 rintro _ H52 _ ⟨rfl, e53, ⟨v54, rfl, h55⟩⟩
 refine w_d rfl (d_move (v := .tuple ⟨[.agg ⟨[.bool y50.1.f_neg, v54]⟩, errV 71 y50.2]⟩) rfl) <| w_d rfl (d_ext (vs := [.agg ⟨[.bool y50.1.f_neg, v54]⟩, errV 71 y50.2]) rfl rfl) <| w_d rfl (d_ext (vs := [.agg ⟨[.bool y50.1.f_neg, v54]⟩, errV 71 y50.2]) rfl rfl) <| w_a0 rfl (o_store (v := .agg ⟨[.bool y50.1.f_neg, v54]⟩) sz36 rfl rfl rfl rfl (one_cons rfl (one_cons (h55.one) one_nil)) (.there .here) (.here (.here .done))) ?_
 rintro _ _ _ ⟨rfl, rfl, rfl⟩
 refine w_d rfl (d_assign (v := errV 71 y50.2) rfl) <| w_done <| w_seq <| w_seq <| w_region rfl <| w_d rfl (d_move (v := errV 71 y50.2) rfl) <| w_d rfl (d_nenil (e := y50.2) Tryz.underlying32 rfl) <| w_done ?_
 rcases its he with ⟨c56, he⟩ | ⟨c56, he⟩
 ·
  refine w_then rfl c56 <| w_seq <| w_region rfl <| w_d rfl (d_build (cs' := [.bool false, .slice none 0 0]) Tryz.underlying36 zr36 rfl (by kernel_rfl) (parts := []) rfl .nil) <| w_d rfl (d_build (cs' := [.bool false, .slice none 0 0]) Tryz.underlying36 zr36 rfl (by kernel_rfl) (parts := []) rfl .nil) <| w_d rfl (d_move (v := errV 71 y50.2) rfl) <| w_a0 rfl (o_store (v := .agg ⟨[.bool false, .slice none 0 0]⟩) sz36 rfl rfl rfl rfl (one_cons rfl (one_cons rfl one_nil)) (.there (.there (.there .here))) (.here (.here .done))) ?_
  rintro _ _ _ ⟨rfl, rfl, rfl⟩
  refine w_a0 rfl (o_store (v := .agg ⟨[.bool false, .slice none 0 0]⟩) sz36 rfl rfl rfl rfl (one_cons rfl (one_cons rfl one_nil)) (.there (.there .here)) (.here (.here .done))) ?_
  rintro _ _ _ ⟨rfl, rfl, rfl⟩
  refine w_d rfl (d_assign (v := errV 71 y50.2) rfl) <| w_done ?_
  obtain rfl := Option.some.inj he
  refine w_return fn_33 rs_33 (.box (v := .agg ⟨[.bool false, .slice none 0 0]⟩) rfl ty36 rfl rfl (.there (.there (.there .here))) rfl (.box (v := .agg ⟨[.bool false, .slice none 0 0]⟩) rfl ty36 rfl rfl (.there (.there .here)) rfl (.tmp (v := errV 71 y50.2) rfl .nil))) <| ⟨⟨[_, _, _, _, _], rfl⟩, hle.trans e53, ⟨.slice none 0 0, .slice none 0 0, rfl, (ro_nil _ _), (ro_nil _ _)⟩⟩
 ·
  refine w_else rfl (Bool.eq_false_iff.2 c56) <| w_skip <| w_seq ?_
  obtain ⟨y57, hy58, he⟩ := Option.bind_eq_some_iff.1 he
  refine w_drawn (p := 7) (tl := [7, 8]) [[], [], [(1, some 72)], [], [(2, some 73), (3, some 74)], [(4, some 75)], [(0, some 71)]] [some 71, some 72, some 73, some 74, some 75, some 76, none] (fctF (.is (.agg ⟨[.bool y50.1.f_neg, v54]⟩) :: .is (.pointer (some ⟨b_b, 1, none⟩)) :: .is (v_b_1) :: .is (v_r_) :: .ro (Kd.int .u32) (y57) :: .of (fun H v => ∃ v63, v = .agg ⟨[.bool false, v63]⟩ ∧ Ro (Kd.int .u32) H v63 y57) (by rintro _ _ _ hle ⟨v63, rfl, h64⟩; exact ⟨v63, rfl, h64.mono hle⟩) :: .itm (fun H itq_ => itq_ = some (b_t4, .cells ⟨[.bool y50.1.f_neg, v54]⟩ 36 (0, 0))) (by rintro _ _ _ hle rfl; exact rfl) :: [])) (fun m_ => some (b_one_, .cells ⟨[.bool one_0, v_one_1]⟩ 36 (0, 0)) :: some (b_x, .cells ⟨[.bool y50.1.f_neg, v54]⟩ 36 (0, 0)) :: some (b_t5, .cells ⟨[.bool false, .slice none 0 0]⟩ 36 (0, 0)) :: m_ 6 :: some (b_b, .cells ⟨[.bool b_0, v_b_1]⟩ 36 (0, 0)) :: L) (fun i_ => if i_ = 6 then some (b_t4, .cells ⟨[.bool false, .slice none 0 0]⟩ 36 (0, 0)) else none) mixed (by kernel_rfl) (by kernel_rfl) rfl (fct_mono (by kernel_rfl)) ⟨(fun H' m_ hH hm_ hu_ => depK_nil <| s_d (m_ 0) rfl (d_loado (v := .agg ⟨[.bool y50.1.f_neg, v54]⟩) ty36 rfl (.there .here) rfl rfl rfl rfl) (by exact rfl) rfl), (fun H' m_ hH hm_ hu_ => depK_nil <| s_d (m_ 1) rfl (d_fld (o' := 1) Tryz.underlying36 rfl sz34 rfl rfl rfl) (by exact rfl) rfl), (by rintro H' m_ hH hm_ hu_ _ rfl; exact depK_nil <| s_d (m_ 2) rfl (d_loado (v := v_b_1) ty34 rfl (.there (.there (.there (.there .here)))) rfl rfl rfl rfl) (by exact rfl) rfl), (fun H' m_ hH hm_ hu_ => depK_nil <| s_d (m_ 3) rfl (d_move (v := v_r_) rfl) (by exact rfl) rfl), (by rintro H' m_ hH hm_ hu_ _ rfl _ rfl; exact depK_nil <| s_k (m_ 4) rfl (o_call co68 (vs := [v_b_1, v_r_]) rfl (wide_minus.calls k hy58 ((h_b_1.mono (e53.trans hH)).src) ((h_r_.mono (e53.trans hH)).src))) rfl (by rintro v_ H_ _ ⟨rfl, e_, h_⟩; exact ⟨rfl, e_, h_⟩)), (by rintro H' m_ hH hm_ hu_ v61 (h62 : Ro (Kd.int .u32) H' v61 y57); exact depK_nil <| s_d (m_ 5) rfl (d_build (cs' := [.bool false, v61]) Tryz.underlying36 zr36 rfl (by kernel_rfl) (parts := [(0, .bool false), (1, v61)]) rfl (.cons (place_of rfl sz4 rfl) rfl rfl (.here .done) (.cons (place_of rfl sz34 rfl) h62.cells rfl (.there (.here .done)) .nil))) (by exact ⟨v61, rfl, h62⟩) rfl), (by rintro H' m_ hH hm_ hu_ _ rfl; exact depK_nil <| s_store (some (b_t4, .cells ⟨[.bool y50.1.f_neg, v54]⟩ 36 (0, 0))) hm_ rfl (o_store (v := .agg ⟨[.bool y50.1.f_neg, v54]⟩) sz36 rfl rfl rfl rfl (one_cons rfl (one_cons (h55.one) one_nil)) (.there (.there (.there .here))) (.here (.here .done))) rfl (by exact ⟨rfl, rfl⟩)), trivial⟩ ?_
  intro H65 e66
  rintro _ _ rfl _ _ rfl _ _ rfl _ _ rfl v61 _ (h62 : Ro (Kd.int .u32) H65 v61 y57) _ _ ⟨v63, rfl, h64⟩ _ _ ⟨rfl, rfl⟩
  refine w_it (L' := some (b_one_, .cells ⟨[.bool one_0, v_one_1]⟩ 36 (0, 0)) :: some (b_x, .cells ⟨[.bool y50.1.f_neg, v54]⟩ 36 (0, 0)) :: some (b_t5, .cells ⟨[.bool false, .slice none 0 0]⟩ 36 (0, 0)) :: some (b_t4, .cells ⟨[.bool y50.1.f_neg, v54]⟩ 36 (0, 0)) :: some (b_b, .cells ⟨[.bool b_0, v_b_1]⟩ 36 (0, 0)) :: L) rfl <| w_a0 rfl (o_store (v := .agg ⟨[.bool false, v63]⟩) sz36 rfl rfl rfl rfl (one_cons rfl (one_cons (h64.one) one_nil)) (.there (.there .here)) (.here (.here .done))) ?_
  rintro _ _ _ ⟨rfl, rfl, rfl⟩
  refine w_d rfl (d_assign (v := errV 71 none) rfl) <| w_done ?_
  obtain rfl := Option.some.inj he
  refine w_return fn_33 rs_33 (.box (v := .agg ⟨[.bool y50.1.f_neg, v54]⟩) rfl ty36 rfl rfl (.there (.there (.there .here))) rfl (.box (v := .agg ⟨[.bool false, v63]⟩) rfl ty36 rfl rfl (.there (.there .here)) rfl (.tmp (v := errV 71 none) rfl .nil))) <| ⟨⟨[_, _, _, _, _], rfl⟩, hle.trans (e53.trans e66), ⟨v54, v63, rfl, (h55.mono e66), h64⟩⟩
theorem wide_Int_Div.calls (k : Nat) {H : Hp} {L : Items} {a : wide_Int} {b : wide_Int} {v0_a : Value} {v1_b : Value} {r : wide_Int × wide_Int × (Option Int)} (he : wide_Int_Div.f k a b = some r) (h0_a : Ro (Kd.int .u32) H v0_a a.f_w) (h1_b : Ro (Kd.int .u32) H v1_b b.f_w) : Ct Tryz.prog 33 ⟨[.agg ⟨[.bool a.f_neg, v0_a]⟩, .agg ⟨[.bool b.f_neg, v1_b]⟩]⟩ H L (fun v H' L' => L = L' ∧ H.le H' ∧ wide_Int_Div.out r H' v) := by
 refine ct_out (O := wide_Int_Div.out r) ?_
 have hle : H.le H := .refl _
 unfold wide_Int_Div.f at he
 refine ct_enter (args := [.agg ⟨[.bool a.f_neg, v0_a]⟩, .agg ⟨[.bool b.f_neg, v1_b]⟩]) fn_33 rfl nt_33 rfl <| w_seq <| w_region rfl <| w_a rfl (o_box (v := .agg ⟨[.bool a.f_neg, v0_a]⟩) rfl rfl) ?_
 rintro _ _ _ ⟨b1, rfl, rfl, rfl⟩
 refine w_a rfl (o_box (v := .agg ⟨[.bool b.f_neg, v1_b]⟩) rfl rfl) ?_
 rintro _ _ _ ⟨b2, rfl, rfl, rfl⟩
 refine w_a rfl (o_alloc zr36 rfl) ?_
 rintro _ _ _ ⟨b3, rfl, rfl, rfl⟩
 refine w_a rfl (o_alloc zr36 rfl) ?_
 rintro _ _ _ ⟨b4, rfl, rfl, rfl⟩
 refine w_d rfl (d_assign (v := errV 71 none) rfl) <| w_done <| w_seq <| w_seq <| w_region rfl <| w_d rfl (d_fld (o' := 1) Tryz.underlying36 rfl sz34 rfl rfl rfl) <| w_d rfl (d_loado (v := v1_b) ty34 rfl (.there (.there .here)) rfl rfl rfl rfl) <| w_d rfl (d_len Tryz.underlying34 rfl h1_b.src) <| w_d rfl (d_eql rfl rfl) <| w_done ?_
 rcases its he with ⟨c5, he⟩ | ⟨c5, he⟩
 ·
  refine w_then rfl (decide_eq_true c5) <| w_seq <| w_region rfl <| w_d rfl (d_build (cs' := [.bool false, .slice none 0 0]) Tryz.underlying36 zr36 rfl (by kernel_rfl) (parts := []) rfl .nil) <| w_d rfl (d_build (cs' := [.bool false, .slice none 0 0]) Tryz.underlying36 zr36 rfl (by kernel_rfl) (parts := []) rfl .nil) <| w_d rfl (d_iface (v := .int .i64 11) Tryz.underlying71 rfl rfl) <| w_a0 rfl (o_store (v := .agg ⟨[.bool false, .slice none 0 0]⟩) sz36 rfl rfl rfl rfl (one_cons rfl (one_cons rfl one_nil)) (.there .here) (.here (.here .done))) ?_
  rintro _ _ _ ⟨rfl, rfl, rfl⟩
  refine w_a0 rfl (o_store (v := .agg ⟨[.bool false, .slice none 0 0]⟩) sz36 rfl rfl rfl rfl (one_cons rfl (one_cons rfl one_nil)) .here (.here (.here .done))) ?_
  rintro _ _ _ ⟨rfl, rfl, rfl⟩
  refine w_d rfl (d_assign (v := errV 71 (some 11)) rfl) <| w_done ?_
  obtain rfl := Option.some.inj he
  refine w_return fn_33 rs_33 (.box (v := .agg ⟨[.bool false, .slice none 0 0]⟩) rfl ty36 rfl rfl (.there .here) rfl (.box (v := .agg ⟨[.bool false, .slice none 0 0]⟩) rfl ty36 rfl rfl .here rfl (.tmp (v := errV 71 (some 11)) rfl .nil))) <| ⟨⟨[_, _, _, _], rfl⟩, hle, ⟨.slice none 0 0, .slice none 0 0, rfl, (ro_nil _ _), (ro_nil _ _)⟩⟩
 ·
  refine w_else rfl (decide_eq_false c5) <| w_skip <| w_seq <| w_region rfl <| w_d rfl (d_fld (o' := 1) Tryz.underlying36 rfl sz34 rfl rfl rfl) <| w_d rfl (d_loado (v := v0_a) ty34 rfl (.there (.there (.there .here))) rfl rfl rfl rfl) <| w_d rfl (d_fld (o' := 1) Tryz.underlying36 rfl sz34 rfl rfl rfl) <| w_d rfl (d_loado (v := v1_b) ty34 rfl (.there (.there .here)) rfl rfl rfl rfl) ?_
  obtain ⟨y6, hy7, he⟩ := Option.bind_eq_some_iff.1 he
  refine w_a rfl (o_call co67 (vs := [v0_a, v1_b]) rfl (wide_long.calls k hy7 h0_a h1_b.src)) ?_
  rintro _ H8 _ ⟨rfl, e9, ⟨v10, v12, rfl, h11, h13⟩⟩
  refine w_d rfl (d_move (v := .tuple ⟨[v10, v12]⟩) rfl) <| w_d rfl (d_ext (vs := [v10, v12]) rfl rfl) <| w_d rfl (d_ext (vs := [v10, v12]) rfl rfl) <| w_d rfl (d_assign (v := v10) rfl) <| w_d rfl (d_assign (v := v12) rfl) <| w_done <| w_seq <| w_region rfl <| w_d rfl (d_fld (o' := 0) Tryz.underlying36 rfl sz4 rfl rfl rfl) <| w_d rfl (d_loado (v := .bool a.f_neg) ty4 rfl (.there (.there (.there .here))) rfl rfl rfl rfl) <| w_d rfl (d_fld (o' := 0) Tryz.underlying36 rfl sz4 rfl rfl rfl) <| w_d rfl (d_loado (v := .bool b.f_neg) ty4 rfl (.there (.there .here)) rfl rfl rfl rfl) ?_
  refine w_d rfl (d_neb (a := a.f_neg) (b := b.f_neg) Tryz.underlying4 rfl rfl) <| w_d rfl (d_move (v := v10) rfl) ?_
  obtain ⟨y14, hy15, he⟩ := Option.bind_eq_some_iff.1 he
  refine w_a rfl (o_call co61 (vs := [.bool (!(a.f_neg == b.f_neg)), v10]) rfl (wide_made.calls k hy15 h11)) ?_
  rintro _ H16 _ ⟨rfl, e17, ⟨v18, rfl, h19⟩⟩
  refine w_d rfl (d_move (v := .tuple ⟨[.agg ⟨[.bool y14.1.f_neg, v18]⟩, errV 71 y14.2]⟩) rfl) <| w_d rfl (d_ext (vs := [.agg ⟨[.bool y14.1.f_neg, v18]⟩, errV 71 y14.2]) rfl rfl) <| w_d rfl (d_ext (vs := [.agg ⟨[.bool y14.1.f_neg, v18]⟩, errV 71 y14.2]) rfl rfl) <| w_a rfl (o_alloc zr36 rfl) ?_
  rintro _ _ _ ⟨b20, rfl, rfl, rfl⟩
  refine w_a0 rfl (o_store (v := .agg ⟨[.bool y14.1.f_neg, v18]⟩) sz36 rfl rfl rfl rfl (one_cons rfl (one_cons (h19.one) one_nil)) .here (.here (.here .done))) ?_
  rintro _ _ _ ⟨rfl, rfl, rfl⟩
  refine w_d rfl (d_assign (v := errV 71 y14.2) rfl) <| w_done <| w_seq <| w_seq <| w_region rfl <| w_d rfl (d_move (v := errV 71 y14.2) rfl) <| w_d rfl (d_nenil (e := y14.2) Tryz.underlying32 rfl) <| w_done ?_
  rcases its he with ⟨c21, he⟩ | ⟨c21, he⟩
  ·
   refine w_then rfl c21 <| w_seq <| w_region rfl <| w_d rfl (d_build (cs' := [.bool false, .slice none 0 0]) Tryz.underlying36 zr36 rfl (by kernel_rfl) (parts := []) rfl .nil) <| w_d rfl (d_build (cs' := [.bool false, .slice none 0 0]) Tryz.underlying36 zr36 rfl (by kernel_rfl) (parts := []) rfl .nil) <| w_d rfl (d_move (v := errV 71 y14.2) rfl) <| w_a0 rfl (o_store (v := .agg ⟨[.bool false, .slice none 0 0]⟩) sz36 rfl rfl rfl rfl (one_cons rfl (one_cons rfl one_nil)) (.there (.there .here)) (.here (.here .done))) ?_
   rintro _ _ _ ⟨rfl, rfl, rfl⟩
   refine w_a0 rfl (o_store (v := .agg ⟨[.bool false, .slice none 0 0]⟩) sz36 rfl rfl rfl rfl (one_cons rfl (one_cons rfl one_nil)) (.there .here) (.here (.here .done))) ?_
   rintro _ _ _ ⟨rfl, rfl, rfl⟩
   refine w_d rfl (d_assign (v := errV 71 y14.2) rfl) <| w_done ?_
   obtain rfl := Option.some.inj he
   refine w_return fn_33 rs_33 (.box (v := .agg ⟨[.bool false, .slice none 0 0]⟩) rfl ty36 rfl rfl (.there (.there .here)) rfl (.box (v := .agg ⟨[.bool false, .slice none 0 0]⟩) rfl ty36 rfl rfl (.there .here) rfl (.tmp (v := errV 71 y14.2) rfl .nil))) <| ⟨⟨[_, _, _, _, _], rfl⟩, hle.trans (e9.trans e17), ⟨.slice none 0 0, .slice none 0 0, rfl, (ro_nil _ _), (ro_nil _ _)⟩⟩
  ·
   refine w_else rfl (Bool.eq_false_iff.2 c21) <| w_skip <| w_seq <| w_seq <| w_region rfl <| w_d rfl (d_fld (o' := 0) Tryz.underlying36 rfl sz4 rfl rfl rfl) <| w_d rfl (d_loado (v := .bool a.f_neg) ty4 rfl (.there (.there (.there (.there .here)))) rfl rfl rfl rfl) <| w_d rfl (d_not (b := a.f_neg) rfl) <| w_d rfl (d_move (v := .bool (!a.f_neg)) rfl) <| w_g (g := !(!a.f_neg)) rfl rfl rfl wn_f (fun g22 => d_move (v := v12) rfl) <| w_g (g := !(!a.f_neg)) rfl rfl rfl wn_f (fun g23 => d_len Tryz.underlying34 (cvt g23) (h13.mono e17).src) <| w_g (g := !(!a.f_neg)) rfl rfl rfl wn_f (fun g24 => d_eql (cvt g24) rfl) ?_
   refine w_d rfl (d_or' (b := (!a.f_neg)) (p := (decide ((y6.2.length : Int) = 0))) rfl rfl rfl) <| w_done ?_
   rcases its he with ⟨c25, he⟩ | ⟨c25, he⟩
   ·
    refine w_then rfl c25 <| w_seq ?_
    obtain ⟨y26, hy27, he⟩ := Option.bind_eq_some_iff.1 he
    refine w_drawn (p := 5) (tl := [5, 6]) [[], [], [(1, some 51)], [(2, some 52)], [(0, some 50)]] [some 50, some 51, some 52, some 53, none] (fctF (.is (.agg ⟨[.bool y14.1.f_neg, v18]⟩) :: .is (v12) :: .ro (Kd.int .u32) (y26) :: .of (fun H v => ∃ v32, v = .agg ⟨[.bool false, v32]⟩ ∧ Ro (Kd.int .u32) H v32 y26) (by rintro _ _ _ hle ⟨v32, rfl, h33⟩; exact ⟨v32, rfl, h33.mono hle⟩) :: .itm (fun H itq_ => itq_ = some (b3, .cells ⟨[.bool y14.1.f_neg, v18]⟩ 36 (0, 0))) (by rintro _ _ _ hle rfl; exact rfl) :: [])) (fun m_ => some (b20, .cells ⟨[.bool y14.1.f_neg, v18]⟩ 36 (0, 0)) :: some (b4, .cells ⟨[.bool false, .slice none 0 0]⟩ 36 (0, 0)) :: m_ 4 :: some (b2, .cells ⟨[.bool b.f_neg, v1_b]⟩ 36 (0, 0)) :: some (b1, .cells ⟨[.bool a.f_neg, v0_a]⟩ 36 (0, 0)) :: L) (fun i_ => if i_ = 4 then some (b3, .cells ⟨[.bool false, .slice none 0 0]⟩ 36 (0, 0)) else none) mixed (by kernel_rfl) (by kernel_rfl) rfl (fct_mono (by kernel_rfl)) ⟨(fun H' m_ hH hm_ hu_ => depK_nil <| s_d (m_ 0) rfl (d_loado (v := .agg ⟨[.bool y14.1.f_neg, v18]⟩) ty36 rfl .here rfl rfl rfl rfl) (by exact rfl) rfl), (fun H' m_ hH hm_ hu_ => depK_nil <| s_d (m_ 1) rfl (d_move (v := v12) rfl) (by exact rfl) rfl), (by rintro H' m_ hH hm_ hu_ _ rfl; exact depK_nil <| s_k (m_ 2) rfl (o_call co65 (vs := [v12]) rfl (slices_Clone_uint32_uint32.callsR k hy27 (h13.mono (e17.trans hH)))) rfl (by rintro v_ H_ _ ⟨rfl, e_, h_⟩; exact ⟨rfl, e_, h_⟩)), (by rintro H' m_ hH hm_ hu_ v30 (h31 : Ro (Kd.int .u32) H' v30 y26); exact depK_nil <| s_d (m_ 3) rfl (d_build (cs' := [.bool false, v30]) Tryz.underlying36 zr36 rfl (by kernel_rfl) (parts := [(0, .bool false), (1, v30)]) rfl (.cons (place_of rfl sz4 rfl) rfl rfl (.here .done) (.cons (place_of rfl sz34 rfl) h31.cells rfl (.there (.here .done)) .nil))) (by exact ⟨v30, rfl, h31⟩) rfl), (by rintro H' m_ hH hm_ hu_ _ rfl; exact depK_nil <| s_store (some (b3, .cells ⟨[.bool y14.1.f_neg, v18]⟩ 36 (0, 0))) hm_ rfl (o_store (v := .agg ⟨[.bool y14.1.f_neg, v18]⟩) sz36 rfl rfl rfl rfl (one_cons rfl (one_cons (h19.one) one_nil)) (.there (.there .here)) (.here (.here .done))) rfl (by exact ⟨rfl, rfl⟩)), trivial⟩ ?_
    intro H34 e35
    rintro _ _ rfl _ _ rfl v30 _ (h31 : Ro (Kd.int .u32) H34 v30 y26) _ _ ⟨v32, rfl, h33⟩ _ _ ⟨rfl, rfl⟩
    refine w_it (L' := some (b20, .cells ⟨[.bool y14.1.f_neg, v18]⟩ 36 (0, 0)) :: some (b4, .cells ⟨[.bool false, .slice none 0 0]⟩ 36 (0, 0)) :: some (b3, .cells ⟨[.bool y14.1.f_neg, v18]⟩ 36 (0, 0)) :: some (b2, .cells ⟨[.bool b.f_neg, v1_b]⟩ 36 (0, 0)) :: some (b1, .cells ⟨[.bool a.f_neg, v0_a]⟩ 36 (0, 0)) :: L) rfl <| w_a0 rfl (o_store (v := .agg ⟨[.bool false, v32]⟩) sz36 rfl rfl rfl rfl (one_cons rfl (one_cons (h33.one) one_nil)) (.there .here) (.here (.here .done))) ?_
    rintro _ _ _ ⟨rfl, rfl, rfl⟩
    refine w_d rfl (d_assign (v := errV 71 none) rfl) <| w_done ?_
    obtain rfl := Option.some.inj he
    refine w_return fn_33 rs_33 (.box (v := .agg ⟨[.bool y14.1.f_neg, v18]⟩) rfl ty36 rfl rfl (.there (.there .here)) rfl (.box (v := .agg ⟨[.bool false, v32]⟩) rfl ty36 rfl rfl (.there .here) rfl (.tmp (v := errV 71 none) rfl .nil))) <| ⟨⟨[_, _, _, _, _], rfl⟩, hle.trans ((e9.trans e17).trans e35), ⟨v18, v32, rfl, (h19.mono e35), h33⟩⟩
   ·
    refine w_else rfl (Bool.eq_false_iff.2 c25) <| w_skip <| w_seq <| w_region rfl ?_
    obtain ⟨y36, hy37, he⟩ := Option.bind_eq_some_iff.1 he
    refine w_a rfl (o_call co14 (vs := [.int .i64 1]) rfl (wide_Of.calls k hy37)) ?_
    rintro _ H38 _ ⟨rfl, e39, ⟨v40, rfl, h41⟩⟩
    refine w_a rfl (o_alloc zr36 rfl) ?_
    rintro _ _ _ ⟨b42, rfl, rfl, rfl⟩
    refine w_a0 rfl (o_store (v := .agg ⟨[.bool y36.f_neg, v40]⟩) sz36 rfl rfl rfl rfl (one_cons rfl (one_cons (h41.one) one_nil)) .here (.here (.here .done))) ?_
    rintro _ _ _ ⟨rfl, rfl, rfl⟩
    refine w_done <| w_seq <| w_seq <| w_region rfl <| w_d rfl (d_fld (o' := 0) Tryz.underlying36 rfl sz4 rfl rfl rfl) <| w_d rfl (d_loado (v := .bool b.f_neg) ty4 rfl (.there (.there (.there (.there .here)))) rfl rfl rfl rfl) <| w_d rfl (d_not (b := b.f_neg) rfl) <| w_done ?_
    rcases its he with ⟨c43, he⟩ | ⟨c43, he⟩
    ·
     refine w_then rfl c43 <| w_region rfl <| w_d rfl (d_loado (v := .agg ⟨[.bool y36.f_neg, v40]⟩) ty36 rfl .here rfl rfl rfl rfl) ?_
     obtain ⟨y44, hy45, he⟩ := Option.bind_eq_some_iff.1 he
     refine w_a rfl (o_call co56 (vs := [.agg ⟨[.bool y36.f_neg, v40]⟩]) rfl (wide_Int_Neg.calls k (a := ⟨y36.f_neg, y36.f_w⟩) hy45 h41)) ?_
     rintro _ H46 _ ⟨rfl, e47, ⟨v48, rfl, h49⟩⟩
     refine w_a0 rfl (o_store (v := .agg ⟨[.bool y44.f_neg, v48]⟩) sz36 rfl rfl rfl rfl (one_cons rfl (one_cons (h49.one) one_nil)) .here (.here (.here .done))) ?_
     rintro _ _ _ ⟨rfl, rfl, rfl⟩
     refine w_done <| w_del (.there (.there (.there (.there (.there .here))))) <| w_sl 3 (.pointer (some ⟨b2, 0, none⟩)) rfl <| w_sl 4 (.pointer (some ⟨b3, 0, none⟩)) rfl <| w_sl 5 (.pointer (some ⟨b4, 0, none⟩)) rfl <| w_sl 6 (errV 71 none) rfl <| w_sl 8 (v12) rfl <| w_sl 9 (.pointer (some ⟨b20, 0, none⟩)) rfl <| w_sl 11 (.pointer (some ⟨b42, 0, none⟩)) rfl <| wide_Int_Div.j1_ok (k := k) (hle.trans (((e9.trans e17).trans e39).trans e47)) he (h1_b.mono (((e9.trans e17).trans e39).trans e47)) (h13.mono ((e17.trans e39).trans e47)) (h19.mono (e39.trans e47)) h49
    ·
     refine w_else rfl (Bool.eq_false_iff.2 c43) <| w_skip <| w_del (.there (.there (.there (.there (.there .here))))) <| w_sl 3 (.pointer (some ⟨b2, 0, none⟩)) rfl <| w_sl 4 (.pointer (some ⟨b3, 0, none⟩)) rfl <| w_sl 5 (.pointer (some ⟨b4, 0, none⟩)) rfl <| w_sl 6 (errV 71 none) rfl <| w_sl 8 (v12) rfl <| w_sl 9 (.pointer (some ⟨b20, 0, none⟩)) rfl <| w_sl 11 (.pointer (some ⟨b42, 0, none⟩)) rfl <| wide_Int_Div.j1_ok (k := k) (hle.trans ((e9.trans e17).trans e39)) he (h1_b.mono ((e9.trans e17).trans e39)) (h13.mono (e17.trans e39)) (h19.mono e39) h41
/-! ### radome/ratio.common -/
noncomputable def ratio_common.C : Code := (Tryz.f57.body).getD .skip
def ratio_common.out (r : wide_Int × (Option Int)) (H : Hp) (v : Value) : Prop := ∃ v0, v = .tuple ⟨[.agg ⟨[.bool r.1.f_neg, v0]⟩, errV 71 r.2]⟩ ∧ Ro (Kd.int .u32) H v0 r.1.f_w
theorem ratio_common.out_mono (r : wide_Int × (Option Int)) {H H' : Hp} {v : Value} (hle : H.le H') (h : ratio_common.out r H v) : ratio_common.out r H' v := by
 obtain ⟨v0, rfl, h0⟩ := h; exact ⟨v0, rfl, h0.mono hle⟩
abbrev ratio_common.R (H0 : Hp) (L : Items) (r : wide_Int × (Option Int)) : Value → Hp → Items → Prop := fun v H' L' => (∃ p, L' = p ++ L) ∧ H0.le H' ∧ ratio_common.out r H' v
structure ratio_common.Hs where
 l0 : Bool → (List Int) → Bool → (List Int) → Bool → (List Int) → (Option Int) → Option (wide_Int × (Option Int))
noncomputable def ratio_common.b0 (k : Nat) (h : ratio_common.Hs)  (a_0 : Bool) (a_1 : List Int) (b_0 : Bool) (b_1 : List Int) (t4_0 : Bool) (t4_1 : List Int) (t5 : Option Int) : Option (wide_Int × (Option Int)) := (wide_Int_Sign.f k (⟨b_0, b_1⟩ : wide_Int)).bind fun y4 => if y4 = 0 then (some ((⟨a_0, a_1⟩ : wide_Int), none)) else ((wide_Int_Div.f k (⟨a_0, a_1⟩ : wide_Int) (⟨b_0, b_1⟩ : wide_Int)).bind fun y9 => if y9.2.2.isSome = true then (some ((⟨false, []⟩ : wide_Int), y9.2.2)) else (h.l0 b_0 b_1 y9.2.1.f_neg y9.2.1.f_w t4_0 t4_1 t5))
noncomputable def ratio_common.hs : Nat → ratio_common.Hs
 | 0 => ⟨fun _ _ _ _ _ _ _ => none⟩
 | k + 1 => ⟨fun x0 x1 x2 x3 x4 x5 x6 => ratio_common.b0 k (ratio_common.hs k) x0 x1 x2 x3 x4 x5 x6⟩
noncomputable def ratio_common.f (k : Nat) (a : wide_Int) (b : wide_Int) : Option (wide_Int × (Option Int)) := (fun h : ratio_common.Hs => h.l0 a.f_neg a.f_w b.f_neg b.f_w false [] none) (ratio_common.hs k)
structure ratio_common.LE (h h' : ratio_common.Hs) : Prop where
 l0 : ∀ y0 y1 y2 y3 y4 y5 y6, LeO (h.l0 y0 y1 y2 y3 y4 y5 y6) (h'.l0 y0 y1 y2 y3 y4 y5 y6)
theorem ratio_common.b0_mono {k : Nat} {h h' : ratio_common.Hs} (hl : ratio_common.LE h h') : ∀ y0 y1 y2 y3 y4 y5 y6, LeO (ratio_common.b0 k h y0 y1 y2 y3 y4 y5 y6) (ratio_common.b0 (k + 1) h' y0 y1 y2 y3 y4 y5 y6) := fun _ _ _ _ _ _ _ => (LeO.bind (wide_Int_Sign.mono k _) fun _ => LeO.ite (LeO.refl _) (LeO.bind (wide_Int_Div.mono k _ _) fun _ => LeO.ite (LeO.refl _) (hl.l0 _ _ _ _ _ _ _)))
theorem ratio_common.hs_mono : ∀ k, ratio_common.LE (ratio_common.hs k) (ratio_common.hs (k + 1))
 | 0 => ⟨fun _ _ _ _ _ _ _ => LeO.none _⟩
 | k + 1 => ⟨ratio_common.b0_mono (k := k) (ratio_common.hs_mono k)⟩
theorem ratio_common.mono : ∀ k y0 y1, LeO (ratio_common.f k y0 y1) (ratio_common.f (k + 1) y0 y1) := fun k _ _ => have hl := ratio_common.hs_mono k; by unfold ratio_common.f; exact (hl.l0 _ _ _ _ _ _ _)
noncomputable def ratio_common.Kl0 : List Item := .code (lopB (blkB (seqL (seqR ratio_common.C)))) :: .inLoop (lopB (blkB (seqL (seqR ratio_common.C)))) :: .inBlock 0 :: .code (seqR (seqR ratio_common.C)) :: []
structure ratio_common.OK (h : ratio_common.Hs) : Prop where
 l0 : ∀ {H0 H : Hp} {L : Items} {r : wide_Int × (Option Int)} {jk_ : Nat → Value} {a_0 : Bool} {a_1 : List Int} {b_0 : Bool} {b_1 : List Int} {t4_0 : Bool} {t4_1 : List Int} {t5 : Option Int} {v_a_1 : Value} {v_b_1 : Value} {v_t4_1 : Value} {b_a : Nat} {b_b : Nat} {b_t4 : Nat} (_ : H0.le H) (_he : h.l0 a_0 a_1 b_0 b_1 t4_0 t4_1 t5 = some r) (_h_a_1 : Ro (Kd.int .u32) H v_a_1 a_1) (_h_b_1 : Ro (Kd.int .u32) H v_b_1 b_1) (_h_t4_1 : Ro (Kd.int .u32) H v_t4_1 t4_1), Wp Tryz.prog 57 26 ratio_common.Kl0 (upd (upd (upd (upd jk_ 2 (.pointer (some ⟨b_a, 0, none⟩))) 3 (.pointer (some ⟨b_b, 0, none⟩))) 4 (.pointer (some ⟨b_t4, 0, none⟩))) 5 (errV 71 t5)) H (some (b_t4, .cells ⟨[.bool t4_0, v_t4_1]⟩ 36 (0, 0)) :: some (b_b, .cells ⟨[.bool b_0, v_b_1]⟩ 36 (0, 0)) :: some (b_a, .cells ⟨[.bool a_0, v_a_1]⟩ 36 (0, 0)) :: L) (ratio_common.R H0 L r)
theorem ratio_common.b0_ok {k : Nat} {h : ratio_common.Hs} (hh : ratio_common.OK h) {H0 H : Hp} {L : Items} {r : wide_Int × (Option Int)} {jk_ : Nat → Value} {a_0 : Bool} {a_1 : List Int} {b_0 : Bool} {b_1 : List Int} {t4_0 : Bool} {t4_1 : List Int} {t5 : Option Int} {v_a_1 : Value} {v_b_1 : Value} {v_t4_1 : Value} {b_a : Nat} {b_b : Nat} {b_t4 : Nat} (hle : H0.le H) (he : ratio_common.b0 k h a_0 a_1 b_0 b_1 t4_0 t4_1 t5 = some r) (h_a_1 : Ro (Kd.int .u32) H v_a_1 a_1) (h_b_1 : Ro (Kd.int .u32) H v_b_1 b_1) (h_t4_1 : Ro (Kd.int .u32) H v_t4_1 t4_1) : Wp Tryz.prog 57 26 ratio_common.Kl0 (upd (upd (upd (upd jk_ 2 (.pointer (some ⟨b_a, 0, none⟩))) 3 (.pointer (some ⟨b_b, 0, none⟩))) 4 (.pointer (some ⟨b_t4, 0, none⟩))) 5 (errV 71 t5)) H (some (b_t4, .cells ⟨[.bool t4_0, v_t4_1]⟩ 36 (0, 0)) :: some (b_b, .cells ⟨[.bool b_0, v_b_1]⟩ 36 (0, 0)) :: some (b_a, .cells ⟨[.bool a_0, v_a_1]⟩ 36 (0, 0)) :: L) (ratio_common.R H0 L r) := by
 unfold ratio_common.b0 at he
 unfold ratio_common.Kl0
 refine w_seq <| w_seq <| w_region rfl <| w_d rfl (d_loado (v := .agg ⟨[.bool b_0, v_b_1]⟩) ty36 rfl (.there .here) rfl rfl rfl rfl) ?_
 obtain ⟨y4, hy5, he⟩ := Option.bind_eq_some_iff.1 he
 refine w_d rfl (call_d (o_call co37 (vs := [.agg ⟨[.bool b_0, v_b_1]⟩]) rfl (wide_Int_Sign.calls k (a := ⟨b_0, b_1⟩) hy5 h_b_1))) <| w_d rfl (d_neq rfl rfl) <| w_done ?_
 rcases its he with ⟨c8, he⟩ | ⟨c8, he⟩
 ·
  refine w_else rfl (nd_t c8) <| w_exit rfl <| w_seq <| w_region rfl <| w_d rfl (d_loado (v := .agg ⟨[.bool a_0, v_a_1]⟩) ty36 rfl (.there (.there .here)) rfl rfl rfl rfl) <| w_a0 rfl (o_store (v := .agg ⟨[.bool a_0, v_a_1]⟩) sz36 rfl rfl rfl rfl (one_cons rfl (one_cons (h_a_1.one) one_nil)) .here (.here (.here .done))) ?_
  rintro _ _ _ ⟨rfl, rfl, rfl⟩
  refine w_d rfl (d_assign (v := errV 71 none) rfl) <| w_done ?_
  obtain rfl := Option.some.inj he
  refine w_return fn_57 rs_57 (.box (v := .agg ⟨[.bool a_0, v_a_1]⟩) rfl ty36 rfl rfl .here rfl (.tmp (v := errV 71 none) rfl .nil)) <| ⟨⟨[_, _, _], rfl⟩, hle, ⟨v_a_1, rfl, h_a_1⟩⟩
 ·
  refine w_then rfl (nd_f c8) <| w_skip <| w_block <| w_seq <| w_region rfl <| w_d rfl (d_loado (v := .agg ⟨[.bool a_0, v_a_1]⟩) ty36 rfl (.there (.there .here)) rfl rfl rfl rfl) <| w_d rfl (d_loado (v := .agg ⟨[.bool b_0, v_b_1]⟩) ty36 rfl (.there .here) rfl rfl rfl rfl) ?_
  obtain ⟨y9, hy10, he⟩ := Option.bind_eq_some_iff.1 he
  refine w_a rfl (o_call co33 (vs := [.agg ⟨[.bool a_0, v_a_1]⟩, .agg ⟨[.bool b_0, v_b_1]⟩]) rfl (wide_Int_Div.calls k (a := ⟨a_0, a_1⟩) (b := ⟨b_0, b_1⟩) hy10 h_a_1 h_b_1)) ?_
  rintro _ H11 _ ⟨rfl, e12, ⟨v13, v15, rfl, h14, h16⟩⟩
  refine w_d rfl (d_move (v := .tuple ⟨[.agg ⟨[.bool y9.1.f_neg, v13]⟩, .agg ⟨[.bool y9.2.1.f_neg, v15]⟩, errV 71 y9.2.2]⟩) rfl) <| w_d rfl (d_ext (vs := [.agg ⟨[.bool y9.1.f_neg, v13]⟩, .agg ⟨[.bool y9.2.1.f_neg, v15]⟩, errV 71 y9.2.2]) rfl rfl) <| w_d rfl (d_ext (vs := [.agg ⟨[.bool y9.1.f_neg, v13]⟩, .agg ⟨[.bool y9.2.1.f_neg, v15]⟩, errV 71 y9.2.2]) rfl rfl) <| w_d rfl (d_ext (vs := [.agg ⟨[.bool y9.1.f_neg, v13]⟩, .agg ⟨[.bool y9.2.1.f_neg, v15]⟩, errV 71 y9.2.2]) rfl rfl) <| w_a rfl (o_alloc zr36 rfl) ?_
  rintro _ _ _ ⟨b17, rfl, rfl, rfl⟩
  refine w_a rfl (o_alloc zr36 rfl) ?_
  rintro _ _ _ ⟨b18, rfl, rfl, rfl⟩
  refine w_a0 rfl (o_store (v := .agg ⟨[.bool y9.1.f_neg, v13]⟩) sz36 rfl rfl rfl rfl (one_cons rfl (one_cons (h14.one) one_nil)) (.there .here) (.here (.here .done))) ?_
  rintro _ _ _ ⟨rfl, rfl, rfl⟩
  refine w_a0 rfl (o_store (v := .agg ⟨[.bool y9.2.1.f_neg, v15]⟩) sz36 rfl rfl rfl rfl (one_cons rfl (one_cons (h16.one) one_nil)) .here (.here (.here .done))) ?_
  rintro _ _ _ ⟨rfl, rfl, rfl⟩
  refine w_d rfl (d_assign (v := errV 71 y9.2.2) rfl) <| w_done <| w_seq <| w_seq <| w_region rfl <| w_d rfl (d_move (v := errV 71 y9.2.2) rfl) <| w_d rfl (d_nenil (e := y9.2.2) Tryz.underlying32 rfl) <| w_done ?_
  rcases its he with ⟨c19, he⟩ | ⟨c19, he⟩
  ·
   refine w_then rfl c19 <| w_seq <| w_region rfl <| w_d rfl (d_build (cs' := [.bool false, .slice none 0 0]) Tryz.underlying36 zr36 rfl (by kernel_rfl) (parts := []) rfl .nil) <| w_d rfl (d_move (v := errV 71 y9.2.2) rfl) <| w_a0 rfl (o_store (v := .agg ⟨[.bool false, .slice none 0 0]⟩) sz36 rfl rfl rfl rfl (one_cons rfl (one_cons rfl one_nil)) (.there (.there .here)) (.here (.here .done))) ?_
   rintro _ _ _ ⟨rfl, rfl, rfl⟩
   refine w_d rfl (d_assign (v := errV 71 y9.2.2) rfl) <| w_done ?_
   obtain rfl := Option.some.inj he
   refine w_return fn_57 rs_57 (.box (v := .agg ⟨[.bool false, .slice none 0 0]⟩) rfl ty36 rfl rfl (.there (.there .here)) rfl (.tmp (v := errV 71 y9.2.2) rfl .nil)) <| ⟨⟨[_, _, _, _, _], rfl⟩, hle.trans e12, ⟨.slice none 0 0, rfl, (ro_nil _ _)⟩⟩
  ·
   refine w_else rfl (Bool.eq_false_iff.2 c19) <| w_skip <| w_drawn (p := 3) (tl := [3]) [[], [], [(0, some 23)]] [some 23, some 24, none] (fctF (.is (.agg ⟨[.bool b_0, v_b_1]⟩) :: .is (.agg ⟨[.bool y9.2.1.f_neg, v15]⟩) :: .itm (fun H itq_ => itq_ = some (b_a, .cells ⟨[.bool b_0, v_b_1]⟩ 36 (0, 0))) (by rintro _ _ _ hle rfl; exact rfl) :: [])) (fun m_ => some (b18, .cells ⟨[.bool y9.2.1.f_neg, v15]⟩ 36 (0, 0)) :: some (b17, .cells ⟨[.bool y9.1.f_neg, v13]⟩ 36 (0, 0)) :: some (b_t4, .cells ⟨[.bool t4_0, v_t4_1]⟩ 36 (0, 0)) :: some (b_b, .cells ⟨[.bool b_0, v_b_1]⟩ 36 (0, 0)) :: m_ 2 :: L) (fun i_ => if i_ = 2 then some (b_a, .cells ⟨[.bool a_0, v_a_1]⟩ 36 (0, 0)) else none) mixed (by kernel_rfl) (by kernel_rfl) rfl (fct_mono (by kernel_rfl)) ⟨(fun H' m_ hH hm_ hu_ => depK_nil <| s_d (m_ 0) rfl (d_loado (v := .agg ⟨[.bool b_0, v_b_1]⟩) ty36 rfl (.there (.there (.there .here))) rfl rfl rfl rfl) (by exact rfl) rfl), (fun H' m_ hH hm_ hu_ => depK_nil <| s_d (m_ 1) rfl (d_loado (v := .agg ⟨[.bool y9.2.1.f_neg, v15]⟩) ty36 rfl .here rfl rfl rfl rfl) (by exact rfl) rfl), (by rintro H' m_ hH hm_ hu_ _ rfl; exact depK_nil <| s_store (some (b_a, .cells ⟨[.bool b_0, v_b_1]⟩ 36 (0, 0))) hm_ rfl (o_store (v := .agg ⟨[.bool b_0, v_b_1]⟩) sz36 rfl rfl rfl rfl (one_cons rfl (one_cons (h_b_1.one) one_nil)) (.there (.there (.there (.there .here)))) (.here (.here .done))) rfl (by exact ⟨rfl, rfl⟩)), trivial⟩ ?_
   intro H20 e21
   rintro _ _ rfl _ _ rfl _ _ ⟨rfl, rfl⟩
   refine w_it (L' := some (b18, .cells ⟨[.bool y9.2.1.f_neg, v15]⟩ 36 (0, 0)) :: some (b17, .cells ⟨[.bool y9.1.f_neg, v13]⟩ 36 (0, 0)) :: some (b_t4, .cells ⟨[.bool t4_0, v_t4_1]⟩ 36 (0, 0)) :: some (b_b, .cells ⟨[.bool b_0, v_b_1]⟩ 36 (0, 0)) :: some (b_a, .cells ⟨[.bool b_0, v_b_1]⟩ 36 (0, 0)) :: L) rfl <| w_a0 rfl (o_store (v := .agg ⟨[.bool y9.2.1.f_neg, v15]⟩) sz36 rfl rfl rfl rfl (one_cons rfl (one_cons (h16.one) one_nil)) (.there (.there (.there .here))) (.here (.here .done))) ?_
   rintro _ _ _ ⟨rfl, rfl, rfl⟩
   refine w_done <| w_inBlock <| w_inLoop <| w_del (.there .here) <| w_del .here <| w_sl 2 (.pointer (some ⟨b_a, 0, none⟩)) rfl <| w_sl 3 (.pointer (some ⟨b_b, 0, none⟩)) rfl <| w_sl 4 (.pointer (some ⟨b_t4, 0, none⟩)) rfl <| w_sl 5 (errV 71 t5) rfl <| hh.l0 (hle.trans (e12.trans e21)) he (h_b_1.mono (e12.trans e21)) (h16.mono e21) (h_t4_1.mono (e12.trans e21))
theorem ratio_common.ok : ∀ k, ratio_common.OK (ratio_common.hs k)
 | 0 => ⟨(by intros; exact nomatch (show none = some _ from by assumption))⟩
 | k + 1 => ⟨ratio_common.b0_ok (k := k) (ratio_common.ok k)⟩
theorem ratio_common.calls (k : Nat) {H : Hp} {L : Items} {a : wide_Int} {b : wide_Int} {v0_a : Value} {v1_b : Value} {r : wide_Int × (Option Int)} (he : ratio_common.f k a b = some r) (h0_a : Ro (Kd.int .u32) H v0_a a.f_w) (h1_b : Ro (Kd.int .u32) H v1_b b.f_w) : Ct Tryz.prog 57 ⟨[.agg ⟨[.bool a.f_neg, v0_a]⟩, .agg ⟨[.bool b.f_neg, v1_b]⟩]⟩ H L (fun v H' L' => L = L' ∧ H.le H' ∧ ratio_common.out r H' v) := by
 refine ct_out (O := ratio_common.out r) ?_
 have hle : H.le H := .refl _
 have hh := ratio_common.ok k
 unfold ratio_common.f at he
 refine ct_enter (args := [.agg ⟨[.bool a.f_neg, v0_a]⟩, .agg ⟨[.bool b.f_neg, v1_b]⟩]) fn_57 rfl nt_57 rfl <| w_seq <| w_region rfl <| w_a rfl (o_box (v := .agg ⟨[.bool a.f_neg, v0_a]⟩) rfl rfl) ?_
 rintro _ _ _ ⟨b1, rfl, rfl, rfl⟩
 refine w_a rfl (o_box (v := .agg ⟨[.bool b.f_neg, v1_b]⟩) rfl rfl) ?_
 rintro _ _ _ ⟨b2, rfl, rfl, rfl⟩
 refine w_a rfl (o_alloc zr36 rfl) ?_
 rintro _ _ _ ⟨b3, rfl, rfl, rfl⟩
 refine w_d rfl (d_assign (v := errV 71 none) rfl) <| w_done <| w_seq <| w_block <| w_loop <| w_sl 2 (.pointer (some ⟨b1, 0, none⟩)) rfl <| w_sl 3 (.pointer (some ⟨b2, 0, none⟩)) rfl <| w_sl 4 (.pointer (some ⟨b3, 0, none⟩)) rfl <| w_sl 5 (errV 71 none) rfl <| hh.l0 hle he h0_a h1_b (ro_nil _ _)
/-! ### radome/ratio.Of -/
noncomputable def ratio_Of.C : Code := (Tryz.f30.body).getD .skip
def ratio_Of.out (r : ratio_Ratio × (Option Int)) (H : Hp) (v : Value) : Prop := ∃ v0, ∃ v1, v = .tuple ⟨[.agg ⟨[.bool r.1.f_n.f_neg, v0, .bool r.1.f_d.f_neg, v1]⟩, errV 71 r.2]⟩ ∧ Ro (Kd.int .u32) H v0 r.1.f_n.f_w ∧ Ro (Kd.int .u32) H v1 r.1.f_d.f_w
theorem ratio_Of.out_mono (r : ratio_Ratio × (Option Int)) {H H' : Hp} {v : Value} (hle : H.le H') (h : ratio_Of.out r H v) : ratio_Of.out r H' v := by
 obtain ⟨v0, v1, rfl, h0, h1⟩ := h; exact ⟨v0, v1, rfl, h0.mono hle, h1.mono hle⟩
abbrev ratio_Of.R (H0 : Hp) (L : Items) (r : ratio_Ratio × (Option Int)) : Value → Hp → Items → Prop := fun v H' L' => (∃ p, L' = p ++ L) ∧ H0.le H' ∧ ratio_Of.out r H' v
noncomputable def ratio_Of.j1 (k : Nat)  (n_0 : Bool) (n_1 : List Int) (d_0 : Bool) (d_1 : List Int) : Option (ratio_Ratio × (Option Int)) := (ratio_abs.f k (⟨n_0, n_1⟩ : wide_Int)).bind fun y28 => (ratio_common.f k (⟨y28.f_neg, y28.f_w⟩ : wide_Int) (⟨d_0, d_1⟩ : wide_Int)).bind fun y34 => if y34.2.isSome = true then (some ((⟨(⟨false, []⟩ : wide_Int), (⟨false, []⟩ : wide_Int)⟩ : ratio_Ratio), y34.2)) else ((wide_Int_Div.f k (⟨n_0, n_1⟩ : wide_Int) (⟨y34.1.f_neg, y34.1.f_w⟩ : wide_Int)).bind fun y52 => if y52.2.2.isSome = true then (some ((⟨(⟨false, []⟩ : wide_Int), (⟨false, []⟩ : wide_Int)⟩ : ratio_Ratio), y52.2.2)) else ((wide_Int_Div.f k (⟨d_0, d_1⟩ : wide_Int) (⟨y34.1.f_neg, y34.1.f_w⟩ : wide_Int)).bind fun y63 => if y63.2.2.isSome = true then (some ((⟨(⟨false, []⟩ : wide_Int), (⟨false, []⟩ : wide_Int)⟩ : ratio_Ratio), y63.2.2)) else (some ((⟨(⟨y52.1.f_neg, y52.1.f_w⟩ : wide_Int), (⟨y63.1.f_neg, y63.1.f_w⟩ : wide_Int)⟩ : ratio_Ratio), none))))
noncomputable def ratio_Of.f (k : Nat) (n : wide_Int) (d : wide_Int) : Option (ratio_Ratio × (Option Int)) := (wide_Int_Sign.f k (⟨d.f_neg, d.f_w⟩ : wide_Int)).bind fun y4 => if y4 = 0 then (some ((⟨(⟨false, []⟩ : wide_Int), (⟨false, []⟩ : wide_Int)⟩ : ratio_Ratio), some 11)) else ((wide_Int_Sign.f k (⟨d.f_neg, d.f_w⟩ : wide_Int)).bind fun y9 => if y9 < 0 then ((wide_Int_Neg.f k (⟨n.f_neg, n.f_w⟩ : wide_Int)).bind fun y14 => (wide_Int_Neg.f k (⟨d.f_neg, d.f_w⟩ : wide_Int)).bind fun y22 => ratio_Of.j1 k y14.f_neg y14.f_w y22.f_neg y22.f_w) else (ratio_Of.j1 k n.f_neg n.f_w d.f_neg d.f_w))
theorem ratio_Of.j1_mono {k : Nat} : ∀ y0 y1 y2 y3, LeO (ratio_Of.j1 k y0 y1 y2 y3) (ratio_Of.j1 (k + 1) y0 y1 y2 y3) := fun _ _ _ _ => (LeO.bind (ratio_abs.mono k _) fun _ => LeO.bind (ratio_common.mono k _ _) fun _ => LeO.ite (LeO.refl _) (LeO.bind (wide_Int_Div.mono k _ _) fun _ => LeO.ite (LeO.refl _) (LeO.bind (wide_Int_Div.mono k _ _) fun _ => LeO.ite (LeO.refl _) (LeO.refl _))))
theorem ratio_Of.mono : ∀ k y0 y1, LeO (ratio_Of.f k y0 y1) (ratio_Of.f (k + 1) y0 y1) := fun k _ _ => by unfold ratio_Of.f; exact (LeO.bind (wide_Int_Sign.mono k _) fun _ => LeO.ite (LeO.refl _) (LeO.bind (wide_Int_Sign.mono k _) fun _ => LeO.ite (LeO.bind (wide_Int_Neg.mono k _) fun _ => LeO.bind (wide_Int_Neg.mono k _) fun _ => ratio_Of.j1_mono (k := k)  _ _ _ _) (ratio_Of.j1_mono (k := k)  _ _ _ _)))
noncomputable def ratio_Of.Kj1 : List Item := .code (seqR (seqR (seqR ratio_Of.C))) :: []
theorem ratio_Of.j1_ok {k : Nat} {H0 H : Hp} {L : Items} {r : ratio_Ratio × (Option Int)} {jk_ : Nat → Value} {n_0 : Bool} {n_1 : List Int} {d_0 : Bool} {d_1 : List Int} {v_n_1 : Value} {v_d_1 : Value} {b_n : Nat} {b_d : Nat} {b_t4 : Nat} (hle : H0.le H) (he : ratio_Of.j1 k n_0 n_1 d_0 d_1 = some r) (h_n_1 : Ro (Kd.int .u32) H v_n_1 n_1) (h_d_1 : Ro (Kd.int .u32) H v_d_1 d_1) : Wp Tryz.prog 30 60 ratio_Of.Kj1 (upd (upd (upd (upd jk_ 2 (.pointer (some ⟨b_n, 0, none⟩))) 3 (.pointer (some ⟨b_d, 0, none⟩))) 4 (.pointer (some ⟨b_t4, 0, none⟩))) 5 (errV 71 none)) H (some (b_t4, .cells ⟨[.bool false, .slice none 0 0, .bool false, .slice none 0 0]⟩ 38 (0, 0)) :: some (b_d, .cells ⟨[.bool d_0, v_d_1]⟩ 36 (0, 0)) :: some (b_n, .cells ⟨[.bool n_0, v_n_1]⟩ 36 (0, 0)) :: L) (ratio_Of.R H0 L r) := by
 unfold ratio_Of.j1 at he
 unfold ratio_Of.Kj1
 refine w_seq ?_
 obtain ⟨y28, hy29, he⟩ := Option.bind_eq_some_iff.1 he
 obtain ⟨y34, hy35, he⟩ := Option.bind_eq_some_iff.1 he
 refine w_none (?_)
 refine w_drawn (p := 9) (tl := [9]) [[], [(0, some 25)], [], [(1, some 26), (2, some 27)], [(3, some 28)], [(4, some 24)], [(4, some 24)], [], [(5, some 29), (7, some 6)]] [some 25, some 26, some 27, some 28, some 24, some 29, some 30, some 6, none] (fctF (.is (.agg ⟨[.bool n_0, v_n_1]⟩) :: .of (ratio_abs.out y28) (ratio_abs.out_mono _) :: .is (.agg ⟨[.bool d_0, v_d_1]⟩) :: .of (ratio_common.out y34) (ratio_common.out_mono _) :: .of (fun H v => ∃ v40, v = .tuple ⟨[.agg ⟨[.bool y34.1.f_neg, v40]⟩, errV 71 y34.2]⟩ ∧ Ro (Kd.int .u32) H v40 y34.1.f_w) (by rintro _ _ _ hle ⟨v40, rfl, h41⟩; exact ⟨v40, rfl, h41.mono hle⟩) :: .of (fun H v => ∃ v42, v = .agg ⟨[.bool y34.1.f_neg, v42]⟩ ∧ Ro (Kd.int .u32) H v42 y34.1.f_w) (by rintro _ _ _ hle ⟨v42, rfl, h43⟩; exact ⟨v42, rfl, h43.mono hle⟩) :: .is (errV 71 y34.2) :: .box 36 [.bool false, .slice none 0 0] :: .st 7 (fun H bq_ itq_ => ∃ v45, itq_ = some (bq_, .cells ⟨[.bool y34.1.f_neg, v45]⟩ 36 (0, 0)) ∧ Ro (Kd.int .u32) H v45 y34.1.f_w) (by rintro _ _ _ _ hle ⟨v45, rfl, h46⟩; exact ⟨v45, rfl, h46.mono hle⟩) :: [])) (fun m_ => pk (m_ 8) (m_ 7) :: some (b_t4, .cells ⟨[.bool false, .slice none 0 0, .bool false, .slice none 0 0]⟩ 38 (0, 0)) :: some (b_d, .cells ⟨[.bool d_0, v_d_1]⟩ 36 (0, 0)) :: some (b_n, .cells ⟨[.bool n_0, v_n_1]⟩ 36 (0, 0)) :: L) (fun _ => none) mixed (by kernel_rfl) (by kernel_rfl) rfl (fct_mono (by kernel_rfl)) ⟨(fun H' m_ hH hm_ hu_ => depK_nil <| s_d (m_ 0) rfl (d_loado (v := .agg ⟨[.bool n_0, v_n_1]⟩) ty36 rfl (.there (.there (.there .here))) rfl rfl rfl rfl) (by exact rfl) rfl), (by rintro H' m_ hH hm_ hu_ _ rfl; exact depK_nil <| s_k (m_ 1) rfl (o_call co58 (vs := [.agg ⟨[.bool n_0, v_n_1]⟩]) rfl (ratio_abs.calls k (a := ⟨n_0, n_1⟩) hy29 (h_n_1.mono hH))) rfl (by rintro v_ H_ _ ⟨rfl, e_, h_⟩; exact ⟨rfl, e_, h_⟩)), (fun H' m_ hH hm_ hu_ => depK_nil <| s_d (m_ 2) rfl (d_loado (v := .agg ⟨[.bool d_0, v_d_1]⟩) ty36 rfl (.there (.there .here)) rfl rfl rfl rfl) (by exact rfl) rfl), (by rintro H' m_ hH hm_ hu_ _ ⟨v32, rfl, h33⟩ _ rfl; exact depK_nil <| s_k (m_ 3) rfl (o_call co57 (vs := [.agg ⟨[.bool y28.f_neg, v32]⟩, .agg ⟨[.bool d_0, v_d_1]⟩]) rfl (ratio_common.calls k (a := ⟨y28.f_neg, y28.f_w⟩) (b := ⟨d_0, d_1⟩) hy35 h33 (h_d_1.mono hH))) rfl (by rintro v_ H_ _ ⟨rfl, e_, h_⟩; exact ⟨rfl, e_, h_⟩)), (by rintro H' m_ hH hm_ hu_ _ ⟨v38, rfl, h39⟩; exact depK_nil <| s_d (m_ 4) rfl (d_move (v := .tuple ⟨[.agg ⟨[.bool y34.1.f_neg, v38]⟩, errV 71 y34.2]⟩) rfl) (by exact ⟨v38, rfl, h39⟩) rfl), (by rintro H' m_ hH hm_ hu_ _ ⟨v40, rfl, h41⟩; exact depK_nil <| s_d (m_ 5) rfl (d_ext (vs := [.agg ⟨[.bool y34.1.f_neg, v40]⟩, errV 71 y34.2]) rfl rfl) (by exact ⟨v40, rfl, h41⟩) rfl), (by rintro H' m_ hH hm_ hu_ _ ⟨v40, rfl, h41⟩; exact depK_nil <| s_d (m_ 6) rfl (d_ext (vs := [.agg ⟨[.bool y34.1.f_neg, v40]⟩, errV 71 y34.2]) rfl rfl) (by exact rfl) rfl), (fun H' m_ hH hm_ hu_ => depK_nil <| s_box hm_ rfl rfl (o_alloc zr36 rfl) rfl (fun _ => (pk_upd (hu_ 8 (by kernel_rfl)))) (by exact fun b_ => ⟨b_, rfl, rfl⟩)), (by rintro H' m_ hH hm_ hu_ _ ⟨v42, rfl, h43⟩ _ ⟨b44, rfl, hb44_⟩; exact depK_nil <| s_store2 (Λ' := fun z_ => z_ :: some (b_t4, .cells ⟨[.bool false, .slice none 0 0, .bool false, .slice none 0 0]⟩ 38 (0, 0)) :: some (b_d, .cells ⟨[.bool d_0, v_d_1]⟩ 36 (0, 0)) :: some (b_n, .cells ⟨[.bool n_0, v_n_1]⟩ 36 (0, 0)) :: L) (some (b44, .cells ⟨[.bool y34.1.f_neg, v42]⟩ 36 (0, 0))) hm_ rfl hb44_ rfl (o_store (v := .agg ⟨[.bool y34.1.f_neg, v42]⟩) sz36 rfl rfl rfl rfl (one_cons rfl (one_cons (h43.one) one_nil)) .here (.here (.here .done))) rfl rfl (by exact ⟨rfl, v42, congrArg (fun b_ => (some (b_, Obj.cells ⟨[.bool y34.1.f_neg, v42]⟩ 36 (0, 0)) : Item')) (bof_eq hb44_).symm, h43⟩)), trivial⟩ ?_
 intro H49 e50
 rintro _ _ rfl _ _ ⟨v32, rfl, h33⟩ _ _ rfl _ _ ⟨v38, rfl, h39⟩ _ _ ⟨v40, rfl, h41⟩ _ _ ⟨v42, rfl, h43⟩ _ _ rfl _ _ ⟨b44, rfl, rfl⟩ _ i47 ⟨rfl, v45, h48, h46⟩
 replace h48 : i47 = some (b44, .cells ⟨[.bool y34.1.f_neg, v45]⟩ 36 (0, 0)) := h48
 subst h48
 refine w_it (L' := some (b44, .cells ⟨[.bool y34.1.f_neg, v45]⟩ 36 (0, 0)) :: some (b_t4, .cells ⟨[.bool false, .slice none 0 0, .bool false, .slice none 0 0]⟩ 38 (0, 0)) :: some (b_d, .cells ⟨[.bool d_0, v_d_1]⟩ 36 (0, 0)) :: some (b_n, .cells ⟨[.bool n_0, v_n_1]⟩ 36 (0, 0)) :: L) rfl <| w_d rfl (d_assign (v := errV 71 y34.2) rfl) <| w_done <| w_seq <| w_seq <| w_region rfl <| w_d rfl (d_move (v := errV 71 y34.2) rfl) <| w_d rfl (d_nenil (e := y34.2) Tryz.underlying32 rfl) <| w_done ?_
 rcases its he with ⟨c51, he⟩ | ⟨c51, he⟩
 ·
  refine w_then rfl c51 <| w_seq <| w_region rfl <| w_d rfl (d_build (cs' := [.bool false, .slice none 0 0, .bool false, .slice none 0 0]) Tryz.underlying38 zr38 rfl (by kernel_rfl) (parts := []) rfl .nil) <| w_d rfl (d_move (v := errV 71 y34.2) rfl) <| w_a0 rfl (o_store (v := .agg ⟨[.bool false, .slice none 0 0, .bool false, .slice none 0 0]⟩) sz38 rfl rfl rfl rfl (one_cons rfl (one_cons rfl (one_cons rfl (one_cons rfl one_nil)))) (.there .here) (.here (.here (.here (.here .done))))) ?_
  rintro _ _ _ ⟨rfl, rfl, rfl⟩
  refine w_d rfl (d_assign (v := errV 71 y34.2) rfl) <| w_done ?_
  obtain rfl := Option.some.inj he
  refine w_return fn_30 rs_30 (.box (v := .agg ⟨[.bool false, .slice none 0 0, .bool false, .slice none 0 0]⟩) rfl ty38 rfl rfl (.there .here) rfl (.tmp (v := errV 71 y34.2) rfl .nil)) <| ⟨⟨[_, _, _, _], rfl⟩, hle.trans e50, ⟨.slice none 0 0, .slice none 0 0, rfl, (ro_nil _ _), (ro_nil _ _)⟩⟩
 ·
  refine w_else rfl (Bool.eq_false_iff.2 c51) <| w_skip <| w_seq <| w_region rfl <| w_d rfl (d_loado (v := .agg ⟨[.bool n_0, v_n_1]⟩) ty36 rfl (.there (.there (.there .here))) rfl rfl rfl rfl) <| w_d rfl (d_loado (v := .agg ⟨[.bool y34.1.f_neg, v45]⟩) ty36 rfl .here rfl rfl rfl rfl) ?_
  obtain ⟨y52, hy53, he⟩ := Option.bind_eq_some_iff.1 he
  refine w_a rfl (o_call co33 (vs := [.agg ⟨[.bool n_0, v_n_1]⟩, .agg ⟨[.bool y34.1.f_neg, v45]⟩]) rfl (wide_Int_Div.calls k (a := ⟨n_0, n_1⟩) (b := ⟨y34.1.f_neg, y34.1.f_w⟩) hy53 (h_n_1.mono e50) h46)) ?_
  rintro _ H54 _ ⟨rfl, e55, ⟨v56, v58, rfl, h57, h59⟩⟩
  refine w_d rfl (d_move (v := .tuple ⟨[.agg ⟨[.bool y52.1.f_neg, v56]⟩, .agg ⟨[.bool y52.2.1.f_neg, v58]⟩, errV 71 y52.2.2]⟩) rfl) <| w_d rfl (d_ext (vs := [.agg ⟨[.bool y52.1.f_neg, v56]⟩, .agg ⟨[.bool y52.2.1.f_neg, v58]⟩, errV 71 y52.2.2]) rfl rfl) <| w_d rfl (d_ext (vs := [.agg ⟨[.bool y52.1.f_neg, v56]⟩, .agg ⟨[.bool y52.2.1.f_neg, v58]⟩, errV 71 y52.2.2]) rfl rfl) <| w_d rfl (d_ext (vs := [.agg ⟨[.bool y52.1.f_neg, v56]⟩, .agg ⟨[.bool y52.2.1.f_neg, v58]⟩, errV 71 y52.2.2]) rfl rfl) <| w_a rfl (o_alloc zr36 rfl) ?_
  rintro _ _ _ ⟨b60, rfl, rfl, rfl⟩
  refine w_a rfl (o_alloc zr36 rfl) ?_
  rintro _ _ _ ⟨b61, rfl, rfl, rfl⟩
  refine w_a0 rfl (o_store (v := .agg ⟨[.bool y52.1.f_neg, v56]⟩) sz36 rfl rfl rfl rfl (one_cons rfl (one_cons (h57.one) one_nil)) (.there .here) (.here (.here .done))) ?_
  rintro _ _ _ ⟨rfl, rfl, rfl⟩
  refine w_a0 rfl (o_store (v := .agg ⟨[.bool y52.2.1.f_neg, v58]⟩) sz36 rfl rfl rfl rfl (one_cons rfl (one_cons (h59.one) one_nil)) .here (.here (.here .done))) ?_
  rintro _ _ _ ⟨rfl, rfl, rfl⟩
  refine w_d rfl (d_assign (v := errV 71 y52.2.2) rfl) <| w_done <| w_seq <| w_seq <| w_region rfl <| w_d rfl (d_move (v := errV 71 y52.2.2) rfl) <| w_d rfl (d_nenil (e := y52.2.2) Tryz.underlying32 rfl) <| w_done ?_
  rcases its he with ⟨c62, he⟩ | ⟨c62, he⟩
  ·
   refine w_then rfl c62 <| w_seq <| w_region rfl <| w_d rfl (d_build (cs' := [.bool false, .slice none 0 0, .bool false, .slice none 0 0]) Tryz.underlying38 zr38 rfl (by kernel_rfl) (parts := []) rfl .nil) <| w_d rfl (d_move (v := errV 71 y52.2.2) rfl) <| w_a0 rfl (o_store (v := .agg ⟨[.bool false, .slice none 0 0, .bool false, .slice none 0 0]⟩) sz38 rfl rfl rfl rfl (one_cons rfl (one_cons rfl (one_cons rfl (one_cons rfl one_nil)))) (.there (.there (.there .here))) (.here (.here (.here (.here .done))))) ?_
   rintro _ _ _ ⟨rfl, rfl, rfl⟩
   refine w_d rfl (d_assign (v := errV 71 y52.2.2) rfl) <| w_done ?_
   obtain rfl := Option.some.inj he
   refine w_return fn_30 rs_30 (.box (v := .agg ⟨[.bool false, .slice none 0 0, .bool false, .slice none 0 0]⟩) rfl ty38 rfl rfl (.there (.there (.there .here))) rfl (.tmp (v := errV 71 y52.2.2) rfl .nil)) <| ⟨⟨[_, _, _, _, _, _], rfl⟩, hle.trans (e50.trans e55), ⟨.slice none 0 0, .slice none 0 0, rfl, (ro_nil _ _), (ro_nil _ _)⟩⟩
  ·
   refine w_else rfl (Bool.eq_false_iff.2 c62) <| w_skip <| w_seq <| w_region rfl <| w_d rfl (d_loado (v := .agg ⟨[.bool d_0, v_d_1]⟩) ty36 rfl (.there (.there (.there (.there .here)))) rfl rfl rfl rfl) <| w_d rfl (d_loado (v := .agg ⟨[.bool y34.1.f_neg, v45]⟩) ty36 rfl (.there (.there .here)) rfl rfl rfl rfl) ?_
   obtain ⟨y63, hy64, he⟩ := Option.bind_eq_some_iff.1 he
   refine w_a rfl (o_call co33 (vs := [.agg ⟨[.bool d_0, v_d_1]⟩, .agg ⟨[.bool y34.1.f_neg, v45]⟩]) rfl (wide_Int_Div.calls k (a := ⟨d_0, d_1⟩) (b := ⟨y34.1.f_neg, y34.1.f_w⟩) hy64 (h_d_1.mono (e50.trans e55)) (h46.mono e55))) ?_
   rintro _ H65 _ ⟨rfl, e66, ⟨v67, v69, rfl, h68, h70⟩⟩
   refine w_d rfl (d_move (v := .tuple ⟨[.agg ⟨[.bool y63.1.f_neg, v67]⟩, .agg ⟨[.bool y63.2.1.f_neg, v69]⟩, errV 71 y63.2.2]⟩) rfl) <| w_d rfl (d_ext (vs := [.agg ⟨[.bool y63.1.f_neg, v67]⟩, .agg ⟨[.bool y63.2.1.f_neg, v69]⟩, errV 71 y63.2.2]) rfl rfl) <| w_d rfl (d_ext (vs := [.agg ⟨[.bool y63.1.f_neg, v67]⟩, .agg ⟨[.bool y63.2.1.f_neg, v69]⟩, errV 71 y63.2.2]) rfl rfl) <| w_d rfl (d_ext (vs := [.agg ⟨[.bool y63.1.f_neg, v67]⟩, .agg ⟨[.bool y63.2.1.f_neg, v69]⟩, errV 71 y63.2.2]) rfl rfl) <| w_a rfl (o_alloc zr36 rfl) ?_
   rintro _ _ _ ⟨b71, rfl, rfl, rfl⟩
   refine w_a rfl (o_alloc zr36 rfl) ?_
   rintro _ _ _ ⟨b72, rfl, rfl, rfl⟩
   refine w_a0 rfl (o_store (v := .agg ⟨[.bool y63.1.f_neg, v67]⟩) sz36 rfl rfl rfl rfl (one_cons rfl (one_cons (h68.one) one_nil)) (.there .here) (.here (.here .done))) ?_
   rintro _ _ _ ⟨rfl, rfl, rfl⟩
   refine w_a0 rfl (o_store (v := .agg ⟨[.bool y63.2.1.f_neg, v69]⟩) sz36 rfl rfl rfl rfl (one_cons rfl (one_cons (h70.one) one_nil)) .here (.here (.here .done))) ?_
   rintro _ _ _ ⟨rfl, rfl, rfl⟩
   refine w_d rfl (d_assign (v := errV 71 y63.2.2) rfl) <| w_done <| w_seq <| w_seq <| w_region rfl <| w_d rfl (d_move (v := errV 71 y63.2.2) rfl) <| w_d rfl (d_nenil (e := y63.2.2) Tryz.underlying32 rfl) <| w_done ?_
   rcases its he with ⟨c73, he⟩ | ⟨c73, he⟩
   ·
    refine w_then rfl c73 <| w_seq <| w_region rfl <| w_d rfl (d_build (cs' := [.bool false, .slice none 0 0, .bool false, .slice none 0 0]) Tryz.underlying38 zr38 rfl (by kernel_rfl) (parts := []) rfl .nil) <| w_d rfl (d_move (v := errV 71 y63.2.2) rfl) <| w_a0 rfl (o_store (v := .agg ⟨[.bool false, .slice none 0 0, .bool false, .slice none 0 0]⟩) sz38 rfl rfl rfl rfl (one_cons rfl (one_cons rfl (one_cons rfl (one_cons rfl one_nil)))) (.there (.there (.there (.there (.there .here))))) (.here (.here (.here (.here .done))))) ?_
    rintro _ _ _ ⟨rfl, rfl, rfl⟩
    refine w_d rfl (d_assign (v := errV 71 y63.2.2) rfl) <| w_done ?_
    obtain rfl := Option.some.inj he
    refine w_return fn_30 rs_30 (.box (v := .agg ⟨[.bool false, .slice none 0 0, .bool false, .slice none 0 0]⟩) rfl ty38 rfl rfl (.there (.there (.there (.there (.there .here))))) rfl (.tmp (v := errV 71 y63.2.2) rfl .nil)) <| ⟨⟨[_, _, _, _, _, _, _, _], rfl⟩, hle.trans ((e50.trans e55).trans e66), ⟨.slice none 0 0, .slice none 0 0, rfl, (ro_nil _ _), (ro_nil _ _)⟩⟩
   ·
    refine w_else rfl (Bool.eq_false_iff.2 c73) <| w_skip <| w_seq <| w_region rfl <| w_d rfl (d_loado (v := .agg ⟨[.bool y52.1.f_neg, v56]⟩) ty36 rfl (.there (.there (.there .here))) rfl rfl rfl rfl) <| w_d rfl (d_loado (v := .agg ⟨[.bool y63.1.f_neg, v67]⟩) ty36 rfl (.there .here) rfl rfl rfl rfl) <| w_d rfl (d_build (cs' := [.bool y52.1.f_neg, v56, .bool y63.1.f_neg, v67]) Tryz.underlying38 zr38 rfl (by kernel_rfl) (parts := [(0, .agg ⟨[.bool y52.1.f_neg, v56]⟩), (1, .agg ⟨[.bool y63.1.f_neg, v67]⟩)]) rfl (.cons (place_of rfl sz36 rfl) rfl rfl (.here (.here .done)) (.cons (place_of rfl sz36 rfl) rfl rfl (.there (.there (.here (.here .done)))) .nil))) <| w_a0 rfl (o_store (v := .agg ⟨[.bool y52.1.f_neg, v56, .bool y63.1.f_neg, v67]⟩) sz38 rfl rfl rfl rfl (one_cons rfl (one_cons (h57.one) (one_cons rfl (one_cons (h68.one) one_nil)))) (.there (.there (.there (.there (.there .here))))) (.here (.here (.here (.here .done))))) ?_
    rintro _ _ _ ⟨rfl, rfl, rfl⟩
    refine w_d rfl (d_assign (v := errV 71 none) rfl) <| w_done ?_
    obtain rfl := Option.some.inj he
    refine w_return fn_30 rs_30 (.box (v := .agg ⟨[.bool y52.1.f_neg, v56, .bool y63.1.f_neg, v67]⟩) rfl ty38 rfl rfl (.there (.there (.there (.there (.there .here))))) rfl (.tmp (v := errV 71 none) rfl .nil)) <| ⟨⟨[_, _, _, _, _, _, _, _], rfl⟩, hle.trans ((e50.trans e55).trans e66), ⟨v56, v67, rfl, (h57.mono e66), h68⟩⟩
theorem ratio_Of.calls (k : Nat) {H : Hp} {L : Items} {n : wide_Int} {d : wide_Int} {v0_n : Value} {v1_d : Value} {r : ratio_Ratio × (Option Int)} (he : ratio_Of.f k n d = some r) (h0_n : Ro (Kd.int .u32) H v0_n n.f_w) (h1_d : Ro (Kd.int .u32) H v1_d d.f_w) : Ct Tryz.prog 30 ⟨[.agg ⟨[.bool n.f_neg, v0_n]⟩, .agg ⟨[.bool d.f_neg, v1_d]⟩]⟩ H L (fun v H' L' => L = L' ∧ H.le H' ∧ ratio_Of.out r H' v) := by
 refine ct_out (O := ratio_Of.out r) ?_
 have hle : H.le H := .refl _
 unfold ratio_Of.f at he
 refine ct_enter (args := [.agg ⟨[.bool n.f_neg, v0_n]⟩, .agg ⟨[.bool d.f_neg, v1_d]⟩]) fn_30 rfl nt_30 rfl <| w_seq <| w_region rfl <| w_a rfl (o_box (v := .agg ⟨[.bool n.f_neg, v0_n]⟩) rfl rfl) ?_
 rintro _ _ _ ⟨b1, rfl, rfl, rfl⟩
 refine w_a rfl (o_box (v := .agg ⟨[.bool d.f_neg, v1_d]⟩) rfl rfl) ?_
 rintro _ _ _ ⟨b2, rfl, rfl, rfl⟩
 refine w_a rfl (o_alloc zr38 rfl) ?_
 rintro _ _ _ ⟨b3, rfl, rfl, rfl⟩
 refine w_d rfl (d_assign (v := errV 71 none) rfl) <| w_done <| w_seq <| w_seq <| w_region rfl <| w_d rfl (d_loado (v := .agg ⟨[.bool d.f_neg, v1_d]⟩) ty36 rfl (.there .here) rfl rfl rfl rfl) ?_
 obtain ⟨y4, hy5, he⟩ := Option.bind_eq_some_iff.1 he
 refine w_d rfl (call_d (o_call co37 (vs := [.agg ⟨[.bool d.f_neg, v1_d]⟩]) rfl (wide_Int_Sign.calls k (a := ⟨d.f_neg, d.f_w⟩) hy5 h1_d))) <| w_d rfl (d_eql rfl rfl) <| w_done ?_
 rcases its he with ⟨c8, he⟩ | ⟨c8, he⟩
 ·
  refine w_then rfl (decide_eq_true c8) <| w_seq <| w_region rfl <| w_d rfl (d_build (cs' := [.bool false, .slice none 0 0, .bool false, .slice none 0 0]) Tryz.underlying38 zr38 rfl (by kernel_rfl) (parts := []) rfl .nil) <| w_d rfl (d_iface (v := .int .i64 11) Tryz.underlying71 rfl rfl) <| w_a0 rfl (o_store (v := .agg ⟨[.bool false, .slice none 0 0, .bool false, .slice none 0 0]⟩) sz38 rfl rfl rfl rfl (one_cons rfl (one_cons rfl (one_cons rfl (one_cons rfl one_nil)))) .here (.here (.here (.here (.here .done))))) ?_
  rintro _ _ _ ⟨rfl, rfl, rfl⟩
  refine w_d rfl (d_assign (v := errV 71 (some 11)) rfl) <| w_done ?_
  obtain rfl := Option.some.inj he
  refine w_return fn_30 rs_30 (.box (v := .agg ⟨[.bool false, .slice none 0 0, .bool false, .slice none 0 0]⟩) rfl ty38 rfl rfl .here rfl (.tmp (v := errV 71 (some 11)) rfl .nil)) <| ⟨⟨[_, _, _], rfl⟩, hle, ⟨.slice none 0 0, .slice none 0 0, rfl, (ro_nil _ _), (ro_nil _ _)⟩⟩
 ·
  refine w_else rfl (decide_eq_false c8) <| w_skip <| w_seq <| w_seq <| w_region rfl <| w_d rfl (d_loado (v := .agg ⟨[.bool d.f_neg, v1_d]⟩) ty36 rfl (.there .here) rfl rfl rfl rfl) ?_
  obtain ⟨y9, hy10, he⟩ := Option.bind_eq_some_iff.1 he
  refine w_d rfl (call_d (o_call co37 (vs := [.agg ⟨[.bool d.f_neg, v1_d]⟩]) rfl (wide_Int_Sign.calls k (a := ⟨d.f_neg, d.f_w⟩) hy10 h1_d))) <| w_d rfl (d_lss rfl rfl) <| w_done ?_
  rcases its he with ⟨c13, he⟩ | ⟨c13, he⟩
  ·
   refine w_then rfl (decide_eq_true c13) ?_
   obtain ⟨y14, hy15, he⟩ := Option.bind_eq_some_iff.1 he
   refine w_drawn (p := 3) (tl := [3, 4, 5]) [[], [(0, some 20)], []] [some 20, some 21, some 22] (fctF (.is (.agg ⟨[.bool n.f_neg, v0_n]⟩) :: .of (wide_Int_Neg.out y14) (wide_Int_Neg.out_mono _) :: .is (.agg ⟨[.bool d.f_neg, v1_d]⟩) :: [])) (fun m_ => some (b3, .cells ⟨[.bool false, .slice none 0 0, .bool false, .slice none 0 0]⟩ 38 (0, 0)) :: some (b2, .cells ⟨[.bool d.f_neg, v1_d]⟩ 36 (0, 0)) :: some (b1, .cells ⟨[.bool n.f_neg, v0_n]⟩ 36 (0, 0)) :: L) (fun _ => none) mixed (by kernel_rfl) (by kernel_rfl) rfl (fct_mono (by kernel_rfl)) ⟨(fun H' m_ hH hm_ hu_ => depK_nil <| s_d (m_ 0) rfl (d_loado (v := .agg ⟨[.bool n.f_neg, v0_n]⟩) ty36 rfl (.there (.there .here)) rfl rfl rfl rfl) (by exact rfl) rfl), (by rintro H' m_ hH hm_ hu_ _ rfl; exact depK_nil <| s_k (m_ 1) rfl (o_call co56 (vs := [.agg ⟨[.bool n.f_neg, v0_n]⟩]) rfl (wide_Int_Neg.calls k (a := ⟨n.f_neg, n.f_w⟩) hy15 (h0_n.mono hH))) rfl (by rintro v_ H_ _ ⟨rfl, e_, h_⟩; exact ⟨rfl, e_, h_⟩)), (fun H' m_ hH hm_ hu_ => depK_nil <| s_d (m_ 2) rfl (d_loado (v := .agg ⟨[.bool d.f_neg, v1_d]⟩) ty36 rfl (.there .here) rfl rfl rfl rfl) (by exact rfl) rfl), trivial⟩ ?_
   intro H20 e21
   rintro _ _ rfl _ _ ⟨v18, rfl, h19⟩ _ _ rfl
   obtain ⟨y22, hy23, he⟩ := Option.bind_eq_some_iff.1 he
   refine w_a rfl (o_call co56 (vs := [.agg ⟨[.bool d.f_neg, v1_d]⟩]) rfl (wide_Int_Neg.calls k (a := ⟨d.f_neg, d.f_w⟩) hy23 (h1_d.mono e21))) ?_
   rintro _ H24 _ ⟨rfl, e25, ⟨v26, rfl, h27⟩⟩
   refine w_a0 rfl (o_store (v := .agg ⟨[.bool y14.f_neg, v18]⟩) sz36 rfl rfl rfl rfl (one_cons rfl (one_cons (h19.one) one_nil)) (.there (.there .here)) (.here (.here .done))) ?_
   rintro _ _ _ ⟨rfl, rfl, rfl⟩
   refine w_a0 rfl (o_store (v := .agg ⟨[.bool y22.f_neg, v26]⟩) sz36 rfl rfl rfl rfl (one_cons rfl (one_cons (h27.one) one_nil)) (.there .here) (.here (.here .done))) ?_
   rintro _ _ _ ⟨rfl, rfl, rfl⟩
   refine w_done <| w_sl 2 (.pointer (some ⟨b1, 0, none⟩)) rfl <| w_sl 3 (.pointer (some ⟨b2, 0, none⟩)) rfl <| w_sl 4 (.pointer (some ⟨b3, 0, none⟩)) rfl <| w_sl 5 (errV 71 none) rfl <| ratio_Of.j1_ok (k := k) (hle.trans (e21.trans e25)) he (h19.mono e25) h27
  ·
   refine w_else rfl (decide_eq_false c13) <| w_skip <| w_sl 2 (.pointer (some ⟨b1, 0, none⟩)) rfl <| w_sl 3 (.pointer (some ⟨b2, 0, none⟩)) rfl <| w_sl 4 (.pointer (some ⟨b3, 0, none⟩)) rfl <| w_sl 5 (errV 71 none) rfl <| ratio_Of.j1_ok (k := k) hle he h0_n h1_d
/-! ### radome/radomelaw02.giveRatio -/
noncomputable def radomelaw02_giveRatio.C : Code := (Tryz.f6.body).getD .skip
def radomelaw02_giveRatio.out (r : ratio_Ratio) (H : Hp) (v : Value) : Prop := ∃ v0, ∃ v1, v = .agg ⟨[.bool r.f_n.f_neg, v0, .bool r.f_d.f_neg, v1]⟩ ∧ Ro (Kd.int .u32) H v0 r.f_n.f_w ∧ Ro (Kd.int .u32) H v1 r.f_d.f_w
theorem radomelaw02_giveRatio.out_mono (r : ratio_Ratio) {H H' : Hp} {v : Value} (hle : H.le H') (h : radomelaw02_giveRatio.out r H v) : radomelaw02_giveRatio.out r H' v := by
 obtain ⟨v0, v1, rfl, h0, h1⟩ := h; exact ⟨v0, v1, rfl, h0.mono hle, h1.mono hle⟩
abbrev radomelaw02_giveRatio.R (H0 : Hp) (L : Items) (r : ratio_Ratio) : Value → Hp → Items → Prop := fun v H' L' => (∃ p, L' = p ++ L) ∧ H0.le H' ∧ radomelaw02_giveRatio.out r H' v
noncomputable def radomelaw02_giveRatio.f (k : Nat) (a : radomeref02_Ratio) : Option ratio_Ratio := (radomelaw02_giveInt.f k (⟨a.f_N.f_Neg, a.f_N.f_D⟩ : radomeref01_Num)).bind fun y3 => (radomelaw02_giveInt.f k (⟨a.f_D.f_Neg, a.f_D.f_D⟩ : radomeref01_Num)).bind fun y9 => (ratio_Of.f k (⟨y3.f_neg, y3.f_w⟩ : wide_Int) (⟨y9.f_neg, y9.f_w⟩ : wide_Int)).bind fun y15 => some ((⟨(⟨y15.1.f_n.f_neg, y15.1.f_n.f_w⟩ : wide_Int), (⟨y15.1.f_d.f_neg, y15.1.f_d.f_w⟩ : wide_Int)⟩ : ratio_Ratio))
theorem radomelaw02_giveRatio.mono : ∀ k y0, LeO (radomelaw02_giveRatio.f k y0) (radomelaw02_giveRatio.f (k + 1) y0) := fun k _ => by unfold radomelaw02_giveRatio.f; exact (LeO.bind (radomelaw02_giveInt.mono k _) fun _ => LeO.bind (radomelaw02_giveInt.mono k _) fun _ => LeO.bind (ratio_Of.mono k _ _) fun _ => LeO.refl _)
theorem radomelaw02_giveRatio.calls (k : Nat) {H : Hp} {L : Items} {a : radomeref02_Ratio} {v0_a : Value} {v1_a : Value} {r : ratio_Ratio} (he : radomelaw02_giveRatio.f k a = some r) (h0_a : Ro (Kd.int .i64) H v0_a a.f_N.f_D) (h1_a : Ro (Kd.int .i64) H v1_a a.f_D.f_D) : Ct Tryz.prog 6 ⟨[.agg ⟨[.bool a.f_N.f_Neg, v0_a, .bool a.f_D.f_Neg, v1_a]⟩]⟩ H L (fun v H' L' => L = L' ∧ H.le H' ∧ radomelaw02_giveRatio.out r H' v) := by
 refine ct_out (O := radomelaw02_giveRatio.out r) ?_
 have hle : H.le H := .refl _
 unfold radomelaw02_giveRatio.f at he
 refine ct_enter (args := [.agg ⟨[.bool a.f_N.f_Neg, v0_a, .bool a.f_D.f_Neg, v1_a]⟩]) fn_6 rfl nt_6 rfl <| w_seq <| w_region rfl <| w_a rfl (o_box (v := .agg ⟨[.bool a.f_N.f_Neg, v0_a, .bool a.f_D.f_Neg, v1_a]⟩) rfl rfl) ?_
 rintro _ _ _ ⟨b1, rfl, rfl, rfl⟩
 refine w_a rfl (o_alloc zr38 rfl) ?_
 rintro _ _ _ ⟨b2, rfl, rfl, rfl⟩
 refine w_done <| w_seq ?_
 obtain ⟨y3, hy4, he⟩ := Option.bind_eq_some_iff.1 he
 obtain ⟨y9, hy10, he⟩ := Option.bind_eq_some_iff.1 he
 obtain ⟨y15, hy16, he⟩ := Option.bind_eq_some_iff.1 he
 refine w_none (?_)
 refine w_drawn (p := 12) (tl := [12]) [[], [(0, some 6)], [(1, some 7)], [], [(3, some 9)], [(4, some 10)], [(2, some 8), (5, some 11)], [(6, some 12)], [(7, some 5)], [(7, some 5)], [], [(8, some 13), (10, some 3)]] [some 6, some 7, some 8, some 9, some 10, some 11, some 12, some 5, some 13, some 14, some 3, none] (fctF (.is (.pointer (some ⟨b1, 0, none⟩)) :: .is (.agg ⟨[.bool a.f_N.f_Neg, v0_a]⟩) :: .of (radomelaw02_giveInt.out y3) (radomelaw02_giveInt.out_mono _) :: .is (.pointer (some ⟨b1, 2, none⟩)) :: .is (.agg ⟨[.bool a.f_D.f_Neg, v1_a]⟩) :: .of (radomelaw02_giveInt.out y9) (radomelaw02_giveInt.out_mono _) :: .of (ratio_Of.out y15) (ratio_Of.out_mono _) :: .of (fun H v => ∃ v23, ∃ v25, v = .tuple ⟨[.agg ⟨[.bool y15.1.f_n.f_neg, v23, .bool y15.1.f_d.f_neg, v25]⟩, errV 71 y15.2]⟩ ∧ Ro (Kd.int .u32) H v23 y15.1.f_n.f_w ∧ Ro (Kd.int .u32) H v25 y15.1.f_d.f_w) (by rintro _ _ _ hle ⟨v23, v25, rfl, h24, h26⟩; exact ⟨v23, v25, rfl, h24.mono hle, h26.mono hle⟩) :: .of (fun H v => ∃ v27, ∃ v29, v = .agg ⟨[.bool y15.1.f_n.f_neg, v27, .bool y15.1.f_d.f_neg, v29]⟩ ∧ Ro (Kd.int .u32) H v27 y15.1.f_n.f_w ∧ Ro (Kd.int .u32) H v29 y15.1.f_d.f_w) (by rintro _ _ _ hle ⟨v27, v29, rfl, h28, h30⟩; exact ⟨v27, v29, rfl, h28.mono hle, h30.mono hle⟩) :: .is (errV 71 y15.2) :: .box 38 [.bool false, .slice none 0 0, .bool false, .slice none 0 0] :: .st 10 (fun H bq_ itq_ => ∃ v32, ∃ v34, itq_ = some (bq_, .cells ⟨[.bool y15.1.f_n.f_neg, v32, .bool y15.1.f_d.f_neg, v34]⟩ 38 (0, 0)) ∧ Ro (Kd.int .u32) H v32 y15.1.f_n.f_w ∧ Ro (Kd.int .u32) H v34 y15.1.f_d.f_w) (by rintro _ _ _ _ hle ⟨v32, v34, rfl, h33, h35⟩; exact ⟨v32, v34, rfl, h33.mono hle, h35.mono hle⟩) :: [])) (fun m_ => pk (m_ 11) (m_ 10) :: some (b2, .cells ⟨[.bool false, .slice none 0 0, .bool false, .slice none 0 0]⟩ 38 (0, 0)) :: some (b1, .cells ⟨[.bool a.f_N.f_Neg, v0_a, .bool a.f_D.f_Neg, v1_a]⟩ 29 (0, 0)) :: L) (fun _ => none) mixed (by kernel_rfl) (by kernel_rfl) rfl (fct_mono (by kernel_rfl)) ⟨(fun H' m_ hH hm_ hu_ => depK_nil <| s_d (m_ 0) rfl (d_fld (o' := 0) Tryz.underlying29 rfl sz27 rfl rfl rfl) (by exact rfl) rfl), (by rintro H' m_ hH hm_ hu_ _ rfl; exact depK_nil <| s_d (m_ 1) rfl (d_loado (v := .agg ⟨[.bool a.f_N.f_Neg, v0_a]⟩) ty27 rfl (.there (.there .here)) rfl rfl rfl rfl) (by exact rfl) rfl), (by rintro H' m_ hH hm_ hu_ _ rfl; exact depK_nil <| s_k (m_ 2) rfl (o_call co31 (vs := [.agg ⟨[.bool a.f_N.f_Neg, v0_a]⟩]) rfl (radomelaw02_giveInt.calls k (a := ⟨a.f_N.f_Neg, a.f_N.f_D⟩) hy4 (h0_a.mono hH))) rfl (by rintro v_ H_ _ ⟨rfl, e_, h_⟩; exact ⟨rfl, e_, h_⟩)), (fun H' m_ hH hm_ hu_ => depK_nil <| s_d (m_ 3) rfl (d_fld (o' := 2) Tryz.underlying29 rfl sz27 rfl rfl rfl) (by exact rfl) rfl), (by rintro H' m_ hH hm_ hu_ _ rfl; exact depK_nil <| s_d (m_ 4) rfl (d_loado (v := .agg ⟨[.bool a.f_D.f_Neg, v1_a]⟩) ty27 rfl (.there (.there .here)) rfl rfl rfl rfl) (by exact rfl) rfl), (by rintro H' m_ hH hm_ hu_ _ rfl; exact depK_nil <| s_k (m_ 5) rfl (o_call co31 (vs := [.agg ⟨[.bool a.f_D.f_Neg, v1_a]⟩]) rfl (radomelaw02_giveInt.calls k (a := ⟨a.f_D.f_Neg, a.f_D.f_D⟩) hy10 (h1_a.mono hH))) rfl (by rintro v_ H_ _ ⟨rfl, e_, h_⟩; exact ⟨rfl, e_, h_⟩)), (by rintro H' m_ hH hm_ hu_ _ ⟨v7, rfl, h8⟩ _ ⟨v13, rfl, h14⟩; exact depK_nil <| s_k (m_ 6) rfl (o_call co30 (vs := [.agg ⟨[.bool y3.f_neg, v7]⟩, .agg ⟨[.bool y9.f_neg, v13]⟩]) rfl (ratio_Of.calls k (n := ⟨y3.f_neg, y3.f_w⟩) (d := ⟨y9.f_neg, y9.f_w⟩) hy16 h8 h14)) rfl (by rintro v_ H_ _ ⟨rfl, e_, h_⟩; exact ⟨rfl, e_, h_⟩)), (by rintro H' m_ hH hm_ hu_ _ ⟨v19, v21, rfl, h20, h22⟩; exact depK_nil <| s_d (m_ 7) rfl (d_move (v := .tuple ⟨[.agg ⟨[.bool y15.1.f_n.f_neg, v19, .bool y15.1.f_d.f_neg, v21]⟩, errV 71 y15.2]⟩) rfl) (by exact ⟨v19, v21, rfl, h20, h22⟩) rfl), (by rintro H' m_ hH hm_ hu_ _ ⟨v23, v25, rfl, h24, h26⟩; exact depK_nil <| s_d (m_ 8) rfl (d_ext (vs := [.agg ⟨[.bool y15.1.f_n.f_neg, v23, .bool y15.1.f_d.f_neg, v25]⟩, errV 71 y15.2]) rfl rfl) (by exact ⟨v23, v25, rfl, h24, h26⟩) rfl), (by rintro H' m_ hH hm_ hu_ _ ⟨v23, v25, rfl, h24, h26⟩; exact depK_nil <| s_d (m_ 9) rfl (d_ext (vs := [.agg ⟨[.bool y15.1.f_n.f_neg, v23, .bool y15.1.f_d.f_neg, v25]⟩, errV 71 y15.2]) rfl rfl) (by exact rfl) rfl), (fun H' m_ hH hm_ hu_ => depK_nil <| s_box hm_ rfl rfl (o_alloc zr38 rfl) rfl (fun _ => (pk_upd (hu_ 11 (by kernel_rfl)))) (by exact fun b_ => ⟨b_, rfl, rfl⟩)), (by rintro H' m_ hH hm_ hu_ _ ⟨v27, v29, rfl, h28, h30⟩ _ ⟨b31, rfl, hb31_⟩; exact depK_nil <| s_store2 (Λ' := fun z_ => z_ :: some (b2, .cells ⟨[.bool false, .slice none 0 0, .bool false, .slice none 0 0]⟩ 38 (0, 0)) :: some (b1, .cells ⟨[.bool a.f_N.f_Neg, v0_a, .bool a.f_D.f_Neg, v1_a]⟩ 29 (0, 0)) :: L) (some (b31, .cells ⟨[.bool y15.1.f_n.f_neg, v27, .bool y15.1.f_d.f_neg, v29]⟩ 38 (0, 0))) hm_ rfl hb31_ rfl (o_store (v := .agg ⟨[.bool y15.1.f_n.f_neg, v27, .bool y15.1.f_d.f_neg, v29]⟩) sz38 rfl rfl rfl rfl (one_cons rfl (one_cons (h28.one) (one_cons rfl (one_cons (h30.one) one_nil)))) .here (.here (.here (.here (.here .done))))) rfl rfl (by exact ⟨rfl, v27, v29, congrArg (fun b_ => (some (b_, Obj.cells ⟨[.bool y15.1.f_n.f_neg, v27, .bool y15.1.f_d.f_neg, v29]⟩ 38 (0, 0)) : Item')) (bof_eq hb31_).symm, h28, h30⟩)), trivial⟩ ?_
 intro H38 e39
 rintro _ _ rfl _ _ rfl _ _ ⟨v7, rfl, h8⟩ _ _ rfl _ _ rfl _ _ ⟨v13, rfl, h14⟩ _ _ ⟨v19, v21, rfl, h20, h22⟩ _ _ ⟨v23, v25, rfl, h24, h26⟩ _ _ ⟨v27, v29, rfl, h28, h30⟩ _ _ rfl _ _ ⟨b31, rfl, rfl⟩ _ i36 ⟨rfl, v32, v34, h37, h33, h35⟩
 replace h37 : i36 = some (b31, .cells ⟨[.bool y15.1.f_n.f_neg, v32, .bool y15.1.f_d.f_neg, v34]⟩ 38 (0, 0)) := h37
 subst h37
 refine w_it (L' := some (b31, .cells ⟨[.bool y15.1.f_n.f_neg, v32, .bool y15.1.f_d.f_neg, v34]⟩ 38 (0, 0)) :: some (b2, .cells ⟨[.bool false, .slice none 0 0, .bool false, .slice none 0 0]⟩ 38 (0, 0)) :: some (b1, .cells ⟨[.bool a.f_N.f_Neg, v0_a, .bool a.f_D.f_Neg, v1_a]⟩ 29 (0, 0)) :: L) rfl <| w_d rfl (d_assign (v := errV 71 y15.2) rfl) <| w_done <| w_seq <| w_region rfl <| w_d rfl (d_loado (v := .agg ⟨[.bool y15.1.f_n.f_neg, v32, .bool y15.1.f_d.f_neg, v34]⟩) ty38 rfl .here rfl rfl rfl rfl) <| w_a0 rfl (o_store (v := .agg ⟨[.bool y15.1.f_n.f_neg, v32, .bool y15.1.f_d.f_neg, v34]⟩) sz38 rfl rfl rfl rfl (one_cons rfl (one_cons (h33.one) (one_cons rfl (one_cons (h35.one) one_nil)))) (.there .here) (.here (.here (.here (.here .done))))) ?_
 rintro _ _ _ ⟨rfl, rfl, rfl⟩
 refine w_done ?_
 obtain rfl := Option.some.inj he
 refine w_return fn_6 rs_6 (.box (v := .agg ⟨[.bool y15.1.f_n.f_neg, v32, .bool y15.1.f_d.f_neg, v34]⟩) rfl ty38 rfl rfl (.there .here) rfl .nil) <| ⟨⟨[_, _, _], rfl⟩, hle.trans e39, ⟨v32, v34, rfl, h33, h35⟩⟩
/-! ### (radome/wide.Int).Move$1 -/
noncomputable def wide_Int_Move_1.C : Code := (Tryz.f63.body).getD .skip
def wide_Int_Move_1.out (r : Bool) (H : Hp) (v : Value) : Prop := v = .bool r
abbrev wide_Int_Move_1.R (H0 : Hp) (L : Items) (r : Bool) : Value → Hp → Items → Prop := fun v H' L' => (∃ p, L' = p ++ L) ∧ H0.le H' ∧ wide_Int_Move_1.out r H' v
noncomputable def wide_Int_Move_1.f (k : Nat) (x : Int) : Option Bool := some (!decide (x = 0))
theorem wide_Int_Move_1.mono : ∀ k y0, LeO (wide_Int_Move_1.f k y0) (wide_Int_Move_1.f (k + 1) y0) := fun k _ => by unfold wide_Int_Move_1.f; exact (LeO.refl _)
theorem wide_Int_Move_1.calls (k : Nat) {H : Hp} {L : Items} {x : Int} {r : Bool} (he : wide_Int_Move_1.f k x = some r) : Ct Tryz.prog 63 ⟨[.int .u32 x]⟩ H L (fun v H' L' => L = L' ∧ H = H' ∧ v = .bool r) := by
 refine ct_outs (O := wide_Int_Move_1.out r) (fun _ _ h => h) ?_
 have hle : H.le H := .refl _
 unfold wide_Int_Move_1.f at he
 refine ct_enter (args := [.int .u32 x]) fn_63 rfl nt_63 rfl <| w_seq <| w_region rfl <| w_d rfl (d_assign (v := .bool false) rfl) <| w_done <| w_seq <| w_region rfl <| w_d rfl (d_move (v := .int .u32 x) rfl) <| w_d rfl (d_neq rfl rfl) <| w_d rfl (d_assign (v := .bool (!decide (x = 0))) rfl) <| w_done ?_
 obtain rfl := Option.some.inj he
 refine w_return fn_63 rs_63 (.tmp (v := .bool (!decide (x = 0))) rfl .nil) <| ⟨⟨[], rfl⟩, hle, rfl⟩
end Go.Proofs.YtmnhbbckndlnkaaGreatDoor.GRN

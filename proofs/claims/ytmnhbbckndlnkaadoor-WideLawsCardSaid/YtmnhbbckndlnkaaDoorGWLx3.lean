/- A text of this session, written by a program (wip/k/gen.py): Go functions as Lean functions, and proofs that the code comes to them. -/
import Derived.Test.YtmnhbbckndlnkaaDoorGWLx2
namespace Go.Proofs.YtmnhbbckndlnkaaDoor.GWL
open Go Go.RowKit Go.Proofs.YtmnhbbckndlnkaaDoorK Go.Proofs.YtmnhbbckndlnkaaDoor
set_option linter.unusedVariables false
set_option linter.unusedSimpArgs false
/-! ### radome/wide.giveBack -/
noncomputable def wide_giveBack.C : Code := (Tryd.f82.body).getD .skip
def wide_giveBack.out (r : (List Int)) (H : Hp) (v : Value) : Prop := v = .tuple ⟨[]⟩
abbrev wide_giveBack.R (vr_ : Value) (H0 : Hp) (L : Items) (r : (List Int)) : Value → Hp → Items → Prop := fun v H' L' => (∃ p it', L' = p ++ it' :: L ∧ Sl (Kd.int .u32) H' 93 it' vr_ r) ∧ H0.le H' ∧ v = .tuple ⟨[]⟩
structure wide_giveBack.Hs where
 l0 : (List Int) → (List Int) → Int → Int → Int → Option (List Int)
noncomputable def wide_giveBack.j2 (k : Nat) (h : wide_giveBack.Hs)  (r_ : List Int) (d : List Int) (i : Int) (carry : Int) (j_ : Int) (s : Int) : Option (List Int) := if (0 : Int) ≤ w64 (i + j_) ∧ w64 (i + j_) < (r_.length : Int) then (h.l0 (r_.set (w64 (i + j_) : Int).toNat ((s) % 4294967296)) d i (s / 4294967296) (w64 (j_ + 1))) else none
noncomputable def wide_giveBack.b0 (k : Nat) (h : wide_giveBack.Hs)  (r_ : List Int) (d : List Int) (i : Int) (carry : Int) (j_ : Int) : Option (List Int) := if j_ ≤ (d.length : Int) then (if (0 : Int) ≤ w64 (i + j_) ∧ w64 (i + j_) < (r_.length : Int) then (if j_ < (d.length : Int) then (if (0 : Int) ≤ j_ ∧ j_ < (d.length : Int) then (wide_giveBack.j2 k h r_ d i carry j_ ((((((rd r_ (w64 (i + j_))) % 18446744073709551616) + carry) % 18446744073709551616) + ((rd d j_) % 18446744073709551616)) % 18446744073709551616)) else none) else (wide_giveBack.j2 k h r_ d i carry j_ ((((rd r_ (w64 (i + j_))) % 18446744073709551616) + carry) % 18446744073709551616))) else none) else (some (r_))
noncomputable def wide_giveBack.hs : Nat → wide_giveBack.Hs
 | 0 => ⟨fun _ _ _ _ _ => none⟩
 | k + 1 => ⟨fun x0 x1 x2 x3 x4 => wide_giveBack.b0 k (wide_giveBack.hs k) x0 x1 x2 x3 x4⟩
noncomputable def wide_giveBack.f (k : Nat) (r_ : List Int) (d : List Int) (i : Int) : Option (List Int) := (fun h : wide_giveBack.Hs => h.l0 r_ d i 0 0) (wide_giveBack.hs k)
structure wide_giveBack.LE (h h' : wide_giveBack.Hs) : Prop where
 l0 : ∀ y0 y1 y2 y3 y4, LeO (h.l0 y0 y1 y2 y3 y4) (h'.l0 y0 y1 y2 y3 y4)
theorem wide_giveBack.j2_mono {k : Nat} {h h' : wide_giveBack.Hs} (hl : wide_giveBack.LE h h') : ∀ y0 y1 y2 y3 y4 y5, LeO (wide_giveBack.j2 k h y0 y1 y2 y3 y4 y5) (wide_giveBack.j2 (k + 1) h' y0 y1 y2 y3 y4 y5) := fun _ _ _ _ _ _ => (LeO.ite (hl.l0 _ _ _ _ _) (LeO.refl _))
theorem wide_giveBack.b0_mono {k : Nat} {h h' : wide_giveBack.Hs} (hl : wide_giveBack.LE h h') : ∀ y0 y1 y2 y3 y4, LeO (wide_giveBack.b0 k h y0 y1 y2 y3 y4) (wide_giveBack.b0 (k + 1) h' y0 y1 y2 y3 y4) := fun _ _ _ _ _ => (LeO.ite (LeO.ite (LeO.ite (LeO.ite (wide_giveBack.j2_mono (k := k) hl _ _ _ _ _ _) (LeO.refl _)) (wide_giveBack.j2_mono (k := k) hl _ _ _ _ _ _)) (LeO.refl _)) (LeO.refl _))
theorem wide_giveBack.hs_mono : ∀ k, wide_giveBack.LE (wide_giveBack.hs k) (wide_giveBack.hs (k + 1))
 | 0 => ⟨fun _ _ _ _ _ => LeO.none _⟩
 | k + 1 => ⟨wide_giveBack.b0_mono (k := k) (wide_giveBack.hs_mono k)⟩
theorem wide_giveBack.mono : ∀ k y0 y1 y2, LeO (wide_giveBack.f k y0 y1 y2) (wide_giveBack.f (k + 1) y0 y1 y2) := fun k _ _ _ => have hl := wide_giveBack.hs_mono k; by unfold wide_giveBack.f; exact (hl.l0 _ _ _ _ _)
noncomputable def wide_giveBack.Kl0 : List Item := .code (lopB (blkB (seqR (seqR wide_giveBack.C)))) :: .inLoop (lopB (blkB (seqR (seqR wide_giveBack.C)))) :: .inBlock 0 :: []
noncomputable def wide_giveBack.Kj2 : List Item := .code (seqR (seqR (blkB (seqL (seqR (lopB (blkB (seqR (seqR wide_giveBack.C))))))))) :: .inBlock 1 :: .code (seqR (seqR (lopB (blkB (seqR (seqR wide_giveBack.C)))))) :: .inLoop (lopB (blkB (seqR (seqR wide_giveBack.C)))) :: .inBlock 0 :: []
structure wide_giveBack.OK (h : wide_giveBack.Hs) : Prop where
 l0 : ∀ {H0 H : Hp} {L : Items} {r : (List Int)} {jk_ : Nat → Value} {r_ : List Int} {d : List Int} {i : Int} {carry : Int} {j_ : Int} {vr_ : Value} {v_d : Value} {i_r_ : Item'} (_ : H0.le H) (_he : h.l0 r_ d i carry j_ = some r) (_h_r_ : Sl (Kd.int .u32) H 93 i_r_ vr_ r_) (_h_d : Src (Kd.int .u32) H L v_d d), Wp Tryd.prog 82 44 wide_giveBack.Kl0 (upd (upd (upd (upd (upd jk_ 0 (vr_)) 1 (v_d)) 2 (.int .i64 i)) 6 (.int .u64 carry)) 7 (.int .i64 j_)) H (i_r_ :: L) (wide_giveBack.R vr_ H0 L r)
set_option maxRecDepth 100000 in
set_option maxHeartbeats 2000000 in
theorem wide_giveBack.j2_ok {k : Nat} {h : wide_giveBack.Hs} (hh : wide_giveBack.OK h) {H0 H : Hp} {L : Items} {r : (List Int)} {jk_ : Nat → Value} {r_ : List Int} {d : List Int} {i : Int} {carry : Int} {j_ : Int} {s : Int} {vr_ : Value} {v_d : Value} {i_r_ : Item'} (hle : H0.le H) (he : wide_giveBack.j2 k h r_ d i carry j_ s = some r) (h_r_ : Sl (Kd.int .u32) H 93 i_r_ vr_ r_) (h_d : Src (Kd.int .u32) H L v_d d) : Wp Tryd.prog 82 44 wide_giveBack.Kj2 (upd (upd (upd (upd (upd (upd jk_ 0 (vr_)) 1 (v_d)) 2 (.int .i64 i)) 6 (.int .u64 carry)) 7 (.int .i64 j_)) 8 (.int .u64 s)) H (i_r_ :: L) (wide_giveBack.R vr_ H0 L r) := by
 unfold wide_giveBack.j2 at he
 unfold wide_giveBack.Kj2
 refine w_seq ?_
 refine w_region rfl ?_
 refine w_d rfl (d_move (v := vr_) rfl) ?_
 refine w_d rfl (d_move (v := .int .i64 i) rfl) ?_
 refine w_d rfl (d_move (v := .int .i64 j_) rfl) ?_
 refine w_d rfl (d_add (c := w64 (i + j_)) rfl rfl rfl) ?_
 refine w_d rfl (d_move (v := .int .u64 s) rfl) ?_
 refine w_d rfl (d_conv (c := (s) % 4294967296) Tryd.underlying99 Tryd.underlying93 rfl rfl) ?_
 obtain ⟨c5, he⟩ := rq he
 refine w_d rfl (d_indexS (sz := 1) Tryd.underlying28 sz93 rfl h_r_.shp rfl c5) ?_
 refine w_a0 rfl (o_storeEl (kd := (Kd.int .u32)) (v := .int .u32 ((s) % 4294967296)) (F := fun z_ => z_ :: L) sz93 rfl rfl rfl rfl h_r_ c5 (fun _ => .here)) ?_
 rintro _ _ _ ⟨i6, rfl, rfl, rfl, h7⟩
 refine w_done ?_
 refine w_region rfl ?_
 refine w_d rfl (d_move (v := .int .u64 s) rfl) ?_
 refine w_d rfl (d_shr (c := s / 4294967296) rfl rfl (by decide) rfl) ?_
 refine w_d rfl (d_assign (v := .int .u64 (s / 4294967296)) rfl) ?_
 refine w_done ?_
 refine w_inBlock ?_
 refine w_region rfl ?_
 refine w_d rfl (d_move (v := .int .i64 j_) rfl) ?_
 refine w_d rfl (d_add (c := w64 (j_ + 1)) rfl rfl rfl) ?_
 refine w_d rfl (d_assign (v := .int .i64 (w64 (j_ + 1))) rfl) ?_
 refine w_done ?_
 refine w_inLoop ?_
 refine w_sl 0 (vr_) rfl ?_
 refine w_sl 1 (v_d) rfl ?_
 refine w_sl 2 (.int .i64 i) rfl ?_
 refine w_sl 6 (.int .u64 (s / 4294967296)) rfl ?_
 refine w_sl 7 (.int .i64 (w64 (j_ + 1))) rfl ?_
 exact hh.l0 hle he h7 h_d
set_option maxRecDepth 100000 in
set_option maxHeartbeats 2000000 in
theorem wide_giveBack.b0_ok {k : Nat} {h : wide_giveBack.Hs} (hh : wide_giveBack.OK h) {H0 H : Hp} {L : Items} {r : (List Int)} {jk_ : Nat → Value} {r_ : List Int} {d : List Int} {i : Int} {carry : Int} {j_ : Int} {vr_ : Value} {v_d : Value} {i_r_ : Item'} (hle : H0.le H) (he : wide_giveBack.b0 k h r_ d i carry j_ = some r) (h_r_ : Sl (Kd.int .u32) H 93 i_r_ vr_ r_) (h_d : Src (Kd.int .u32) H L v_d d) : Wp Tryd.prog 82 44 wide_giveBack.Kl0 (upd (upd (upd (upd (upd jk_ 0 (vr_)) 1 (v_d)) 2 (.int .i64 i)) 6 (.int .u64 carry)) 7 (.int .i64 j_)) H (i_r_ :: L) (wide_giveBack.R vr_ H0 L r) := by
 unfold wide_giveBack.b0 at he
 unfold wide_giveBack.Kl0
 refine w_seq ?_
 refine w_seq ?_
 refine w_region rfl ?_
 refine w_d rfl (d_move (v := .int .i64 j_) rfl) ?_
 refine w_d rfl (d_move (v := v_d) rfl) ?_
 refine w_d rfl (d_len Tryd.underlying28 rfl h_d.th) ?_
 refine w_d rfl (d_leq rfl rfl) ?_
 refine w_done ?_
 rcases its he with ⟨c1, he⟩ | ⟨c1, he⟩
 ·
  refine w_then rfl (decide_eq_true c1) ?_
  refine w_skip ?_
  refine w_seq ?_
  refine w_block ?_
  refine w_seq ?_
  refine w_region rfl ?_
  refine w_d rfl (d_move (v := vr_) rfl) ?_
  refine w_d rfl (d_move (v := .int .i64 i) rfl) ?_
  refine w_d rfl (d_move (v := .int .i64 j_) rfl) ?_
  refine w_d rfl (d_add (c := w64 (i + j_)) rfl rfl rfl) ?_
  obtain ⟨c2, he⟩ := rq he
  refine w_d rfl (d_indexS (sz := 1) Tryd.underlying28 sz93 rfl h_r_.shp rfl c2) ?_
  refine w_d rfl (d_ldint ty93 rfl (h_r_.src .here) c2) ?_
  refine w_d rfl (d_conv (c := (rd r_ (w64 (i + j_))) % 18446744073709551616) Tryd.underlying93 Tryd.underlying99 rfl rfl) ?_
  refine w_d rfl (d_move (v := .int .u64 carry) rfl) ?_
  refine w_d rfl (d_add (c := (((rd r_ (w64 (i + j_))) % 18446744073709551616) + carry) % 18446744073709551616) rfl rfl rfl) ?_
  refine w_d rfl (d_assign (v := .int .u64 ((((rd r_ (w64 (i + j_))) % 18446744073709551616) + carry) % 18446744073709551616)) rfl) ?_
  refine w_done ?_
  refine w_seq ?_
  refine w_seq ?_
  refine w_region rfl ?_
  refine w_d rfl (d_move (v := .int .i64 j_) rfl) ?_
  refine w_d rfl (d_move (v := v_d) rfl) ?_
  refine w_d rfl (d_len Tryd.underlying28 rfl h_d.th) ?_
  refine w_d rfl (d_lss rfl rfl) ?_
  refine w_done ?_
  rcases its he with ⟨c3, he⟩ | ⟨c3, he⟩
  ·
   refine w_then rfl (decide_eq_true c3) ?_
   refine w_region rfl ?_
   refine w_d rfl (d_move (v := .int .u64 ((((rd r_ (w64 (i + j_))) % 18446744073709551616) + carry) % 18446744073709551616)) rfl) ?_
   refine w_d rfl (d_move (v := v_d) rfl) ?_
   refine w_d rfl (d_move (v := .int .i64 j_) rfl) ?_
   obtain ⟨c4, he⟩ := rq he
   refine w_d rfl (d_index (sz := 1) Tryd.underlying28 sz93 rfl h_d.th rfl c4) ?_
   refine w_d rfl (d_ldint ty93 rfl h_d.th c4) ?_
   refine w_d rfl (d_conv (c := (rd d j_) % 18446744073709551616) Tryd.underlying93 Tryd.underlying99 rfl rfl) ?_
   refine w_d rfl (d_add (c := (((((rd r_ (w64 (i + j_))) % 18446744073709551616) + carry) % 18446744073709551616) + ((rd d j_) % 18446744073709551616)) % 18446744073709551616) rfl rfl rfl) ?_
   refine w_d rfl (d_assign (v := .int .u64 ((((((rd r_ (w64 (i + j_))) % 18446744073709551616) + carry) % 18446744073709551616) + ((rd d j_) % 18446744073709551616)) % 18446744073709551616)) rfl) ?_
   refine w_done ?_
   refine w_sl 0 (vr_) rfl ?_
   refine w_sl 1 (v_d) rfl ?_
   refine w_sl 2 (.int .i64 i) rfl ?_
   refine w_sl 6 (.int .u64 carry) rfl ?_
   refine w_sl 7 (.int .i64 j_) rfl ?_
   refine w_sl 8 (.int .u64 ((((((rd r_ (w64 (i + j_))) % 18446744073709551616) + carry) % 18446744073709551616) + ((rd d j_) % 18446744073709551616)) % 18446744073709551616)) rfl ?_
   exact wide_giveBack.j2_ok (k := k) hh hle he h_r_ h_d
  ·
   refine w_else rfl (decide_eq_false c3) ?_
   refine w_skip ?_
   refine w_sl 0 (vr_) rfl ?_
   refine w_sl 1 (v_d) rfl ?_
   refine w_sl 2 (.int .i64 i) rfl ?_
   refine w_sl 6 (.int .u64 carry) rfl ?_
   refine w_sl 7 (.int .i64 j_) rfl ?_
   refine w_sl 8 (.int .u64 ((((rd r_ (w64 (i + j_))) % 18446744073709551616) + carry) % 18446744073709551616)) rfl ?_
   exact wide_giveBack.j2_ok (k := k) hh hle he h_r_ h_d
 ·
  refine w_else rfl (decide_eq_false c1) ?_
  refine w_exit rfl ?_
  obtain rfl := Option.some.inj he
  refine w_finish fn_82 rs_82 .nil ?_
  exact ⟨⟨[], _, rfl, h_r_⟩, hle, rfl⟩
theorem wide_giveBack.ok : ∀ k, wide_giveBack.OK (wide_giveBack.hs k)
 | 0 => ⟨(by intros; exact nomatch (show none = some _ from by assumption))⟩
 | k + 1 => ⟨wide_giveBack.b0_ok (k := k) (wide_giveBack.ok k)⟩
set_option maxRecDepth 100000 in
set_option maxHeartbeats 2000000 in
theorem wide_giveBack.calls (k : Nat) {H : Hp} {L : Items} {r_ : List Int} {d : List Int} {i : Int} {vr_ : Value} {it_ : Item'} {v0_d : Value} {r : (List Int)} (he : wide_giveBack.f k r_ d i = some r) (hr_ : Sl (Kd.int .u32) H 93 it_ vr_ r_) (h0_d : Src (Kd.int .u32) H L v0_d d) : Ct Tryd.prog 82 ⟨[vr_, v0_d, .int .i64 i]⟩ H (it_ :: L) (fun v H' L' => ∃ it', L' = it' :: L ∧ H.le H' ∧ Sl (Kd.int .u32) H' 93 it' vr_ r ∧ v = .tuple ⟨[]⟩) := by
 refine ct_mut (Q := fun v => v = .tuple ⟨[]⟩) ?_
 have hle : H.le H := .refl _
 have hh := wide_giveBack.ok k
 unfold wide_giveBack.f at he
 refine ct_enter (args := [vr_, v0_d, .int .i64 i]) fn_82 rfl nt_82 rfl ?_
 refine w_seq ?_
 refine w_region rfl ?_
 refine w_d rfl (d_assign (v := .int .u64 0) rfl) ?_
 refine w_done ?_
 refine w_seq ?_
 refine w_region rfl ?_
 refine w_d rfl (d_assign (v := .int .i64 0) rfl) ?_
 refine w_done ?_
 refine w_block ?_
 refine w_loop ?_
 refine w_sl 0 (vr_) rfl ?_
 refine w_sl 1 (v0_d) rfl ?_
 refine w_sl 2 (.int .i64 i) rfl ?_
 refine w_sl 6 (.int .u64 0) rfl ?_
 refine w_sl 7 (.int .i64 0) rfl ?_
 exact hh.l0 hle he hr_ h0_d
/-! ### radome/wide.long -/
noncomputable def wide_long.C : Code := (Tryd.f57.body).getD .skip
def wide_long.out (r : (List Int) × (List Int)) (H : Hp) (v : Value) : Prop := ∃ v0, ∃ v1, v = .tuple ⟨[v0, v1]⟩ ∧ Ro (Kd.int .u32) H v0 r.1 ∧ Ro (Kd.int .u32) H v1 r.2
theorem wide_long.out_mono (r : (List Int) × (List Int)) {H H' : Hp} {v : Value} (hle : H.le H') (h : wide_long.out r H v) : wide_long.out r H' v := by
 obtain ⟨v0, v1, rfl, h0, h1⟩ := h; exact ⟨v0, v1, rfl, h0.mono hle, h1.mono hle⟩
abbrev wide_long.R (H0 : Hp) (L : Items) (r : (List Int) × (List Int)) : Value → Hp → Items → Prop := fun v H' L' => (∃ p, L' = p ++ L) ∧ H0.le H' ∧ wide_long.out r H' v
structure wide_long.Hs where
 l0 : Int → (List Int) → (List Int) → (List Int) → Int → Option ((List Int) × (List Int))
noncomputable def wide_long.j2 (k : Nat) (h : wide_long.Hs)  (n : Int) (d : List Int) (r_ : List Int) (q : List Int) (i : Int) (g : Int) : Option ((List Int) × (List Int)) := if (0 : Int) ≤ i ∧ i < (q.length : Int) then (h.l0 n d r_ (q.set (i : Int).toNat ((g) % 4294967296)) (w64 (i - 1))) else none
noncomputable def wide_long.b0 (k : Nat) (h : wide_long.Hs)  (n : Int) (d : List Int) (r_ : List Int) (q : List Int) (i : Int) : Option ((List Int) × (List Int)) := if 0 ≤ i then ((wide_guess.f k r_ d i).bind fun y63 => (wide_takeOff.f k r_ d i y63).bind fun y67 => if y67.1 = true then ((wide_giveBack.f k y67.2 d i).bind fun y74 => wide_long.j2 k h n d y74 q i ((y63 - 1) % 18446744073709551616)) else (wide_long.j2 k h n d y67.2 q i y63)) else ((wide_trim.f k q).bind fun y83 => (wide_down.f k r_ n).bind fun y92 => some (y83, y92))
noncomputable def wide_long.hs : Nat → wide_long.Hs
 | 0 => ⟨fun _ _ _ _ _ => none⟩
 | k + 1 => ⟨fun x0 x1 x2 x3 x4 => wide_long.b0 k (wide_long.hs k) x0 x1 x2 x3 x4⟩
noncomputable def wide_long.f (k : Nat) (a : List Int) (b : List Int) : Option ((List Int) × (List Int)) := (fun h : wide_long.Hs => (wide_less.f k a b).bind fun y1 => if y1 < 0 then (some ([], a)) else (if (b.length : Int) = 1 then (if (0 : Int) ≤ 0 ∧ 0 < (b.length : Int) then ((wide_short.f k a (rd b 0)).bind fun y8 => (wide_trim.f k [y8.2]).bind fun y20 => some (y8.1, y20)) else none) else (if (0 : Int) ≤ w64 ((b.length : Int) - 1) ∧ w64 ((b.length : Int) - 1) < (b.length : Int) then ((bits_LeadingZeros32.f k (rd b (w64 ((b.length : Int) - 1)))).bind fun y27 => (wide_up.f k b y27).bind fun y31 => (wide_trim.f k y31).bind fun y43 => (wide_up.f k a y27).bind fun y49 => if 0 ≤ w64 ((y49.length : Int) - (y43.length : Int)) ∧ w64 ((y49.length : Int) - (y43.length : Int)) ≤ 70368744177664 then (h.l0 y27 y43 y49 (List.replicate (w64 ((y49.length : Int) - (y43.length : Int)) : Int).toNat (0 : Int)) (w64 (((List.replicate (w64 ((y49.length : Int) - (y43.length : Int)) : Int).toNat (0 : Int)).length : Int) - 1))) else none) else none))) (wide_long.hs k)
structure wide_long.LE (h h' : wide_long.Hs) : Prop where
 l0 : ∀ y0 y1 y2 y3 y4, LeO (h.l0 y0 y1 y2 y3 y4) (h'.l0 y0 y1 y2 y3 y4)
theorem wide_long.j2_mono {k : Nat} {h h' : wide_long.Hs} (hl : wide_long.LE h h') : ∀ y0 y1 y2 y3 y4 y5, LeO (wide_long.j2 k h y0 y1 y2 y3 y4 y5) (wide_long.j2 (k + 1) h' y0 y1 y2 y3 y4 y5) := fun _ _ _ _ _ _ => (LeO.ite (hl.l0 _ _ _ _ _) (LeO.refl _))
theorem wide_long.b0_mono {k : Nat} {h h' : wide_long.Hs} (hl : wide_long.LE h h') : ∀ y0 y1 y2 y3 y4, LeO (wide_long.b0 k h y0 y1 y2 y3 y4) (wide_long.b0 (k + 1) h' y0 y1 y2 y3 y4) := fun _ _ _ _ _ => (LeO.ite (LeO.bind (wide_guess.mono k _ _ _) fun _ => LeO.bind (wide_takeOff.mono k _ _ _ _) fun _ => LeO.ite (LeO.bind (wide_giveBack.mono k _ _ _) fun _ => wide_long.j2_mono (k := k) hl _ _ _ _ _ _) (wide_long.j2_mono (k := k) hl _ _ _ _ _ _)) (LeO.bind (wide_trim.mono k _) fun _ => LeO.bind (wide_down.mono k _ _) fun _ => LeO.refl _))
theorem wide_long.hs_mono : ∀ k, wide_long.LE (wide_long.hs k) (wide_long.hs (k + 1))
 | 0 => ⟨fun _ _ _ _ _ => LeO.none _⟩
 | k + 1 => ⟨wide_long.b0_mono (k := k) (wide_long.hs_mono k)⟩
theorem wide_long.mono : ∀ k y0 y1, LeO (wide_long.f k y0 y1) (wide_long.f (k + 1) y0 y1) := fun k _ _ => have hl := wide_long.hs_mono k; by unfold wide_long.f; exact (LeO.bind (wide_less.mono k _ _) fun _ => LeO.ite (LeO.refl _) (LeO.ite (LeO.ite (LeO.bind (wide_short.mono k _ _) fun _ => LeO.bind (wide_trim.mono k _) fun _ => LeO.refl _) (LeO.refl _)) (LeO.ite (LeO.bind (bits_LeadingZeros32.mono k _) fun _ => LeO.bind (wide_up.mono k _ _) fun _ => LeO.bind (wide_trim.mono k _) fun _ => LeO.bind (wide_up.mono k _ _) fun _ => LeO.ite (hl.l0 _ _ _ _ _) (LeO.refl _)) (LeO.refl _))))
noncomputable def wide_long.Kl0 : List Item := .code (lopB (blkB (seqR (seqL (seqR (seqR (seqR (seqR (seqR (seqR (seqR wide_long.C))))))))))) :: .inLoop (lopB (blkB (seqR (seqL (seqR (seqR (seqR (seqR (seqR (seqR (seqR wide_long.C))))))))))) :: .inBlock 0 :: .code (seqR (seqR (seqR (seqR (seqR (seqR (seqR (seqR wide_long.C)))))))) :: []
noncomputable def wide_long.Kj2 : List Item := .code (seqR (seqR (blkB (seqL (seqR (lopB (blkB (seqR (seqL (seqR (seqR (seqR (seqR (seqR (seqR (seqR wide_long.C)))))))))))))))) :: .inBlock 1 :: .code (seqR (seqR (lopB (blkB (seqR (seqL (seqR (seqR (seqR (seqR (seqR (seqR (seqR wide_long.C))))))))))))) :: .inLoop (lopB (blkB (seqR (seqL (seqR (seqR (seqR (seqR (seqR (seqR (seqR wide_long.C))))))))))) :: .inBlock 0 :: .code (seqR (seqR (seqR (seqR (seqR (seqR (seqR (seqR wide_long.C)))))))) :: []
structure wide_long.OK (h : wide_long.Hs) : Prop where
 l0 : ∀ {H0 H : Hp} {L : Items} {r : (List Int) × (List Int)} {jk_ : Nat → Value} {n : Int} {d : List Int} {r_ : List Int} {q : List Int} {i : Int} {v_d : Value} {v_r_ : Value} {v_q : Value} {i_r_ : Item'} {i_q : Item'} (_ : H0.le H) (_he : h.l0 n d r_ q i = some r) (_h_d : Ro (Kd.int .u32) H v_d d) (_h_r_ : Sl (Kd.int .u32) H 93 i_r_ v_r_ r_) (_h_q : Sl (Kd.int .u32) H 93 i_q v_q q), Wp Tryd.prog 57 86 wide_long.Kl0 (upd (upd (upd (upd (upd (upd (upd jk_ 4 (.slice none 0 0)) 5 (.slice none 0 0)) 8 (.int .i64 n)) 9 (v_d)) 10 (v_r_)) 11 (v_q)) 12 (.int .i64 i)) H (i_q :: i_r_ :: L) (wide_long.R H0 L r)
set_option maxRecDepth 100000 in
set_option maxHeartbeats 2000000 in
theorem wide_long.j2_ok {k : Nat} {h : wide_long.Hs} (hh : wide_long.OK h) {H0 H : Hp} {L : Items} {r : (List Int) × (List Int)} {jk_ : Nat → Value} {n : Int} {d : List Int} {r_ : List Int} {q : List Int} {i : Int} {g : Int} {v_d : Value} {v_r_ : Value} {v_q : Value} {i_r_ : Item'} {i_q : Item'} (hle : H0.le H) (he : wide_long.j2 k h n d r_ q i g = some r) (h_d : Ro (Kd.int .u32) H v_d d) (h_r_ : Sl (Kd.int .u32) H 93 i_r_ v_r_ r_) (h_q : Sl (Kd.int .u32) H 93 i_q v_q q) : Wp Tryd.prog 57 86 wide_long.Kj2 (upd (upd (upd (upd (upd (upd (upd (upd jk_ 4 (.slice none 0 0)) 5 (.slice none 0 0)) 8 (.int .i64 n)) 9 (v_d)) 10 (v_r_)) 11 (v_q)) 12 (.int .i64 i)) 13 (.int .u64 g)) H (i_q :: i_r_ :: L) (wide_long.R H0 L r) := by
 unfold wide_long.j2 at he
 unfold wide_long.Kj2
 refine w_region rfl ?_
 refine w_d rfl (d_move (v := v_q) rfl) ?_
 refine w_d rfl (d_move (v := .int .i64 i) rfl) ?_
 refine w_d rfl (d_move (v := .int .u64 g) rfl) ?_
 refine w_d rfl (d_conv (c := (g) % 4294967296) Tryd.underlying99 Tryd.underlying93 rfl rfl) ?_
 obtain ⟨c98, he⟩ := rq he
 refine w_d rfl (d_indexS (sz := 1) Tryd.underlying28 sz93 rfl h_q.shp rfl c98) ?_
 refine w_a0 rfl (o_storeEl (kd := (Kd.int .u32)) (v := .int .u32 ((g) % 4294967296)) (F := fun z_ => z_ :: i_r_ :: L) sz93 rfl rfl rfl rfl h_q c98 (fun _ => .here)) ?_
 rintro _ _ _ ⟨i99, rfl, rfl, rfl, h100⟩
 refine w_done ?_
 refine w_inBlock ?_
 refine w_region rfl ?_
 refine w_d rfl (d_move (v := .int .i64 i) rfl) ?_
 refine w_d rfl (d_sub (c := w64 (i - 1)) rfl rfl rfl) ?_
 refine w_d rfl (d_assign (v := .int .i64 (w64 (i - 1))) rfl) ?_
 refine w_done ?_
 refine w_inLoop ?_
 refine w_sl 4 (.slice none 0 0) rfl ?_
 refine w_sl 5 (.slice none 0 0) rfl ?_
 refine w_sl 8 (.int .i64 n) rfl ?_
 refine w_sl 9 (v_d) rfl ?_
 refine w_sl 10 (v_r_) rfl ?_
 refine w_sl 11 (v_q) rfl ?_
 refine w_sl 12 (.int .i64 (w64 (i - 1))) rfl ?_
 exact hh.l0 hle he h_d h_r_ h100
set_option maxRecDepth 100000 in
set_option maxHeartbeats 2000000 in
theorem wide_long.b0_ok {k : Nat} {h : wide_long.Hs} (hh : wide_long.OK h) {H0 H : Hp} {L : Items} {r : (List Int) × (List Int)} {jk_ : Nat → Value} {n : Int} {d : List Int} {r_ : List Int} {q : List Int} {i : Int} {v_d : Value} {v_r_ : Value} {v_q : Value} {i_r_ : Item'} {i_q : Item'} (hle : H0.le H) (he : wide_long.b0 k h n d r_ q i = some r) (h_d : Ro (Kd.int .u32) H v_d d) (h_r_ : Sl (Kd.int .u32) H 93 i_r_ v_r_ r_) (h_q : Sl (Kd.int .u32) H 93 i_q v_q q) : Wp Tryd.prog 57 86 wide_long.Kl0 (upd (upd (upd (upd (upd (upd (upd jk_ 4 (.slice none 0 0)) 5 (.slice none 0 0)) 8 (.int .i64 n)) 9 (v_d)) 10 (v_r_)) 11 (v_q)) 12 (.int .i64 i)) H (i_q :: i_r_ :: L) (wide_long.R H0 L r) := by
 unfold wide_long.b0 at he
 unfold wide_long.Kl0
 refine w_seq ?_
 refine w_seq ?_
 refine w_region rfl ?_
 refine w_d rfl (d_move (v := .int .i64 i) rfl) ?_
 refine w_d rfl (d_geq rfl rfl) ?_
 refine w_done ?_
 rcases its he with ⟨c62, he⟩ | ⟨c62, he⟩
 ·
  refine w_then rfl (decide_eq_true c62) ?_
  refine w_skip ?_
  refine w_seq ?_
  refine w_block ?_
  refine w_seq ?_
  refine w_region rfl ?_
  refine w_d rfl (d_move (v := v_r_) rfl) ?_
  refine w_d rfl (d_move (v := v_d) rfl) ?_
  refine w_d rfl (d_move (v := .int .i64 i) rfl) ?_
  obtain ⟨y63, hy64, he⟩ := Option.bind_eq_some_iff.1 he
  refine w_d rfl (call_d (o_call co80 (vs := [v_r_, v_d, .int .i64 i]) rfl (wide_guess.calls k hy64 (h_r_.src (.there .here)) h_d.src))) ?_
  refine w_d rfl (d_assign (v := .int .u64 y63) rfl) ?_
  refine w_done ?_
  refine w_seq ?_
  refine w_seq ?_
  refine w_region rfl ?_
  refine w_d rfl (d_move (v := v_r_) rfl) ?_
  refine w_d rfl (d_move (v := v_d) rfl) ?_
  refine w_d rfl (d_move (v := .int .i64 i) rfl) ?_
  refine w_d rfl (d_move (v := .int .u64 y63) rfl) ?_
  obtain ⟨y67, hy68, he⟩ := Option.bind_eq_some_iff.1 he
  refine w_a rfl (o_call co81 (vs := [v_r_, v_d, .int .i64 i, .int .u64 y63]) rfl (ct_at (F := fun z_ => i_q :: z_ :: L) (wide_takeOff.calls k hy68 h_r_ h_d.src) (.there .here) (fun _ => (.there .here)))) ?_
  rintro _ H69 _ ⟨i71, rfl, e70, h72, rfl⟩
  refine w_done ?_
  rcases its he with ⟨c73, he⟩ | ⟨c73, he⟩
  ·
   refine w_then rfl c73 ?_
   refine w_seq ?_
   refine w_region rfl ?_
   refine w_d rfl (d_move (v := .int .u64 y63) rfl) ?_
   refine w_d rfl (d_sub (c := (y63 - 1) % 18446744073709551616) rfl rfl rfl) ?_
   refine w_d rfl (d_assign (v := .int .u64 ((y63 - 1) % 18446744073709551616)) rfl) ?_
   refine w_done ?_
   refine w_region rfl ?_
   refine w_d rfl (d_move (v := v_r_) rfl) ?_
   refine w_d rfl (d_move (v := v_d) rfl) ?_
   refine w_d rfl (d_move (v := .int .i64 i) rfl) ?_
   obtain ⟨y74, hy75, he⟩ := Option.bind_eq_some_iff.1 he
   refine w_a rfl (o_call co82 (vs := [v_r_, v_d, .int .i64 i]) rfl (ct_at (F := fun z_ => i_q :: z_ :: L) (wide_giveBack.calls k hy75 h72 ((h_d.mono e70).src)) (.there .here) (fun _ => (.there .here)))) ?_
   rintro _ H76 _ ⟨i78, rfl, e77, h79, rfl⟩
   refine w_done ?_
   refine w_sl 4 (.slice none 0 0) rfl ?_
   refine w_sl 5 (.slice none 0 0) rfl ?_
   refine w_sl 8 (.int .i64 n) rfl ?_
   refine w_sl 9 (v_d) rfl ?_
   refine w_sl 10 (v_r_) rfl ?_
   refine w_sl 11 (v_q) rfl ?_
   refine w_sl 12 (.int .i64 i) rfl ?_
   refine w_sl 13 (.int .u64 ((y63 - 1) % 18446744073709551616)) rfl ?_
   exact wide_long.j2_ok (k := k) hh (hle.trans (e70.trans e77)) he (h_d.mono (e70.trans e77)) h79 (h_q.mono (e70.trans e77))
  ·
   refine w_else rfl (Bool.eq_false_iff.2 c73) ?_
   refine w_skip ?_
   refine w_sl 4 (.slice none 0 0) rfl ?_
   refine w_sl 5 (.slice none 0 0) rfl ?_
   refine w_sl 8 (.int .i64 n) rfl ?_
   refine w_sl 9 (v_d) rfl ?_
   refine w_sl 10 (v_r_) rfl ?_
   refine w_sl 11 (v_q) rfl ?_
   refine w_sl 12 (.int .i64 i) rfl ?_
   refine w_sl 13 (.int .u64 y63) rfl ?_
   exact wide_long.j2_ok (k := k) hh (hle.trans e70) he (h_d.mono e70) h72 (h_q.mono e70)
 ·
  refine w_else rfl (decide_eq_false c62) ?_
  refine w_exit rfl ?_
  refine w_seq ?_
  refine w_region rfl ?_
  refine w_d rfl (d_move (v := v_q) rfl) ?_
  refine w_freeze h_q .here ?_
  intro H80 e81 h82
  obtain ⟨y83, hy84, he⟩ := Option.bind_eq_some_iff.1 he
  refine w_a rfl (o_call co64 (vs := [v_q]) rfl (wide_trim.calls k hy84 h82)) ?_
  rintro v87 H85 _ ⟨rfl, e86, h88⟩
  refine w_d rfl (d_move (v := v_r_) rfl) ?_
  refine w_d rfl (d_move (v := .int .i64 n) rfl) ?_
  refine w_freeze (h_r_.mono (e81.trans e86)) (.there .here) ?_
  intro H89 e90 h91
  obtain ⟨y92, hy93, he⟩ := Option.bind_eq_some_iff.1 he
  refine w_a rfl (o_call co63 (vs := [v_r_, .int .i64 n]) rfl (wide_down.calls k hy93 h91)) ?_
  rintro v96 H94 _ ⟨rfl, e95, h97⟩
  refine w_d rfl (d_assign (v := v87) rfl) ?_
  refine w_d rfl (d_assign (v := v96) rfl) ?_
  refine w_done ?_
  obtain rfl := Option.some.inj he
  refine w_return fn_57 rs_57 (.tmp (v := v87) rfl (.tmp (v := v96) rfl .nil)) ?_
  exact ⟨⟨[_, _], rfl⟩, hle.trans (((e81.trans e86).trans e90).trans e95), ⟨v87, v96, rfl, (h88.mono (e90.trans e95)), h97⟩⟩
theorem wide_long.ok : ∀ k, wide_long.OK (wide_long.hs k)
 | 0 => ⟨(by intros; exact nomatch (show none = some _ from by assumption))⟩
 | k + 1 => ⟨wide_long.b0_ok (k := k) (wide_long.ok k)⟩
set_option maxRecDepth 100000 in
set_option maxHeartbeats 2000000 in
theorem wide_long.calls (k : Nat) {H : Hp} {L : Items} {a : List Int} {b : List Int} {v0_a : Value} {v1_b : Value} {r : (List Int) × (List Int)} (he : wide_long.f k a b = some r) (h0_a : Ro (Kd.int .u32) H v0_a a) (h1_b : Src (Kd.int .u32) H L v1_b b) : Ct Tryd.prog 57 ⟨[v0_a, v1_b]⟩ H L (fun v H' L' => L = L' ∧ H.le H' ∧ wide_long.out r H' v) := by
 refine ct_out (O := wide_long.out r) ?_
 have hle : H.le H := .refl _
 have hh := wide_long.ok k
 unfold wide_long.f at he
 refine ct_enter (args := [v0_a, v1_b]) fn_57 rfl nt_57 rfl ?_
 refine w_seq ?_
 refine w_region rfl ?_
 refine w_d rfl (d_assign (v := .slice none 0 0) rfl) ?_
 refine w_d rfl (d_assign (v := .slice none 0 0) rfl) ?_
 refine w_done ?_
 refine w_seq ?_
 refine w_seq ?_
 refine w_region rfl ?_
 refine w_d rfl (d_move (v := v0_a) rfl) ?_
 refine w_d rfl (d_move (v := v1_b) rfl) ?_
 obtain ⟨y1, hy2, he⟩ := Option.bind_eq_some_iff.1 he
 refine w_d rfl (call_d (o_call co47 (vs := [v0_a, v1_b]) rfl (wide_less.calls k hy2 h0_a.src h1_b))) ?_
 refine w_d rfl (d_lss rfl rfl) ?_
 refine w_done ?_
 rcases its he with ⟨c5, he⟩ | ⟨c5, he⟩
 ·
  refine w_then rfl (decide_eq_true c5) ?_
  refine w_seq ?_
  refine w_region rfl ?_
  refine w_d rfl (d_move (v := v0_a) rfl) ?_
  refine w_d rfl (d_assign (v := .slice none 0 0) rfl) ?_
  refine w_d rfl (d_assign (v := v0_a) rfl) ?_
  refine w_done ?_
  obtain rfl := Option.some.inj he
  refine w_return fn_57 rs_57 (.tmp (v := .slice none 0 0) rfl (.tmp (v := v0_a) rfl .nil)) ?_
  exact ⟨⟨[], rfl⟩, hle, ⟨.slice none 0 0, v0_a, rfl, (ro_nil _ _), h0_a⟩⟩
 ·
  refine w_else rfl (decide_eq_false c5) ?_
  refine w_skip ?_
  refine w_seq ?_
  refine w_seq ?_
  refine w_region rfl ?_
  refine w_d rfl (d_move (v := v1_b) rfl) ?_
  refine w_d rfl (d_len Tryd.underlying28 rfl h1_b) ?_
  refine w_d rfl (d_eql rfl rfl) ?_
  refine w_done ?_
  rcases its he with ⟨c6, he⟩ | ⟨c6, he⟩
  ·
   refine w_then rfl (decide_eq_true c6) ?_
   refine w_seq ?_
   refine w_region rfl ?_
   refine w_d rfl (d_move (v := v0_a) rfl) ?_
   refine w_d rfl (d_move (v := v1_b) rfl) ?_
   obtain ⟨c7, he⟩ := rq he
   refine w_d rfl (d_index (sz := 1) Tryd.underlying28 sz93 rfl h1_b rfl c7) ?_
   refine w_d rfl (d_ldint ty93 rfl h1_b c7) ?_
   obtain ⟨y8, hy9, he⟩ := Option.bind_eq_some_iff.1 he
   refine w_a rfl (o_call co76 (vs := [v0_a, .int .u32 (rd b 0)]) rfl (wide_short.calls k hy9 h0_a.src)) ?_
   rintro _ H10 _ ⟨rfl, e11, ⟨v12, rfl, h13⟩⟩
   refine w_d rfl (d_move (v := .tuple ⟨[v12, .int .u32 y8.2]⟩) rfl) ?_
   refine w_d rfl (d_ext (vs := [v12, .int .u32 y8.2]) rfl rfl) ?_
   refine w_d rfl (d_ext (vs := [v12, .int .u32 y8.2]) rfl rfl) ?_
   refine w_d rfl (d_assign (v := v12) rfl) ?_
   refine w_d rfl (d_assign (v := .int .u32 y8.2) rfl) ?_
   refine w_done ?_
   refine w_seq ?_
   refine w_region rfl ?_
   refine w_d rfl (d_move (v := v12) rfl) ?_
   refine w_d rfl (d_move (v := .int .u32 y8.2) rfl) ?_
   refine w_a rfl (o_buildSlice' (kd := (Kd.int .u32)) (css := [[.int .u32 y8.2]]) (xs := [y8.2]) (parts := [(0, .int .u32 y8.2)]) Tryd.underlying28 ti93 rfl ⟨_, _, rfl, rfl, rfl⟩ ⟨rfl, trivial⟩ rfl (by decide)) ?_
   rintro v14 _ _ ⟨i15, rfl, rfl, h16⟩
   refine w_freeze h16 .here ?_
   intro H17 e18 h19
   obtain ⟨y20, hy21, he⟩ := Option.bind_eq_some_iff.1 he
   refine w_a rfl (o_call co64 (vs := [v14]) rfl (wide_trim.calls k hy21 h19)) ?_
   rintro v24 H22 _ ⟨rfl, e23, h25⟩
   refine w_d rfl (d_assign (v := v12) rfl) ?_
   refine w_d rfl (d_assign (v := v24) rfl) ?_
   refine w_done ?_
   obtain rfl := Option.some.inj he
   refine w_return fn_57 rs_57 (.tmp (v := v12) rfl (.tmp (v := v24) rfl .nil)) ?_
   exact ⟨⟨[_], rfl⟩, hle.trans ((e11.trans e18).trans e23), ⟨v12, v24, rfl, (h13.mono (e18.trans e23)), h25⟩⟩
  ·
   refine w_else rfl (decide_eq_false c6) ?_
   refine w_skip ?_
   refine w_seq ?_
   refine w_region rfl ?_
   refine w_d rfl (d_move (v := v1_b) rfl) ?_
   refine w_d rfl (d_move (v := v1_b) rfl) ?_
   refine w_d rfl (d_len Tryd.underlying28 rfl h1_b) ?_
   refine w_d rfl (d_sub (c := w64 ((b.length : Int) - 1)) rfl rfl rfl) ?_
   obtain ⟨c26, he⟩ := rq he
   refine w_d rfl (d_index (sz := 1) Tryd.underlying28 sz93 rfl h1_b rfl c26) ?_
   refine w_d rfl (d_ldint ty93 rfl h1_b c26) ?_
   obtain ⟨y27, hy28, he⟩ := Option.bind_eq_some_iff.1 he
   refine w_d rfl (call_d (o_call co79 (vs := [.int .u32 (rd b (w64 ((b.length : Int) - 1)))]) rfl (bits_LeadingZeros32.calls k hy28))) ?_
   refine w_d rfl (d_assign (v := .int .i64 y27) rfl) ?_
   refine w_done ?_
   refine w_seq ?_
   refine w_region rfl ?_
   refine w_d rfl (d_move (v := v1_b) rfl) ?_
   refine w_d rfl (d_move (v := .int .i64 y27) rfl) ?_
   obtain ⟨y31, hy32, he⟩ := Option.bind_eq_some_iff.1 he
   refine w_a rfl (o_call co60 (vs := [v1_b, .int .i64 y27]) rfl (wide_up.calls k hy32 h1_b)) ?_
   rintro v37 H33 _ ⟨i38, rfl, e34, h39⟩
   refine w_freeze h39 .here ?_
   intro H40 e41 h42
   obtain ⟨y43, hy44, he⟩ := Option.bind_eq_some_iff.1 he
   refine w_a rfl (o_call co64 (vs := [v37]) rfl (wide_trim.calls k hy44 h42)) ?_
   rintro v47 H45 _ ⟨rfl, e46, h48⟩
   refine w_d rfl (d_assign (v := v47) rfl) ?_
   refine w_done ?_
   refine w_seq ?_
   refine w_region rfl ?_
   refine w_d rfl (d_move (v := v0_a) rfl) ?_
   refine w_d rfl (d_move (v := .int .i64 y27) rfl) ?_
   obtain ⟨y49, hy50, he⟩ := Option.bind_eq_some_iff.1 he
   refine w_a rfl (o_call co60 (vs := [v0_a, .int .i64 y27]) rfl (wide_up.calls k hy50 ((h0_a.mono ((e34.trans e41).trans e46)).src))) ?_
   rintro v55 H51 _ ⟨i56, rfl, e52, h57⟩
   refine w_d rfl (d_assign (v := v55) rfl) ?_
   refine w_done ?_
   refine w_seq ?_
   refine w_region rfl ?_
   refine w_d rfl (d_move (v := v55) rfl) ?_
   refine w_d rfl (d_lenS Tryd.underlying28 rfl h57.shp) ?_
   refine w_d rfl (d_move (v := v47) rfl) ?_
   refine w_d rfl (d_len Tryd.underlying28 rfl (h48.mono e52).src) ?_
   refine w_d rfl (d_sub (c := w64 ((y49.length : Int) - (y43.length : Int))) rfl rfl rfl) ?_
   obtain ⟨c58, he⟩ := rq he
   refine w_a rfl (o_make' (kd := (Kd.int .u32)) (z0 := 0) Tryd.underlying28 ti93 (zp93 _) rfl rfl (by omega) (by omega) (by omega)) ?_
   rintro v59 _ _ ⟨i60, rfl, rfl, h61⟩
   refine w_d rfl (d_assign (v := v59) rfl) ?_
   refine w_done ?_
   refine w_seq ?_
   refine w_seq ?_
   refine w_region rfl ?_
   refine w_d rfl (d_move (v := v59) rfl) ?_
   refine w_d rfl (d_lenS Tryd.underlying28 rfl h61.shp) ?_
   refine w_d rfl (d_sub (c := w64 (((List.replicate (w64 ((y49.length : Int) - (y43.length : Int)) : Int).toNat (0 : Int)).length : Int) - 1)) rfl rfl rfl) ?_
   refine w_d rfl (d_assign (v := .int .i64 (w64 (((List.replicate (w64 ((y49.length : Int) - (y43.length : Int)) : Int).toNat (0 : Int)).length : Int) - 1))) rfl) ?_
   refine w_done ?_
   refine w_block ?_
   refine w_loop ?_
   refine w_del (.there (.there .here)) ?_
   refine w_sl 4 (.slice none 0 0) rfl ?_
   refine w_sl 5 (.slice none 0 0) rfl ?_
   refine w_sl 8 (.int .i64 y27) rfl ?_
   refine w_sl 9 (v47) rfl ?_
   refine w_sl 10 (v55) rfl ?_
   refine w_sl 11 (v59) rfl ?_
   refine w_sl 12 (.int .i64 (w64 (((List.replicate (w64 ((y49.length : Int) - (y43.length : Int)) : Int).toNat (0 : Int)).length : Int) - 1))) rfl ?_
   exact hh.l0 (hle.trans (((e34.trans e41).trans e46).trans e52)) he (h48.mono e52) h57 h61
/-! ### (radome/wide.Int).Div -/
noncomputable def wide_Int_Div.C : Code := (Tryd.f22.body).getD .skip
def wide_Int_Div.out (r : wide_Int × wide_Int × (Option Int)) (H : Hp) (v : Value) : Prop := ∃ v0, ∃ v1, v = .tuple ⟨[.agg ⟨[.bool r.1.f_neg, v0]⟩, .agg ⟨[.bool r.2.1.f_neg, v1]⟩, errV 89 r.2.2]⟩ ∧ Ro (Kd.int .u32) H v0 r.1.f_w ∧ Ro (Kd.int .u32) H v1 r.2.1.f_w
theorem wide_Int_Div.out_mono (r : wide_Int × wide_Int × (Option Int)) {H H' : Hp} {v : Value} (hle : H.le H') (h : wide_Int_Div.out r H v) : wide_Int_Div.out r H' v := by
 obtain ⟨v0, v1, rfl, h0, h1⟩ := h; exact ⟨v0, v1, rfl, h0.mono hle, h1.mono hle⟩
abbrev wide_Int_Div.R (H0 : Hp) (L : Items) (r : wide_Int × wide_Int × (Option Int)) : Value → Hp → Items → Prop := fun v H' L' => (∃ p, L' = p ++ L) ∧ H0.le H' ∧ wide_Int_Div.out r H' v
noncomputable def wide_Int_Div.j1 (k : Nat)  (b_0 : Bool) (b_1 : List Int) (r_ : List Int) (x_0 : Bool) (x_1 : List Int) (one_0 : Bool) (one_1 : List Int) : Option (wide_Int × wide_Int × (Option Int)) := (wide_Int_Add.f k (⟨x_0, x_1⟩ : wide_Int) (⟨one_0, one_1⟩ : wide_Int)).bind fun y50 => if y50.2.isSome = true then (some ((⟨false, []⟩ : wide_Int), (⟨false, []⟩ : wide_Int), y50.2)) else ((wide_minus.f k b_1 r_).bind fun y57 => some ((⟨y50.1.f_neg, y50.1.f_w⟩ : wide_Int), (⟨false, y57⟩ : wide_Int), none))
noncomputable def wide_Int_Div.f (k : Nat) (a : wide_Int) (b : wide_Int) : Option (wide_Int × wide_Int × (Option Int)) := if (b.f_w.length : Int) = 0 then (some ((⟨false, []⟩ : wide_Int), (⟨false, []⟩ : wide_Int), some 11)) else ((wide_long.f k a.f_w b.f_w).bind fun y6 => (wide_made.f k (!(a.f_neg == b.f_neg)) y6.1).bind fun y14 => if y14.2.isSome = true then (some ((⟨false, []⟩ : wide_Int), (⟨false, []⟩ : wide_Int), y14.2)) else (if ((!a.f_neg) || (decide ((y6.2.length : Int) = 0))) = true then ((slices_Clone_uint32_uint32.f k y6.2).bind fun y26 => some ((⟨y14.1.f_neg, y14.1.f_w⟩ : wide_Int), (⟨false, y26⟩ : wide_Int), none)) else ((wide_Of.f k 1).bind fun y36 => if (!b.f_neg) = true then ((wide_Int_Neg.f k (⟨y36.f_neg, y36.f_w⟩ : wide_Int)).bind fun y44 => wide_Int_Div.j1 k b.f_neg b.f_w y6.2 y14.1.f_neg y14.1.f_w y44.f_neg y44.f_w) else (wide_Int_Div.j1 k b.f_neg b.f_w y6.2 y14.1.f_neg y14.1.f_w y36.f_neg y36.f_w))))
theorem wide_Int_Div.j1_mono {k : Nat} : ∀ y0 y1 y2 y3 y4 y5 y6, LeO (wide_Int_Div.j1 k y0 y1 y2 y3 y4 y5 y6) (wide_Int_Div.j1 (k + 1) y0 y1 y2 y3 y4 y5 y6) := fun _ _ _ _ _ _ _ => (LeO.bind (wide_Int_Add.mono k _ _) fun _ => LeO.ite (LeO.refl _) (LeO.bind (wide_minus.mono k _ _) fun _ => LeO.refl _))
theorem wide_Int_Div.mono : ∀ k y0 y1, LeO (wide_Int_Div.f k y0 y1) (wide_Int_Div.f (k + 1) y0 y1) := fun k _ _ => by unfold wide_Int_Div.f; exact (LeO.ite (LeO.refl _) (LeO.bind (wide_long.mono k _ _) fun _ => LeO.bind (wide_made.mono k _ _) fun _ => LeO.ite (LeO.refl _) (LeO.ite (LeO.bind (slices_Clone_uint32_uint32.mono k _) fun _ => LeO.refl _) (LeO.bind (wide_Of.mono k _) fun _ => LeO.ite (LeO.bind (wide_Int_Neg.mono k _) fun _ => wide_Int_Div.j1_mono (k := k)  _ _ _ _ _ _ _) (wide_Int_Div.j1_mono (k := k)  _ _ _ _ _ _ _)))))
noncomputable def wide_Int_Div.Kj1 : List Item := .code (seqR (seqR (seqR (seqR (seqR (seqR (seqR (seqR wide_Int_Div.C)))))))) :: []
set_option maxRecDepth 100000 in
set_option maxHeartbeats 2000000 in
theorem wide_Int_Div.j1_ok {k : Nat} {H0 H : Hp} {L : Items} {r : wide_Int × wide_Int × (Option Int)} {jk_ : Nat → Value} {b_0 : Bool} {b_1 : List Int} {r_ : List Int} {x_0 : Bool} {x_1 : List Int} {one_0 : Bool} {one_1 : List Int} {v_b_1 : Value} {v_r_ : Value} {v_x_1 : Value} {v_one_1 : Value} {b_b : Nat} {b_t4 : Nat} {b_t5 : Nat} {b_x : Nat} {b_one_ : Nat} (hle : H0.le H) (he : wide_Int_Div.j1 k b_0 b_1 r_ x_0 x_1 one_0 one_1 = some r) (h_b_1 : Ro (Kd.int .u32) H v_b_1 b_1) (h_r_ : Ro (Kd.int .u32) H v_r_ r_) (h_x_1 : Ro (Kd.int .u32) H v_x_1 x_1) (h_one_1 : Ro (Kd.int .u32) H v_one_1 one_1) : Wp Tryd.prog 22 77 wide_Int_Div.Kj1 (upd (upd (upd (upd (upd (upd (upd jk_ 3 (.pointer (some ⟨b_b, 0, none⟩))) 4 (.pointer (some ⟨b_t4, 0, none⟩))) 5 (.pointer (some ⟨b_t5, 0, none⟩))) 6 (errV 89 none)) 8 (v_r_)) 9 (.pointer (some ⟨b_x, 0, none⟩))) 11 (.pointer (some ⟨b_one_, 0, none⟩))) H (some (b_one_, .cells ⟨[.bool one_0, v_one_1]⟩ 30 (0, 0)) :: some (b_x, .cells ⟨[.bool x_0, v_x_1]⟩ 30 (0, 0)) :: some (b_t5, .cells ⟨[.bool false, .slice none 0 0]⟩ 30 (0, 0)) :: some (b_t4, .cells ⟨[.bool false, .slice none 0 0]⟩ 30 (0, 0)) :: some (b_b, .cells ⟨[.bool b_0, v_b_1]⟩ 30 (0, 0)) :: L) (wide_Int_Div.R H0 L r) := by
 unfold wide_Int_Div.j1 at he
 unfold wide_Int_Div.Kj1
 refine w_seq ?_
 refine w_region rfl ?_
 refine w_d rfl (d_loado (v := .agg ⟨[.bool x_0, v_x_1]⟩) ty30 rfl (.there .here) rfl rfl rfl rfl) ?_
 refine w_d rfl (d_loado (v := .agg ⟨[.bool one_0, v_one_1]⟩) ty30 rfl .here rfl rfl rfl rfl) ?_
 obtain ⟨y50, hy51, he⟩ := Option.bind_eq_some_iff.1 he
 refine w_a rfl (o_call co9 (vs := [.agg ⟨[.bool x_0, v_x_1]⟩, .agg ⟨[.bool one_0, v_one_1]⟩]) rfl (wide_Int_Add.calls k (a := (⟨x_0, x_1⟩ : wide_Int)) (b := (⟨one_0, one_1⟩ : wide_Int)) hy51 h_x_1 h_one_1)) ?_
 rintro _ H52 _ ⟨rfl, e53, ⟨v54, rfl, h55⟩⟩
 refine w_d rfl (d_move (v := .tuple ⟨[.agg ⟨[.bool y50.1.f_neg, v54]⟩, errV 89 y50.2]⟩) rfl) ?_
 refine w_d rfl (d_ext (vs := [.agg ⟨[.bool y50.1.f_neg, v54]⟩, errV 89 y50.2]) rfl rfl) ?_
 refine w_d rfl (d_ext (vs := [.agg ⟨[.bool y50.1.f_neg, v54]⟩, errV 89 y50.2]) rfl rfl) ?_
 refine w_a0 rfl (o_store (v := .agg ⟨[.bool y50.1.f_neg, v54]⟩) sz30 rfl rfl rfl rfl (one_cons rfl (one_cons (h55.one) one_nil)) (.there .here) (.here (.here .done))) ?_
 rintro _ _ _ ⟨rfl, rfl, rfl⟩
 refine w_d rfl (d_assign (v := errV 89 y50.2) rfl) ?_
 refine w_done ?_
 refine w_seq ?_
 refine w_seq ?_
 refine w_region rfl ?_
 refine w_d rfl (d_move (v := errV 89 y50.2) rfl) ?_
 refine w_d rfl (d_nenil (e := y50.2) Tryd.underlying33 rfl) ?_
 refine w_done ?_
 rcases its he with ⟨c56, he⟩ | ⟨c56, he⟩
 ·
  refine w_then rfl c56 ?_
  refine w_seq ?_
  refine w_region rfl ?_
  refine w_d rfl (d_build (cs' := [.bool false, .slice none 0 0]) Tryd.underlying30 zr30 rfl (by kernel_rfl) (parts := []) rfl .nil) ?_
  refine w_d rfl (d_build (cs' := [.bool false, .slice none 0 0]) Tryd.underlying30 zr30 rfl (by kernel_rfl) (parts := []) rfl .nil) ?_
  refine w_d rfl (d_move (v := errV 89 y50.2) rfl) ?_
  refine w_a0 rfl (o_store (v := .agg ⟨[.bool false, .slice none 0 0]⟩) sz30 rfl rfl rfl rfl (one_cons rfl (one_cons rfl one_nil)) (.there (.there (.there .here))) (.here (.here .done))) ?_
  rintro _ _ _ ⟨rfl, rfl, rfl⟩
  refine w_a0 rfl (o_store (v := .agg ⟨[.bool false, .slice none 0 0]⟩) sz30 rfl rfl rfl rfl (one_cons rfl (one_cons rfl one_nil)) (.there (.there .here)) (.here (.here .done))) ?_
  rintro _ _ _ ⟨rfl, rfl, rfl⟩
  refine w_d rfl (d_assign (v := errV 89 y50.2) rfl) ?_
  refine w_done ?_
  obtain rfl := Option.some.inj he
  refine w_return fn_22 rs_22 (.box (v := .agg ⟨[.bool false, .slice none 0 0]⟩) rfl ty30 rfl rfl (.there (.there (.there .here))) rfl (.box (v := .agg ⟨[.bool false, .slice none 0 0]⟩) rfl ty30 rfl rfl (.there (.there .here)) rfl (.tmp (v := errV 89 y50.2) rfl .nil))) ?_
  exact ⟨⟨[_, _, _, _, _], rfl⟩, hle.trans e53, ⟨.slice none 0 0, .slice none 0 0, rfl, (ro_nil _ _), (ro_nil _ _)⟩⟩
 ·
  refine w_else rfl (Bool.eq_false_iff.2 c56) ?_
  refine w_skip ?_
  refine w_seq ?_
  obtain ⟨y57, hy58, he⟩ := Option.bind_eq_some_iff.1 he
  refine w_drawn (p := 7) (tl := [7, 8]) [[], [], [(1, some 72)], [], [(2, some 73), (3, some 74)], [(4, some 75)], [(0, some 71)]] [some 71, some 72, some 73, some 74, some 75, some 76, none] (fctF (.is (.agg ⟨[.bool y50.1.f_neg, v54]⟩) :: .is (.pointer (some ⟨b_b, 1, none⟩)) :: .is (v_b_1) :: .is (v_r_) :: .ro (Kd.int .u32) (y57) :: .of (fun H v => ∃ v63, v = .agg ⟨[.bool false, v63]⟩ ∧ Ro (Kd.int .u32) H v63 y57) (by rintro _ _ _ hle ⟨v63, rfl, h64⟩; exact ⟨v63, rfl, h64.mono hle⟩) :: .itm (fun H it => it = some (b_t4, .cells ⟨[.bool y50.1.f_neg, v54]⟩ 30 (0, 0))) (by rintro _ _ _ hle rfl; exact rfl) :: [])) (fun m_ => some (b_one_, .cells ⟨[.bool one_0, v_one_1]⟩ 30 (0, 0)) :: some (b_x, .cells ⟨[.bool y50.1.f_neg, v54]⟩ 30 (0, 0)) :: some (b_t5, .cells ⟨[.bool false, .slice none 0 0]⟩ 30 (0, 0)) :: m_ 6 :: some (b_b, .cells ⟨[.bool b_0, v_b_1]⟩ 30 (0, 0)) :: L) (fun i_ => if i_ = 6 then some (b_t4, .cells ⟨[.bool false, .slice none 0 0]⟩ 30 (0, 0)) else none) mixed (by kernel_rfl) (by kernel_rfl) rfl (fct_mono (by kernel_rfl)) ⟨(by intro H' m_ hH hm_ hu_; refine depK_nil ?_; exact s_d (m_ 0) rfl (d_loado (v := .agg ⟨[.bool y50.1.f_neg, v54]⟩) ty30 rfl (.there .here) rfl rfl rfl rfl) (by exact rfl) rfl), (by intro H' m_ hH hm_ hu_; refine depK_nil ?_; exact s_d (m_ 1) rfl (d_fld (o' := 1) Tryd.underlying30 rfl sz28 rfl rfl rfl) (by exact rfl) rfl), (by intro H' m_ hH hm_ hu_; rintro _ rfl; refine depK_nil ?_; exact s_d (m_ 2) rfl (d_loado (v := v_b_1) ty28 rfl (.there (.there (.there (.there .here)))) rfl rfl rfl rfl) (by exact rfl) rfl), (by intro H' m_ hH hm_ hu_; refine depK_nil ?_; exact s_d (m_ 3) rfl (d_move (v := v_r_) rfl) (by exact rfl) rfl), (by intro H' m_ hH hm_ hu_; rintro _ rfl _ rfl; refine depK_nil ?_; exact s_k (m_ 4) rfl (o_call co48 (vs := [v_b_1, v_r_]) rfl (wide_minus.calls k hy58 ((h_b_1.mono (e53.trans hH)).src) ((h_r_.mono (e53.trans hH)).src))) rfl (by rintro v_ H_ _ ⟨rfl, e_, h_⟩; exact ⟨rfl, e_, h_⟩)), (by intro H' m_ hH hm_ hu_; rintro v61 (h62 : Ro (Kd.int .u32) H' v61 y57); refine depK_nil ?_; exact s_d (m_ 5) rfl (d_build (cs' := [.bool false, v61]) Tryd.underlying30 zr30 rfl (by kernel_rfl) (parts := [(0, .bool false), (1, v61)]) rfl (.cons (place_of rfl sz4 rfl) rfl rfl (.here .done) (.cons (place_of rfl sz28 rfl) h62.cells rfl (.there (.here .done)) .nil))) (by exact ⟨v61, rfl, h62⟩) rfl), (by intro H' m_ hH hm_ hu_; rintro _ rfl; refine depK_nil ?_; exact s_store (some (b_t4, .cells ⟨[.bool y50.1.f_neg, v54]⟩ 30 (0, 0))) hm_ rfl (o_store (v := .agg ⟨[.bool y50.1.f_neg, v54]⟩) sz30 rfl rfl rfl rfl (one_cons rfl (one_cons (h55.one) one_nil)) (.there (.there (.there .here))) (.here (.here .done))) rfl (by exact ⟨rfl, rfl⟩)), trivial⟩ ?_
  intro H65 e66
  rintro _ _ rfl _ _ rfl _ _ rfl _ _ rfl v61 _ (h62 : Ro (Kd.int .u32) H65 v61 y57) _ _ ⟨v63, rfl, h64⟩ _ _ ⟨rfl, rfl⟩
  refine w_it (L' := some (b_one_, .cells ⟨[.bool one_0, v_one_1]⟩ 30 (0, 0)) :: some (b_x, .cells ⟨[.bool y50.1.f_neg, v54]⟩ 30 (0, 0)) :: some (b_t5, .cells ⟨[.bool false, .slice none 0 0]⟩ 30 (0, 0)) :: some (b_t4, .cells ⟨[.bool y50.1.f_neg, v54]⟩ 30 (0, 0)) :: some (b_b, .cells ⟨[.bool b_0, v_b_1]⟩ 30 (0, 0)) :: L) rfl ?_
  refine w_a0 rfl (o_store (v := .agg ⟨[.bool false, v63]⟩) sz30 rfl rfl rfl rfl (one_cons rfl (one_cons (h64.one) one_nil)) (.there (.there .here)) (.here (.here .done))) ?_
  rintro _ _ _ ⟨rfl, rfl, rfl⟩
  refine w_d rfl (d_assign (v := errV 89 none) rfl) ?_
  refine w_done ?_
  obtain rfl := Option.some.inj he
  refine w_return fn_22 rs_22 (.box (v := .agg ⟨[.bool y50.1.f_neg, v54]⟩) rfl ty30 rfl rfl (.there (.there (.there .here))) rfl (.box (v := .agg ⟨[.bool false, v63]⟩) rfl ty30 rfl rfl (.there (.there .here)) rfl (.tmp (v := errV 89 none) rfl .nil))) ?_
  exact ⟨⟨[_, _, _, _, _], rfl⟩, hle.trans (e53.trans e66), ⟨v54, v63, rfl, (h55.mono e66), h64⟩⟩
set_option maxRecDepth 100000 in
set_option maxHeartbeats 2000000 in
theorem wide_Int_Div.calls (k : Nat) {H : Hp} {L : Items} {a : wide_Int} {b : wide_Int} {v0_a : Value} {v1_b : Value} {r : wide_Int × wide_Int × (Option Int)} (he : wide_Int_Div.f k a b = some r) (h0_a : Ro (Kd.int .u32) H v0_a a.f_w) (h1_b : Ro (Kd.int .u32) H v1_b b.f_w) : Ct Tryd.prog 22 ⟨[.agg ⟨[.bool a.f_neg, v0_a]⟩, .agg ⟨[.bool b.f_neg, v1_b]⟩]⟩ H L (fun v H' L' => L = L' ∧ H.le H' ∧ wide_Int_Div.out r H' v) := by
 refine ct_out (O := wide_Int_Div.out r) ?_
 have hle : H.le H := .refl _
 unfold wide_Int_Div.f at he
 refine ct_enter (args := [.agg ⟨[.bool a.f_neg, v0_a]⟩, .agg ⟨[.bool b.f_neg, v1_b]⟩]) fn_22 rfl nt_22 rfl ?_
 refine w_seq ?_
 refine w_region rfl ?_
 refine w_a rfl (o_box (v := .agg ⟨[.bool a.f_neg, v0_a]⟩) rfl rfl) ?_
 rintro _ _ _ ⟨b1, rfl, rfl, rfl⟩
 refine w_a rfl (o_box (v := .agg ⟨[.bool b.f_neg, v1_b]⟩) rfl rfl) ?_
 rintro _ _ _ ⟨b2, rfl, rfl, rfl⟩
 refine w_a rfl (o_alloc zr30 rfl) ?_
 rintro _ _ _ ⟨b3, rfl, rfl, rfl⟩
 refine w_a rfl (o_alloc zr30 rfl) ?_
 rintro _ _ _ ⟨b4, rfl, rfl, rfl⟩
 refine w_d rfl (d_assign (v := errV 89 none) rfl) ?_
 refine w_done ?_
 refine w_seq ?_
 refine w_seq ?_
 refine w_region rfl ?_
 refine w_d rfl (d_fld (o' := 1) Tryd.underlying30 rfl sz28 rfl rfl rfl) ?_
 refine w_d rfl (d_loado (v := v1_b) ty28 rfl (.there (.there .here)) rfl rfl rfl rfl) ?_
 refine w_d rfl (d_len Tryd.underlying28 rfl h1_b.src) ?_
 refine w_d rfl (d_eql rfl rfl) ?_
 refine w_done ?_
 rcases its he with ⟨c5, he⟩ | ⟨c5, he⟩
 ·
  refine w_then rfl (decide_eq_true c5) ?_
  refine w_seq ?_
  refine w_region rfl ?_
  refine w_d rfl (d_build (cs' := [.bool false, .slice none 0 0]) Tryd.underlying30 zr30 rfl (by kernel_rfl) (parts := []) rfl .nil) ?_
  refine w_d rfl (d_build (cs' := [.bool false, .slice none 0 0]) Tryd.underlying30 zr30 rfl (by kernel_rfl) (parts := []) rfl .nil) ?_
  refine w_d rfl (d_iface (v := .int .i64 11) Tryd.underlying89 rfl rfl) ?_
  refine w_a0 rfl (o_store (v := .agg ⟨[.bool false, .slice none 0 0]⟩) sz30 rfl rfl rfl rfl (one_cons rfl (one_cons rfl one_nil)) (.there .here) (.here (.here .done))) ?_
  rintro _ _ _ ⟨rfl, rfl, rfl⟩
  refine w_a0 rfl (o_store (v := .agg ⟨[.bool false, .slice none 0 0]⟩) sz30 rfl rfl rfl rfl (one_cons rfl (one_cons rfl one_nil)) .here (.here (.here .done))) ?_
  rintro _ _ _ ⟨rfl, rfl, rfl⟩
  refine w_d rfl (d_assign (v := errV 89 (some 11)) rfl) ?_
  refine w_done ?_
  obtain rfl := Option.some.inj he
  refine w_return fn_22 rs_22 (.box (v := .agg ⟨[.bool false, .slice none 0 0]⟩) rfl ty30 rfl rfl (.there .here) rfl (.box (v := .agg ⟨[.bool false, .slice none 0 0]⟩) rfl ty30 rfl rfl .here rfl (.tmp (v := errV 89 (some 11)) rfl .nil))) ?_
  exact ⟨⟨[_, _, _, _], rfl⟩, hle, ⟨.slice none 0 0, .slice none 0 0, rfl, (ro_nil _ _), (ro_nil _ _)⟩⟩
 ·
  refine w_else rfl (decide_eq_false c5) ?_
  refine w_skip ?_
  refine w_seq ?_
  refine w_region rfl ?_
  refine w_d rfl (d_fld (o' := 1) Tryd.underlying30 rfl sz28 rfl rfl rfl) ?_
  refine w_d rfl (d_loado (v := v0_a) ty28 rfl (.there (.there (.there .here))) rfl rfl rfl rfl) ?_
  refine w_d rfl (d_fld (o' := 1) Tryd.underlying30 rfl sz28 rfl rfl rfl) ?_
  refine w_d rfl (d_loado (v := v1_b) ty28 rfl (.there (.there .here)) rfl rfl rfl rfl) ?_
  obtain ⟨y6, hy7, he⟩ := Option.bind_eq_some_iff.1 he
  refine w_a rfl (o_call co57 (vs := [v0_a, v1_b]) rfl (wide_long.calls k hy7 h0_a h1_b.src)) ?_
  rintro _ H8 _ ⟨rfl, e9, ⟨v10, v12, rfl, h11, h13⟩⟩
  refine w_d rfl (d_move (v := .tuple ⟨[v10, v12]⟩) rfl) ?_
  refine w_d rfl (d_ext (vs := [v10, v12]) rfl rfl) ?_
  refine w_d rfl (d_ext (vs := [v10, v12]) rfl rfl) ?_
  refine w_d rfl (d_assign (v := v10) rfl) ?_
  refine w_d rfl (d_assign (v := v12) rfl) ?_
  refine w_done ?_
  refine w_seq ?_
  refine w_region rfl ?_
  refine w_d rfl (d_fld (o' := 0) Tryd.underlying30 rfl sz4 rfl rfl rfl) ?_
  refine w_d rfl (d_loado (v := .bool a.f_neg) ty4 rfl (.there (.there (.there .here))) rfl rfl rfl rfl) ?_
  refine w_d rfl (d_fld (o' := 0) Tryd.underlying30 rfl sz4 rfl rfl rfl) ?_
  refine w_d rfl (d_loado (v := .bool b.f_neg) ty4 rfl (.there (.there .here)) rfl rfl rfl rfl) ?_
  refine w_d rfl (d_neb (a := a.f_neg) (b := b.f_neg) Tryd.underlying4 rfl rfl) ?_
  refine w_d rfl (d_move (v := v10) rfl) ?_
  obtain ⟨y14, hy15, he⟩ := Option.bind_eq_some_iff.1 he
  refine w_a rfl (o_call co45 (vs := [.bool (!(a.f_neg == b.f_neg)), v10]) rfl (wide_made.calls k hy15 h11)) ?_
  rintro _ H16 _ ⟨rfl, e17, ⟨v18, rfl, h19⟩⟩
  refine w_d rfl (d_move (v := .tuple ⟨[.agg ⟨[.bool y14.1.f_neg, v18]⟩, errV 89 y14.2]⟩) rfl) ?_
  refine w_d rfl (d_ext (vs := [.agg ⟨[.bool y14.1.f_neg, v18]⟩, errV 89 y14.2]) rfl rfl) ?_
  refine w_d rfl (d_ext (vs := [.agg ⟨[.bool y14.1.f_neg, v18]⟩, errV 89 y14.2]) rfl rfl) ?_
  refine w_a rfl (o_alloc zr30 rfl) ?_
  rintro _ _ _ ⟨b20, rfl, rfl, rfl⟩
  refine w_a0 rfl (o_store (v := .agg ⟨[.bool y14.1.f_neg, v18]⟩) sz30 rfl rfl rfl rfl (one_cons rfl (one_cons (h19.one) one_nil)) .here (.here (.here .done))) ?_
  rintro _ _ _ ⟨rfl, rfl, rfl⟩
  refine w_d rfl (d_assign (v := errV 89 y14.2) rfl) ?_
  refine w_done ?_
  refine w_seq ?_
  refine w_seq ?_
  refine w_region rfl ?_
  refine w_d rfl (d_move (v := errV 89 y14.2) rfl) ?_
  refine w_d rfl (d_nenil (e := y14.2) Tryd.underlying33 rfl) ?_
  refine w_done ?_
  rcases its he with ⟨c21, he⟩ | ⟨c21, he⟩
  ·
   refine w_then rfl c21 ?_
   refine w_seq ?_
   refine w_region rfl ?_
   refine w_d rfl (d_build (cs' := [.bool false, .slice none 0 0]) Tryd.underlying30 zr30 rfl (by kernel_rfl) (parts := []) rfl .nil) ?_
   refine w_d rfl (d_build (cs' := [.bool false, .slice none 0 0]) Tryd.underlying30 zr30 rfl (by kernel_rfl) (parts := []) rfl .nil) ?_
   refine w_d rfl (d_move (v := errV 89 y14.2) rfl) ?_
   refine w_a0 rfl (o_store (v := .agg ⟨[.bool false, .slice none 0 0]⟩) sz30 rfl rfl rfl rfl (one_cons rfl (one_cons rfl one_nil)) (.there (.there .here)) (.here (.here .done))) ?_
   rintro _ _ _ ⟨rfl, rfl, rfl⟩
   refine w_a0 rfl (o_store (v := .agg ⟨[.bool false, .slice none 0 0]⟩) sz30 rfl rfl rfl rfl (one_cons rfl (one_cons rfl one_nil)) (.there .here) (.here (.here .done))) ?_
   rintro _ _ _ ⟨rfl, rfl, rfl⟩
   refine w_d rfl (d_assign (v := errV 89 y14.2) rfl) ?_
   refine w_done ?_
   obtain rfl := Option.some.inj he
   refine w_return fn_22 rs_22 (.box (v := .agg ⟨[.bool false, .slice none 0 0]⟩) rfl ty30 rfl rfl (.there (.there .here)) rfl (.box (v := .agg ⟨[.bool false, .slice none 0 0]⟩) rfl ty30 rfl rfl (.there .here) rfl (.tmp (v := errV 89 y14.2) rfl .nil))) ?_
   exact ⟨⟨[_, _, _, _, _], rfl⟩, hle.trans (e9.trans e17), ⟨.slice none 0 0, .slice none 0 0, rfl, (ro_nil _ _), (ro_nil _ _)⟩⟩
  ·
   refine w_else rfl (Bool.eq_false_iff.2 c21) ?_
   refine w_skip ?_
   refine w_seq ?_
   refine w_seq ?_
   refine w_region rfl ?_
   refine w_d rfl (d_fld (o' := 0) Tryd.underlying30 rfl sz4 rfl rfl rfl) ?_
   refine w_d rfl (d_loado (v := .bool a.f_neg) ty4 rfl (.there (.there (.there (.there .here)))) rfl rfl rfl rfl) ?_
   refine w_d rfl (d_not (b := a.f_neg) rfl) ?_
   refine w_d rfl (d_move (v := .bool (!a.f_neg)) rfl) ?_
   refine w_g (g := !(!a.f_neg)) rfl rfl rfl wn_f (fun g22 => d_move (v := v12) rfl) ?_
   refine w_g (g := !(!a.f_neg)) rfl rfl rfl wn_f (fun g23 => d_len Tryd.underlying28 (cvt g23) (h13.mono e17).src) ?_
   refine w_g (g := !(!a.f_neg)) rfl rfl rfl wn_f (fun g24 => d_eql (cvt g24) rfl) ?_
   refine w_d rfl (d_or' (b := (!a.f_neg)) (p := (decide ((y6.2.length : Int) = 0))) rfl rfl rfl) ?_
   refine w_done ?_
   rcases its he with ⟨c25, he⟩ | ⟨c25, he⟩
   ·
    refine w_then rfl c25 ?_
    refine w_seq ?_
    obtain ⟨y26, hy27, he⟩ := Option.bind_eq_some_iff.1 he
    refine w_drawn (p := 5) (tl := [5, 6]) [[], [], [(1, some 51)], [(2, some 52)], [(0, some 50)]] [some 50, some 51, some 52, some 53, none] (fctF (.is (.agg ⟨[.bool y14.1.f_neg, v18]⟩) :: .is (v12) :: .ro (Kd.int .u32) (y26) :: .of (fun H v => ∃ v32, v = .agg ⟨[.bool false, v32]⟩ ∧ Ro (Kd.int .u32) H v32 y26) (by rintro _ _ _ hle ⟨v32, rfl, h33⟩; exact ⟨v32, rfl, h33.mono hle⟩) :: .itm (fun H it => it = some (b3, .cells ⟨[.bool y14.1.f_neg, v18]⟩ 30 (0, 0))) (by rintro _ _ _ hle rfl; exact rfl) :: [])) (fun m_ => some (b20, .cells ⟨[.bool y14.1.f_neg, v18]⟩ 30 (0, 0)) :: some (b4, .cells ⟨[.bool false, .slice none 0 0]⟩ 30 (0, 0)) :: m_ 4 :: some (b2, .cells ⟨[.bool b.f_neg, v1_b]⟩ 30 (0, 0)) :: some (b1, .cells ⟨[.bool a.f_neg, v0_a]⟩ 30 (0, 0)) :: L) (fun i_ => if i_ = 4 then some (b3, .cells ⟨[.bool false, .slice none 0 0]⟩ 30 (0, 0)) else none) mixed (by kernel_rfl) (by kernel_rfl) rfl (fct_mono (by kernel_rfl)) ⟨(by intro H' m_ hH hm_ hu_; refine depK_nil ?_; exact s_d (m_ 0) rfl (d_loado (v := .agg ⟨[.bool y14.1.f_neg, v18]⟩) ty30 rfl .here rfl rfl rfl rfl) (by exact rfl) rfl), (by intro H' m_ hH hm_ hu_; refine depK_nil ?_; exact s_d (m_ 1) rfl (d_move (v := v12) rfl) (by exact rfl) rfl), (by intro H' m_ hH hm_ hu_; rintro _ rfl; refine depK_nil ?_; exact s_k (m_ 2) rfl (o_call co58 (vs := [v12]) rfl (slices_Clone_uint32_uint32.callsR k hy27 (h13.mono (e17.trans hH)))) rfl (by rintro v_ H_ _ ⟨rfl, e_, h_⟩; exact ⟨rfl, e_, h_⟩)), (by intro H' m_ hH hm_ hu_; rintro v30 (h31 : Ro (Kd.int .u32) H' v30 y26); refine depK_nil ?_; exact s_d (m_ 3) rfl (d_build (cs' := [.bool false, v30]) Tryd.underlying30 zr30 rfl (by kernel_rfl) (parts := [(0, .bool false), (1, v30)]) rfl (.cons (place_of rfl sz4 rfl) rfl rfl (.here .done) (.cons (place_of rfl sz28 rfl) h31.cells rfl (.there (.here .done)) .nil))) (by exact ⟨v30, rfl, h31⟩) rfl), (by intro H' m_ hH hm_ hu_; rintro _ rfl; refine depK_nil ?_; exact s_store (some (b3, .cells ⟨[.bool y14.1.f_neg, v18]⟩ 30 (0, 0))) hm_ rfl (o_store (v := .agg ⟨[.bool y14.1.f_neg, v18]⟩) sz30 rfl rfl rfl rfl (one_cons rfl (one_cons (h19.one) one_nil)) (.there (.there .here)) (.here (.here .done))) rfl (by exact ⟨rfl, rfl⟩)), trivial⟩ ?_
    intro H34 e35
    rintro _ _ rfl _ _ rfl v30 _ (h31 : Ro (Kd.int .u32) H34 v30 y26) _ _ ⟨v32, rfl, h33⟩ _ _ ⟨rfl, rfl⟩
    refine w_it (L' := some (b20, .cells ⟨[.bool y14.1.f_neg, v18]⟩ 30 (0, 0)) :: some (b4, .cells ⟨[.bool false, .slice none 0 0]⟩ 30 (0, 0)) :: some (b3, .cells ⟨[.bool y14.1.f_neg, v18]⟩ 30 (0, 0)) :: some (b2, .cells ⟨[.bool b.f_neg, v1_b]⟩ 30 (0, 0)) :: some (b1, .cells ⟨[.bool a.f_neg, v0_a]⟩ 30 (0, 0)) :: L) rfl ?_
    refine w_a0 rfl (o_store (v := .agg ⟨[.bool false, v32]⟩) sz30 rfl rfl rfl rfl (one_cons rfl (one_cons (h33.one) one_nil)) (.there .here) (.here (.here .done))) ?_
    rintro _ _ _ ⟨rfl, rfl, rfl⟩
    refine w_d rfl (d_assign (v := errV 89 none) rfl) ?_
    refine w_done ?_
    obtain rfl := Option.some.inj he
    refine w_return fn_22 rs_22 (.box (v := .agg ⟨[.bool y14.1.f_neg, v18]⟩) rfl ty30 rfl rfl (.there (.there .here)) rfl (.box (v := .agg ⟨[.bool false, v32]⟩) rfl ty30 rfl rfl (.there .here) rfl (.tmp (v := errV 89 none) rfl .nil))) ?_
    exact ⟨⟨[_, _, _, _, _], rfl⟩, hle.trans ((e9.trans e17).trans e35), ⟨v18, v32, rfl, (h19.mono e35), h33⟩⟩
   ·
    refine w_else rfl (Bool.eq_false_iff.2 c25) ?_
    refine w_skip ?_
    refine w_seq ?_
    refine w_region rfl ?_
    obtain ⟨y36, hy37, he⟩ := Option.bind_eq_some_iff.1 he
    refine w_a rfl (o_call co28 (vs := [.int .i64 1]) rfl (wide_Of.calls k hy37)) ?_
    rintro _ H38 _ ⟨rfl, e39, ⟨v40, rfl, h41⟩⟩
    refine w_a rfl (o_alloc zr30 rfl) ?_
    rintro _ _ _ ⟨b42, rfl, rfl, rfl⟩
    refine w_a0 rfl (o_store (v := .agg ⟨[.bool y36.f_neg, v40]⟩) sz30 rfl rfl rfl rfl (one_cons rfl (one_cons (h41.one) one_nil)) .here (.here (.here .done))) ?_
    rintro _ _ _ ⟨rfl, rfl, rfl⟩
    refine w_done ?_
    refine w_seq ?_
    refine w_seq ?_
    refine w_region rfl ?_
    refine w_d rfl (d_fld (o' := 0) Tryd.underlying30 rfl sz4 rfl rfl rfl) ?_
    refine w_d rfl (d_loado (v := .bool b.f_neg) ty4 rfl (.there (.there (.there (.there .here)))) rfl rfl rfl rfl) ?_
    refine w_d rfl (d_not (b := b.f_neg) rfl) ?_
    refine w_done ?_
    rcases its he with ⟨c43, he⟩ | ⟨c43, he⟩
    ·
     refine w_then rfl c43 ?_
     refine w_region rfl ?_
     refine w_d rfl (d_loado (v := .agg ⟨[.bool y36.f_neg, v40]⟩) ty30 rfl .here rfl rfl rfl rfl) ?_
     obtain ⟨y44, hy45, he⟩ := Option.bind_eq_some_iff.1 he
     refine w_a rfl (o_call co20 (vs := [.agg ⟨[.bool y36.f_neg, v40]⟩]) rfl (wide_Int_Neg.calls k (a := (⟨y36.f_neg, y36.f_w⟩ : wide_Int)) hy45 h41)) ?_
     rintro _ H46 _ ⟨rfl, e47, ⟨v48, rfl, h49⟩⟩
     refine w_a0 rfl (o_store (v := .agg ⟨[.bool y44.f_neg, v48]⟩) sz30 rfl rfl rfl rfl (one_cons rfl (one_cons (h49.one) one_nil)) .here (.here (.here .done))) ?_
     rintro _ _ _ ⟨rfl, rfl, rfl⟩
     refine w_done ?_
     refine w_del (.there (.there (.there (.there (.there .here))))) ?_
     refine w_sl 3 (.pointer (some ⟨b2, 0, none⟩)) rfl ?_
     refine w_sl 4 (.pointer (some ⟨b3, 0, none⟩)) rfl ?_
     refine w_sl 5 (.pointer (some ⟨b4, 0, none⟩)) rfl ?_
     refine w_sl 6 (errV 89 none) rfl ?_
     refine w_sl 8 (v12) rfl ?_
     refine w_sl 9 (.pointer (some ⟨b20, 0, none⟩)) rfl ?_
     refine w_sl 11 (.pointer (some ⟨b42, 0, none⟩)) rfl ?_
     exact wide_Int_Div.j1_ok (k := k) (hle.trans (((e9.trans e17).trans e39).trans e47)) he (h1_b.mono (((e9.trans e17).trans e39).trans e47)) (h13.mono ((e17.trans e39).trans e47)) (h19.mono (e39.trans e47)) h49
    ·
     refine w_else rfl (Bool.eq_false_iff.2 c43) ?_
     refine w_skip ?_
     refine w_del (.there (.there (.there (.there (.there .here))))) ?_
     refine w_sl 3 (.pointer (some ⟨b2, 0, none⟩)) rfl ?_
     refine w_sl 4 (.pointer (some ⟨b3, 0, none⟩)) rfl ?_
     refine w_sl 5 (.pointer (some ⟨b4, 0, none⟩)) rfl ?_
     refine w_sl 6 (errV 89 none) rfl ?_
     refine w_sl 8 (v12) rfl ?_
     refine w_sl 9 (.pointer (some ⟨b20, 0, none⟩)) rfl ?_
     refine w_sl 11 (.pointer (some ⟨b42, 0, none⟩)) rfl ?_
     exact wide_Int_Div.j1_ok (k := k) (hle.trans ((e9.trans e17).trans e39)) he (h1_b.mono ((e9.trans e17).trans e39)) (h13.mono (e17.trans e39)) (h19.mono e39) h41
/-! ### (radome/wide.Int).Root -/
noncomputable def wide_Int_Root.C : Code := (Tryd.f26.body).getD .skip
def wide_Int_Root.out (r : wide_Int × (Option Int)) (H : Hp) (v : Value) : Prop := ∃ v0, v = .tuple ⟨[.agg ⟨[.bool r.1.f_neg, v0]⟩, errV 89 r.2]⟩ ∧ Ro (Kd.int .u32) H v0 r.1.f_w
theorem wide_Int_Root.out_mono (r : wide_Int × (Option Int)) {H H' : Hp} {v : Value} (hle : H.le H') (h : wide_Int_Root.out r H v) : wide_Int_Root.out r H' v := by
 obtain ⟨v0, rfl, h0⟩ := h; exact ⟨v0, rfl, h0.mono hle⟩
abbrev wide_Int_Root.R (H0 : Hp) (L : Items) (r : wide_Int × (Option Int)) : Value → Hp → Items → Prop := fun v H' L' => (∃ p, L' = p ++ L) ∧ H0.le H' ∧ wide_Int_Root.out r H' v
structure wide_Int_Root.Hs where
 l0 : Bool → (List Int) → Bool → (List Int) → (Option Int) → Option (wide_Int × (Option Int))
noncomputable def wide_Int_Root.b0 (k : Nat) (h : wide_Int_Root.Hs)  (a_0 : Bool) (a_1 : List Int) (x_0 : Bool) (x_1 : List Int) (err : Option Int) : Option (wide_Int × (Option Int)) := if err.isNone = true then ((wide_Int_Div.f k (⟨a_0, a_1⟩ : wide_Int) (⟨x_0, x_1⟩ : wide_Int)).bind fun y24 => if y24.2.2.isSome = true then (some ((⟨x_0, x_1⟩ : wide_Int), y24.2.2)) else ((wide_Int_Add.f k (⟨y24.1.f_neg, y24.1.f_w⟩ : wide_Int) (⟨x_0, x_1⟩ : wide_Int)).bind fun y33 => if y33.2.isSome = true then (some ((⟨x_0, x_1⟩ : wide_Int), y33.2)) else ((wide_Int_Move.f k (⟨y33.1.f_neg, y33.1.f_w⟩ : wide_Int) (-1)).bind fun y40 => (gd (!y40.2.isSome) (wide_Int_Cmp.f k (⟨y40.1.f_neg, y40.1.f_w⟩ : wide_Int) (⟨x_0, x_1⟩ : wide_Int)) (0)).bind fun y49 => if (y40.2.isSome || (decide (0 ≤ y49))) = true then (some ((⟨x_0, x_1⟩ : wide_Int), y40.2)) else (h.l0 a_0 a_1 y40.1.f_neg y40.1.f_w y40.2)))) else (some ((⟨x_0, x_1⟩ : wide_Int), err))
noncomputable def wide_Int_Root.hs : Nat → wide_Int_Root.Hs
 | 0 => ⟨fun _ _ _ _ _ => none⟩
 | k + 1 => ⟨fun x0 x1 x2 x3 x4 => wide_Int_Root.b0 k (wide_Int_Root.hs k) x0 x1 x2 x3 x4⟩
noncomputable def wide_Int_Root.f (k : Nat) (a : wide_Int) : Option (wide_Int × (Option Int)) := (fun h : wide_Int_Root.Hs => (wide_Int_Sign.f k (⟨a.f_neg, a.f_w⟩ : wide_Int)).bind fun y3 => if y3 = (-1) then (some ((⟨false, []⟩ : wide_Int), some 1)) else (if y3 = 0 then (some ((⟨false, []⟩ : wide_Int), none)) else ((wide_Of.f k 1).bind fun y9 => (wide_Int_Move.f k (⟨y9.f_neg, y9.f_w⟩ : wide_Int) (w64 (Int.tdiv (w64 ((w64 ((a.f_w.length : Int) * 32)) + 1)) 2))).bind fun y16 => h.l0 a.f_neg a.f_w y16.1.f_neg y16.1.f_w y16.2))) (wide_Int_Root.hs k)
structure wide_Int_Root.LE (h h' : wide_Int_Root.Hs) : Prop where
 l0 : ∀ y0 y1 y2 y3 y4, LeO (h.l0 y0 y1 y2 y3 y4) (h'.l0 y0 y1 y2 y3 y4)
theorem wide_Int_Root.b0_mono {k : Nat} {h h' : wide_Int_Root.Hs} (hl : wide_Int_Root.LE h h') : ∀ y0 y1 y2 y3 y4, LeO (wide_Int_Root.b0 k h y0 y1 y2 y3 y4) (wide_Int_Root.b0 (k + 1) h' y0 y1 y2 y3 y4) := fun _ _ _ _ _ => (LeO.ite (LeO.bind (wide_Int_Div.mono k _ _) fun _ => LeO.ite (LeO.refl _) (LeO.bind (wide_Int_Add.mono k _ _) fun _ => LeO.ite (LeO.refl _) (LeO.bind (wide_Int_Move.mono k _ _) fun _ => LeO.bind (LeO.gd (wide_Int_Cmp.mono k _ _)) fun _ => LeO.ite (LeO.refl _) (hl.l0 _ _ _ _ _)))) (LeO.refl _))
theorem wide_Int_Root.hs_mono : ∀ k, wide_Int_Root.LE (wide_Int_Root.hs k) (wide_Int_Root.hs (k + 1))
 | 0 => ⟨fun _ _ _ _ _ => LeO.none _⟩
 | k + 1 => ⟨wide_Int_Root.b0_mono (k := k) (wide_Int_Root.hs_mono k)⟩
theorem wide_Int_Root.mono : ∀ k y0, LeO (wide_Int_Root.f k y0) (wide_Int_Root.f (k + 1) y0) := fun k _ => have hl := wide_Int_Root.hs_mono k; by unfold wide_Int_Root.f; exact (LeO.bind (wide_Int_Sign.mono k _) fun _ => LeO.ite (LeO.refl _) (LeO.ite (LeO.refl _) (LeO.bind (wide_Of.mono k _) fun _ => LeO.bind (wide_Int_Move.mono k _ _) fun _ => hl.l0 _ _ _ _ _)))
noncomputable def wide_Int_Root.Kl0 : List Item := .code (lopB (blkB (seqL (seqR (seqR (seqR (seqR wide_Int_Root.C))))))) :: .inLoop (lopB (blkB (seqL (seqR (seqR (seqR (seqR wide_Int_Root.C))))))) :: .inBlock 1 :: .code (seqR (seqR (seqR (seqR (seqR wide_Int_Root.C))))) :: []
structure wide_Int_Root.OK (h : wide_Int_Root.Hs) : Prop where
 l0 : ∀ {H0 H : Hp} {L : Items} {r : wide_Int × (Option Int)} {jk_ : Nat → Value} {a_0 : Bool} {a_1 : List Int} {x_0 : Bool} {x_1 : List Int} {err : Option Int} {v_a_1 : Value} {v_x_1 : Value} {b_a : Nat} {b_t2 : Nat} {b_x : Nat} (_ : H0.le H) (_he : h.l0 a_0 a_1 x_0 x_1 err = some r) (_h_a_1 : Ro (Kd.int .u32) H v_a_1 a_1) (_h_x_1 : Ro (Kd.int .u32) H v_x_1 x_1), Wp Tryd.prog 26 63 wide_Int_Root.Kl0 (upd (upd (upd (upd (upd jk_ 1 (.pointer (some ⟨b_a, 0, none⟩))) 2 (.pointer (some ⟨b_t2, 0, none⟩))) 3 (errV 89 none)) 4 (.pointer (some ⟨b_x, 0, none⟩))) 5 (errV 89 err)) H (some (b_x, .cells ⟨[.bool x_0, v_x_1]⟩ 30 (0, 0)) :: some (b_t2, .cells ⟨[.bool false, .slice none 0 0]⟩ 30 (0, 0)) :: some (b_a, .cells ⟨[.bool a_0, v_a_1]⟩ 30 (0, 0)) :: L) (wide_Int_Root.R H0 L r)
set_option maxRecDepth 100000 in
set_option maxHeartbeats 2000000 in
theorem wide_Int_Root.b0_ok {k : Nat} {h : wide_Int_Root.Hs} (hh : wide_Int_Root.OK h) {H0 H : Hp} {L : Items} {r : wide_Int × (Option Int)} {jk_ : Nat → Value} {a_0 : Bool} {a_1 : List Int} {x_0 : Bool} {x_1 : List Int} {err : Option Int} {v_a_1 : Value} {v_x_1 : Value} {b_a : Nat} {b_t2 : Nat} {b_x : Nat} (hle : H0.le H) (he : wide_Int_Root.b0 k h a_0 a_1 x_0 x_1 err = some r) (h_a_1 : Ro (Kd.int .u32) H v_a_1 a_1) (h_x_1 : Ro (Kd.int .u32) H v_x_1 x_1) : Wp Tryd.prog 26 63 wide_Int_Root.Kl0 (upd (upd (upd (upd (upd jk_ 1 (.pointer (some ⟨b_a, 0, none⟩))) 2 (.pointer (some ⟨b_t2, 0, none⟩))) 3 (errV 89 none)) 4 (.pointer (some ⟨b_x, 0, none⟩))) 5 (errV 89 err)) H (some (b_x, .cells ⟨[.bool x_0, v_x_1]⟩ 30 (0, 0)) :: some (b_t2, .cells ⟨[.bool false, .slice none 0 0]⟩ 30 (0, 0)) :: some (b_a, .cells ⟨[.bool a_0, v_a_1]⟩ 30 (0, 0)) :: L) (wide_Int_Root.R H0 L r) := by
 unfold wide_Int_Root.b0 at he
 unfold wide_Int_Root.Kl0
 refine w_seq ?_
 refine w_seq ?_
 refine w_region rfl ?_
 refine w_d rfl (d_move (v := errV 89 err) rfl) ?_
 refine w_d rfl (d_eqnil (e := err) Tryd.underlying33 rfl) ?_
 refine w_done ?_
 rcases its he with ⟨c22, he⟩ | ⟨c22, he⟩
 ·
  refine w_then rfl c22 ?_
  refine w_skip ?_
  refine w_block ?_
  refine w_seq ?_
  refine w_region rfl ?_
  refine w_a rfl (o_alloc zr30 rfl) ?_
  rintro _ _ _ ⟨b23, rfl, rfl, rfl⟩
  refine w_done ?_
  refine w_seq ?_
  refine w_seq ?_
  refine w_region rfl ?_
  refine w_d rfl (d_loado (v := .agg ⟨[.bool a_0, v_a_1]⟩) ty30 rfl (.there (.there (.there .here))) rfl rfl rfl rfl) ?_
  refine w_d rfl (d_loado (v := .agg ⟨[.bool x_0, v_x_1]⟩) ty30 rfl (.there .here) rfl rfl rfl rfl) ?_
  obtain ⟨y24, hy25, he⟩ := Option.bind_eq_some_iff.1 he
  refine w_a rfl (o_call co22 (vs := [.agg ⟨[.bool a_0, v_a_1]⟩, .agg ⟨[.bool x_0, v_x_1]⟩]) rfl (wide_Int_Div.calls k (a := (⟨a_0, a_1⟩ : wide_Int)) (b := (⟨x_0, x_1⟩ : wide_Int)) hy25 h_a_1 h_x_1)) ?_
  rintro _ H26 _ ⟨rfl, e27, ⟨v28, v30, rfl, h29, h31⟩⟩
  refine w_d rfl (d_move (v := .tuple ⟨[.agg ⟨[.bool y24.1.f_neg, v28]⟩, .agg ⟨[.bool y24.2.1.f_neg, v30]⟩, errV 89 y24.2.2]⟩) rfl) ?_
  refine w_d rfl (d_ext (vs := [.agg ⟨[.bool y24.1.f_neg, v28]⟩, .agg ⟨[.bool y24.2.1.f_neg, v30]⟩, errV 89 y24.2.2]) rfl rfl) ?_
  refine w_d rfl (d_ext (vs := [.agg ⟨[.bool y24.1.f_neg, v28]⟩, .agg ⟨[.bool y24.2.1.f_neg, v30]⟩, errV 89 y24.2.2]) rfl rfl) ?_
  refine w_d rfl (d_ext (vs := [.agg ⟨[.bool y24.1.f_neg, v28]⟩, .agg ⟨[.bool y24.2.1.f_neg, v30]⟩, errV 89 y24.2.2]) rfl rfl) ?_
  refine w_a0 rfl (o_store (v := .agg ⟨[.bool y24.1.f_neg, v28]⟩) sz30 rfl rfl rfl rfl (one_cons rfl (one_cons (h29.one) one_nil)) .here (.here (.here .done))) ?_
  rintro _ _ _ ⟨rfl, rfl, rfl⟩
  refine w_d rfl (d_assign (v := errV 89 y24.2.2) rfl) ?_
  refine w_done ?_
  refine w_seq ?_
  refine w_region rfl ?_
  refine w_d rfl (d_move (v := errV 89 y24.2.2) rfl) ?_
  refine w_d rfl (d_nenil (e := y24.2.2) Tryd.underlying33 rfl) ?_
  refine w_done ?_
  rcases its he with ⟨c32, he⟩ | ⟨c32, he⟩
  ·
   refine w_then rfl c32 ?_
   refine w_exit rfl ?_
   refine w_seq ?_
   refine w_region rfl ?_
   refine w_d rfl (d_loado (v := .agg ⟨[.bool x_0, v_x_1]⟩) ty30 rfl (.there .here) rfl rfl rfl rfl) ?_
   refine w_d rfl (d_move (v := errV 89 y24.2.2) rfl) ?_
   refine w_a0 rfl (o_store (v := .agg ⟨[.bool x_0, v_x_1]⟩) sz30 rfl rfl rfl rfl (one_cons rfl (one_cons (h_x_1.one) one_nil)) (.there (.there .here)) (.here (.here .done))) ?_
   rintro _ _ _ ⟨rfl, rfl, rfl⟩
   refine w_d rfl (d_assign (v := errV 89 y24.2.2) rfl) ?_
   refine w_done ?_
   obtain rfl := Option.some.inj he
   refine w_return fn_26 rs_26 (.box (v := .agg ⟨[.bool x_0, v_x_1]⟩) rfl ty30 rfl rfl (.there (.there .here)) rfl (.tmp (v := errV 89 y24.2.2) rfl .nil)) ?_
   exact ⟨⟨[_, _, _, _], rfl⟩, hle.trans e27, ⟨v_x_1, rfl, (h_x_1.mono e27)⟩⟩
  ·
   refine w_else rfl (Bool.eq_false_iff.2 c32) ?_
   refine w_skip ?_
   refine w_seq ?_
   refine w_seq ?_
   refine w_region rfl ?_
   refine w_d rfl (d_loado (v := .agg ⟨[.bool y24.1.f_neg, v28]⟩) ty30 rfl .here rfl rfl rfl rfl) ?_
   refine w_d rfl (d_loado (v := .agg ⟨[.bool x_0, v_x_1]⟩) ty30 rfl (.there .here) rfl rfl rfl rfl) ?_
   obtain ⟨y33, hy34, he⟩ := Option.bind_eq_some_iff.1 he
   refine w_a rfl (o_call co9 (vs := [.agg ⟨[.bool y24.1.f_neg, v28]⟩, .agg ⟨[.bool x_0, v_x_1]⟩]) rfl (wide_Int_Add.calls k (a := (⟨y24.1.f_neg, y24.1.f_w⟩ : wide_Int)) (b := (⟨x_0, x_1⟩ : wide_Int)) hy34 h29 (h_x_1.mono e27))) ?_
   rintro _ H35 _ ⟨rfl, e36, ⟨v37, rfl, h38⟩⟩
   refine w_d rfl (d_move (v := .tuple ⟨[.agg ⟨[.bool y33.1.f_neg, v37]⟩, errV 89 y33.2]⟩) rfl) ?_
   refine w_d rfl (d_ext (vs := [.agg ⟨[.bool y33.1.f_neg, v37]⟩, errV 89 y33.2]) rfl rfl) ?_
   refine w_d rfl (d_ext (vs := [.agg ⟨[.bool y33.1.f_neg, v37]⟩, errV 89 y33.2]) rfl rfl) ?_
   refine w_a0 rfl (o_store (v := .agg ⟨[.bool y33.1.f_neg, v37]⟩) sz30 rfl rfl rfl rfl (one_cons rfl (one_cons (h38.one) one_nil)) .here (.here (.here .done))) ?_
   rintro _ _ _ ⟨rfl, rfl, rfl⟩
   refine w_d rfl (d_assign (v := errV 89 y33.2) rfl) ?_
   refine w_done ?_
   refine w_seq ?_
   refine w_region rfl ?_
   refine w_d rfl (d_move (v := errV 89 y33.2) rfl) ?_
   refine w_d rfl (d_nenil (e := y33.2) Tryd.underlying33 rfl) ?_
   refine w_done ?_
   rcases its he with ⟨c39, he⟩ | ⟨c39, he⟩
   ·
    refine w_then rfl c39 ?_
    refine w_exit rfl ?_
    refine w_seq ?_
    refine w_region rfl ?_
    refine w_d rfl (d_loado (v := .agg ⟨[.bool x_0, v_x_1]⟩) ty30 rfl (.there .here) rfl rfl rfl rfl) ?_
    refine w_d rfl (d_move (v := errV 89 y33.2) rfl) ?_
    refine w_a0 rfl (o_store (v := .agg ⟨[.bool x_0, v_x_1]⟩) sz30 rfl rfl rfl rfl (one_cons rfl (one_cons (h_x_1.one) one_nil)) (.there (.there .here)) (.here (.here .done))) ?_
    rintro _ _ _ ⟨rfl, rfl, rfl⟩
    refine w_d rfl (d_assign (v := errV 89 y33.2) rfl) ?_
    refine w_done ?_
    obtain rfl := Option.some.inj he
    refine w_return fn_26 rs_26 (.box (v := .agg ⟨[.bool x_0, v_x_1]⟩) rfl ty30 rfl rfl (.there (.there .here)) rfl (.tmp (v := errV 89 y33.2) rfl .nil)) ?_
    exact ⟨⟨[_, _, _, _], rfl⟩, hle.trans (e27.trans e36), ⟨v_x_1, rfl, (h_x_1.mono (e27.trans e36))⟩⟩
   ·
    refine w_else rfl (Bool.eq_false_iff.2 c39) ?_
    refine w_skip ?_
    refine w_seq ?_
    refine w_seq ?_
    refine w_region rfl ?_
    refine w_d rfl (d_loado (v := .agg ⟨[.bool y33.1.f_neg, v37]⟩) ty30 rfl .here rfl rfl rfl rfl) ?_
    obtain ⟨y40, hy41, he⟩ := Option.bind_eq_some_iff.1 he
    refine w_a rfl (o_call co27 (vs := [.agg ⟨[.bool y33.1.f_neg, v37]⟩, .int .i64 (-1)]) rfl (wide_Int_Move.calls k (a := (⟨y33.1.f_neg, y33.1.f_w⟩ : wide_Int)) hy41 h38)) ?_
    rintro _ H42 _ ⟨rfl, e43, ⟨v44, rfl, h45⟩⟩
    refine w_d rfl (d_move (v := .tuple ⟨[.agg ⟨[.bool y40.1.f_neg, v44]⟩, errV 89 y40.2]⟩) rfl) ?_
    refine w_d rfl (d_ext (vs := [.agg ⟨[.bool y40.1.f_neg, v44]⟩, errV 89 y40.2]) rfl rfl) ?_
    refine w_d rfl (d_ext (vs := [.agg ⟨[.bool y40.1.f_neg, v44]⟩, errV 89 y40.2]) rfl rfl) ?_
    refine w_a0 rfl (o_store (v := .agg ⟨[.bool y40.1.f_neg, v44]⟩) sz30 rfl rfl rfl rfl (one_cons rfl (one_cons (h45.one) one_nil)) .here (.here (.here .done))) ?_
    rintro _ _ _ ⟨rfl, rfl, rfl⟩
    refine w_d rfl (d_assign (v := errV 89 y40.2) rfl) ?_
    refine w_done ?_
    refine w_seq ?_
    refine w_region rfl ?_
    refine w_d rfl (d_move (v := errV 89 y40.2) rfl) ?_
    refine w_d rfl (d_nenil (e := y40.2) Tryd.underlying33 rfl) ?_
    refine w_d rfl (d_move (v := .bool y40.2.isSome) rfl) ?_
    refine w_g (g := !y40.2.isSome) rfl rfl rfl wn_f (fun g46 => d_loado (v := .agg ⟨[.bool y40.1.f_neg, v44]⟩) ty30 rfl .here rfl rfl rfl rfl) ?_
    refine w_g (g := !y40.2.isSome) rfl rfl rfl wn_f (fun g47 => d_loado (v := .agg ⟨[.bool x_0, v_x_1]⟩) ty30 rfl (.there .here) rfl rfl rfl rfl) ?_
    obtain ⟨y49, hy50, he⟩ := Option.bind_eq_some_iff.1 he
    refine w_g (g := !y40.2.isSome) rfl rfl rfl wn_f (fun g48 => call_d (o_call co16 (vs := [.agg ⟨[.bool y40.1.f_neg, v44]⟩, .agg ⟨[.bool x_0, v_x_1]⟩]) (acons (cvt g48) (acons (cvt g48) (anil))) (wide_Int_Cmp.calls k (a := (⟨y40.1.f_neg, y40.1.f_w⟩ : wide_Int)) (b := (⟨x_0, x_1⟩ : wide_Int)) (gd_t g48 hy50) h45 (h_x_1.mono ((e27.trans e36).trans e43))))) ?_
    refine w_g (g := !y40.2.isSome) rfl rfl rfl wn_f (fun g53 => d_geq (cvt g53) rfl) ?_
    refine w_d rfl (d_or' (b := y40.2.isSome) (p := (decide (0 ≤ y49))) rfl rfl rfl) ?_
    refine w_done ?_
    rcases its he with ⟨c54, he⟩ | ⟨c54, he⟩
    ·
     refine w_then rfl c54 ?_
     refine w_exit rfl ?_
     refine w_seq ?_
     refine w_region rfl ?_
     refine w_d rfl (d_loado (v := .agg ⟨[.bool x_0, v_x_1]⟩) ty30 rfl (.there .here) rfl rfl rfl rfl) ?_
     refine w_d rfl (d_move (v := errV 89 y40.2) rfl) ?_
     refine w_a0 rfl (o_store (v := .agg ⟨[.bool x_0, v_x_1]⟩) sz30 rfl rfl rfl rfl (one_cons rfl (one_cons (h_x_1.one) one_nil)) (.there (.there .here)) (.here (.here .done))) ?_
     rintro _ _ _ ⟨rfl, rfl, rfl⟩
     refine w_d rfl (d_assign (v := errV 89 y40.2) rfl) ?_
     refine w_done ?_
     obtain rfl := Option.some.inj he
     refine w_return fn_26 rs_26 (.box (v := .agg ⟨[.bool x_0, v_x_1]⟩) rfl ty30 rfl rfl (.there (.there .here)) rfl (.tmp (v := errV 89 y40.2) rfl .nil)) ?_
     exact ⟨⟨[_, _, _, _], rfl⟩, hle.trans ((e27.trans e36).trans e43), ⟨v_x_1, rfl, (h_x_1.mono ((e27.trans e36).trans e43))⟩⟩
    ·
     refine w_else rfl (Bool.eq_false_iff.2 c54) ?_
     refine w_skip ?_
     refine w_region rfl ?_
     refine w_d rfl (d_loado (v := .agg ⟨[.bool y40.1.f_neg, v44]⟩) ty30 rfl .here rfl rfl rfl rfl) ?_
     refine w_a0 rfl (o_store (v := .agg ⟨[.bool y40.1.f_neg, v44]⟩) sz30 rfl rfl rfl rfl (one_cons rfl (one_cons (h45.one) one_nil)) (.there .here) (.here (.here .done))) ?_
     rintro _ _ _ ⟨rfl, rfl, rfl⟩
     refine w_done ?_
     refine w_inBlock ?_
     refine w_inLoop ?_
     refine w_del .here ?_
     refine w_sl 1 (.pointer (some ⟨b_a, 0, none⟩)) rfl ?_
     refine w_sl 2 (.pointer (some ⟨b_t2, 0, none⟩)) rfl ?_
     refine w_sl 3 (errV 89 none) rfl ?_
     refine w_sl 4 (.pointer (some ⟨b_x, 0, none⟩)) rfl ?_
     refine w_sl 5 (errV 89 y40.2) rfl ?_
     exact hh.l0 (hle.trans ((e27.trans e36).trans e43)) he (h_a_1.mono ((e27.trans e36).trans e43)) h45
 ·
  refine w_else rfl (Bool.eq_false_iff.2 c22) ?_
  refine w_exit rfl ?_
  refine w_seq ?_
  refine w_region rfl ?_
  refine w_d rfl (d_loado (v := .agg ⟨[.bool x_0, v_x_1]⟩) ty30 rfl .here rfl rfl rfl rfl) ?_
  refine w_d rfl (d_move (v := errV 89 err) rfl) ?_
  refine w_a0 rfl (o_store (v := .agg ⟨[.bool x_0, v_x_1]⟩) sz30 rfl rfl rfl rfl (one_cons rfl (one_cons (h_x_1.one) one_nil)) (.there .here) (.here (.here .done))) ?_
  rintro _ _ _ ⟨rfl, rfl, rfl⟩
  refine w_d rfl (d_assign (v := errV 89 err) rfl) ?_
  refine w_done ?_
  obtain rfl := Option.some.inj he
  refine w_return fn_26 rs_26 (.box (v := .agg ⟨[.bool x_0, v_x_1]⟩) rfl ty30 rfl rfl (.there .here) rfl (.tmp (v := errV 89 err) rfl .nil)) ?_
  exact ⟨⟨[_, _, _], rfl⟩, hle, ⟨v_x_1, rfl, h_x_1⟩⟩
theorem wide_Int_Root.ok : ∀ k, wide_Int_Root.OK (wide_Int_Root.hs k)
 | 0 => ⟨(by intros; exact nomatch (show none = some _ from by assumption))⟩
 | k + 1 => ⟨wide_Int_Root.b0_ok (k := k) (wide_Int_Root.ok k)⟩
set_option maxRecDepth 100000 in
set_option maxHeartbeats 2000000 in
theorem wide_Int_Root.calls (k : Nat) {H : Hp} {L : Items} {a : wide_Int} {v0_a : Value} {r : wide_Int × (Option Int)} (he : wide_Int_Root.f k a = some r) (h0_a : Ro (Kd.int .u32) H v0_a a.f_w) : Ct Tryd.prog 26 ⟨[.agg ⟨[.bool a.f_neg, v0_a]⟩]⟩ H L (fun v H' L' => L = L' ∧ H.le H' ∧ wide_Int_Root.out r H' v) := by
 refine ct_out (O := wide_Int_Root.out r) ?_
 have hle : H.le H := .refl _
 have hh := wide_Int_Root.ok k
 unfold wide_Int_Root.f at he
 refine ct_enter (args := [.agg ⟨[.bool a.f_neg, v0_a]⟩]) fn_26 rfl nt_26 rfl ?_
 refine w_seq ?_
 refine w_region rfl ?_
 refine w_a rfl (o_box (v := .agg ⟨[.bool a.f_neg, v0_a]⟩) rfl rfl) ?_
 rintro _ _ _ ⟨b1, rfl, rfl, rfl⟩
 refine w_a rfl (o_alloc zr30 rfl) ?_
 rintro _ _ _ ⟨b2, rfl, rfl, rfl⟩
 refine w_d rfl (d_assign (v := errV 89 none) rfl) ?_
 refine w_done ?_
 refine w_seq ?_
 refine w_seq ?_
 refine w_region rfl ?_
 refine w_d rfl (d_loado (v := .agg ⟨[.bool a.f_neg, v0_a]⟩) ty30 rfl (.there .here) rfl rfl rfl rfl) ?_
 obtain ⟨y3, hy4, he⟩ := Option.bind_eq_some_iff.1 he
 refine w_d rfl (call_d (o_call co18 (vs := [.agg ⟨[.bool a.f_neg, v0_a]⟩]) rfl (wide_Int_Sign.calls k (a := (⟨a.f_neg, a.f_w⟩ : wide_Int)) hy4 h0_a))) ?_
 refine w_done ?_
 refine w_block ?_
 refine w_seq ?_
 refine w_region rfl ?_
 refine w_d rfl (d_eql rfl rfl) ?_
 refine w_d rfl (d_assign (v := .bool (decide (y3 = (-1)))) rfl) ?_
 refine w_done ?_
 rcases its he with ⟨c7, he⟩ | ⟨c7, he⟩
 ·
  refine w_then rfl (decide_eq_true c7) ?_
  refine w_seq ?_
  refine w_region rfl ?_
  refine w_d rfl (d_build (cs' := [.bool false, .slice none 0 0]) Tryd.underlying30 zr30 rfl (by kernel_rfl) (parts := []) rfl .nil) ?_
  refine w_d rfl (d_iface (v := .int .i64 1) Tryd.underlying89 rfl rfl) ?_
  refine w_a0 rfl (o_store (v := .agg ⟨[.bool false, .slice none 0 0]⟩) sz30 rfl rfl rfl rfl (one_cons rfl (one_cons rfl one_nil)) .here (.here (.here .done))) ?_
  rintro _ _ _ ⟨rfl, rfl, rfl⟩
  refine w_d rfl (d_assign (v := errV 89 (some 1)) rfl) ?_
  refine w_done ?_
  obtain rfl := Option.some.inj he
  refine w_return fn_26 rs_26 (.box (v := .agg ⟨[.bool false, .slice none 0 0]⟩) rfl ty30 rfl rfl .here rfl (.tmp (v := errV 89 (some 1)) rfl .nil)) ?_
  exact ⟨⟨[_, _], rfl⟩, hle, ⟨.slice none 0 0, rfl, (ro_nil _ _)⟩⟩
 ·
  refine w_else rfl (decide_eq_false c7) ?_
  refine w_seq ?_
  refine w_region rfl ?_
  refine w_d rfl (d_eql rfl rfl) ?_
  refine w_d rfl (d_assign (v := .bool (decide (y3 = 0))) rfl) ?_
  refine w_done ?_
  rcases its he with ⟨c8, he⟩ | ⟨c8, he⟩
  ·
   refine w_then rfl (decide_eq_true c8) ?_
   refine w_seq ?_
   refine w_region rfl ?_
   refine w_d rfl (d_build (cs' := [.bool false, .slice none 0 0]) Tryd.underlying30 zr30 rfl (by kernel_rfl) (parts := []) rfl .nil) ?_
   refine w_a0 rfl (o_store (v := .agg ⟨[.bool false, .slice none 0 0]⟩) sz30 rfl rfl rfl rfl (one_cons rfl (one_cons rfl one_nil)) .here (.here (.here .done))) ?_
   rintro _ _ _ ⟨rfl, rfl, rfl⟩
   refine w_d rfl (d_assign (v := errV 89 none) rfl) ?_
   refine w_done ?_
   obtain rfl := Option.some.inj he
   refine w_return fn_26 rs_26 (.box (v := .agg ⟨[.bool false, .slice none 0 0]⟩) rfl ty30 rfl rfl .here rfl (.tmp (v := errV 89 none) rfl .nil)) ?_
   exact ⟨⟨[_, _], rfl⟩, hle, ⟨.slice none 0 0, rfl, (ro_nil _ _)⟩⟩
  ·
   refine w_else rfl (decide_eq_false c8) ?_
   refine w_skip ?_
   refine w_inBlock ?_
   refine w_seq ?_
   refine w_region rfl ?_
   obtain ⟨y9, hy10, he⟩ := Option.bind_eq_some_iff.1 he
   refine w_a rfl (o_call co28 (vs := [.int .i64 1]) rfl (wide_Of.calls k hy10)) ?_
   rintro _ H11 _ ⟨rfl, e12, ⟨v13, rfl, h14⟩⟩
   refine w_a rfl (o_alloc zr30 rfl) ?_
   rintro _ _ _ ⟨b15, rfl, rfl, rfl⟩
   refine w_a0 rfl (o_store (v := .agg ⟨[.bool y9.f_neg, v13]⟩) sz30 rfl rfl rfl rfl (one_cons rfl (one_cons (h14.one) one_nil)) .here (.here (.here .done))) ?_
   rintro _ _ _ ⟨rfl, rfl, rfl⟩
   refine w_done ?_
   refine w_seq ?_
   refine w_region rfl ?_
   refine w_d rfl (d_loado (v := .agg ⟨[.bool y9.f_neg, v13]⟩) ty30 rfl .here rfl rfl rfl rfl) ?_
   refine w_d rfl (d_fld (o' := 1) Tryd.underlying30 rfl sz28 rfl rfl rfl) ?_
   refine w_d rfl (d_loado (v := v0_a) ty28 rfl (.there (.there .here)) rfl rfl rfl rfl) ?_
   refine w_d rfl (d_len Tryd.underlying28 rfl (h0_a.mono e12).src) ?_
   refine w_d rfl (d_mul (c := w64 ((a.f_w.length : Int) * 32)) rfl rfl rfl) ?_
   refine w_d rfl (d_add (c := w64 ((w64 ((a.f_w.length : Int) * 32)) + 1)) rfl rfl rfl) ?_
   refine w_d rfl (d_quo (c := w64 (Int.tdiv (w64 ((w64 ((a.f_w.length : Int) * 32)) + 1)) 2)) rfl rfl (by decide) rfl) ?_
   obtain ⟨y16, hy17, he⟩ := Option.bind_eq_some_iff.1 he
   refine w_a rfl (o_call co27 (vs := [.agg ⟨[.bool y9.f_neg, v13]⟩, .int .i64 (w64 (Int.tdiv (w64 ((w64 ((a.f_w.length : Int) * 32)) + 1)) 2))]) rfl (wide_Int_Move.calls k (a := (⟨y9.f_neg, y9.f_w⟩ : wide_Int)) hy17 h14)) ?_
   rintro _ H18 _ ⟨rfl, e19, ⟨v20, rfl, h21⟩⟩
   refine w_d rfl (d_move (v := .tuple ⟨[.agg ⟨[.bool y16.1.f_neg, v20]⟩, errV 89 y16.2]⟩) rfl) ?_
   refine w_d rfl (d_ext (vs := [.agg ⟨[.bool y16.1.f_neg, v20]⟩, errV 89 y16.2]) rfl rfl) ?_
   refine w_d rfl (d_ext (vs := [.agg ⟨[.bool y16.1.f_neg, v20]⟩, errV 89 y16.2]) rfl rfl) ?_
   refine w_a0 rfl (o_store (v := .agg ⟨[.bool y16.1.f_neg, v20]⟩) sz30 rfl rfl rfl rfl (one_cons rfl (one_cons (h21.one) one_nil)) .here (.here (.here .done))) ?_
   rintro _ _ _ ⟨rfl, rfl, rfl⟩
   refine w_d rfl (d_assign (v := errV 89 y16.2) rfl) ?_
   refine w_done ?_
   refine w_seq ?_
   refine w_block ?_
   refine w_loop ?_
   refine w_sl 1 (.pointer (some ⟨b1, 0, none⟩)) rfl ?_
   refine w_sl 2 (.pointer (some ⟨b2, 0, none⟩)) rfl ?_
   refine w_sl 3 (errV 89 none) rfl ?_
   refine w_sl 4 (.pointer (some ⟨b15, 0, none⟩)) rfl ?_
   refine w_sl 5 (errV 89 y16.2) rfl ?_
   exact hh.l0 (hle.trans (e12.trans e19)) he (h0_a.mono (e12.trans e19)) h21
/-! ### slices.Reverse[[]byte,byte] -/
noncomputable def slices_Reverse_byte_byte.C : Code := (Tryd.f77.body).getD .skip
def slices_Reverse_byte_byte.out (r : (List Int)) (H : Hp) (v : Value) : Prop := v = .tuple ⟨[]⟩
abbrev slices_Reverse_byte_byte.R (vr_ : Value) (H0 : Hp) (L : Items) (r : (List Int)) : Value → Hp → Items → Prop := fun v H' L' => (∃ p it', L' = p ++ it' :: L ∧ Sl (Kd.int .u8) H' 5 it' vr_ r) ∧ H0.le H' ∧ v = .tuple ⟨[]⟩
structure slices_Reverse_byte_byte.Hs where
 l0 : (List Int) → Int → Int → Option (List Int)
noncomputable def slices_Reverse_byte_byte.b0 (k : Nat) (h : slices_Reverse_byte_byte.Hs)  (s : List Int) (i : Int) (j_ : Int) : Option (List Int) := if i < j_ then (if (0 : Int) ≤ j_ ∧ j_ < (s.length : Int) then (if (0 : Int) ≤ i ∧ i < (s.length : Int) then (if (0 : Int) ≤ i ∧ i < (s.length : Int) then (if (0 : Int) ≤ j_ ∧ j_ < ((s.set (i : Int).toNat (rd s j_)).length : Int) then (h.l0 ((s.set (i : Int).toNat (rd s j_)).set (j_ : Int).toNat (rd s i)) (w64 (i + 1)) (w64 (j_ - 1))) else none) else none) else none) else none) else (some (s))
noncomputable def slices_Reverse_byte_byte.hs : Nat → slices_Reverse_byte_byte.Hs
 | 0 => ⟨fun _ _ _ => none⟩
 | k + 1 => ⟨fun x0 x1 x2 => slices_Reverse_byte_byte.b0 k (slices_Reverse_byte_byte.hs k) x0 x1 x2⟩
noncomputable def slices_Reverse_byte_byte.f (k : Nat) (s : List Int) : Option (List Int) := (fun h : slices_Reverse_byte_byte.Hs => h.l0 s 0 (w64 ((s.length : Int) - 1))) (slices_Reverse_byte_byte.hs k)
structure slices_Reverse_byte_byte.LE (h h' : slices_Reverse_byte_byte.Hs) : Prop where
 l0 : ∀ y0 y1 y2, LeO (h.l0 y0 y1 y2) (h'.l0 y0 y1 y2)
theorem slices_Reverse_byte_byte.b0_mono {k : Nat} {h h' : slices_Reverse_byte_byte.Hs} (hl : slices_Reverse_byte_byte.LE h h') : ∀ y0 y1 y2, LeO (slices_Reverse_byte_byte.b0 k h y0 y1 y2) (slices_Reverse_byte_byte.b0 (k + 1) h' y0 y1 y2) := fun _ _ _ => (LeO.ite (LeO.ite (LeO.ite (LeO.ite (LeO.ite (hl.l0 _ _ _) (LeO.refl _)) (LeO.refl _)) (LeO.refl _)) (LeO.refl _)) (LeO.refl _))
theorem slices_Reverse_byte_byte.hs_mono : ∀ k, slices_Reverse_byte_byte.LE (slices_Reverse_byte_byte.hs k) (slices_Reverse_byte_byte.hs (k + 1))
 | 0 => ⟨fun _ _ _ => LeO.none _⟩
 | k + 1 => ⟨slices_Reverse_byte_byte.b0_mono (k := k) (slices_Reverse_byte_byte.hs_mono k)⟩
theorem slices_Reverse_byte_byte.mono : ∀ k y0, LeO (slices_Reverse_byte_byte.f k y0) (slices_Reverse_byte_byte.f (k + 1) y0) := fun k _ => have hl := slices_Reverse_byte_byte.hs_mono k; by unfold slices_Reverse_byte_byte.f; exact (hl.l0 _ _ _)
noncomputable def slices_Reverse_byte_byte.Kl0 : List Item := .code (lopB (blkB (seqR slices_Reverse_byte_byte.C))) :: .inLoop (lopB (blkB (seqR slices_Reverse_byte_byte.C))) :: .inBlock 0 :: []
structure slices_Reverse_byte_byte.OK (h : slices_Reverse_byte_byte.Hs) : Prop where
 l0 : ∀ {H0 H : Hp} {L : Items} {r : (List Int)} {jk_ : Nat → Value} {s : List Int} {i : Int} {j_ : Int} {vr_ : Value} {i_s : Item'} (_ : H0.le H) (_he : h.l0 s i j_ = some r) (_h_s : Sl (Kd.int .u8) H 5 i_s vr_ s), Wp Tryd.prog 77 28 slices_Reverse_byte_byte.Kl0 (upd (upd (upd jk_ 0 (vr_)) 2 (.int .i64 i)) 3 (.int .i64 j_)) H (i_s :: L) (slices_Reverse_byte_byte.R vr_ H0 L r)
set_option maxRecDepth 100000 in
set_option maxHeartbeats 2000000 in
theorem slices_Reverse_byte_byte.b0_ok {k : Nat} {h : slices_Reverse_byte_byte.Hs} (hh : slices_Reverse_byte_byte.OK h) {H0 H : Hp} {L : Items} {r : (List Int)} {jk_ : Nat → Value} {s : List Int} {i : Int} {j_ : Int} {vr_ : Value} {i_s : Item'} (hle : H0.le H) (he : slices_Reverse_byte_byte.b0 k h s i j_ = some r) (h_s : Sl (Kd.int .u8) H 5 i_s vr_ s) : Wp Tryd.prog 77 28 slices_Reverse_byte_byte.Kl0 (upd (upd (upd jk_ 0 (vr_)) 2 (.int .i64 i)) 3 (.int .i64 j_)) H (i_s :: L) (slices_Reverse_byte_byte.R vr_ H0 L r) := by
 unfold slices_Reverse_byte_byte.b0 at he
 unfold slices_Reverse_byte_byte.Kl0
 refine w_seq ?_
 refine w_seq ?_
 refine w_region rfl ?_
 refine w_d rfl (d_move (v := .int .i64 i) rfl) ?_
 refine w_d rfl (d_move (v := .int .i64 j_) rfl) ?_
 refine w_d rfl (d_lss rfl rfl) ?_
 refine w_done ?_
 rcases its he with ⟨c1, he⟩ | ⟨c1, he⟩
 ·
  refine w_then rfl (decide_eq_true c1) ?_
  refine w_skip ?_
  refine w_seq ?_
  refine w_block ?_
  obtain ⟨c2, he⟩ := rq he
  obtain ⟨c3, he⟩ := rq he
  obtain ⟨c4, he⟩ := rq he
  refine w_drawn (p := 14) (tl := [14, 15]) [[], [], [], [], [], [], [(4, some 18), (5, some 19)], [(6, some 20)], [], [], [(8, some 22), (9, some 23)], [(10, some 24)], [(0, some 14), (1, some 15)], [(7, some 21), (12, some 26)]] [some 14, some 15, some 16, some 17, some 18, some 19, some 20, some 21, some 22, some 23, some 24, some 25, some 26, none] (fctF (.is (vr_) :: .is (.int .i64 i) :: .is (vr_) :: .is (.int .i64 j_) :: .is (vr_) :: .is (.int .i64 j_) :: .is (.pointer (some (pel vr_ j_ 1))) :: .is (.int .u8 (rd s j_)) :: .is (vr_) :: .is (.int .i64 i) :: .is (.pointer (some (pel vr_ i 1))) :: .is (.int .u8 (rd s i)) :: .is (.pointer (some (pel vr_ i 1))) :: .itm (fun H it_ => Sl (Kd.int .u8) H 5 it_ vr_ (s.set (i : Int).toNat (rd s j_))) (fun hle_ h_ => h_.mono hle_) :: [])) (fun m_ => m_ 13 :: L) (fun i_ => if i_ = 13 then i_s else none) mixed (by kernel_rfl) (by kernel_rfl) rfl (fct_mono (by kernel_rfl)) ⟨(by intro H' m_ hH hm_ hu_; refine depK_nil ?_; exact s_d (m_ 0) rfl (d_move (v := vr_) rfl) (by exact rfl) rfl), (by intro H' m_ hH hm_ hu_; refine depK_nil ?_; exact s_d (m_ 1) rfl (d_move (v := .int .i64 i) rfl) (by exact rfl) rfl), (by intro H' m_ hH hm_ hu_; refine depK_nil ?_; exact s_d (m_ 2) rfl (d_move (v := vr_) rfl) (by exact rfl) rfl), (by intro H' m_ hH hm_ hu_; refine depK_nil ?_; exact s_d (m_ 3) rfl (d_move (v := .int .i64 j_) rfl) (by exact rfl) rfl), (by intro H' m_ hH hm_ hu_; refine depK_nil ?_; exact s_d (m_ 4) rfl (d_move (v := vr_) rfl) (by exact rfl) rfl), (by intro H' m_ hH hm_ hu_; refine depK_nil ?_; exact s_d (m_ 5) rfl (d_move (v := .int .i64 j_) rfl) (by exact rfl) rfl), (by intro H' m_ hH hm_ hu_; rintro _ rfl _ rfl; refine depK_nil ?_; exact s_d (m_ 6) rfl (d_indexS (sz := 1) Tryd.underlying22 sz5 rfl (h_s.mono hH).shp rfl c2) (by exact rfl) rfl), (by intro H' m_ hH hm_ hu_; rintro _ rfl; refine depK_nil ?_; exact s_d (m_ 7) rfl (d_ldint ty5 rfl ((h_s.mono hH).src (has_eq (hu_ 13 (by kernel_rfl)))) c2) (by exact rfl) rfl), (by intro H' m_ hH hm_ hu_; refine depK_nil ?_; exact s_d (m_ 8) rfl (d_move (v := vr_) rfl) (by exact rfl) rfl), (by intro H' m_ hH hm_ hu_; refine depK_nil ?_; exact s_d (m_ 9) rfl (d_move (v := .int .i64 i) rfl) (by exact rfl) rfl), (by intro H' m_ hH hm_ hu_; rintro _ rfl _ rfl; refine depK_nil ?_; exact s_d (m_ 10) rfl (d_indexS (sz := 1) Tryd.underlying22 sz5 rfl (h_s.mono hH).shp rfl c3) (by exact rfl) rfl), (by intro H' m_ hH hm_ hu_; rintro _ rfl; refine depK_nil ?_; exact s_d (m_ 11) rfl (d_ldint ty5 rfl ((h_s.mono hH).src (has_eq (hu_ 13 (by kernel_rfl)))) c3) (by exact rfl) rfl), (by intro H' m_ hH hm_ hu_; rintro _ rfl _ rfl; refine depK_nil ?_; exact s_d (m_ 12) rfl (d_indexS (sz := 1) Tryd.underlying22 sz5 rfl (h_s.mono hH).shp rfl c4) (by exact rfl) rfl), (by intro H' m_ hH hm_ hu_; rintro _ rfl _ rfl; refine depK_nil ?_; exact s_stEl (i_s) hm_ rfl (o_storeEl (kd := (Kd.int .u8)) (v := .int .u8 (rd s j_)) sz5 rfl rfl rfl rfl (h_s.mono hH) c4 (fun _ => .here)) rfl (by exact fun _ h_ => ⟨rfl, h_⟩)), trivial⟩ ?_
  intro H7 e8
  rintro _ _ rfl _ _ rfl _ _ rfl _ _ rfl _ _ rfl _ _ rfl _ _ rfl _ _ rfl _ _ rfl _ _ rfl _ _ rfl _ _ rfl _ _ rfl _ i5 ⟨rfl, h6⟩
  refine w_it (L' := i5 :: L) rfl ?_
  obtain ⟨c9, he⟩ := rq he
  refine w_d rfl (d_indexS (sz := 1) Tryd.underlying22 sz5 rfl h6.shp rfl c9) ?_
  refine w_a0 rfl (o_storeEl (kd := (Kd.int .u8)) (v := .int .u8 (rd s i)) (F := fun z_ => z_ :: L) sz5 rfl rfl rfl rfl h6 c9 (fun _ => .here)) ?_
  rintro _ _ _ ⟨i10, rfl, rfl, rfl, h11⟩
  refine w_done ?_
  refine w_inBlock ?_
  refine w_region rfl ?_
  refine w_d rfl (d_move (v := .int .i64 i) rfl) ?_
  refine w_d rfl (d_add (c := w64 (i + 1)) rfl rfl rfl) ?_
  refine w_d rfl (d_move (v := .int .i64 j_) rfl) ?_
  refine w_d rfl (d_sub (c := w64 (j_ - 1)) rfl rfl rfl) ?_
  refine w_d rfl (d_assign (v := .int .i64 (w64 (i + 1))) rfl) ?_
  refine w_d rfl (d_assign (v := .int .i64 (w64 (j_ - 1))) rfl) ?_
  refine w_done ?_
  refine w_inLoop ?_
  refine w_sl 0 (vr_) rfl ?_
  refine w_sl 2 (.int .i64 (w64 (i + 1))) rfl ?_
  refine w_sl 3 (.int .i64 (w64 (j_ - 1))) rfl ?_
  exact hh.l0 (hle.trans e8) he h11
 ·
  refine w_else rfl (decide_eq_false c1) ?_
  refine w_exit rfl ?_
  obtain rfl := Option.some.inj he
  refine w_finish fn_77 rs_77 .nil ?_
  exact ⟨⟨[], _, rfl, h_s⟩, hle, rfl⟩
theorem slices_Reverse_byte_byte.ok : ∀ k, slices_Reverse_byte_byte.OK (slices_Reverse_byte_byte.hs k)
 | 0 => ⟨(by intros; exact nomatch (show none = some _ from by assumption))⟩
 | k + 1 => ⟨slices_Reverse_byte_byte.b0_ok (k := k) (slices_Reverse_byte_byte.ok k)⟩
set_option maxRecDepth 100000 in
set_option maxHeartbeats 2000000 in
theorem slices_Reverse_byte_byte.calls (k : Nat) {H : Hp} {L : Items} {s : List Int} {vr_ : Value} {it_ : Item'} {r : (List Int)} (he : slices_Reverse_byte_byte.f k s = some r) (hr_ : Sl (Kd.int .u8) H 5 it_ vr_ s) : Ct Tryd.prog 77 ⟨[vr_]⟩ H (it_ :: L) (fun v H' L' => ∃ it', L' = it' :: L ∧ H.le H' ∧ Sl (Kd.int .u8) H' 5 it' vr_ r ∧ v = .tuple ⟨[]⟩) := by
 refine ct_mut (Q := fun v => v = .tuple ⟨[]⟩) ?_
 have hle : H.le H := .refl _
 have hh := slices_Reverse_byte_byte.ok k
 unfold slices_Reverse_byte_byte.f at he
 refine ct_enter (args := [vr_]) fn_77 rfl nt_77 rfl ?_
 refine w_seq ?_
 refine w_region rfl ?_
 refine w_d rfl (d_move (v := vr_) rfl) ?_
 refine w_d rfl (d_lenS Tryd.underlying22 rfl hr_.shp) ?_
 refine w_d rfl (d_sub (c := w64 ((s.length : Int) - 1)) rfl rfl rfl) ?_
 refine w_d rfl (d_assign (v := .int .i64 0) rfl) ?_
 refine w_d rfl (d_assign (v := .int .i64 (w64 ((s.length : Int) - 1))) rfl) ?_
 refine w_done ?_
 refine w_block ?_
 refine w_loop ?_
 refine w_sl 0 (vr_) rfl ?_
 refine w_sl 2 (.int .i64 0) rfl ?_
 refine w_sl 3 (.int .i64 (w64 ((s.length : Int) - 1))) rfl ?_
 exact hh.l0 hle he hr_
/-! ### (radome/wide.Int).Text -/
noncomputable def wide_Int_Text.C : Code := (Tryd.f50.body).getD .skip
def wide_Int_Text.out (r : ByteArray) (H : Hp) (v : Value) : Prop := v = .string r
abbrev wide_Int_Text.R (H0 : Hp) (L : Items) (r : ByteArray) : Value → Hp → Items → Prop := fun v H' L' => (∃ p, L' = p ++ L) ∧ H0.le H' ∧ wide_Int_Text.out r H' v
structure wide_Int_Text.Hs where
 l0 : Bool → (List Int) → ByteArray → (List Int) → (List Int) → Option ByteArray
 l1 : Bool → (List Int) → ByteArray → (List Int) → (List Int) → Int → Int → Option ByteArray
noncomputable def wide_Int_Text.b0 (k : Nat) (h : wide_Int_Text.Hs)  (a_0 : Bool) (a_1 : List Int) (t2 : ByteArray) (out : List Int) (w : List Int) : Option ByteArray := if 0 < (w.length : Int) then ((wide_short.f k w 1000000000).bind fun y4 => h.l1 a_0 a_1 t2 out y4.1 y4.2 0) else (if a_0 = true then (if out.length + 1 ≤ 140737488355200 then ((slices_Reverse_byte_byte.f k (out ++ [45])).bind fun y18 => some (strOf y18)) else none) else ((slices_Reverse_byte_byte.f k out).bind fun y24 => some (strOf y24)))
noncomputable def wide_Int_Text.b1 (k : Nat) (h : wide_Int_Text.Hs)  (a_0 : Bool) (a_1 : List Int) (t2 : ByteArray) (out : List Int) (w : List Int) (r_ : Int) (k_ : Int) : Option ByteArray := if ((decide (k_ < 9)) && ((decide (0 < (w.length : Int))) || (decide (0 < r_)))) = true then (if out.length + 1 ≤ 140737488355200 then (h.l1 a_0 a_1 t2 (out ++ [(48 + ((Int.tmod r_ 10) % 256)) % 256]) w ((Int.tdiv r_ 10) % 4294967296) (w64 (k_ + 1))) else none) else (h.l0 a_0 a_1 t2 out w)
noncomputable def wide_Int_Text.hs : Nat → wide_Int_Text.Hs
 | 0 => ⟨fun _ _ _ _ _ => none, fun _ _ _ _ _ _ _ => none⟩
 | k + 1 => ⟨fun x0 x1 x2 x3 x4 => wide_Int_Text.b0 k (wide_Int_Text.hs k) x0 x1 x2 x3 x4, fun x0 x1 x2 x3 x4 x5 x6 => wide_Int_Text.b1 k (wide_Int_Text.hs k) x0 x1 x2 x3 x4 x5 x6⟩
noncomputable def wide_Int_Text.f (k : Nat) (a : wide_Int) : Option ByteArray := (fun h : wide_Int_Text.Hs => if (a.f_w.length : Int) = 0 then (some (str_2)) else (h.l0 a.f_neg a.f_w str_0 [] a.f_w)) (wide_Int_Text.hs k)
structure wide_Int_Text.LE (h h' : wide_Int_Text.Hs) : Prop where
 l0 : ∀ y0 y1 y2 y3 y4, LeO (h.l0 y0 y1 y2 y3 y4) (h'.l0 y0 y1 y2 y3 y4)
 l1 : ∀ y0 y1 y2 y3 y4 y5 y6, LeO (h.l1 y0 y1 y2 y3 y4 y5 y6) (h'.l1 y0 y1 y2 y3 y4 y5 y6)
theorem wide_Int_Text.b0_mono {k : Nat} {h h' : wide_Int_Text.Hs} (hl : wide_Int_Text.LE h h') : ∀ y0 y1 y2 y3 y4, LeO (wide_Int_Text.b0 k h y0 y1 y2 y3 y4) (wide_Int_Text.b0 (k + 1) h' y0 y1 y2 y3 y4) := fun _ _ _ _ _ => (LeO.ite (LeO.bind (wide_short.mono k _ _) fun _ => hl.l1 _ _ _ _ _ _ _) (LeO.ite (LeO.ite (LeO.bind (slices_Reverse_byte_byte.mono k _) fun _ => LeO.refl _) (LeO.refl _)) (LeO.bind (slices_Reverse_byte_byte.mono k _) fun _ => LeO.refl _)))
theorem wide_Int_Text.b1_mono {k : Nat} {h h' : wide_Int_Text.Hs} (hl : wide_Int_Text.LE h h') : ∀ y0 y1 y2 y3 y4 y5 y6, LeO (wide_Int_Text.b1 k h y0 y1 y2 y3 y4 y5 y6) (wide_Int_Text.b1 (k + 1) h' y0 y1 y2 y3 y4 y5 y6) := fun _ _ _ _ _ _ _ => (LeO.ite (LeO.ite (hl.l1 _ _ _ _ _ _ _) (LeO.refl _)) (hl.l0 _ _ _ _ _))
theorem wide_Int_Text.hs_mono : ∀ k, wide_Int_Text.LE (wide_Int_Text.hs k) (wide_Int_Text.hs (k + 1))
 | 0 => ⟨fun _ _ _ _ _ => LeO.none _, fun _ _ _ _ _ _ _ => LeO.none _⟩
 | k + 1 => ⟨wide_Int_Text.b0_mono (k := k) (wide_Int_Text.hs_mono k), wide_Int_Text.b1_mono (k := k) (wide_Int_Text.hs_mono k)⟩
theorem wide_Int_Text.mono : ∀ k y0, LeO (wide_Int_Text.f k y0) (wide_Int_Text.f (k + 1) y0) := fun k _ => have hl := wide_Int_Text.hs_mono k; by unfold wide_Int_Text.f; exact (LeO.ite (LeO.refl _) (hl.l0 _ _ _ _ _))
noncomputable def wide_Int_Text.Kl0 : List Item := .code (lopB (blkB (seqR (seqL (seqR (seqR (seqR wide_Int_Text.C))))))) :: .inLoop (lopB (blkB (seqR (seqL (seqR (seqR (seqR wide_Int_Text.C))))))) :: .inBlock 0 :: .code (seqR (seqR (seqR (seqR wide_Int_Text.C)))) :: []
noncomputable def wide_Int_Text.Kl1 : List Item := .code (lopB (blkB (seqR (seqR (seqR (blkB (seqR (lopB (blkB (seqR (seqL (seqR (seqR (seqR wide_Int_Text.C)))))))))))))) :: .inLoop (lopB (blkB (seqR (seqR (seqR (blkB (seqR (lopB (blkB (seqR (seqL (seqR (seqR (seqR wide_Int_Text.C)))))))))))))) :: .inBlock 2 :: .inBlock 1 :: .inLoop (lopB (blkB (seqR (seqL (seqR (seqR (seqR wide_Int_Text.C))))))) :: .inBlock 0 :: .code (seqR (seqR (seqR (seqR wide_Int_Text.C)))) :: []
structure wide_Int_Text.OK (h : wide_Int_Text.Hs) : Prop where
 l0 : ∀ {H0 H : Hp} {L : Items} {r : ByteArray} {jk_ : Nat → Value} {a_0 : Bool} {a_1 : List Int} {t2 : ByteArray} {out : List Int} {w : List Int} {v_a_1 : Value} {v_out : Value} {v_w : Value} {i_out : Item'} {b_a : Nat} (_ : H0.le H) (_he : h.l0 a_0 a_1 t2 out w = some r) (_h_a_1 : Ro (Kd.int .u32) H v_a_1 a_1) (_h_out : Sl (Kd.int .u8) H 5 i_out v_out out) (_h_w : Ro (Kd.int .u32) H v_w w), Wp Tryd.prog 50 52 wide_Int_Text.Kl0 (upd (upd (upd (upd jk_ 1 (.pointer (some ⟨b_a, 0, none⟩))) 2 (.string t2)) 3 (v_out)) 4 (v_w)) H (i_out :: some (b_a, .cells ⟨[.bool a_0, v_a_1]⟩ 30 (0, 0)) :: L) (wide_Int_Text.R H0 L r)
 l1 : ∀ {H0 H : Hp} {L : Items} {r : ByteArray} {jk_ : Nat → Value} {a_0 : Bool} {a_1 : List Int} {t2 : ByteArray} {out : List Int} {w : List Int} {r_ : Int} {k_ : Int} {v_a_1 : Value} {v_out : Value} {v_w : Value} {i_out : Item'} {b_a : Nat} (_ : H0.le H) (_he : h.l1 a_0 a_1 t2 out w r_ k_ = some r) (_h_a_1 : Ro (Kd.int .u32) H v_a_1 a_1) (_h_out : Sl (Kd.int .u8) H 5 i_out v_out out) (_h_w : Ro (Kd.int .u32) H v_w w), Wp Tryd.prog 50 52 wide_Int_Text.Kl1 (upd (upd (upd (upd (upd (upd jk_ 1 (.pointer (some ⟨b_a, 0, none⟩))) 2 (.string t2)) 3 (v_out)) 4 (v_w)) 5 (.int .u32 r_)) 6 (.int .i64 k_)) H (i_out :: some (b_a, .cells ⟨[.bool a_0, v_a_1]⟩ 30 (0, 0)) :: L) (wide_Int_Text.R H0 L r)
set_option maxRecDepth 100000 in
set_option maxHeartbeats 2000000 in
theorem wide_Int_Text.b0_ok {k : Nat} {h : wide_Int_Text.Hs} (hh : wide_Int_Text.OK h) {H0 H : Hp} {L : Items} {r : ByteArray} {jk_ : Nat → Value} {a_0 : Bool} {a_1 : List Int} {t2 : ByteArray} {out : List Int} {w : List Int} {v_a_1 : Value} {v_out : Value} {v_w : Value} {i_out : Item'} {b_a : Nat} (hle : H0.le H) (he : wide_Int_Text.b0 k h a_0 a_1 t2 out w = some r) (h_a_1 : Ro (Kd.int .u32) H v_a_1 a_1) (h_out : Sl (Kd.int .u8) H 5 i_out v_out out) (h_w : Ro (Kd.int .u32) H v_w w) : Wp Tryd.prog 50 52 wide_Int_Text.Kl0 (upd (upd (upd (upd jk_ 1 (.pointer (some ⟨b_a, 0, none⟩))) 2 (.string t2)) 3 (v_out)) 4 (v_w)) H (i_out :: some (b_a, .cells ⟨[.bool a_0, v_a_1]⟩ 30 (0, 0)) :: L) (wide_Int_Text.R H0 L r) := by
 unfold wide_Int_Text.b0 at he
 unfold wide_Int_Text.Kl0
 refine w_seq ?_
 refine w_seq ?_
 refine w_region rfl ?_
 refine w_d rfl (d_move (v := v_w) rfl) ?_
 refine w_d rfl (d_len Tryd.underlying28 rfl h_w.src) ?_
 refine w_d rfl (d_gtr rfl rfl) ?_
 refine w_done ?_
 rcases its he with ⟨c3, he⟩ | ⟨c3, he⟩
 ·
  refine w_then rfl (decide_eq_true c3) ?_
  refine w_skip ?_
  refine w_block ?_
  refine w_seq ?_
  refine w_region rfl ?_
  refine w_d rfl (d_assign (v := .int .u32 0) rfl) ?_
  refine w_done ?_
  refine w_seq ?_
  refine w_region rfl ?_
  refine w_d rfl (d_move (v := v_w) rfl) ?_
  obtain ⟨y4, hy5, he⟩ := Option.bind_eq_some_iff.1 he
  refine w_a rfl (o_call co76 (vs := [v_w, .int .u32 1000000000]) rfl (wide_short.calls k hy5 h_w.src)) ?_
  rintro _ H6 _ ⟨rfl, e7, ⟨v8, rfl, h9⟩⟩
  refine w_d rfl (d_move (v := .tuple ⟨[v8, .int .u32 y4.2]⟩) rfl) ?_
  refine w_d rfl (d_ext (vs := [v8, .int .u32 y4.2]) rfl rfl) ?_
  refine w_d rfl (d_ext (vs := [v8, .int .u32 y4.2]) rfl rfl) ?_
  refine w_d rfl (d_assign (v := v8) rfl) ?_
  refine w_d rfl (d_assign (v := .int .u32 y4.2) rfl) ?_
  refine w_done ?_
  refine w_seq ?_
  refine w_region rfl ?_
  refine w_d rfl (d_assign (v := .int .i64 0) rfl) ?_
  refine w_done ?_
  refine w_block ?_
  refine w_loop ?_
  refine w_sl 1 (.pointer (some ⟨b_a, 0, none⟩)) rfl ?_
  refine w_sl 2 (.string t2) rfl ?_
  refine w_sl 3 (v_out) rfl ?_
  refine w_sl 4 (v8) rfl ?_
  refine w_sl 5 (.int .u32 y4.2) rfl ?_
  refine w_sl 6 (.int .i64 0) rfl ?_
  exact hh.l1 (hle.trans e7) he (h_a_1.mono e7) (h_out.mono e7) h9
 ·
  refine w_else rfl (decide_eq_false c3) ?_
  refine w_exit rfl ?_
  refine w_seq ?_
  refine w_seq ?_
  refine w_region rfl ?_
  refine w_d rfl (d_fld (o' := 0) Tryd.underlying30 rfl sz4 rfl rfl rfl) ?_
  refine w_d rfl (d_loado (v := .bool a_0) ty4 rfl (.there .here) rfl rfl rfl rfl) ?_
  refine w_done ?_
  rcases its he with ⟨c10, he⟩ | ⟨c10, he⟩
  ·
   refine w_then rfl c10 ?_
   refine w_region rfl ?_
   refine w_d rfl (d_move (v := v_out) rfl) ?_
   refine w_a rfl (o_buildSlice' (kd := (Kd.int .u8)) (css := [[.int .u8 45]]) (xs := [45]) (parts := [(0, .int .u8 45)]) Tryd.underlying22 ti5 rfl ⟨_, _, rfl, rfl, rfl⟩ ⟨rfl, trivial⟩ rfl (by decide)) ?_
   rintro v11 _ _ ⟨i12, rfl, rfl, h13⟩
   obtain ⟨c14, he⟩ := rq he
   refine w_a rfl (o_append' (kd := (Kd.int .u8)) (F := fun z_ => i12 :: z_ :: some (b_a, .cells ⟨[.bool a_0, v_a_1]⟩ 30 (0, 0)) :: L) Tryd.underlying22 Tryd.underlying22 ti5 rfl (by first | omega | (simp only [List.nil_append, List.length_cons, List.length_nil]; omega)) rfl rfl h_out (h13.src .here) (fun _ => (.there .here))) ?_
   rintro v15 _ _ ⟨i16, rfl, rfl, h17⟩
   refine w_d rfl (d_assign (v := v15) rfl) ?_
   refine w_done ?_
   refine w_seq ?_
   refine w_region rfl ?_
   refine w_d rfl (d_move (v := v15) rfl) ?_
   obtain ⟨y18, hy19, he⟩ := Option.bind_eq_some_iff.1 he
   refine w_a rfl (o_call co77 (vs := [v15]) rfl (ct_at (F := fun z_ => i12 :: z_ :: some (b_a, .cells ⟨[.bool a_0, v_a_1]⟩ 30 (0, 0)) :: L) (slices_Reverse_byte_byte.calls k hy19 h17) (.there .here) (fun _ => (.there .here)))) ?_
   rintro _ H20 _ ⟨i22, rfl, e21, h23, rfl⟩
   refine w_done ?_
   refine w_seq ?_
   refine w_region rfl ?_
   refine w_d rfl (d_move (v := v15) rfl) ?_
   refine w_d rfl (d_strof Tryd.underlying22 Tryd.underlying5 Tryd.underlying9 rfl (h23.src (.there .here))) ?_
   refine w_d rfl (d_assign (v := .string (strOf y18)) rfl) ?_
   refine w_done ?_
   obtain rfl := Option.some.inj he
   refine w_return fn_50 rs_50 (.tmp (v := .string (strOf y18)) rfl .nil) ?_
   exact ⟨⟨[_, _, _], rfl⟩, hle.trans e21, rfl⟩
  ·
   refine w_else rfl (Bool.eq_false_iff.2 c10) ?_
   refine w_skip ?_
   refine w_seq ?_
   refine w_region rfl ?_
   refine w_d rfl (d_move (v := v_out) rfl) ?_
   obtain ⟨y24, hy25, he⟩ := Option.bind_eq_some_iff.1 he
   refine w_a rfl (o_call co77 (vs := [v_out]) rfl (ct_at (F := fun z_ => z_ :: some (b_a, .cells ⟨[.bool a_0, v_a_1]⟩ 30 (0, 0)) :: L) (slices_Reverse_byte_byte.calls k hy25 h_out) .here (fun _ => .here))) ?_
   rintro _ H26 _ ⟨i28, rfl, e27, h29, rfl⟩
   refine w_done ?_
   refine w_seq ?_
   refine w_region rfl ?_
   refine w_d rfl (d_move (v := v_out) rfl) ?_
   refine w_d rfl (d_strof Tryd.underlying22 Tryd.underlying5 Tryd.underlying9 rfl (h29.src .here)) ?_
   refine w_d rfl (d_assign (v := .string (strOf y24)) rfl) ?_
   refine w_done ?_
   obtain rfl := Option.some.inj he
   refine w_return fn_50 rs_50 (.tmp (v := .string (strOf y24)) rfl .nil) ?_
   exact ⟨⟨[_, _], rfl⟩, hle.trans e27, rfl⟩
set_option maxRecDepth 100000 in
set_option maxHeartbeats 2000000 in
theorem wide_Int_Text.b1_ok {k : Nat} {h : wide_Int_Text.Hs} (hh : wide_Int_Text.OK h) {H0 H : Hp} {L : Items} {r : ByteArray} {jk_ : Nat → Value} {a_0 : Bool} {a_1 : List Int} {t2 : ByteArray} {out : List Int} {w : List Int} {r_ : Int} {k_ : Int} {v_a_1 : Value} {v_out : Value} {v_w : Value} {i_out : Item'} {b_a : Nat} (hle : H0.le H) (he : wide_Int_Text.b1 k h a_0 a_1 t2 out w r_ k_ = some r) (h_a_1 : Ro (Kd.int .u32) H v_a_1 a_1) (h_out : Sl (Kd.int .u8) H 5 i_out v_out out) (h_w : Ro (Kd.int .u32) H v_w w) : Wp Tryd.prog 50 52 wide_Int_Text.Kl1 (upd (upd (upd (upd (upd (upd jk_ 1 (.pointer (some ⟨b_a, 0, none⟩))) 2 (.string t2)) 3 (v_out)) 4 (v_w)) 5 (.int .u32 r_)) 6 (.int .i64 k_)) H (i_out :: some (b_a, .cells ⟨[.bool a_0, v_a_1]⟩ 30 (0, 0)) :: L) (wide_Int_Text.R H0 L r) := by
 unfold wide_Int_Text.b1 at he
 unfold wide_Int_Text.Kl1
 refine w_seq ?_
 refine w_seq ?_
 refine w_region rfl ?_
 refine w_d rfl (d_move (v := .int .i64 k_) rfl) ?_
 refine w_d rfl (d_lss rfl rfl) ?_
 refine w_d rfl (d_move (v := .bool (decide (k_ < 9))) rfl) ?_
 refine w_g (g := decide (k_ < 9)) rfl rfl rfl wn_t (fun g30 => d_move (v := v_w) rfl) ?_
 refine w_g (g := decide (k_ < 9)) rfl rfl rfl wn_t (fun g31 => d_len Tryd.underlying28 (cvt g31) h_w.src) ?_
 refine w_g (g := decide (k_ < 9)) rfl rfl rfl wn_t (fun g32 => d_gtr (cvt g32) rfl) ?_
 refine w_g (g := decide (k_ < 9)) rfl rfl rfl wn_t (fun g33 => d_move (v := .bool (decide (0 < (w.length : Int)))) (cvt g33)) ?_
 refine w_g (g := (decide (k_ < 9)) && (!(decide (0 < (w.length : Int))))) rfl rfl rfl wn_gf (fun g34 => d_move (v := .int .u32 r_) rfl) ?_
 refine w_g (g := (decide (k_ < 9)) && (!(decide (0 < (w.length : Int))))) rfl rfl rfl wn_gf (fun g35 => d_gtr (cvt g35) rfl) ?_
 refine w_g (g := decide (k_ < 9)) rfl rfl rfl wn_t (fun g36 => d_or' (b := (decide (0 < (w.length : Int)))) (p := (decide (0 < r_))) (cvt g36) rfl (cva g36)) ?_
 refine w_d rfl (d_and' (b := (decide (k_ < 9))) (p := ((decide (0 < (w.length : Int))) || (decide (0 < r_)))) rfl rfl rfl) ?_
 refine w_done ?_
 rcases its he with ⟨c37, he⟩ | ⟨c37, he⟩
 ·
  refine w_then rfl c37 ?_
  refine w_skip ?_
  refine w_seq ?_
  refine w_block ?_
  refine w_seq ?_
  refine w_region rfl ?_
  refine w_d rfl (d_move (v := v_out) rfl) ?_
  refine w_d rfl (d_move (v := .int .u32 r_) rfl) ?_
  refine w_d rfl (d_rem rfl rfl (by decide)) ?_
  refine w_d rfl (d_conv (c := (Int.tmod r_ 10) % 256) Tryd.underlying93 Tryd.underlying5 rfl rfl) ?_
  refine w_d rfl (d_add (c := (48 + ((Int.tmod r_ 10) % 256)) % 256) rfl rfl rfl) ?_
  refine w_a rfl (o_buildSlice' (kd := (Kd.int .u8)) (css := [[.int .u8 ((48 + ((Int.tmod r_ 10) % 256)) % 256)]]) (xs := [(48 + ((Int.tmod r_ 10) % 256)) % 256]) (parts := [(0, .int .u8 ((48 + ((Int.tmod r_ 10) % 256)) % 256))]) Tryd.underlying22 ti5 rfl ⟨_, _, rfl, rfl, rfl⟩ ⟨rfl, trivial⟩ rfl (by decide)) ?_
  rintro v38 _ _ ⟨i39, rfl, rfl, h40⟩
  obtain ⟨c41, he⟩ := rq he
  refine w_a rfl (o_append' (kd := (Kd.int .u8)) (F := fun z_ => i39 :: z_ :: some (b_a, .cells ⟨[.bool a_0, v_a_1]⟩ 30 (0, 0)) :: L) Tryd.underlying22 Tryd.underlying22 ti5 rfl (by first | omega | (simp only [List.nil_append, List.length_cons, List.length_nil]; omega)) rfl rfl h_out (h40.src .here) (fun _ => (.there .here))) ?_
  rintro v42 _ _ ⟨i43, rfl, rfl, h44⟩
  refine w_d rfl (d_assign (v := v42) rfl) ?_
  refine w_done ?_
  refine w_region rfl ?_
  refine w_d rfl (d_move (v := .int .u32 r_) rfl) ?_
  refine w_d rfl (d_quo (c := (Int.tdiv r_ 10) % 4294967296) rfl rfl (by decide) rfl) ?_
  refine w_d rfl (d_assign (v := .int .u32 ((Int.tdiv r_ 10) % 4294967296)) rfl) ?_
  refine w_done ?_
  refine w_inBlock ?_
  refine w_region rfl ?_
  refine w_d rfl (d_move (v := .int .i64 k_) rfl) ?_
  refine w_d rfl (d_add (c := w64 (k_ + 1)) rfl rfl rfl) ?_
  refine w_d rfl (d_assign (v := .int .i64 (w64 (k_ + 1))) rfl) ?_
  refine w_done ?_
  refine w_inLoop ?_
  refine w_del .here ?_
  refine w_sl 1 (.pointer (some ⟨b_a, 0, none⟩)) rfl ?_
  refine w_sl 2 (.string t2) rfl ?_
  refine w_sl 3 (v42) rfl ?_
  refine w_sl 4 (v_w) rfl ?_
  refine w_sl 5 (.int .u32 ((Int.tdiv r_ 10) % 4294967296)) rfl ?_
  refine w_sl 6 (.int .i64 (w64 (k_ + 1))) rfl ?_
  exact hh.l1 hle he h_a_1 h44 h_w
 ·
  refine w_else rfl (Bool.eq_false_iff.2 c37) ?_
  refine w_exit rfl ?_
  refine w_inBlock ?_
  refine w_inLoop ?_
  refine w_sl 1 (.pointer (some ⟨b_a, 0, none⟩)) rfl ?_
  refine w_sl 2 (.string t2) rfl ?_
  refine w_sl 3 (v_out) rfl ?_
  refine w_sl 4 (v_w) rfl ?_
  exact hh.l0 hle he h_a_1 h_out h_w
theorem wide_Int_Text.ok : ∀ k, wide_Int_Text.OK (wide_Int_Text.hs k)
 | 0 => ⟨(by intros; exact nomatch (show none = some _ from by assumption)), (by intros; exact nomatch (show none = some _ from by assumption))⟩
 | k + 1 => ⟨wide_Int_Text.b0_ok (k := k) (wide_Int_Text.ok k), wide_Int_Text.b1_ok (k := k) (wide_Int_Text.ok k)⟩
set_option maxRecDepth 100000 in
set_option maxHeartbeats 2000000 in
theorem wide_Int_Text.calls (k : Nat) {H : Hp} {L : Items} {a : wide_Int} {v0_a : Value} {r : ByteArray} (he : wide_Int_Text.f k a = some r) (h0_a : Ro (Kd.int .u32) H v0_a a.f_w) : Ct Tryd.prog 50 ⟨[.agg ⟨[.bool a.f_neg, v0_a]⟩]⟩ H L (fun v H' L' => L = L' ∧ H = H' ∧ v = .string r) := by
 refine ct_outs (O := wide_Int_Text.out r) (fun _ _ h => h) ?_
 have hle : H.le H := .refl _
 have hh := wide_Int_Text.ok k
 unfold wide_Int_Text.f at he
 refine ct_enter (args := [.agg ⟨[.bool a.f_neg, v0_a]⟩]) fn_50 rfl nt_50 rfl ?_
 refine w_seq ?_
 refine w_region rfl ?_
 refine w_a rfl (o_box (v := .agg ⟨[.bool a.f_neg, v0_a]⟩) rfl rfl) ?_
 rintro _ _ _ ⟨b1, rfl, rfl, rfl⟩
 refine w_d rfl (d_assign (v := .string str_0) rfl) ?_
 refine w_done ?_
 refine w_seq ?_
 refine w_seq ?_
 refine w_region rfl ?_
 refine w_d rfl (d_fld (o' := 1) Tryd.underlying30 rfl sz28 rfl rfl rfl) ?_
 refine w_d rfl (d_loado (v := v0_a) ty28 rfl .here rfl rfl rfl rfl) ?_
 refine w_d rfl (d_len Tryd.underlying28 rfl h0_a.src) ?_
 refine w_d rfl (d_eql rfl rfl) ?_
 refine w_done ?_
 rcases its he with ⟨c2, he⟩ | ⟨c2, he⟩
 ·
  refine w_then rfl (decide_eq_true c2) ?_
  refine w_seq ?_
  refine w_region rfl ?_
  refine w_d rfl (d_assign (v := .string str_2) rfl) ?_
  refine w_done ?_
  obtain rfl := Option.some.inj he
  refine w_return fn_50 rs_50 (.tmp (v := .string str_2) rfl .nil) ?_
  exact ⟨⟨[_], rfl⟩, hle, rfl⟩
 ·
  refine w_else rfl (decide_eq_false c2) ?_
  refine w_skip ?_
  refine w_seq ?_
  refine w_region rfl ?_
  refine w_d rfl (d_assign (v := .slice none 0 0) rfl) ?_
  refine w_done ?_
  refine w_seq ?_
  refine w_seq ?_
  refine w_region rfl ?_
  refine w_d rfl (d_fld (o' := 1) Tryd.underlying30 rfl sz28 rfl rfl rfl) ?_
  refine w_d rfl (d_loado (v := v0_a) ty28 rfl .here rfl rfl rfl rfl) ?_
  refine w_d rfl (d_assign (v := v0_a) rfl) ?_
  refine w_done ?_
  refine w_block ?_
  refine w_loop ?_
  refine w_none ?_
  refine w_sl 1 (.pointer (some ⟨b1, 0, none⟩)) rfl ?_
  refine w_sl 2 (.string str_0) rfl ?_
  refine w_sl 3 (.slice none 0 0) rfl ?_
  refine w_sl 4 (v0_a) rfl ?_
  exact hh.l0 hle he h0_a (sl_nil _ _ _) h0_a
/-! ### radome/radomelaw01.sure -/
noncomputable def radomelaw01_sure.C : Code := (Tryd.f24.body).getD .skip
def radomelaw01_sure.out (r : Bool) (H : Hp) (v : Value) : Prop := v = .bool r
abbrev radomelaw01_sure.R (H0 : Hp) (L : Items) (r : Bool) : Value → Hp → Items → Prop := fun v H' L' => (∃ p, L' = p ++ L) ∧ H0.le H' ∧ radomelaw01_sure.out r H' v
noncomputable def radomelaw01_sure.f (k : Nat)  : Option Bool := (wide_Of.f k (-7)).bind fun y1 => (wide_Of.f k 2).bind fun y7 => (wide_Int_Div.f k (⟨y1.f_neg, y1.f_w⟩ : wide_Int) (⟨y7.f_neg, y7.f_w⟩ : wide_Int)).bind fun y13 => (wide_Parse.f k str_5).bind fun y23 => (wide_Int_Root.f k (⟨y23.1.f_neg, y23.1.f_w⟩ : wide_Int)).bind fun y30 => (gd ((y13.2.2.isNone && y23.2.isNone) && y30.2.isNone) (wide_Int_Text.f k (⟨y13.1.f_neg, y13.1.f_w⟩ : wide_Int)) (ByteArray.empty)).bind fun y43 => (gd (((y13.2.2.isNone && y23.2.isNone) && y30.2.isNone) && (decide (y43 = str_6))) (wide_Int_Text.f k (⟨y13.2.1.f_neg, y13.2.1.f_w⟩ : wide_Int)) (ByteArray.empty)).bind fun y50 => (gd ((((y13.2.2.isNone && y23.2.isNone) && y30.2.isNone) && (decide (y43 = str_6))) && (decide (y50 = str_7))) (wide_Int_Text.f k (⟨y30.1.f_neg, y30.1.f_w⟩ : wide_Int)) (ByteArray.empty)).bind fun y57 => (gd (((((y13.2.2.isNone && y23.2.isNone) && y30.2.isNone) && (decide (y43 = str_6))) && (decide (y50 = str_7))) && (decide (y57 = str_8))) (wide_Int_Sign.f k (⟨y23.1.f_neg, y23.1.f_w⟩ : wide_Int)) (0)).bind fun y64 => (gd ((((((y13.2.2.isNone && y23.2.isNone) && y30.2.isNone) && (decide (y43 = str_6))) && (decide (y50 = str_7))) && (decide (y57 = str_8))) && (decide (y64 = 1))) (wide_Of.f k 5) ((⟨false, []⟩ : wide_Int))).bind fun y70 => (gd ((((((y13.2.2.isNone && y23.2.isNone) && y30.2.isNone) && (decide (y43 = str_6))) && (decide (y50 = str_7))) && (decide (y57 = str_8))) && (decide (y64 = 1))) (wide_Int_Cmp.f k (⟨y70.f_neg, y70.f_w⟩ : wide_Int) (⟨y23.1.f_neg, y23.1.f_w⟩ : wide_Int)) (0)).bind fun y80 => some (((((((y13.2.2.isNone && y23.2.isNone) && y30.2.isNone) && (decide (y43 = str_6))) && (decide (y50 = str_7))) && (decide (y57 = str_8))) && (decide (y64 = 1))) && (decide (y80 = (-1))))
theorem radomelaw01_sure.mono : ∀ k, LeO (radomelaw01_sure.f k) (radomelaw01_sure.f (k + 1)) := fun k => by unfold radomelaw01_sure.f; exact (LeO.bind (wide_Of.mono k _) fun _ => LeO.bind (wide_Of.mono k _) fun _ => LeO.bind (wide_Int_Div.mono k _ _) fun _ => LeO.bind (wide_Parse.mono k _) fun _ => LeO.bind (wide_Int_Root.mono k _) fun _ => LeO.bind (LeO.gd (wide_Int_Text.mono k _)) fun _ => LeO.bind (LeO.gd (wide_Int_Text.mono k _)) fun _ => LeO.bind (LeO.gd (wide_Int_Text.mono k _)) fun _ => LeO.bind (LeO.gd (wide_Int_Sign.mono k _)) fun _ => LeO.bind (LeO.gd (wide_Of.mono k _)) fun _ => LeO.bind (LeO.gd (wide_Int_Cmp.mono k _ _)) fun _ => LeO.refl _)
set_option maxRecDepth 100000 in
set_option maxHeartbeats 2000000 in
theorem radomelaw01_sure.calls (k : Nat) {H : Hp} {L : Items} {r : Bool} (he : radomelaw01_sure.f k  = some r) : Ct Tryd.prog 24 ⟨[]⟩ H L (fun v H' L' => L = L' ∧ H = H' ∧ v = .bool r) := by
 refine ct_outs (O := radomelaw01_sure.out r) (fun _ _ h => h) ?_
 have hle : H.le H := .refl _
 unfold radomelaw01_sure.f at he
 refine ct_enter (args := []) fn_24 rfl nt_24 rfl ?_
 refine w_seq ?_
 refine w_region rfl ?_
 refine w_d rfl (d_assign (v := .bool false) rfl) ?_
 refine w_done ?_
 refine w_seq ?_
 refine w_region rfl ?_
 obtain ⟨y1, hy2, he⟩ := Option.bind_eq_some_iff.1 he
 refine w_a rfl (o_call co28 (vs := [.int .i64 (-7)]) rfl (wide_Of.calls k hy2)) ?_
 rintro _ H3 _ ⟨rfl, e4, ⟨v5, rfl, h6⟩⟩
 obtain ⟨y7, hy8, he⟩ := Option.bind_eq_some_iff.1 he
 refine w_a rfl (o_call co28 (vs := [.int .i64 2]) rfl (wide_Of.calls k hy8)) ?_
 rintro _ H9 _ ⟨rfl, e10, ⟨v11, rfl, h12⟩⟩
 obtain ⟨y13, hy14, he⟩ := Option.bind_eq_some_iff.1 he
 refine w_a rfl (o_call co22 (vs := [.agg ⟨[.bool y1.f_neg, v5]⟩, .agg ⟨[.bool y7.f_neg, v11]⟩]) rfl (wide_Int_Div.calls k (a := (⟨y1.f_neg, y1.f_w⟩ : wide_Int)) (b := (⟨y7.f_neg, y7.f_w⟩ : wide_Int)) hy14 (h6.mono e10) h12)) ?_
 rintro _ H15 _ ⟨rfl, e16, ⟨v17, v19, rfl, h18, h20⟩⟩
 refine w_d rfl (d_move (v := .tuple ⟨[.agg ⟨[.bool y13.1.f_neg, v17]⟩, .agg ⟨[.bool y13.2.1.f_neg, v19]⟩, errV 89 y13.2.2]⟩) rfl) ?_
 refine w_d rfl (d_ext (vs := [.agg ⟨[.bool y13.1.f_neg, v17]⟩, .agg ⟨[.bool y13.2.1.f_neg, v19]⟩, errV 89 y13.2.2]) rfl rfl) ?_
 refine w_d rfl (d_ext (vs := [.agg ⟨[.bool y13.1.f_neg, v17]⟩, .agg ⟨[.bool y13.2.1.f_neg, v19]⟩, errV 89 y13.2.2]) rfl rfl) ?_
 refine w_d rfl (d_ext (vs := [.agg ⟨[.bool y13.1.f_neg, v17]⟩, .agg ⟨[.bool y13.2.1.f_neg, v19]⟩, errV 89 y13.2.2]) rfl rfl) ?_
 refine w_a rfl (o_alloc zr30 rfl) ?_
 rintro _ _ _ ⟨b21, rfl, rfl, rfl⟩
 refine w_a rfl (o_alloc zr30 rfl) ?_
 rintro _ _ _ ⟨b22, rfl, rfl, rfl⟩
 refine w_a0 rfl (o_store (v := .agg ⟨[.bool y13.1.f_neg, v17]⟩) sz30 rfl rfl rfl rfl (one_cons rfl (one_cons (h18.one) one_nil)) (.there .here) (.here (.here .done))) ?_
 rintro _ _ _ ⟨rfl, rfl, rfl⟩
 refine w_a0 rfl (o_store (v := .agg ⟨[.bool y13.2.1.f_neg, v19]⟩) sz30 rfl rfl rfl rfl (one_cons rfl (one_cons (h20.one) one_nil)) .here (.here (.here .done))) ?_
 rintro _ _ _ ⟨rfl, rfl, rfl⟩
 refine w_d rfl (d_assign (v := errV 89 y13.2.2) rfl) ?_
 refine w_done ?_
 refine w_seq ?_
 refine w_region rfl ?_
 obtain ⟨y23, hy24, he⟩ := Option.bind_eq_some_iff.1 he
 refine w_a rfl (o_call co43 (vs := [.string str_5]) rfl (wide_Parse.calls k hy24)) ?_
 rintro _ H25 _ ⟨rfl, e26, ⟨v27, rfl, h28⟩⟩
 refine w_d rfl (d_move (v := .tuple ⟨[.agg ⟨[.bool y23.1.f_neg, v27]⟩, errV 89 y23.2]⟩) rfl) ?_
 refine w_d rfl (d_ext (vs := [.agg ⟨[.bool y23.1.f_neg, v27]⟩, errV 89 y23.2]) rfl rfl) ?_
 refine w_d rfl (d_ext (vs := [.agg ⟨[.bool y23.1.f_neg, v27]⟩, errV 89 y23.2]) rfl rfl) ?_
 refine w_a rfl (o_alloc zr30 rfl) ?_
 rintro _ _ _ ⟨b29, rfl, rfl, rfl⟩
 refine w_a0 rfl (o_store (v := .agg ⟨[.bool y23.1.f_neg, v27]⟩) sz30 rfl rfl rfl rfl (one_cons rfl (one_cons (h28.one) one_nil)) .here (.here (.here .done))) ?_
 rintro _ _ _ ⟨rfl, rfl, rfl⟩
 refine w_d rfl (d_assign (v := errV 89 y23.2) rfl) ?_
 refine w_done ?_
 refine w_seq ?_
 refine w_region rfl ?_
 refine w_d rfl (d_loado (v := .agg ⟨[.bool y23.1.f_neg, v27]⟩) ty30 rfl .here rfl rfl rfl rfl) ?_
 obtain ⟨y30, hy31, he⟩ := Option.bind_eq_some_iff.1 he
 refine w_a rfl (o_call co26 (vs := [.agg ⟨[.bool y23.1.f_neg, v27]⟩]) rfl (wide_Int_Root.calls k (a := (⟨y23.1.f_neg, y23.1.f_w⟩ : wide_Int)) hy31 h28)) ?_
 rintro _ H32 _ ⟨rfl, e33, ⟨v34, rfl, h35⟩⟩
 refine w_d rfl (d_move (v := .tuple ⟨[.agg ⟨[.bool y30.1.f_neg, v34]⟩, errV 89 y30.2]⟩) rfl) ?_
 refine w_d rfl (d_ext (vs := [.agg ⟨[.bool y30.1.f_neg, v34]⟩, errV 89 y30.2]) rfl rfl) ?_
 refine w_d rfl (d_ext (vs := [.agg ⟨[.bool y30.1.f_neg, v34]⟩, errV 89 y30.2]) rfl rfl) ?_
 refine w_a rfl (o_alloc zr30 rfl) ?_
 rintro _ _ _ ⟨b36, rfl, rfl, rfl⟩
 refine w_a0 rfl (o_store (v := .agg ⟨[.bool y30.1.f_neg, v34]⟩) sz30 rfl rfl rfl rfl (one_cons rfl (one_cons (h35.one) one_nil)) .here (.here (.here .done))) ?_
 rintro _ _ _ ⟨rfl, rfl, rfl⟩
 refine w_d rfl (d_assign (v := errV 89 y30.2) rfl) ?_
 refine w_done ?_
 refine w_seq ?_
 obtain ⟨y43, hy44, he⟩ := Option.bind_eq_some_iff.1 he
 obtain ⟨y50, hy51, he⟩ := Option.bind_eq_some_iff.1 he
 obtain ⟨y57, hy58, he⟩ := Option.bind_eq_some_iff.1 he
 obtain ⟨y64, hy65, he⟩ := Option.bind_eq_some_iff.1 he
 obtain ⟨y70, hy71, he⟩ := Option.bind_eq_some_iff.1 he
 refine w_drawn (p := 33) (tl := [33, 34, 35, 36]) [[], [(0, some 24)], [(1, some 25)], [(2, some 26)], [(2, some 26), (3, some 27)], [(2, some 26), (4, some 28)], [(5, some 29)], [(6, some 30)], [(6, some 30), (7, some 31)], [(6, some 30), (8, some 32)], [(9, some 33)], [(10, some 34)], [(10, some 34), (11, some 35)], [(10, some 34), (12, some 36)], [(10, some 34), (13, some 37)], [(14, some 38)], [(15, some 39)], [(15, some 39), (16, some 40)], [(15, some 39), (17, some 41)], [(15, some 39), (18, some 42)], [(19, some 43)], [(20, some 44)], [(20, some 44), (21, some 45)], [(20, some 44), (22, some 46)], [(20, some 44), (23, some 47)], [(24, some 48)], [(25, some 49)], [(25, some 49), (26, some 50)], [(25, some 49), (27, some 51)], [(25, some 49), (28, some 52)], [(29, some 53)], [(30, some 54)], [(30, some 54)]] [some 24, some 25, some 26, some 27, some 28, some 29, some 30, some 31, some 32, some 33, some 34, some 35, some 36, some 37, some 38, some 39, some 40, some 41, some 42, some 43, some 44, some 45, some 46, some 47, some 48, some 49, some 50, some 51, some 52, some 53, some 54, some 55, some 56] (fctF (.is (errV 89 y13.2.2) :: .is (.bool y13.2.2.isNone) :: .is (.bool y13.2.2.isNone) :: .is (cond y13.2.2.isNone (errV 89 y23.2) undef) :: .is (cond y13.2.2.isNone (.bool y23.2.isNone) undef) :: .is (.bool (y13.2.2.isNone && y23.2.isNone)) :: .is (.bool (y13.2.2.isNone && y23.2.isNone)) :: .is (cond (y13.2.2.isNone && y23.2.isNone) (errV 89 y30.2) undef) :: .is (cond (y13.2.2.isNone && y23.2.isNone) (.bool y30.2.isNone) undef) :: .is (.bool ((y13.2.2.isNone && y23.2.isNone) && y30.2.isNone)) :: .is (.bool ((y13.2.2.isNone && y23.2.isNone) && y30.2.isNone)) :: .is (cond ((y13.2.2.isNone && y23.2.isNone) && y30.2.isNone) (.agg ⟨[.bool y13.1.f_neg, v17]⟩) undef) :: .is (cond ((y13.2.2.isNone && y23.2.isNone) && y30.2.isNone) (.string y43) undef) :: .is (cond ((y13.2.2.isNone && y23.2.isNone) && y30.2.isNone) (.bool (decide (y43 = str_6))) undef) :: .is (.bool (((y13.2.2.isNone && y23.2.isNone) && y30.2.isNone) && (decide (y43 = str_6)))) :: .is (.bool (((y13.2.2.isNone && y23.2.isNone) && y30.2.isNone) && (decide (y43 = str_6)))) :: .is (cond (((y13.2.2.isNone && y23.2.isNone) && y30.2.isNone) && (decide (y43 = str_6))) (.agg ⟨[.bool y13.2.1.f_neg, v19]⟩) undef) :: .is (cond (((y13.2.2.isNone && y23.2.isNone) && y30.2.isNone) && (decide (y43 = str_6))) (.string y50) undef) :: .is (cond (((y13.2.2.isNone && y23.2.isNone) && y30.2.isNone) && (decide (y43 = str_6))) (.bool (decide (y50 = str_7))) undef) :: .is (.bool ((((y13.2.2.isNone && y23.2.isNone) && y30.2.isNone) && (decide (y43 = str_6))) && (decide (y50 = str_7)))) :: .is (.bool ((((y13.2.2.isNone && y23.2.isNone) && y30.2.isNone) && (decide (y43 = str_6))) && (decide (y50 = str_7)))) :: .is (cond ((((y13.2.2.isNone && y23.2.isNone) && y30.2.isNone) && (decide (y43 = str_6))) && (decide (y50 = str_7))) (.agg ⟨[.bool y30.1.f_neg, v34]⟩) undef) :: .is (cond ((((y13.2.2.isNone && y23.2.isNone) && y30.2.isNone) && (decide (y43 = str_6))) && (decide (y50 = str_7))) (.string y57) undef) :: .is (cond ((((y13.2.2.isNone && y23.2.isNone) && y30.2.isNone) && (decide (y43 = str_6))) && (decide (y50 = str_7))) (.bool (decide (y57 = str_8))) undef) :: .is (.bool (((((y13.2.2.isNone && y23.2.isNone) && y30.2.isNone) && (decide (y43 = str_6))) && (decide (y50 = str_7))) && (decide (y57 = str_8)))) :: .is (.bool (((((y13.2.2.isNone && y23.2.isNone) && y30.2.isNone) && (decide (y43 = str_6))) && (decide (y50 = str_7))) && (decide (y57 = str_8)))) :: .is (cond (((((y13.2.2.isNone && y23.2.isNone) && y30.2.isNone) && (decide (y43 = str_6))) && (decide (y50 = str_7))) && (decide (y57 = str_8))) (.agg ⟨[.bool y23.1.f_neg, v27]⟩) undef) :: .is (cond (((((y13.2.2.isNone && y23.2.isNone) && y30.2.isNone) && (decide (y43 = str_6))) && (decide (y50 = str_7))) && (decide (y57 = str_8))) (.int .i64 y64) undef) :: .is (cond (((((y13.2.2.isNone && y23.2.isNone) && y30.2.isNone) && (decide (y43 = str_6))) && (decide (y50 = str_7))) && (decide (y57 = str_8))) (.bool (decide (y64 = 1))) undef) :: .is (.bool ((((((y13.2.2.isNone && y23.2.isNone) && y30.2.isNone) && (decide (y43 = str_6))) && (decide (y50 = str_7))) && (decide (y57 = str_8))) && (decide (y64 = 1)))) :: .is (.bool ((((((y13.2.2.isNone && y23.2.isNone) && y30.2.isNone) && (decide (y43 = str_6))) && (decide (y50 = str_7))) && (decide (y57 = str_8))) && (decide (y64 = 1)))) :: .of (fun H v => ∃ v74, v = cond ((((((y13.2.2.isNone && y23.2.isNone) && y30.2.isNone) && (decide (y43 = str_6))) && (decide (y50 = str_7))) && (decide (y57 = str_8))) && (decide (y64 = 1))) (.agg ⟨[.bool y70.f_neg, v74]⟩) undef ∧ (((((((y13.2.2.isNone && y23.2.isNone) && y30.2.isNone) && (decide (y43 = str_6))) && (decide (y50 = str_7))) && (decide (y57 = str_8))) && (decide (y64 = 1))) = true → Ro (Kd.int .u32) H v74 y70.f_w)) (by rintro _ _ _ hle ⟨v74, rfl, h75⟩; exact ⟨v74, rfl, fun g_ => (h75 g_).mono hle⟩) :: .is (cond ((((((y13.2.2.isNone && y23.2.isNone) && y30.2.isNone) && (decide (y43 = str_6))) && (decide (y50 = str_7))) && (decide (y57 = str_8))) && (decide (y64 = 1))) (.agg ⟨[.bool y23.1.f_neg, v27]⟩) undef) :: [])) (fun m_ => some (b36, .cells ⟨[.bool y30.1.f_neg, v34]⟩ 30 (0, 0)) :: some (b29, .cells ⟨[.bool y23.1.f_neg, v27]⟩ 30 (0, 0)) :: some (b22, .cells ⟨[.bool y13.2.1.f_neg, v19]⟩ 30 (0, 0)) :: some (b21, .cells ⟨[.bool y13.1.f_neg, v17]⟩ 30 (0, 0)) :: L) (fun _ => none) mixed (by kernel_rfl) (by kernel_rfl) rfl (fct_mono (by kernel_rfl)) ⟨(by intro H' m_ hH hm_ hu_; refine depK_nil ?_; exact s_d (m_ 0) rfl (d_move (v := errV 89 y13.2.2) rfl) (by exact rfl) rfl), (by intro H' m_ hH hm_ hu_; rintro _ rfl; refine depK_nil ?_; exact s_d (m_ 1) rfl (d_eqnil (e := y13.2.2) Tryd.underlying33 rfl) (by exact rfl) rfl), (by intro H' m_ hH hm_ hu_; rintro _ rfl; refine depK_nil ?_; exact s_d (m_ 2) rfl (d_move (v := .bool y13.2.2.isNone) rfl) (by exact rfl) rfl), (by intro H' m_ hH hm_ hu_; rintro _ rfl; refine depK_nil ?_; exact s_g (g := y13.2.2.isNone) (m_ 3) rfl rfl rfl wn_t (fun g37 => d_move (v := errV 89 y23.2) rfl) rfl (by exact fun g_ => cvt g_) (by exact fun g_ => cnt g_)), (by intro H' m_ hH hm_ hu_; rintro _ rfl _ rfl; refine depK_nil ?_; exact s_g (g := y13.2.2.isNone) (m_ 4) rfl rfl rfl wn_t (fun g38 => d_eqnil (e := y23.2) Tryd.underlying33 (cvt g38)) rfl (by exact fun g_ => cvt g_) (by exact fun g_ => cnt g_)), (by intro H' m_ hH hm_ hu_; rintro _ rfl _ rfl; refine depK_nil ?_; exact s_d (m_ 5) rfl (d_and' (b := y13.2.2.isNone) (p := y23.2.isNone) rfl rfl rfl) (by exact rfl) rfl), (by intro H' m_ hH hm_ hu_; rintro _ rfl; refine depK_nil ?_; exact s_d (m_ 6) rfl (d_move (v := .bool (y13.2.2.isNone && y23.2.isNone)) rfl) (by exact rfl) rfl), (by intro H' m_ hH hm_ hu_; rintro _ rfl; refine depK_nil ?_; exact s_g (g := y13.2.2.isNone && y23.2.isNone) (m_ 7) rfl rfl rfl wn_t (fun g39 => d_move (v := errV 89 y30.2) rfl) rfl (by exact fun g_ => cvt g_) (by exact fun g_ => cnt g_)), (by intro H' m_ hH hm_ hu_; rintro _ rfl _ rfl; refine depK_nil ?_; exact s_g (g := y13.2.2.isNone && y23.2.isNone) (m_ 8) rfl rfl rfl wn_t (fun g40 => d_eqnil (e := y30.2) Tryd.underlying33 (cvt g40)) rfl (by exact fun g_ => cvt g_) (by exact fun g_ => cnt g_)), (by intro H' m_ hH hm_ hu_; rintro _ rfl _ rfl; refine depK_nil ?_; exact s_d (m_ 9) rfl (d_and' (b := (y13.2.2.isNone && y23.2.isNone)) (p := y30.2.isNone) rfl rfl rfl) (by exact rfl) rfl), (by intro H' m_ hH hm_ hu_; rintro _ rfl; refine depK_nil ?_; exact s_d (m_ 10) rfl (d_move (v := .bool ((y13.2.2.isNone && y23.2.isNone) && y30.2.isNone)) rfl) (by exact rfl) rfl), (by intro H' m_ hH hm_ hu_; rintro _ rfl; refine depK_nil ?_; exact s_g (g := (y13.2.2.isNone && y23.2.isNone) && y30.2.isNone) (m_ 11) rfl rfl rfl wn_t (fun g41 => d_loado (v := .agg ⟨[.bool y13.1.f_neg, v17]⟩) ty30 rfl (.there (.there (.there .here))) rfl rfl rfl rfl) rfl (by exact fun g_ => cvt g_) (by exact fun g_ => cnt g_)), (by intro H' m_ hH hm_ hu_; rintro _ rfl _ rfl; refine depK_nil ?_; exact s_g (g := (y13.2.2.isNone && y23.2.isNone) && y30.2.isNone) (m_ 12) rfl rfl rfl wn_t (fun g42 => call_d (o_call co50 (vs := [.agg ⟨[.bool y13.1.f_neg, v17]⟩]) (acons (cvt g42) (anil)) (wide_Int_Text.calls k (a := (⟨y13.1.f_neg, y13.1.f_w⟩ : wide_Int)) (gd_t g42 hy44) (h18.mono ((e26.trans e33).trans hH))))) rfl (by exact fun g_ => cvt g_) (by exact fun g_ => cnt g_)), (by intro H' m_ hH hm_ hu_; rintro _ rfl _ rfl; refine depK_nil ?_; exact s_g (g := (y13.2.2.isNone && y23.2.isNone) && y30.2.isNone) (m_ 13) rfl rfl rfl wn_t (fun g47 => d_eqs (cvt g47) rfl) rfl (by exact fun g_ => cvt g_) (by exact fun g_ => cnt g_)), (by intro H' m_ hH hm_ hu_; rintro _ rfl _ rfl; refine depK_nil ?_; exact s_d (m_ 14) rfl (d_and' (b := ((y13.2.2.isNone && y23.2.isNone) && y30.2.isNone)) (p := (decide (y43 = str_6))) rfl rfl rfl) (by exact rfl) rfl), (by intro H' m_ hH hm_ hu_; rintro _ rfl; refine depK_nil ?_; exact s_d (m_ 15) rfl (d_move (v := .bool (((y13.2.2.isNone && y23.2.isNone) && y30.2.isNone) && (decide (y43 = str_6)))) rfl) (by exact rfl) rfl), (by intro H' m_ hH hm_ hu_; rintro _ rfl; refine depK_nil ?_; exact s_g (g := ((y13.2.2.isNone && y23.2.isNone) && y30.2.isNone) && (decide (y43 = str_6))) (m_ 16) rfl rfl rfl wn_t (fun g48 => d_loado (v := .agg ⟨[.bool y13.2.1.f_neg, v19]⟩) ty30 rfl (.there (.there .here)) rfl rfl rfl rfl) rfl (by exact fun g_ => cvt g_) (by exact fun g_ => cnt g_)), (by intro H' m_ hH hm_ hu_; rintro _ rfl _ rfl; refine depK_nil ?_; exact s_g (g := ((y13.2.2.isNone && y23.2.isNone) && y30.2.isNone) && (decide (y43 = str_6))) (m_ 17) rfl rfl rfl wn_t (fun g49 => call_d (o_call co50 (vs := [.agg ⟨[.bool y13.2.1.f_neg, v19]⟩]) (acons (cvt g49) (anil)) (wide_Int_Text.calls k (a := (⟨y13.2.1.f_neg, y13.2.1.f_w⟩ : wide_Int)) (gd_t g49 hy51) (h20.mono ((e26.trans e33).trans hH))))) rfl (by exact fun g_ => cvt g_) (by exact fun g_ => cnt g_)), (by intro H' m_ hH hm_ hu_; rintro _ rfl _ rfl; refine depK_nil ?_; exact s_g (g := ((y13.2.2.isNone && y23.2.isNone) && y30.2.isNone) && (decide (y43 = str_6))) (m_ 18) rfl rfl rfl wn_t (fun g54 => d_eqs (cvt g54) rfl) rfl (by exact fun g_ => cvt g_) (by exact fun g_ => cnt g_)), (by intro H' m_ hH hm_ hu_; rintro _ rfl _ rfl; refine depK_nil ?_; exact s_d (m_ 19) rfl (d_and' (b := (((y13.2.2.isNone && y23.2.isNone) && y30.2.isNone) && (decide (y43 = str_6)))) (p := (decide (y50 = str_7))) rfl rfl rfl) (by exact rfl) rfl), (by intro H' m_ hH hm_ hu_; rintro _ rfl; refine depK_nil ?_; exact s_d (m_ 20) rfl (d_move (v := .bool ((((y13.2.2.isNone && y23.2.isNone) && y30.2.isNone) && (decide (y43 = str_6))) && (decide (y50 = str_7)))) rfl) (by exact rfl) rfl), (by intro H' m_ hH hm_ hu_; rintro _ rfl; refine depK_nil ?_; exact s_g (g := (((y13.2.2.isNone && y23.2.isNone) && y30.2.isNone) && (decide (y43 = str_6))) && (decide (y50 = str_7))) (m_ 21) rfl rfl rfl wn_t (fun g55 => d_loado (v := .agg ⟨[.bool y30.1.f_neg, v34]⟩) ty30 rfl .here rfl rfl rfl rfl) rfl (by exact fun g_ => cvt g_) (by exact fun g_ => cnt g_)), (by intro H' m_ hH hm_ hu_; rintro _ rfl _ rfl; refine depK_nil ?_; exact s_g (g := (((y13.2.2.isNone && y23.2.isNone) && y30.2.isNone) && (decide (y43 = str_6))) && (decide (y50 = str_7))) (m_ 22) rfl rfl rfl wn_t (fun g56 => call_d (o_call co50 (vs := [.agg ⟨[.bool y30.1.f_neg, v34]⟩]) (acons (cvt g56) (anil)) (wide_Int_Text.calls k (a := (⟨y30.1.f_neg, y30.1.f_w⟩ : wide_Int)) (gd_t g56 hy58) (h35.mono hH)))) rfl (by exact fun g_ => cvt g_) (by exact fun g_ => cnt g_)), (by intro H' m_ hH hm_ hu_; rintro _ rfl _ rfl; refine depK_nil ?_; exact s_g (g := (((y13.2.2.isNone && y23.2.isNone) && y30.2.isNone) && (decide (y43 = str_6))) && (decide (y50 = str_7))) (m_ 23) rfl rfl rfl wn_t (fun g61 => d_eqs (cvt g61) rfl) rfl (by exact fun g_ => cvt g_) (by exact fun g_ => cnt g_)), (by intro H' m_ hH hm_ hu_; rintro _ rfl _ rfl; refine depK_nil ?_; exact s_d (m_ 24) rfl (d_and' (b := ((((y13.2.2.isNone && y23.2.isNone) && y30.2.isNone) && (decide (y43 = str_6))) && (decide (y50 = str_7)))) (p := (decide (y57 = str_8))) rfl rfl rfl) (by exact rfl) rfl), (by intro H' m_ hH hm_ hu_; rintro _ rfl; refine depK_nil ?_; exact s_d (m_ 25) rfl (d_move (v := .bool (((((y13.2.2.isNone && y23.2.isNone) && y30.2.isNone) && (decide (y43 = str_6))) && (decide (y50 = str_7))) && (decide (y57 = str_8)))) rfl) (by exact rfl) rfl), (by intro H' m_ hH hm_ hu_; rintro _ rfl; refine depK_nil ?_; exact s_g (g := ((((y13.2.2.isNone && y23.2.isNone) && y30.2.isNone) && (decide (y43 = str_6))) && (decide (y50 = str_7))) && (decide (y57 = str_8))) (m_ 26) rfl rfl rfl wn_t (fun g62 => d_loado (v := .agg ⟨[.bool y23.1.f_neg, v27]⟩) ty30 rfl (.there .here) rfl rfl rfl rfl) rfl (by exact fun g_ => cvt g_) (by exact fun g_ => cnt g_)), (by intro H' m_ hH hm_ hu_; rintro _ rfl _ rfl; refine depK_nil ?_; exact s_g (g := ((((y13.2.2.isNone && y23.2.isNone) && y30.2.isNone) && (decide (y43 = str_6))) && (decide (y50 = str_7))) && (decide (y57 = str_8))) (m_ 27) rfl rfl rfl wn_t (fun g63 => call_d (o_call co18 (vs := [.agg ⟨[.bool y23.1.f_neg, v27]⟩]) (acons (cvt g63) (anil)) (wide_Int_Sign.calls k (a := (⟨y23.1.f_neg, y23.1.f_w⟩ : wide_Int)) (gd_t g63 hy65) (h28.mono (e33.trans hH))))) rfl (by exact fun g_ => cvt g_) (by exact fun g_ => cnt g_)), (by intro H' m_ hH hm_ hu_; rintro _ rfl _ rfl; refine depK_nil ?_; exact s_g (g := ((((y13.2.2.isNone && y23.2.isNone) && y30.2.isNone) && (decide (y43 = str_6))) && (decide (y50 = str_7))) && (decide (y57 = str_8))) (m_ 28) rfl rfl rfl wn_t (fun g68 => d_eql (cvt g68) rfl) rfl (by exact fun g_ => cvt g_) (by exact fun g_ => cnt g_)), (by intro H' m_ hH hm_ hu_; rintro _ rfl _ rfl; refine depK_nil ?_; exact s_d (m_ 29) rfl (d_and' (b := (((((y13.2.2.isNone && y23.2.isNone) && y30.2.isNone) && (decide (y43 = str_6))) && (decide (y50 = str_7))) && (decide (y57 = str_8)))) (p := (decide (y64 = 1))) rfl rfl rfl) (by exact rfl) rfl), (by intro H' m_ hH hm_ hu_; rintro _ rfl; refine depK_nil ?_; exact s_d (m_ 30) rfl (d_move (v := .bool ((((((y13.2.2.isNone && y23.2.isNone) && y30.2.isNone) && (decide (y43 = str_6))) && (decide (y50 = str_7))) && (decide (y57 = str_8))) && (decide (y64 = 1)))) rfl) (by exact rfl) rfl), (by intro H' m_ hH hm_ hu_; rintro _ rfl; refine depK_nil ?_; exact s_gr (g := ((((((y13.2.2.isNone && y23.2.isNone) && y30.2.isNone) && (decide (y43 = str_6))) && (decide (y50 = str_7))) && (decide (y57 = str_8))) && (decide (y64 = 1)))) (fun v74 => .agg ⟨[.bool y70.f_neg, v74]⟩) (fun H v74 => Ro (Kd.int .u32) H v74 y70.f_w) (m_ 31) rfl rfl rfl wn_t (fun g69 => by exact o_call co28 (vs := [.int .i64 5]) rfl (wide_Of.calls k (gd_t g69 hy71))) rfl (by exact fun c_ H_ h_ => ⟨c_, rfl, h_⟩)), (by intro H' m_ hH hm_ hu_; rintro _ rfl; refine depK_nil ?_; exact s_g (g := (((((y13.2.2.isNone && y23.2.isNone) && y30.2.isNone) && (decide (y43 = str_6))) && (decide (y50 = str_7))) && (decide (y57 = str_8))) && (decide (y64 = 1))) (m_ 32) rfl rfl rfl wn_t (fun g76 => d_loado (v := .agg ⟨[.bool y23.1.f_neg, v27]⟩) ty30 rfl (.there .here) rfl rfl rfl rfl) rfl (by exact fun g_ => cvt g_) (by exact fun g_ => cnt g_)), trivial⟩ ?_
 intro H77 e78
 rintro _ _ rfl _ _ rfl _ _ rfl _ _ rfl _ _ rfl _ _ rfl _ _ rfl _ _ rfl _ _ rfl _ _ rfl _ _ rfl _ _ rfl _ _ rfl _ _ rfl _ _ rfl _ _ rfl _ _ rfl _ _ rfl _ _ rfl _ _ rfl _ _ rfl _ _ rfl _ _ rfl _ _ rfl _ _ rfl _ _ rfl _ _ rfl _ _ rfl _ _ rfl _ _ rfl _ _ rfl _ _ ⟨v74, rfl, h75⟩ _ _ rfl
 obtain ⟨y80, hy81, he⟩ := Option.bind_eq_some_iff.1 he
 refine w_g (g := (((((y13.2.2.isNone && y23.2.isNone) && y30.2.isNone) && (decide (y43 = str_6))) && (decide (y50 = str_7))) && (decide (y57 = str_8))) && (decide (y64 = 1))) rfl rfl rfl wn_t (fun g79 => call_d (o_call co16 (vs := [.agg ⟨[.bool y70.f_neg, v74]⟩, .agg ⟨[.bool y23.1.f_neg, v27]⟩]) (acons (cvt g79) (acons (cvt g79) (anil))) (wide_Int_Cmp.calls k (a := (⟨y70.f_neg, y70.f_w⟩ : wide_Int)) (b := (⟨y23.1.f_neg, y23.1.f_w⟩ : wide_Int)) (gd_t g79 hy81) (h75 g79) (h28.mono (e33.trans e78))))) ?_
 refine w_g (g := (((((y13.2.2.isNone && y23.2.isNone) && y30.2.isNone) && (decide (y43 = str_6))) && (decide (y50 = str_7))) && (decide (y57 = str_8))) && (decide (y64 = 1))) rfl rfl rfl wn_t (fun g84 => d_eql (cvt g84) rfl) ?_
 refine w_d rfl (d_and' (b := ((((((y13.2.2.isNone && y23.2.isNone) && y30.2.isNone) && (decide (y43 = str_6))) && (decide (y50 = str_7))) && (decide (y57 = str_8))) && (decide (y64 = 1)))) (p := (decide (y80 = (-1)))) rfl rfl rfl) ?_
 refine w_d rfl (d_assign (v := .bool (((((((y13.2.2.isNone && y23.2.isNone) && y30.2.isNone) && (decide (y43 = str_6))) && (decide (y50 = str_7))) && (decide (y57 = str_8))) && (decide (y64 = 1))) && (decide (y80 = (-1))))) rfl) ?_
 refine w_done ?_
 obtain rfl := Option.some.inj he
 refine w_return fn_24 rs_24 (.tmp (v := .bool (((((((y13.2.2.isNone && y23.2.isNone) && y30.2.isNone) && (decide (y43 = str_6))) && (decide (y50 = str_7))) && (decide (y57 = str_8))) && (decide (y64 = 1))) && (decide (y80 = (-1))))) rfl .nil) ?_
 exact ⟨⟨[_, _, _, _], rfl⟩, hle.trans (((((e4.trans e10).trans e16).trans e26).trans e33).trans e78), rfl⟩
end Go.Proofs.YtmnhbbckndlnkaaDoor.GWL

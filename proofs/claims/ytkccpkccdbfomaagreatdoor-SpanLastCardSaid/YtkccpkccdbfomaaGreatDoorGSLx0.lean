/- A text of this session, written by a program (wip/k/gen.py): Go functions as Lean functions, and proofs that the code comes to them. -/
import Derived.Test.YtkccpkccdbfomaaGreatDoorGSLt
namespace Go.Proofs.YtkccpkccdbfomaaGreatDoor.GSL
open Go Go.RowKit Go.Proofs.YtkccpkccdbfomaaGreatDoorK Go.Proofs.YtkccpkccdbfomaaGreatDoor
set_option maxRecDepth 100000
set_option maxHeartbeats 2000000
set_option linter.unusedVariables false
set_option linter.unusedSimpArgs false
/-! ### radome/wide.trim -/
noncomputable def wide_trim.C : Code := (Tryz.f113.body).getD .skip
abbrev wide_trim.out (r : (List Int)) (H : Hp) (v : Value) : Prop := Ro (Kd.int .u32) H v r
abbrev wide_trim.R (H0 : Hp) (L : Items) (r : (List Int)) : Value → Hp → Items → Prop := fun v H' L' => (∃ p, L' = p ++ L) ∧ H0.le H' ∧ wide_trim.out r H' v
structure wide_trim.Hs where
 l0 : (List Int) → Option (List Int)
noncomputable def wide_trim.b0 (k : Nat) (h : wide_trim.Hs)  (w : List Int) : Option (List Int) := if (decide (0 < (w.length : Int))) = true → (0 : Int) ≤ w64 ((w.length : Int) - 1) ∧ w64 ((w.length : Int) - 1) < (w.length : Int) then (if ((decide (0 < (w.length : Int))) && (decide ((rd w (w64 ((w.length : Int) - 1))) = 0))) = true then (if (0 : Int) ≤ 0 ∧ (0 : Int) ≤ w64 ((w.length : Int) - 1) ∧ w64 ((w.length : Int) - 1) ≤ (w.length : Int) then (h.l0 (cut w 0 (w64 ((w.length : Int) - 1)))) else none) else (some (w))) else none
noncomputable def wide_trim.hs : Nat → wide_trim.Hs
 | 0 => ⟨fun _ => none⟩
 | k + 1 => ⟨fun x0 => wide_trim.b0 k (wide_trim.hs k) x0⟩
noncomputable def wide_trim.f (k : Nat) (w : List Int) : Option (List Int) := (fun h : wide_trim.Hs => h.l0 w) (wide_trim.hs k)
structure wide_trim.LE (h h' : wide_trim.Hs) : Prop where
 l0 : ∀ y0, LeO (h.l0 y0) (h'.l0 y0)
theorem wide_trim.b0_mono {k : Nat} {h h' : wide_trim.Hs} (hl : wide_trim.LE h h') : ∀ y0, LeO (wide_trim.b0 k h y0) (wide_trim.b0 (k + 1) h' y0) := fun _ => (LeO.ite (LeO.ite (LeO.ite (hl.l0 _) (LeO.refl _)) (LeO.refl _)) (LeO.refl _))
theorem wide_trim.hs_mono : ∀ k, wide_trim.LE (wide_trim.hs k) (wide_trim.hs (k + 1))
 | 0 => ⟨fun _ => LeO.none _⟩
 | k + 1 => ⟨wide_trim.b0_mono (k := k) (wide_trim.hs_mono k)⟩
theorem wide_trim.mono : ∀ k y0, LeO (wide_trim.f k y0) (wide_trim.f (k + 1) y0) := fun k _ => have hl := wide_trim.hs_mono k; by unfold wide_trim.f; exact (hl.l0 _)
noncomputable def wide_trim.Kl0 : List Item := .code (lopB (blkB (seqL (seqR wide_trim.C)))) :: .inLoop (lopB (blkB (seqL (seqR wide_trim.C)))) :: .inBlock 0 :: .code (seqR (seqR wide_trim.C)) :: []
structure wide_trim.OK (h : wide_trim.Hs) : Prop where
 l0 : ∀ {H0 H : Hp} {L : Items} {r : (List Int)} {jk_ : Nat → Value} {w : List Int} {v_w : Value} (_ : H0.le H) (_he : h.l0 w = some r) (_h_w : Ro (Kd.int .u32) H v_w w), Wp Tryz.prog 113 21 wide_trim.Kl0 (upd (upd jk_ 0 (v_w)) 2 (.slice none 0 0)) H (L) (wide_trim.R H0 L r)
theorem wide_trim.b0_ok {k : Nat} {h : wide_trim.Hs} (hh : wide_trim.OK h) {H0 H : Hp} {L : Items} {r : (List Int)} {jk_ : Nat → Value} {w : List Int} {v_w : Value} (hle : H0.le H) (he : wide_trim.b0 k h w = some r) (h_w : Ro (Kd.int .u32) H v_w w) : Wp Tryz.prog 113 21 wide_trim.Kl0 (upd (upd jk_ 0 (v_w)) 2 (.slice none 0 0)) H (L) (wide_trim.R H0 L r) := by
 unfold wide_trim.b0 at he
 unfold wide_trim.Kl0
 refine w_seq <| w_seq <| w_region rfl <| w_d rfl (d_move (v := v_w) rfl) <| w_d rfl (d_len Tryz.underlying22 rfl h_w.src) <| w_d rfl (d_gtr rfl rfl) <| w_d rfl (d_move (v := .bool (decide (0 < (w.length : Int)))) rfl) <| w_g (g := decide (0 < (w.length : Int))) rfl rfl rfl wn_t (fun g1 => d_move (v := v_w) rfl) <| w_g (g := decide (0 < (w.length : Int))) rfl rfl rfl wn_t (fun g2 => d_move (v := v_w) rfl) <| w_g (g := decide (0 < (w.length : Int))) rfl rfl rfl wn_t (fun g3 => d_len Tryz.underlying22 (cvt g3) h_w.src) <| w_g (g := decide (0 < (w.length : Int))) rfl rfl rfl wn_t (fun g4 => d_sub (c := w64 ((w.length : Int) - 1)) (cvt g4) rfl rfl) ?_
 obtain ⟨c6, he⟩ := rq he
 refine w_g (g := decide (0 < (w.length : Int))) rfl rfl rfl wn_t (fun g5 => d_index (sz := 1) Tryz.underlying22 sz167 (cvt g5) h_w.src (cvt g5) (c6 g5)) <| w_g (g := decide (0 < (w.length : Int))) rfl rfl rfl wn_t (fun g7 => d_ldint ty167 (cvt g7) h_w.src (c6 g7)) <| w_g (g := decide (0 < (w.length : Int))) rfl rfl rfl wn_t (fun g8 => d_eql (cvt g8) rfl) <| w_d rfl (d_and' (b := (decide (0 < (w.length : Int)))) (p := (decide ((rd w (w64 ((w.length : Int) - 1))) = 0))) rfl rfl rfl) <| w_done ?_
 rcases its he with ⟨c9, he⟩ | ⟨c9, he⟩
 ·
  refine w_then rfl c9 <| w_skip <| w_block <| w_region rfl <| w_d rfl (d_move (v := v_w) rfl) <| w_d rfl (d_move (v := v_w) rfl) <| w_d rfl (d_len Tryz.underlying22 rfl h_w.src) <| w_d rfl (d_sub (c := w64 ((w.length : Int) - 1)) rfl rfl rfl) ?_
  obtain ⟨c10, he⟩ := rq he
  refine w_a rfl (o_cut (kd := (Kd.int .u32)) Tryz.underlying22 sz167 rfl h_w (.inl ⟨rfl, rfl⟩) (.inr ⟨_, _, rfl, rfl⟩) c10) ?_
  rintro v11 _ _ ⟨h12, rfl, rfl⟩
  refine w_d rfl (d_assign (v := v11) rfl) <| w_done <| w_inBlock <| w_inLoop <| w_sl 0 (v11) rfl <| w_sl 2 (.slice none 0 0) rfl <| hh.l0 hle he h12
 ·
  refine w_else rfl (Bool.eq_false_iff.2 c9) <| w_exit rfl <| w_seq <| w_region rfl <| w_d rfl (d_move (v := v_w) rfl) <| w_d rfl (d_assign (v := v_w) rfl) <| w_done ?_
  obtain rfl := Option.some.inj he
  refine w_return fn_113 rs_113 (.tmp (v := v_w) rfl .nil) <| ⟨⟨[], rfl⟩, hle, h_w⟩
theorem wide_trim.ok : ∀ k, wide_trim.OK (wide_trim.hs k)
 | 0 => ⟨(by intros; exact nomatch (show none = some _ from by assumption))⟩
 | k + 1 => ⟨wide_trim.b0_ok (k := k) (wide_trim.ok k)⟩
theorem wide_trim.calls (k : Nat) {H : Hp} {L : Items} {w : List Int} {v0_w : Value} {r : (List Int)} (he : wide_trim.f k w = some r) (h0_w : Ro (Kd.int .u32) H v0_w w) : Ct Tryz.prog 113 ⟨[v0_w]⟩ H L (fun v H' L' => L = L' ∧ H.le H' ∧ wide_trim.out r H' v) := by
 refine ct_out (O := wide_trim.out r) ?_
 have hle : H.le H := .refl _
 have hh := wide_trim.ok k
 unfold wide_trim.f at he
 refine ct_enter (args := [v0_w]) fn_113 rfl nt_113 rfl <| w_seq <| w_region rfl <| w_d rfl (d_assign (v := .slice none 0 0) rfl) <| w_done <| w_seq <| w_block <| w_loop <| w_sl 0 (v0_w) rfl <| w_sl 2 (.slice none 0 0) rfl <| hh.l0 hle he h0_w
/-! ### radome/wide.Of -/
noncomputable def wide_Of.C : Code := (Tryz.f71.body).getD .skip
def wide_Of.out (r : wide_Int) (H : Hp) (v : Value) : Prop := ∃ v0, v = .agg ⟨[.bool r.f_neg, v0]⟩ ∧ Ro (Kd.int .u32) H v0 r.f_w
theorem wide_Of.out_mono (r : wide_Int) {H H' : Hp} {v : Value} (hle : H.le H') (h : wide_Of.out r H v) : wide_Of.out r H' v := by
 obtain ⟨v0, rfl, h0⟩ := h; exact ⟨v0, rfl, h0.mono hle⟩
abbrev wide_Of.R (H0 : Hp) (L : Items) (r : wide_Int) : Value → Hp → Items → Prop := fun v H' L' => (∃ p, L' = p ++ L) ∧ H0.le H' ∧ wide_Of.out r H' v
noncomputable def wide_Of.j1 (k : Nat)  (n : Int) (v_ : Int) : Option wide_Int := (wide_trim.f k [(v_) % 4294967296, (v_ / 4294967296) % 4294967296]).bind fun y9 => some ((⟨decide (n < 0), y9⟩ : wide_Int))
noncomputable def wide_Of.f (k : Nat) (n : Int) : Option wide_Int := if n < 0 then (wide_Of.j1 k n ((0 - ((n) % 18446744073709551616)) % 18446744073709551616)) else (wide_Of.j1 k n ((n) % 18446744073709551616))
theorem wide_Of.j1_mono {k : Nat} : ∀ y0 y1, LeO (wide_Of.j1 k y0 y1) (wide_Of.j1 (k + 1) y0 y1) := fun _ _ => (LeO.bind (wide_trim.mono k _) fun _ => LeO.refl _)
theorem wide_Of.mono : ∀ k y0, LeO (wide_Of.f k y0) (wide_Of.f (k + 1) y0) := fun k _ => by unfold wide_Of.f; exact (LeO.ite (wide_Of.j1_mono (k := k)  _ _) (wide_Of.j1_mono (k := k)  _ _))
noncomputable def wide_Of.Kj1 : List Item := .code (seqR (seqR (seqR wide_Of.C))) :: []
theorem wide_Of.j1_ok {k : Nat} {H0 H : Hp} {L : Items} {r : wide_Int} {jk_ : Nat → Value} {n : Int} {v_ : Int} {b_t2 : Nat} (hle : H0.le H) (he : wide_Of.j1 k n v_ = some r) : Wp Tryz.prog 71 20 wide_Of.Kj1 (upd (upd (upd jk_ 0 (.int .i64 n)) 2 (.pointer (some ⟨b_t2, 0, none⟩))) 3 (.int .u64 v_)) H (some (b_t2, .cells ⟨[.bool false, .slice none 0 0]⟩ 24 (0, 0)) :: L) (wide_Of.R H0 L r) := by
 unfold wide_Of.j1 at he
 unfold wide_Of.Kj1
 refine w_seq <| w_region rfl <| w_d rfl (d_move (v := .int .i64 n) rfl) <| w_d rfl (d_lss rfl rfl) <| w_d rfl (d_move (v := .int .u64 v_) rfl) <| w_d rfl (d_conv (c := (v_) % 4294967296) Tryz.underlying113 Tryz.underlying167 rfl rfl) <| w_d rfl (d_move (v := .int .u64 v_) rfl) <| w_d rfl (d_shr (c := v_ / 4294967296) rfl rfl (by decide) rfl) <| w_d rfl (d_conv (c := (v_ / 4294967296) % 4294967296) Tryz.underlying113 Tryz.underlying167 rfl rfl) <| w_a rfl (o_buildSlice' (kd := (Kd.int .u32)) (css := [[.int .u32 ((v_) % 4294967296)], [.int .u32 ((v_ / 4294967296) % 4294967296)]]) (xs := [(v_) % 4294967296, (v_ / 4294967296) % 4294967296]) (parts := [(0, .int .u32 ((v_) % 4294967296)), (1, .int .u32 ((v_ / 4294967296) % 4294967296))]) Tryz.underlying22 ti167 rfl ⟨_, _, rfl, rfl, ⟨_, _, rfl, rfl, rfl⟩⟩ ⟨rfl, ⟨rfl, trivial⟩⟩ rfl (by decide)) ?_
 rintro v3 _ _ ⟨i4, rfl, rfl, h5⟩
 refine w_freeze h5 .here ?_
 intro H6 e7 h8
 obtain ⟨y9, hy10, he⟩ := Option.bind_eq_some_iff.1 he
 refine w_a rfl (o_call co113 (vs := [v3]) rfl (wide_trim.calls k hy10 h8)) ?_
 rintro v13 H11 _ ⟨rfl, e12, h14⟩
 refine w_d rfl (d_build (cs' := [.bool (decide (n < 0)), v13]) Tryz.underlying24 zr24 rfl (by kernel_rfl) (parts := [(0, .bool (decide (n < 0))), (1, v13)]) rfl (.cons (place_of rfl sz4 rfl) rfl rfl (.here .done) (.cons (place_of rfl sz22 rfl) h14.cells rfl (.there (.here .done)) .nil))) <| w_a0 rfl (o_store (v := .agg ⟨[.bool (decide (n < 0)), v13]⟩) sz24 rfl rfl rfl rfl (one_cons rfl (one_cons (h14.one) one_nil)) (.there .here) (.here (.here .done))) ?_
 rintro _ _ _ ⟨rfl, rfl, rfl⟩
 refine w_done ?_
 obtain rfl := Option.some.inj he
 refine w_return fn_71 rs_71 (.box (v := .agg ⟨[.bool (decide (n < 0)), v13]⟩) rfl ty24 rfl rfl (.there .here) rfl .nil) <| ⟨⟨[_, _], rfl⟩, hle.trans (e7.trans e12), ⟨v13, rfl, h14⟩⟩
theorem wide_Of.calls (k : Nat) {H : Hp} {L : Items} {n : Int} {r : wide_Int} (he : wide_Of.f k n = some r) : Ct Tryz.prog 71 ⟨[.int .i64 n]⟩ H L (fun v H' L' => L = L' ∧ H.le H' ∧ wide_Of.out r H' v) := by
 refine ct_out (O := wide_Of.out r) ?_
 have hle : H.le H := .refl _
 unfold wide_Of.f at he
 refine ct_enter (args := [.int .i64 n]) fn_71 rfl nt_71 rfl <| w_seq <| w_region rfl <| w_a rfl (o_alloc zr24 rfl) ?_
 rintro _ _ _ ⟨b1, rfl, rfl, rfl⟩
 refine w_done <| w_seq <| w_region rfl <| w_d rfl (d_move (v := .int .i64 n) rfl) <| w_d rfl (d_conv (c := (n) % 18446744073709551616) Tryz.underlying2 Tryz.underlying113 rfl rfl) <| w_d rfl (d_assign (v := .int .u64 ((n) % 18446744073709551616)) rfl) <| w_done <| w_seq <| w_seq <| w_region rfl <| w_d rfl (d_move (v := .int .i64 n) rfl) <| w_d rfl (d_lss rfl rfl) ?_
 refine w_done ?_
 rcases its he with ⟨c2, he⟩ | ⟨c2, he⟩
 ·
  refine w_then rfl (decide_eq_true c2) <| w_region rfl <| w_d rfl (d_move (v := .int .u64 ((n) % 18446744073709551616)) rfl) <| w_d rfl (d_neg (c := (0 - ((n) % 18446744073709551616)) % 18446744073709551616) rfl rfl) <| w_d rfl (d_assign (v := .int .u64 ((0 - ((n) % 18446744073709551616)) % 18446744073709551616)) rfl) <| w_done <| w_sl 0 (.int .i64 n) rfl <| w_sl 2 (.pointer (some ⟨b1, 0, none⟩)) rfl <| w_sl 3 (.int .u64 ((0 - ((n) % 18446744073709551616)) % 18446744073709551616)) rfl <| wide_Of.j1_ok (k := k) hle he
 ·
  refine w_else rfl (decide_eq_false c2) <| w_skip <| w_sl 0 (.int .i64 n) rfl <| w_sl 2 (.pointer (some ⟨b1, 0, none⟩)) rfl <| w_sl 3 (.int .u64 ((n) % 18446744073709551616)) rfl <| wide_Of.j1_ok (k := k) hle he
/-! ### radome/wide.up -/
noncomputable def wide_up.C : Code := (Tryz.f114.body).getD .skip
abbrev wide_up.out (r : (List Int)) (H : Hp) (v : Value) : Prop := Ro (Kd.int .u32) H v r
abbrev wide_up.R (H0 : Hp) (L : Items) (r : (List Int)) : Value → Hp → Items → Prop := fun v H' L' => (∃ p it, L' = p ++ it :: L ∧ Sl (Kd.int .u32) H' 167 it v r) ∧ H0.le H'
structure wide_up.Hs where
 l0 : Int → (List Int) → Int → (List Int) → Int → Int → Option (List Int)
noncomputable def wide_up.b0 (k : Nat) (h : wide_up.Hs)  (n : Int) (out : List Int) (carry : Int) (t14 : List Int) (t15 : Int) (t16 : Int) : Option (List Int) := if t16 < t15 then (if (0 : Int) ≤ t16 ∧ t16 < (t14.length : Int) then (if 0 ≤ n then (if out.length + 1 ≤ 35184372088704 then (h.l0 n (out ++ [(ior .u64 ((((rd t14 t16) % 18446744073709551616) * 2 ^ shn .u64 n) % 18446744073709551616) ((carry) % 18446744073709551616)) % 4294967296]) (((ior .u64 ((((rd t14 t16) % 18446744073709551616) * 2 ^ shn .u64 n) % 18446744073709551616) ((carry) % 18446744073709551616)) / 4294967296) % 4294967296) t14 t15 (w64 (t16 + 1))) else none) else none) else none) else (if out.length + 1 ≤ 35184372088704 then (some (out ++ [carry])) else none)
noncomputable def wide_up.hs : Nat → wide_up.Hs
 | 0 => ⟨fun _ _ _ _ _ _ => none⟩
 | k + 1 => ⟨fun x0 x1 x2 x3 x4 x5 => wide_up.b0 k (wide_up.hs k) x0 x1 x2 x3 x4 x5⟩
noncomputable def wide_up.f (k : Nat) (w : List Int) (n : Int) : Option (List Int) := (fun h : wide_up.Hs => if 0 ≤ 0 ∧ 0 ≤ w64 ((w.length : Int) + 1) ∧ w64 ((w.length : Int) + 1) ≤ 70368744177664 then (h.l0 n (List.replicate (0 : Int).toNat (0 : Int)) 0 w (w.length : Int) 0) else none) (wide_up.hs k)
structure wide_up.LE (h h' : wide_up.Hs) : Prop where
 l0 : ∀ y0 y1 y2 y3 y4 y5, LeO (h.l0 y0 y1 y2 y3 y4 y5) (h'.l0 y0 y1 y2 y3 y4 y5)
theorem wide_up.b0_mono {k : Nat} {h h' : wide_up.Hs} (hl : wide_up.LE h h') : ∀ y0 y1 y2 y3 y4 y5, LeO (wide_up.b0 k h y0 y1 y2 y3 y4 y5) (wide_up.b0 (k + 1) h' y0 y1 y2 y3 y4 y5) := fun _ _ _ _ _ _ => (LeO.ite (LeO.ite (LeO.ite (LeO.ite (hl.l0 _ _ _ _ _ _) (LeO.refl _)) (LeO.refl _)) (LeO.refl _)) (LeO.ite (LeO.refl _) (LeO.refl _)))
theorem wide_up.hs_mono : ∀ k, wide_up.LE (wide_up.hs k) (wide_up.hs (k + 1))
 | 0 => ⟨fun _ _ _ _ _ _ => LeO.none _⟩
 | k + 1 => ⟨wide_up.b0_mono (k := k) (wide_up.hs_mono k)⟩
theorem wide_up.mono : ∀ k y0 y1, LeO (wide_up.f k y0 y1) (wide_up.f (k + 1) y0 y1) := fun k _ _ => have hl := wide_up.hs_mono k; by unfold wide_up.f; exact (LeO.ite (hl.l0 _ _ _ _ _ _) (LeO.refl _))
noncomputable def wide_up.Kl0 : List Item := .code (lopB (blkB (seqR (seqL (seqR (seqR (seqR wide_up.C))))))) :: .inLoop (lopB (blkB (seqR (seqL (seqR (seqR (seqR wide_up.C))))))) :: .inBlock 0 :: .code (seqR (seqR (seqR (seqR wide_up.C)))) :: []
structure wide_up.OK (h : wide_up.Hs) : Prop where
 l0 : ∀ {H0 H : Hp} {L : Items} {r : (List Int)} {jk_ : Nat → Value} {n : Int} {out : List Int} {carry : Int} {t14 : List Int} {t15 : Int} {t16 : Int} {v_out : Value} {v_t14 : Value} {i_out : Item'} (_ : H0.le H) (_he : h.l0 n out carry t14 t15 t16 = some r) (_h_out : Sl (Kd.int .u32) H 167 i_out v_out out) (_h_t14 : Src (Kd.int .u32) H L v_t14 t14), Wp Tryz.prog 114 40 wide_up.Kl0 (upd (upd (upd (upd (upd (upd (upd jk_ 1 (.int .i64 n)) 4 (.slice none 0 0)) 5 (v_out)) 6 (.int .u32 carry)) 14 (v_t14)) 15 (.int .i64 t15)) 16 (.int .i64 t16)) H (i_out :: L) (wide_up.R H0 L r)
theorem wide_up.b0_ok {k : Nat} {h : wide_up.Hs} (hh : wide_up.OK h) {H0 H : Hp} {L : Items} {r : (List Int)} {jk_ : Nat → Value} {n : Int} {out : List Int} {carry : Int} {t14 : List Int} {t15 : Int} {t16 : Int} {v_out : Value} {v_t14 : Value} {i_out : Item'} (hle : H0.le H) (he : wide_up.b0 k h n out carry t14 t15 t16 = some r) (h_out : Sl (Kd.int .u32) H 167 i_out v_out out) (h_t14 : Src (Kd.int .u32) H L v_t14 t14) : Wp Tryz.prog 114 40 wide_up.Kl0 (upd (upd (upd (upd (upd (upd (upd jk_ 1 (.int .i64 n)) 4 (.slice none 0 0)) 5 (v_out)) 6 (.int .u32 carry)) 14 (v_t14)) 15 (.int .i64 t15)) 16 (.int .i64 t16)) H (i_out :: L) (wide_up.R H0 L r) := by
 unfold wide_up.b0 at he
 unfold wide_up.Kl0
 refine w_seq <| w_region rfl <| w_d rfl (d_lss rfl rfl) <| w_done <| w_seq ?_
 rcases its he with ⟨c5, he⟩ | ⟨c5, he⟩
 ·
  refine w_then rfl (decide_eq_true c5) <| w_skip <| w_seq <| w_block <| w_seq <| w_region rfl ?_
  obtain ⟨c6, he⟩ := rq he
  refine w_d rfl (d_index (sz := 1) Tryz.underlying22 sz167 rfl h_t14.th rfl c6) <| w_d rfl (d_ldint ty167 rfl h_t14.th c6) <| w_d rfl (d_assign (v := .int .u32 (rd t14 t16)) rfl) <| w_done <| w_seq <| w_region rfl <| w_d rfl (d_move (v := .int .u32 (rd t14 t16)) rfl) <| w_d rfl (d_conv (c := (rd t14 t16) % 18446744073709551616) Tryz.underlying167 Tryz.underlying113 rfl rfl) <| w_d rfl (d_move (v := .int .i64 n) rfl) ?_
  obtain ⟨c7, he⟩ := rq he
  refine w_d rfl (d_shl (c := (((rd t14 t16) % 18446744073709551616) * 2 ^ shn .u64 n) % 18446744073709551616) rfl rfl c7 rfl) <| w_d rfl (d_move (v := .int .u32 carry) rfl) <| w_d rfl (d_conv (c := (carry) % 18446744073709551616) Tryz.underlying167 Tryz.underlying113 rfl rfl) <| w_d rfl (d_bor rfl rfl) <| w_d rfl (d_assign (v := .int .u64 (ior .u64 ((((rd t14 t16) % 18446744073709551616) * 2 ^ shn .u64 n) % 18446744073709551616) ((carry) % 18446744073709551616))) rfl) <| w_done <| w_seq <| w_region rfl <| w_d rfl (d_move (v := v_out) rfl) <| w_d rfl (d_move (v := .int .u64 (ior .u64 ((((rd t14 t16) % 18446744073709551616) * 2 ^ shn .u64 n) % 18446744073709551616) ((carry) % 18446744073709551616))) rfl) <| w_d rfl (d_conv (c := (ior .u64 ((((rd t14 t16) % 18446744073709551616) * 2 ^ shn .u64 n) % 18446744073709551616) ((carry) % 18446744073709551616)) % 4294967296) Tryz.underlying113 Tryz.underlying167 rfl rfl) <| w_a rfl (o_buildSlice' (kd := (Kd.int .u32)) (css := [[.int .u32 ((ior .u64 ((((rd t14 t16) % 18446744073709551616) * 2 ^ shn .u64 n) % 18446744073709551616) ((carry) % 18446744073709551616)) % 4294967296)]]) (xs := [(ior .u64 ((((rd t14 t16) % 18446744073709551616) * 2 ^ shn .u64 n) % 18446744073709551616) ((carry) % 18446744073709551616)) % 4294967296]) (parts := [(0, .int .u32 ((ior .u64 ((((rd t14 t16) % 18446744073709551616) * 2 ^ shn .u64 n) % 18446744073709551616) ((carry) % 18446744073709551616)) % 4294967296))]) Tryz.underlying22 ti167 rfl ⟨_, _, rfl, rfl, rfl⟩ ⟨rfl, trivial⟩ rfl (by decide)) ?_
  rintro v8 _ _ ⟨i9, rfl, rfl, h10⟩
  obtain ⟨c11, he⟩ := rq he
  refine w_a rfl (o_append' (kd := (Kd.int .u32)) (F := fun z_ => i9 :: z_ :: L) Tryz.underlying22 Tryz.underlying22 ti167 rfl (by first | omega | (simp only [List.nil_append, List.length_cons, List.length_nil]; omega)) rfl rfl h_out (h10.src .here) (fun _ => (.there .here))) ?_
  rintro v12 _ _ ⟨i13, rfl, rfl, h14⟩
  refine w_d rfl (d_assign (v := v12) rfl) <| w_done <| w_region rfl <| w_d rfl (d_move (v := .int .u64 (ior .u64 ((((rd t14 t16) % 18446744073709551616) * 2 ^ shn .u64 n) % 18446744073709551616) ((carry) % 18446744073709551616))) rfl) <| w_d rfl (d_shr (c := (ior .u64 ((((rd t14 t16) % 18446744073709551616) * 2 ^ shn .u64 n) % 18446744073709551616) ((carry) % 18446744073709551616)) / 4294967296) rfl rfl (by decide) rfl) <| w_d rfl (d_conv (c := ((ior .u64 ((((rd t14 t16) % 18446744073709551616) * 2 ^ shn .u64 n) % 18446744073709551616) ((carry) % 18446744073709551616)) / 4294967296) % 4294967296) Tryz.underlying113 Tryz.underlying167 rfl rfl) <| w_d rfl (d_assign (v := .int .u32 (((ior .u64 ((((rd t14 t16) % 18446744073709551616) * 2 ^ shn .u64 n) % 18446744073709551616) ((carry) % 18446744073709551616)) / 4294967296) % 4294967296)) rfl) <| w_done <| w_inBlock <| w_region rfl <| w_d rfl (d_add (c := w64 (t16 + 1)) rfl rfl rfl) <| w_d rfl (d_move (v := .int .i64 (w64 (t16 + 1))) rfl) ?_
  refine w_done <| w_inLoop <| w_del .here <| w_sl 1 (.int .i64 n) rfl <| w_sl 4 (.slice none 0 0) rfl <| w_sl 5 (v12) rfl <| w_sl 6 (.int .u32 (((ior .u64 ((((rd t14 t16) % 18446744073709551616) * 2 ^ shn .u64 n) % 18446744073709551616) ((carry) % 18446744073709551616)) / 4294967296) % 4294967296)) rfl <| w_sl 14 (v_t14) rfl <| w_sl 15 (.int .i64 t15) rfl <| w_sl 16 (.int .i64 (w64 (t16 + 1))) rfl <| hh.l0 hle he h14 h_t14
 ·
  refine w_else rfl (decide_eq_false c5) <| w_exit rfl <| w_seq <| w_region rfl <| w_d rfl (d_move (v := v_out) rfl) <| w_d rfl (d_move (v := .int .u32 carry) rfl) <| w_a rfl (o_buildSlice' (kd := (Kd.int .u32)) (css := [[.int .u32 carry]]) (xs := [carry]) (parts := [(0, .int .u32 carry)]) Tryz.underlying22 ti167 rfl ⟨_, _, rfl, rfl, rfl⟩ ⟨rfl, trivial⟩ rfl (by decide)) ?_
  rintro v15 _ _ ⟨i16, rfl, rfl, h17⟩
  obtain ⟨c18, he⟩ := rq he
  refine w_a rfl (o_append' (kd := (Kd.int .u32)) (F := fun z_ => i16 :: z_ :: L) Tryz.underlying22 Tryz.underlying22 ti167 rfl (by first | omega | (simp only [List.nil_append, List.length_cons, List.length_nil]; omega)) rfl rfl h_out (h17.src .here) (fun _ => (.there .here))) ?_
  rintro v19 _ _ ⟨i20, rfl, rfl, h21⟩
  refine w_d rfl (d_assign (v := v19) rfl) <| w_done ?_
  obtain rfl := Option.some.inj he
  refine w_del .here <| w_return fn_114 rs_114 (.tmp (v := v19) rfl .nil) <| ⟨⟨[], _, rfl, h21⟩, hle⟩
theorem wide_up.ok : ∀ k, wide_up.OK (wide_up.hs k)
 | 0 => ⟨(by intros; exact nomatch (show none = some _ from by assumption))⟩
 | k + 1 => ⟨wide_up.b0_ok (k := k) (wide_up.ok k)⟩
theorem wide_up.calls (k : Nat) {H : Hp} {L : Items} {w : List Int} {n : Int} {v0_w : Value} {r : (List Int)} (he : wide_up.f k w n = some r) (h0_w : Src (Kd.int .u32) H L v0_w w) : Ct Tryz.prog 114 ⟨[v0_w, .int .i64 n]⟩ H L (fun v H' L' => ∃ it, L' = it :: L ∧ H.le H' ∧ Sl (Kd.int .u32) H' 167 it v r) := by
 refine ct_own ?_
 have hle : H.le H := .refl _
 have hh := wide_up.ok k
 unfold wide_up.f at he
 refine ct_enter (args := [v0_w, .int .i64 n]) fn_114 rfl nt_114 rfl <| w_seq <| w_region rfl <| w_d rfl (d_assign (v := .slice none 0 0) rfl) <| w_done <| w_seq <| w_region rfl <| w_d rfl (d_move (v := v0_w) rfl) <| w_d rfl (d_len Tryz.underlying22 rfl h0_w) <| w_d rfl (d_add (c := w64 ((w.length : Int) + 1)) rfl rfl rfl) ?_
 obtain ⟨c1, he⟩ := rq he
 refine w_a rfl (o_make' (kd := (Kd.int .u32)) (z0 := 0) Tryz.underlying22 ti167 (zp167 _) rfl rfl (by omega) (by omega) (by omega)) ?_
 rintro v2 _ _ ⟨i3, rfl, rfl, h4⟩
 refine w_d rfl (d_assign (v := v2) rfl) <| w_done <| w_seq <| w_region rfl <| w_d rfl (d_assign (v := .int .u32 0) rfl) <| w_done <| w_seq <| w_seq <| w_region rfl <| w_d rfl (d_move (v := v0_w) rfl) <| w_d rfl (d_len Tryz.underlying22 rfl h0_w.th) <| w_d rfl (d_move (v := .int .i64 0) rfl) ?_
 refine w_done <| w_block <| w_loop <| w_sl 1 (.int .i64 n) rfl <| w_sl 4 (.slice none 0 0) rfl <| w_sl 5 (v2) rfl <| w_sl 6 (.int .u32 0) rfl <| w_sl 14 (v0_w) rfl <| w_sl 15 (.int .i64 (w.length : Int)) rfl <| w_sl 16 (.int .i64 0) rfl <| hh.l0 hle he h4 h0_w
theorem wide_up.callsR (k : Nat) {H : Hp} {L : Items} {w : List Int} {n : Int} {v0_w : Value} {r : (List Int)} (he : wide_up.f k w n = some r) (h0_w : Src (Kd.int .u32) H L v0_w w) : Ct Tryz.prog 114 ⟨[v0_w, .int .i64 n]⟩ H L (fun v H' L' => L = L' ∧ H.le H' ∧ wide_up.out r H' v) := ct_ro (wide_up.calls k he h0_w)
/-! ### radome/wide.made -/
noncomputable def wide_made.C : Code := (Tryz.f115.body).getD .skip
def wide_made.out (r : wide_Int × (Option Int)) (H : Hp) (v : Value) : Prop := ∃ v0, v = .tuple ⟨[.agg ⟨[.bool r.1.f_neg, v0]⟩, errV 104 r.2]⟩ ∧ Ro (Kd.int .u32) H v0 r.1.f_w
theorem wide_made.out_mono (r : wide_Int × (Option Int)) {H H' : Hp} {v : Value} (hle : H.le H') (h : wide_made.out r H v) : wide_made.out r H' v := by
 obtain ⟨v0, rfl, h0⟩ := h; exact ⟨v0, rfl, h0.mono hle⟩
abbrev wide_made.R (H0 : Hp) (L : Items) (r : wide_Int × (Option Int)) : Value → Hp → Items → Prop := fun v H' L' => (∃ p, L' = p ++ L) ∧ H0.le H' ∧ wide_made.out r H' v
noncomputable def wide_made.f (k : Nat) (neg : Bool) (w : List Int) : Option (wide_Int × (Option Int)) := (wide_trim.f k w).bind fun y2 => if 128 < (y2.length : Int) then (some ((⟨false, []⟩ : wide_Int), some 12)) else (some ((⟨neg && (decide (0 < (y2.length : Int))), y2⟩ : wide_Int), none))
theorem wide_made.mono : ∀ k y0 y1, LeO (wide_made.f k y0 y1) (wide_made.f (k + 1) y0 y1) := fun k _ _ => by unfold wide_made.f; exact (LeO.bind (wide_trim.mono k _) fun _ => LeO.ite (LeO.refl _) (LeO.refl _))
theorem wide_made.calls (k : Nat) {H : Hp} {L : Items} {neg : Bool} {w : List Int} {v0_w : Value} {r : wide_Int × (Option Int)} (he : wide_made.f k neg w = some r) (h0_w : Ro (Kd.int .u32) H v0_w w) : Ct Tryz.prog 115 ⟨[.bool neg, v0_w]⟩ H L (fun v H' L' => L = L' ∧ H.le H' ∧ wide_made.out r H' v) := by
 refine ct_out (O := wide_made.out r) ?_
 have hle : H.le H := .refl _
 unfold wide_made.f at he
 refine ct_enter (args := [.bool neg, v0_w]) fn_115 rfl nt_115 rfl <| w_seq <| w_region rfl <| w_a rfl (o_alloc zr24 rfl) ?_
 rintro _ _ _ ⟨b1, rfl, rfl, rfl⟩
 refine w_d rfl (d_assign (v := errV 104 none) rfl) <| w_done <| w_seq <| w_region rfl <| w_d rfl (d_move (v := v0_w) rfl) ?_
 obtain ⟨y2, hy3, he⟩ := Option.bind_eq_some_iff.1 he
 refine w_a rfl (o_call co113 (vs := [v0_w]) rfl (wide_trim.calls k hy3 h0_w)) ?_
 rintro v6 H4 _ ⟨rfl, e5, h7⟩
 refine w_d rfl (d_assign (v := v6) rfl) <| w_done <| w_seq <| w_seq <| w_region rfl <| w_d rfl (d_move (v := v6) rfl) <| w_d rfl (d_len Tryz.underlying22 rfl h7.src) <| w_d rfl (d_gtr rfl rfl) <| w_done ?_
 rcases its he with ⟨c8, he⟩ | ⟨c8, he⟩
 ·
  refine w_then rfl (decide_eq_true c8) <| w_seq <| w_region rfl <| w_d rfl (d_build (cs' := [.bool false, .slice none 0 0]) Tryz.underlying24 zr24 rfl (by kernel_rfl) (parts := []) rfl .nil) <| w_d rfl (d_iface (v := .int .i64 12) Tryz.underlying104 rfl rfl) <| w_a0 rfl (o_store (v := .agg ⟨[.bool false, .slice none 0 0]⟩) sz24 rfl rfl rfl rfl (one_cons rfl (one_cons rfl one_nil)) .here (.here (.here .done))) ?_
  rintro _ _ _ ⟨rfl, rfl, rfl⟩
  refine w_d rfl (d_assign (v := errV 104 (some 12)) rfl) <| w_done ?_
  obtain rfl := Option.some.inj he
  refine w_return fn_115 rs_115 (.box (v := .agg ⟨[.bool false, .slice none 0 0]⟩) rfl ty24 rfl rfl .here rfl (.tmp (v := errV 104 (some 12)) rfl .nil)) <| ⟨⟨[_], rfl⟩, hle.trans e5, ⟨.slice none 0 0, rfl, (ro_nil _ _)⟩⟩
 ·
  refine w_else rfl (decide_eq_false c8) <| w_skip <| w_seq <| w_region rfl <| w_d rfl (d_move (v := .bool neg) rfl) <| w_d rfl (d_move (v := .bool neg) rfl) <| w_g (g := neg) rfl rfl rfl wn_t (fun g9 => d_move (v := v6) rfl) <| w_g (g := neg) rfl rfl rfl wn_t (fun g10 => d_len Tryz.underlying22 (cvt g10) h7.src) <| w_g (g := neg) rfl rfl rfl wn_t (fun g11 => d_gtr (cvt g11) rfl) <| w_d rfl (d_and' (b := neg) (p := (decide (0 < (y2.length : Int)))) rfl rfl rfl) <| w_d rfl (d_move (v := v6) rfl) <| w_d rfl (d_build (cs' := [.bool (neg && (decide (0 < (y2.length : Int)))), v6]) Tryz.underlying24 zr24 rfl (by kernel_rfl) (parts := [(0, .bool (neg && (decide (0 < (y2.length : Int))))), (1, v6)]) rfl (.cons (place_of rfl sz4 rfl) rfl rfl (.here .done) (.cons (place_of rfl sz22 rfl) h7.cells rfl (.there (.here .done)) .nil))) ?_
  refine w_a0 rfl (o_store (v := .agg ⟨[.bool (neg && (decide (0 < (y2.length : Int)))), v6]⟩) sz24 rfl rfl rfl rfl (one_cons rfl (one_cons (h7.one) one_nil)) .here (.here (.here .done))) ?_
  rintro _ _ _ ⟨rfl, rfl, rfl⟩
  refine w_d rfl (d_assign (v := errV 104 none) rfl) <| w_done ?_
  obtain rfl := Option.some.inj he
  refine w_return fn_115 rs_115 (.box (v := .agg ⟨[.bool (neg && (decide (0 < (y2.length : Int)))), v6]⟩) rfl ty24 rfl rfl .here rfl (.tmp (v := errV 104 none) rfl .nil)) <| ⟨⟨[_], rfl⟩, hle.trans e5, ⟨v6, rfl, h7⟩⟩
/-! ### (radome/wide.Int).Move$1 -/
noncomputable def wide_Int_Move_1.C : Code := (Tryz.f117.body).getD .skip
def wide_Int_Move_1.out (r : Bool) (H : Hp) (v : Value) : Prop := v = .bool r
abbrev wide_Int_Move_1.R (H0 : Hp) (L : Items) (r : Bool) : Value → Hp → Items → Prop := fun v H' L' => (∃ p, L' = p ++ L) ∧ H0.le H' ∧ wide_Int_Move_1.out r H' v
noncomputable def wide_Int_Move_1.f (k : Nat) (x : Int) : Option Bool := some (!decide (x = 0))
theorem wide_Int_Move_1.mono : ∀ k y0, LeO (wide_Int_Move_1.f k y0) (wide_Int_Move_1.f (k + 1) y0) := fun k _ => by unfold wide_Int_Move_1.f; exact (LeO.refl _)
theorem wide_Int_Move_1.calls (k : Nat) {H : Hp} {L : Items} {x : Int} {r : Bool} (he : wide_Int_Move_1.f k x = some r) : Ct Tryz.prog 117 ⟨[.int .u32 x]⟩ H L (fun v H' L' => L = L' ∧ H = H' ∧ v = .bool r) := by
 refine ct_outs (O := wide_Int_Move_1.out r) (fun _ _ h => h) ?_
 have hle : H.le H := .refl _
 unfold wide_Int_Move_1.f at he
 refine ct_enter (args := [.int .u32 x]) fn_117 rfl nt_117 rfl <| w_seq <| w_region rfl <| w_d rfl (d_assign (v := .bool false) rfl) <| w_done <| w_seq <| w_region rfl <| w_d rfl (d_move (v := .int .u32 x) rfl) <| w_d rfl (d_neq rfl rfl) <| w_d rfl (d_assign (v := .bool (!decide (x = 0))) rfl) <| w_done ?_
 obtain rfl := Option.some.inj he
 refine w_return fn_117 rs_117 (.tmp (v := .bool (!decide (x = 0))) rfl .nil) <| ⟨⟨[], rfl⟩, hle, rfl⟩
/-! ### slices.IndexFunc[[]uint32,uint32] -/
noncomputable def slices_IndexFunc_uint32_uint32_wide_Int_Move_1.C : Code := (Tryz.f141.body).getD .skip
def slices_IndexFunc_uint32_uint32_wide_Int_Move_1.out (r : Int) (H : Hp) (v : Value) : Prop := v = .int .i64 r
abbrev slices_IndexFunc_uint32_uint32_wide_Int_Move_1.R (H0 : Hp) (L : Items) (r : Int) : Value → Hp → Items → Prop := fun v H' L' => (∃ p, L' = p ++ L) ∧ H0.le H' ∧ slices_IndexFunc_uint32_uint32_wide_Int_Move_1.out r H' v
structure slices_IndexFunc_uint32_uint32_wide_Int_Move_1.Hs where
 l0 : (List Int) → Int → Int → Int → Option Int
noncomputable def slices_IndexFunc_uint32_uint32_wide_Int_Move_1.b0 (k : Nat) (h : slices_IndexFunc_uint32_uint32_wide_Int_Move_1.Hs)  (s : List Int) (t4 : Int) (t7 : Int) (t8 : Int) : Option Int := if t8 < t7 then (if (0 : Int) ≤ t8 ∧ t8 < (s.length : Int) then ((wide_Int_Move_1.f k (rd s t8)).bind fun y3 => if y3 = true then (some (t8)) else (h.l0 s t4 t7 (w64 (t8 + 1)))) else none) else (some ((-1)))
noncomputable def slices_IndexFunc_uint32_uint32_wide_Int_Move_1.hs : Nat → slices_IndexFunc_uint32_uint32_wide_Int_Move_1.Hs
 | 0 => ⟨fun _ _ _ _ => none⟩
 | k + 1 => ⟨fun x0 x1 x2 x3 => slices_IndexFunc_uint32_uint32_wide_Int_Move_1.b0 k (slices_IndexFunc_uint32_uint32_wide_Int_Move_1.hs k) x0 x1 x2 x3⟩
noncomputable def slices_IndexFunc_uint32_uint32_wide_Int_Move_1.f (k : Nat) (s : List Int) : Option Int := (fun h : slices_IndexFunc_uint32_uint32_wide_Int_Move_1.Hs => h.l0 s 0 (s.length : Int) 0) (slices_IndexFunc_uint32_uint32_wide_Int_Move_1.hs k)
structure slices_IndexFunc_uint32_uint32_wide_Int_Move_1.LE (h h' : slices_IndexFunc_uint32_uint32_wide_Int_Move_1.Hs) : Prop where
 l0 : ∀ y0 y1 y2 y3, LeO (h.l0 y0 y1 y2 y3) (h'.l0 y0 y1 y2 y3)
theorem slices_IndexFunc_uint32_uint32_wide_Int_Move_1.b0_mono {k : Nat} {h h' : slices_IndexFunc_uint32_uint32_wide_Int_Move_1.Hs} (hl : slices_IndexFunc_uint32_uint32_wide_Int_Move_1.LE h h') : ∀ y0 y1 y2 y3, LeO (slices_IndexFunc_uint32_uint32_wide_Int_Move_1.b0 k h y0 y1 y2 y3) (slices_IndexFunc_uint32_uint32_wide_Int_Move_1.b0 (k + 1) h' y0 y1 y2 y3) := fun _ _ _ _ => (LeO.ite (LeO.ite (LeO.bind (wide_Int_Move_1.mono k _) fun _ => LeO.ite (LeO.refl _) (hl.l0 _ _ _ _)) (LeO.refl _)) (LeO.refl _))
theorem slices_IndexFunc_uint32_uint32_wide_Int_Move_1.hs_mono : ∀ k, slices_IndexFunc_uint32_uint32_wide_Int_Move_1.LE (slices_IndexFunc_uint32_uint32_wide_Int_Move_1.hs k) (slices_IndexFunc_uint32_uint32_wide_Int_Move_1.hs (k + 1))
 | 0 => ⟨fun _ _ _ _ => LeO.none _⟩
 | k + 1 => ⟨slices_IndexFunc_uint32_uint32_wide_Int_Move_1.b0_mono (k := k) (slices_IndexFunc_uint32_uint32_wide_Int_Move_1.hs_mono k)⟩
theorem slices_IndexFunc_uint32_uint32_wide_Int_Move_1.mono : ∀ k y0, LeO (slices_IndexFunc_uint32_uint32_wide_Int_Move_1.f k y0) (slices_IndexFunc_uint32_uint32_wide_Int_Move_1.f (k + 1) y0) := fun k _ => have hl := slices_IndexFunc_uint32_uint32_wide_Int_Move_1.hs_mono k; by unfold slices_IndexFunc_uint32_uint32_wide_Int_Move_1.f; exact (hl.l0 _ _ _ _)
noncomputable def slices_IndexFunc_uint32_uint32_wide_Int_Move_1.Kl0 : List Item := .code (lopB (blkB (seqR (seqL (seqR slices_IndexFunc_uint32_uint32_wide_Int_Move_1.C))))) :: .inLoop (lopB (blkB (seqR (seqL (seqR slices_IndexFunc_uint32_uint32_wide_Int_Move_1.C))))) :: .inBlock 0 :: .code (seqR (seqR slices_IndexFunc_uint32_uint32_wide_Int_Move_1.C)) :: []
structure slices_IndexFunc_uint32_uint32_wide_Int_Move_1.OK (h : slices_IndexFunc_uint32_uint32_wide_Int_Move_1.Hs) : Prop where
 l0 : ∀ {H0 H : Hp} {L : Items} {r : Int} {jk_ : Nat → Value} {s : List Int} {t4 : Int} {t7 : Int} {t8 : Int} {v_s : Value} (_ : H0.le H) (_he : h.l0 s t4 t7 t8 = some r) (_h_s : Src (Kd.int .u32) H L v_s s), Wp Tryz.prog 141 19 slices_IndexFunc_uint32_uint32_wide_Int_Move_1.Kl0 (upd (upd (upd (upd (upd jk_ 0 (v_s)) 1 (.func (.func 117) #[] #[])) 4 (.int .i64 t4)) 7 (.int .i64 t7)) 8 (.int .i64 t8)) H (L) (slices_IndexFunc_uint32_uint32_wide_Int_Move_1.R H0 L r)
theorem slices_IndexFunc_uint32_uint32_wide_Int_Move_1.b0_ok {k : Nat} {h : slices_IndexFunc_uint32_uint32_wide_Int_Move_1.Hs} (hh : slices_IndexFunc_uint32_uint32_wide_Int_Move_1.OK h) {H0 H : Hp} {L : Items} {r : Int} {jk_ : Nat → Value} {s : List Int} {t4 : Int} {t7 : Int} {t8 : Int} {v_s : Value} (hle : H0.le H) (he : slices_IndexFunc_uint32_uint32_wide_Int_Move_1.b0 k h s t4 t7 t8 = some r) (h_s : Src (Kd.int .u32) H L v_s s) : Wp Tryz.prog 141 19 slices_IndexFunc_uint32_uint32_wide_Int_Move_1.Kl0 (upd (upd (upd (upd (upd jk_ 0 (v_s)) 1 (.func (.func 117) #[] #[])) 4 (.int .i64 t4)) 7 (.int .i64 t7)) 8 (.int .i64 t8)) H (L) (slices_IndexFunc_uint32_uint32_wide_Int_Move_1.R H0 L r) := by
 unfold slices_IndexFunc_uint32_uint32_wide_Int_Move_1.b0 at he
 unfold slices_IndexFunc_uint32_uint32_wide_Int_Move_1.Kl0
 refine w_seq <| w_region rfl <| w_d rfl (d_lss rfl rfl) <| w_done <| w_seq ?_
 rcases its he with ⟨c1, he⟩ | ⟨c1, he⟩
 ·
  refine w_then rfl (decide_eq_true c1) <| w_skip <| w_seq <| w_block <| w_seq <| w_region rfl <| w_d rfl (d_move (v := .int .i64 t8) rfl) <| w_d rfl (d_assign (v := .int .i64 t8) rfl) <| w_done <| w_seq <| w_region rfl <| w_d rfl (d_move (v := .func (.func 117) #[] #[]) rfl) ?_
  refine w_d rfl (d_move (v := v_s) rfl) <| w_d rfl (d_move (v := .int .i64 t8) rfl) ?_
  obtain ⟨c2, he⟩ := rq he
  refine w_d rfl (d_index (sz := 1) Tryz.underlying22 sz167 rfl h_s rfl c2) <| w_d rfl (d_ldint ty167 rfl h_s c2) ?_
  obtain ⟨y3, hy4, he⟩ := Option.bind_eq_some_iff.1 he
  refine w_d rfl (call_d (o_callv rfl co117 (vs := [.int .u32 (rd s t8)]) rfl (wide_Int_Move_1.calls k hy4))) <| w_done ?_
  rcases its he with ⟨c7, he⟩ | ⟨c7, he⟩
  ·
   refine w_then rfl c7 <| w_seq <| w_region rfl <| w_d rfl (d_move (v := .int .i64 t8) rfl) <| w_d rfl (d_assign (v := .int .i64 t8) rfl) <| w_done ?_
   obtain rfl := Option.some.inj he
   refine w_return fn_141 rs_141 (.tmp (v := .int .i64 t8) rfl .nil) <| ⟨⟨[], rfl⟩, hle, rfl⟩
  ·
   refine w_else rfl (Bool.eq_false_iff.2 c7) <| w_skip <| w_inBlock <| w_region rfl <| w_d rfl (d_add (c := w64 (t8 + 1)) rfl rfl rfl) <| w_d rfl (d_move (v := .int .i64 (w64 (t8 + 1))) rfl) <| w_done <| w_inLoop <| w_sl 0 (v_s) rfl <| w_sl 1 (.func (.func 117) #[] #[]) rfl <| w_sl 4 (.int .i64 t4) rfl <| w_sl 7 (.int .i64 t7) rfl ?_
   refine w_sl 8 (.int .i64 (w64 (t8 + 1))) rfl <| hh.l0 hle he h_s
 ·
  refine w_else rfl (decide_eq_false c1) <| w_exit rfl <| w_seq <| w_region rfl <| w_d rfl (d_assign (v := .int .i64 (-1)) rfl) <| w_done ?_
  obtain rfl := Option.some.inj he
  refine w_return fn_141 rs_141 (.tmp (v := .int .i64 (-1)) rfl .nil) <| ⟨⟨[], rfl⟩, hle, rfl⟩
theorem slices_IndexFunc_uint32_uint32_wide_Int_Move_1.ok : ∀ k, slices_IndexFunc_uint32_uint32_wide_Int_Move_1.OK (slices_IndexFunc_uint32_uint32_wide_Int_Move_1.hs k)
 | 0 => ⟨(by intros; exact nomatch (show none = some _ from by assumption))⟩
 | k + 1 => ⟨slices_IndexFunc_uint32_uint32_wide_Int_Move_1.b0_ok (k := k) (slices_IndexFunc_uint32_uint32_wide_Int_Move_1.ok k)⟩
theorem slices_IndexFunc_uint32_uint32_wide_Int_Move_1.calls (k : Nat) {H : Hp} {L : Items} {s : List Int} {v0_s : Value} {r : Int} (he : slices_IndexFunc_uint32_uint32_wide_Int_Move_1.f k s = some r) (h0_s : Src (Kd.int .u32) H L v0_s s) : Ct Tryz.prog 141 ⟨[v0_s, .func (.func 117) #[] #[]]⟩ H L (fun v H' L' => L = L' ∧ H = H' ∧ v = .int .i64 r) := by
 refine ct_outs (O := slices_IndexFunc_uint32_uint32_wide_Int_Move_1.out r) (fun _ _ h => h) ?_
 have hle : H.le H := .refl _
 have hh := slices_IndexFunc_uint32_uint32_wide_Int_Move_1.ok k
 unfold slices_IndexFunc_uint32_uint32_wide_Int_Move_1.f at he
 refine ct_enter (args := [v0_s, .func (.func 117) #[] #[]]) fn_141 rfl nt_141 rfl <| w_seq <| w_region rfl <| w_d rfl (d_assign (v := .int .i64 0) rfl) <| w_done <| w_seq <| w_seq <| w_region rfl <| w_d rfl (d_move (v := v0_s) rfl) <| w_d rfl (d_len Tryz.underlying22 rfl h0_s) <| w_d rfl (d_move (v := .int .i64 0) rfl) <| w_done ?_
 refine w_block <| w_loop <| w_sl 0 (v0_s) rfl <| w_sl 1 (.func (.func 117) #[] #[]) rfl <| w_sl 4 (.int .i64 0) rfl <| w_sl 7 (.int .i64 (s.length : Int)) rfl <| w_sl 8 (.int .i64 0) rfl <| hh.l0 hle he h0_s
/-! ### slices.ContainsFunc[[]uint32,uint32] -/
noncomputable def slices_ContainsFunc_uint32_uint32_wide_Int_Move_1.C : Code := (Tryz.f116.body).getD .skip
def slices_ContainsFunc_uint32_uint32_wide_Int_Move_1.out (r : Bool) (H : Hp) (v : Value) : Prop := v = .bool r
abbrev slices_ContainsFunc_uint32_uint32_wide_Int_Move_1.R (H0 : Hp) (L : Items) (r : Bool) : Value → Hp → Items → Prop := fun v H' L' => (∃ p, L' = p ++ L) ∧ H0.le H' ∧ slices_ContainsFunc_uint32_uint32_wide_Int_Move_1.out r H' v
noncomputable def slices_ContainsFunc_uint32_uint32_wide_Int_Move_1.f (k : Nat) (s : List Int) : Option Bool := (slices_IndexFunc_uint32_uint32_wide_Int_Move_1.f k s).bind fun y1 => some (decide (0 ≤ y1))
theorem slices_ContainsFunc_uint32_uint32_wide_Int_Move_1.mono : ∀ k y0, LeO (slices_ContainsFunc_uint32_uint32_wide_Int_Move_1.f k y0) (slices_ContainsFunc_uint32_uint32_wide_Int_Move_1.f (k + 1) y0) := fun k _ => by unfold slices_ContainsFunc_uint32_uint32_wide_Int_Move_1.f; exact (LeO.bind (slices_IndexFunc_uint32_uint32_wide_Int_Move_1.mono k _) fun _ => LeO.refl _)
theorem slices_ContainsFunc_uint32_uint32_wide_Int_Move_1.calls (k : Nat) {H : Hp} {L : Items} {s : List Int} {v0_s : Value} {r : Bool} (he : slices_ContainsFunc_uint32_uint32_wide_Int_Move_1.f k s = some r) (h0_s : Src (Kd.int .u32) H L v0_s s) : Ct Tryz.prog 116 ⟨[v0_s, .func (.func 117) #[] #[]]⟩ H L (fun v H' L' => L = L' ∧ H = H' ∧ v = .bool r) := by
 refine ct_outs (O := slices_ContainsFunc_uint32_uint32_wide_Int_Move_1.out r) (fun _ _ h => h) ?_
 have hle : H.le H := .refl _
 unfold slices_ContainsFunc_uint32_uint32_wide_Int_Move_1.f at he
 refine ct_enter (args := [v0_s, .func (.func 117) #[] #[]]) fn_116 rfl nt_116 rfl <| w_seq <| w_region rfl <| w_d rfl (d_assign (v := .bool false) rfl) <| w_done <| w_seq <| w_region rfl <| w_d rfl (d_move (v := v0_s) rfl) <| w_d rfl (d_move (v := .func (.func 117) #[] #[]) rfl) ?_
 obtain ⟨y1, hy2, he⟩ := Option.bind_eq_some_iff.1 he
 refine w_d rfl (call_d (o_call co141 (vs := [v0_s, .func (.func 117) #[] #[]]) rfl (slices_IndexFunc_uint32_uint32_wide_Int_Move_1.calls k hy2 h0_s))) <| w_d rfl (d_geq rfl rfl) <| w_d rfl (d_assign (v := .bool (decide (0 ≤ y1))) rfl) <| w_done ?_
 obtain rfl := Option.some.inj he
 refine w_return fn_116 rs_116 (.tmp (v := .bool (decide (0 ≤ y1))) rfl .nil) <| ⟨⟨[], rfl⟩, hle, rfl⟩
/-! ### slices.Clone[[]uint32,uint32] -/
noncomputable def slices_Clone_uint32_uint32.C : Code := (Tryz.f119.body).getD .skip
abbrev slices_Clone_uint32_uint32.out (r : (List Int)) (H : Hp) (v : Value) : Prop := Ro (Kd.int .u32) H v r
abbrev slices_Clone_uint32_uint32.R (H0 : Hp) (L : Items) (r : (List Int)) : Value → Hp → Items → Prop := fun v H' L' => (∃ p it, L' = p ++ it :: L ∧ Sl (Kd.int .u32) H' 167 it v r) ∧ H0.le H'
noncomputable def slices_Clone_uint32_uint32.f (k : Nat) (s : List Int) : Option (List Int) := if 0 + s.length ≤ 35184372088704 then (some (s)) else none
theorem slices_Clone_uint32_uint32.mono : ∀ k y0, LeO (slices_Clone_uint32_uint32.f k y0) (slices_Clone_uint32_uint32.f (k + 1) y0) := fun k _ => by unfold slices_Clone_uint32_uint32.f; exact (LeO.ite (LeO.refl _) (LeO.refl _))
theorem slices_Clone_uint32_uint32.calls (k : Nat) {H : Hp} {L : Items} {s : List Int} {v0_s : Value} {r : (List Int)} (he : slices_Clone_uint32_uint32.f k s = some r) (h0_s : Ro (Kd.int .u32) H v0_s s) : Ct Tryz.prog 119 ⟨[v0_s]⟩ H L (fun v H' L' => ∃ it, L' = it :: L ∧ H.le H' ∧ Sl (Kd.int .u32) H' 167 it v r) := by
 refine ct_own ?_
 have hle : H.le H := .refl _
 unfold slices_Clone_uint32_uint32.f at he
 obtain ⟨A_, n_, rfl, hc_, h1_⟩ := h0_s
 cases A_ with
 | none =>
  have e_ : s = [] := h1_.elim id fun h => (by obtain ⟨_, _, h, _⟩ := h; cases h)
  subst e_
  obtain ⟨_, he⟩ := rq he
  refine ct_enter (args := [.slice none 0 n_]) fn_119 rfl nt_119 rfl <| w_seq <| w_region rfl <| w_d rfl (d_assign (v := .slice none 0 0) rfl) <| w_done <| w_seq <| w_seq <| w_region rfl <| w_d rfl (d_move (v := .slice none 0 n_) rfl) <| w_d rfl (d_eqnil_n Tryz.underlying22 rfl) <| w_done <| w_then rfl rfl ?_
  refine w_seq <| w_region rfl <| w_d rfl (d_assign (v := .slice none 0 0) rfl) <| w_done <| w_none ?_
  obtain rfl := Option.some.inj he
  refine w_return fn_119 rs_119 (.tmp (v := .slice none 0 0) rfl .nil) <| ⟨⟨[], _, rfl, (sl_nil _ _ _)⟩, hle⟩
 | some a_ =>
  have h0_s : Ro (Kd.int .u32) H (.slice (some a_) s.length n_) s := ⟨some a_, n_, rfl, hc_, h1_⟩
  refine ct_enter (args := [.slice (some a_) s.length n_]) fn_119 rfl nt_119 rfl <| w_seq <| w_region rfl <| w_d rfl (d_assign (v := .slice none 0 0) rfl) <| w_done <| w_seq <| w_seq <| w_region rfl <| w_d rfl (d_move (v := .slice (some a_) s.length n_) rfl) <| w_d rfl (d_eqnil_sl Tryz.underlying22 rfl rfl) <| w_done <| w_else rfl rfl ?_
  refine w_skip <| w_seq <| w_region rfl <| w_a rfl (o_buildSlice' (kd := (Kd.int .u32)) (css := []) (xs := []) (parts := []) Tryz.underlying22 ti167 rfl rfl trivial rfl (by decide)) ?_
  rintro v1 _ _ ⟨i2, rfl, rfl, h3⟩
  refine w_d rfl (d_move (v := .slice (some a_) s.length n_) rfl) ?_
  obtain ⟨c4, he⟩ := rq he
  refine w_a rfl (o_append' (kd := (Kd.int .u32)) (F := fun z_ => z_ :: L) Tryz.underlying22 Tryz.underlying22 ti167 rfl (by first | omega | (simp only [List.nil_append, List.length_cons, List.length_nil]; omega)) rfl rfl h3 h0_s.src (fun _ => .here)) ?_
  rintro v5 _ _ ⟨i6, rfl, rfl, h7⟩
  refine w_d rfl (d_assign (v := v5) rfl) <| w_done ?_
  obtain rfl := Option.some.inj he
  refine w_return fn_119 rs_119 (.tmp (v := v5) rfl .nil) <| ⟨⟨[], _, rfl, h7⟩, hle⟩
theorem slices_Clone_uint32_uint32.callsR (k : Nat) {H : Hp} {L : Items} {s : List Int} {v0_s : Value} {r : (List Int)} (he : slices_Clone_uint32_uint32.f k s = some r) (h0_s : Ro (Kd.int .u32) H v0_s s) : Ct Tryz.prog 119 ⟨[v0_s]⟩ H L (fun v H' L' => L = L' ∧ H.le H' ∧ slices_Clone_uint32_uint32.out r H' v) := ct_ro (slices_Clone_uint32_uint32.calls k he h0_s)
/-! ### radome/wide.down -/
noncomputable def wide_down.C : Code := (Tryz.f118.body).getD .skip
abbrev wide_down.out (r : (List Int)) (H : Hp) (v : Value) : Prop := Ro (Kd.int .u32) H v r
abbrev wide_down.R (H0 : Hp) (L : Items) (r : (List Int)) : Value → Hp → Items → Prop := fun v H' L' => (∃ p, L' = p ++ L) ∧ H0.le H' ∧ wide_down.out r H' v
structure wide_down.Hs where
 l0 : Int → (List Int) → Int → Int → Option (List Int)
noncomputable def wide_down.j2 (k : Nat) (h : wide_down.Hs)  (n : Int) (out : List Int) (i : Int) (v_ : Int) (t11 : Int) (t12 : Int) : Option (List Int) := if 0 ≤ n then (if (0 : Int) ≤ i ∧ i < (out.length : Int) then (h.l0 n (out.set (i : Int).toNat ((v_ / 2 ^ shn .u64 n) % 4294967296)) t11 (w64 (t12 + 1))) else none) else none
noncomputable def wide_down.b0 (k : Nat) (h : wide_down.Hs)  (n : Int) (out : List Int) (t11 : Int) (t12 : Int) : Option (List Int) := if t12 < t11 then (if (0 : Int) ≤ t12 ∧ t12 < (out.length : Int) then (if (w64 (t12 + 1)) < (out.length : Int) then (if (0 : Int) ≤ w64 (t12 + 1) ∧ w64 (t12 + 1) < (out.length : Int) then (wide_down.j2 k h n out t12 (ior .u64 ((rd out t12) % 18446744073709551616) ((((rd out (w64 (t12 + 1))) % 18446744073709551616) * 4294967296) % 18446744073709551616)) t11 t12) else none) else (wide_down.j2 k h n out t12 ((rd out t12) % 18446744073709551616) t11 t12)) else none) else ((wide_trim.f k out).bind fun y17 => some (y17))
noncomputable def wide_down.hs : Nat → wide_down.Hs
 | 0 => ⟨fun _ _ _ _ => none⟩
 | k + 1 => ⟨fun x0 x1 x2 x3 => wide_down.b0 k (wide_down.hs k) x0 x1 x2 x3⟩
noncomputable def wide_down.f (k : Nat) (w : List Int) (n : Int) : Option (List Int) := (fun h : wide_down.Hs => (slices_Clone_uint32_uint32.f k w).bind fun y1 => h.l0 n y1 (y1.length : Int) 0) (wide_down.hs k)
structure wide_down.LE (h h' : wide_down.Hs) : Prop where
 l0 : ∀ y0 y1 y2 y3, LeO (h.l0 y0 y1 y2 y3) (h'.l0 y0 y1 y2 y3)
theorem wide_down.j2_mono {k : Nat} {h h' : wide_down.Hs} (hl : wide_down.LE h h') : ∀ y0 y1 y2 y3 y4 y5, LeO (wide_down.j2 k h y0 y1 y2 y3 y4 y5) (wide_down.j2 (k + 1) h' y0 y1 y2 y3 y4 y5) := fun _ _ _ _ _ _ => (LeO.ite (LeO.ite (hl.l0 _ _ _ _) (LeO.refl _)) (LeO.refl _))
theorem wide_down.b0_mono {k : Nat} {h h' : wide_down.Hs} (hl : wide_down.LE h h') : ∀ y0 y1 y2 y3, LeO (wide_down.b0 k h y0 y1 y2 y3) (wide_down.b0 (k + 1) h' y0 y1 y2 y3) := fun _ _ _ _ => (LeO.ite (LeO.ite (LeO.ite (LeO.ite (wide_down.j2_mono (k := k) hl _ _ _ _ _ _) (LeO.refl _)) (wide_down.j2_mono (k := k) hl _ _ _ _ _ _)) (LeO.refl _)) (LeO.bind (wide_trim.mono k _) fun _ => LeO.refl _))
theorem wide_down.hs_mono : ∀ k, wide_down.LE (wide_down.hs k) (wide_down.hs (k + 1))
 | 0 => ⟨fun _ _ _ _ => LeO.none _⟩
 | k + 1 => ⟨wide_down.b0_mono (k := k) (wide_down.hs_mono k)⟩
theorem wide_down.mono : ∀ k y0 y1, LeO (wide_down.f k y0 y1) (wide_down.f (k + 1) y0 y1) := fun k _ _ => have hl := wide_down.hs_mono k; by unfold wide_down.f; exact (LeO.bind (slices_Clone_uint32_uint32.mono k _) fun _ => hl.l0 _ _ _ _)
noncomputable def wide_down.Kl0 : List Item := .code (lopB (blkB (seqR (seqL (seqR (seqR wide_down.C)))))) :: .inLoop (lopB (blkB (seqR (seqL (seqR (seqR wide_down.C)))))) :: .inBlock 0 :: .code (seqR (seqR (seqR wide_down.C))) :: []
noncomputable def wide_down.Kj2 : List Item := .code (seqR (seqR (seqR (blkB (seqL (seqR (seqR (lopB (blkB (seqR (seqL (seqR (seqR wide_down.C))))))))))))) :: .inBlock 1 :: .code (seqR (seqR (seqR (lopB (blkB (seqR (seqL (seqR (seqR wide_down.C))))))))) :: .inLoop (lopB (blkB (seqR (seqL (seqR (seqR wide_down.C)))))) :: .inBlock 0 :: .code (seqR (seqR (seqR wide_down.C))) :: []
structure wide_down.OK (h : wide_down.Hs) : Prop where
 l0 : ∀ {H0 H : Hp} {L : Items} {r : (List Int)} {jk_ : Nat → Value} {n : Int} {out : List Int} {t11 : Int} {t12 : Int} {v_out : Value} {i_out : Item'} (_ : H0.le H) (_he : h.l0 n out t11 t12 = some r) (_h_out : Sl (Kd.int .u32) H 167 i_out v_out out), Wp Tryz.prog 118 44 wide_down.Kl0 (upd (upd (upd (upd (upd jk_ 1 (.int .i64 n)) 4 (.slice none 0 0)) 5 (v_out)) 11 (.int .i64 t11)) 12 (.int .i64 t12)) H (i_out :: L) (wide_down.R H0 L r)
theorem wide_down.j2_ok {k : Nat} {h : wide_down.Hs} (hh : wide_down.OK h) {H0 H : Hp} {L : Items} {r : (List Int)} {jk_ : Nat → Value} {n : Int} {out : List Int} {i : Int} {v_ : Int} {t11 : Int} {t12 : Int} {v_out : Value} {i_out : Item'} (hle : H0.le H) (he : wide_down.j2 k h n out i v_ t11 t12 = some r) (h_out : Sl (Kd.int .u32) H 167 i_out v_out out) : Wp Tryz.prog 118 44 wide_down.Kj2 (upd (upd (upd (upd (upd (upd (upd jk_ 1 (.int .i64 n)) 4 (.slice none 0 0)) 5 (v_out)) 6 (.int .i64 i)) 7 (.int .u64 v_)) 11 (.int .i64 t11)) 12 (.int .i64 t12)) H (i_out :: L) (wide_down.R H0 L r) := by
 unfold wide_down.j2 at he
 unfold wide_down.Kj2
 refine w_region rfl <| w_d rfl (d_move (v := v_out) rfl) <| w_d rfl (d_move (v := .int .i64 i) rfl) <| w_d rfl (d_move (v := .int .u64 v_) rfl) <| w_d rfl (d_move (v := .int .i64 n) rfl) ?_
 obtain ⟨c23, he⟩ := rq he
 refine w_d rfl (d_shr (c := v_ / 2 ^ shn .u64 n) rfl rfl c23 rfl) <| w_d rfl (d_conv (c := (v_ / 2 ^ shn .u64 n) % 4294967296) Tryz.underlying113 Tryz.underlying167 rfl rfl) ?_
 obtain ⟨c24, he⟩ := rq he
 refine w_d rfl (d_indexS (sz := 1) Tryz.underlying22 sz167 rfl h_out.shp rfl c24) <| w_a0 rfl (o_storeEl (kd := (Kd.int .u32)) (v := .int .u32 ((v_ / 2 ^ shn .u64 n) % 4294967296)) (F := fun z_ => z_ :: L) sz167 rfl rfl rfl rfl h_out c24 (fun _ => .here)) ?_
 rintro _ _ _ ⟨i25, rfl, rfl, rfl, h26⟩
 refine w_done <| w_inBlock <| w_region rfl <| w_d rfl (d_add (c := w64 (t12 + 1)) rfl rfl rfl) <| w_d rfl (d_move (v := .int .i64 (w64 (t12 + 1))) rfl) <| w_done <| w_inLoop <| w_sl 1 (.int .i64 n) rfl <| w_sl 4 (.slice none 0 0) rfl <| w_sl 5 (v_out) rfl <| w_sl 11 (.int .i64 t11) rfl <| w_sl 12 (.int .i64 (w64 (t12 + 1))) rfl <| hh.l0 hle he h26
theorem wide_down.b0_ok {k : Nat} {h : wide_down.Hs} (hh : wide_down.OK h) {H0 H : Hp} {L : Items} {r : (List Int)} {jk_ : Nat → Value} {n : Int} {out : List Int} {t11 : Int} {t12 : Int} {v_out : Value} {i_out : Item'} (hle : H0.le H) (he : wide_down.b0 k h n out t11 t12 = some r) (h_out : Sl (Kd.int .u32) H 167 i_out v_out out) : Wp Tryz.prog 118 44 wide_down.Kl0 (upd (upd (upd (upd (upd jk_ 1 (.int .i64 n)) 4 (.slice none 0 0)) 5 (v_out)) 11 (.int .i64 t11)) 12 (.int .i64 t12)) H (i_out :: L) (wide_down.R H0 L r) := by
 unfold wide_down.b0 at he
 unfold wide_down.Kl0
 refine w_seq <| w_region rfl <| w_d rfl (d_lss rfl rfl) <| w_done <| w_seq ?_
 rcases its he with ⟨c10, he⟩ | ⟨c10, he⟩
 ·
  refine w_then rfl (decide_eq_true c10) <| w_skip <| w_seq <| w_block <| w_seq <| w_region rfl <| w_d rfl (d_move (v := .int .i64 t12) rfl) <| w_d rfl (d_assign (v := .int .i64 t12) rfl) <| w_done <| w_seq <| w_region rfl <| w_d rfl (d_move (v := v_out) rfl) ?_
  refine w_d rfl (d_move (v := .int .i64 t12) rfl) ?_
  obtain ⟨c11, he⟩ := rq he
  refine w_d rfl (d_indexS (sz := 1) Tryz.underlying22 sz167 rfl h_out.shp rfl c11) <| w_d rfl (d_ldint ty167 rfl (h_out.src .here) c11) <| w_d rfl (d_conv (c := (rd out t12) % 18446744073709551616) Tryz.underlying167 Tryz.underlying113 rfl rfl) <| w_d rfl (d_assign (v := .int .u64 ((rd out t12) % 18446744073709551616)) rfl) <| w_done <| w_seq <| w_seq <| w_region rfl <| w_d rfl (d_move (v := .int .i64 t12) rfl) <| w_d rfl (d_add (c := w64 (t12 + 1)) rfl rfl rfl) <| w_d rfl (d_move (v := v_out) rfl) <| w_d rfl (d_lenS Tryz.underlying22 rfl h_out.shp) ?_
  refine w_d rfl (d_lss rfl rfl) <| w_done ?_
  rcases its he with ⟨c12, he⟩ | ⟨c12, he⟩
  ·
   refine w_then rfl (decide_eq_true c12) <| w_region rfl <| w_d rfl (d_move (v := .int .u64 ((rd out t12) % 18446744073709551616)) rfl) <| w_d rfl (d_move (v := v_out) rfl) <| w_d rfl (d_move (v := .int .i64 t12) rfl) <| w_d rfl (d_add (c := w64 (t12 + 1)) rfl rfl rfl) ?_
   obtain ⟨c13, he⟩ := rq he
   refine w_d rfl (d_indexS (sz := 1) Tryz.underlying22 sz167 rfl h_out.shp rfl c13) <| w_d rfl (d_ldint ty167 rfl (h_out.src .here) c13) <| w_d rfl (d_conv (c := (rd out (w64 (t12 + 1))) % 18446744073709551616) Tryz.underlying167 Tryz.underlying113 rfl rfl) <| w_d rfl (d_shl (c := (((rd out (w64 (t12 + 1))) % 18446744073709551616) * 4294967296) % 18446744073709551616) rfl rfl (by decide) rfl) <| w_d rfl (d_bor rfl rfl) <| w_d rfl (d_assign (v := .int .u64 (ior .u64 ((rd out t12) % 18446744073709551616) ((((rd out (w64 (t12 + 1))) % 18446744073709551616) * 4294967296) % 18446744073709551616))) rfl) <| w_done <| w_sl 1 (.int .i64 n) rfl <| w_sl 4 (.slice none 0 0) rfl <| w_sl 5 (v_out) rfl <| w_sl 6 (.int .i64 t12) rfl <| w_sl 7 (.int .u64 (ior .u64 ((rd out t12) % 18446744073709551616) ((((rd out (w64 (t12 + 1))) % 18446744073709551616) * 4294967296) % 18446744073709551616))) rfl ?_
   refine w_sl 11 (.int .i64 t11) rfl <| w_sl 12 (.int .i64 t12) rfl <| wide_down.j2_ok (k := k) hh hle he h_out
  ·
   refine w_else rfl (decide_eq_false c12) <| w_skip <| w_sl 1 (.int .i64 n) rfl <| w_sl 4 (.slice none 0 0) rfl <| w_sl 5 (v_out) rfl <| w_sl 6 (.int .i64 t12) rfl <| w_sl 7 (.int .u64 ((rd out t12) % 18446744073709551616)) rfl <| w_sl 11 (.int .i64 t11) rfl <| w_sl 12 (.int .i64 t12) rfl <| wide_down.j2_ok (k := k) hh hle he h_out
 ·
  refine w_else rfl (decide_eq_false c10) <| w_exit rfl <| w_seq <| w_region rfl <| w_d rfl (d_move (v := v_out) rfl) <| w_freeze h_out .here ?_
  intro H14 e15 h16
  obtain ⟨y17, hy18, he⟩ := Option.bind_eq_some_iff.1 he
  refine w_a rfl (o_call co113 (vs := [v_out]) rfl (wide_trim.calls k hy18 h16)) ?_
  rintro v21 H19 _ ⟨rfl, e20, h22⟩
  refine w_d rfl (d_assign (v := v21) rfl) <| w_done ?_
  obtain rfl := Option.some.inj he
  refine w_return fn_118 rs_118 (.tmp (v := v21) rfl .nil) <| ⟨⟨[_], rfl⟩, hle.trans (e15.trans e20), h22⟩
theorem wide_down.ok : ∀ k, wide_down.OK (wide_down.hs k)
 | 0 => ⟨(by intros; exact nomatch (show none = some _ from by assumption))⟩
 | k + 1 => ⟨wide_down.b0_ok (k := k) (wide_down.ok k)⟩
theorem wide_down.calls (k : Nat) {H : Hp} {L : Items} {w : List Int} {n : Int} {v0_w : Value} {r : (List Int)} (he : wide_down.f k w n = some r) (h0_w : Ro (Kd.int .u32) H v0_w w) : Ct Tryz.prog 118 ⟨[v0_w, .int .i64 n]⟩ H L (fun v H' L' => L = L' ∧ H.le H' ∧ wide_down.out r H' v) := by
 refine ct_out (O := wide_down.out r) ?_
 have hle : H.le H := .refl _
 have hh := wide_down.ok k
 unfold wide_down.f at he
 refine ct_enter (args := [v0_w, .int .i64 n]) fn_118 rfl nt_118 rfl <| w_seq <| w_region rfl <| w_d rfl (d_assign (v := .slice none 0 0) rfl) <| w_done <| w_seq <| w_region rfl <| w_d rfl (d_move (v := v0_w) rfl) ?_
 obtain ⟨y1, hy2, he⟩ := Option.bind_eq_some_iff.1 he
 refine w_a rfl (o_call co119 (vs := [v0_w]) rfl (slices_Clone_uint32_uint32.calls k hy2 h0_w)) ?_
 rintro v7 H3 _ ⟨i8, rfl, e4, h9⟩
 refine w_d rfl (d_assign (v := v7) rfl) <| w_done <| w_seq <| w_seq <| w_region rfl <| w_d rfl (d_move (v := v7) rfl) <| w_d rfl (d_lenS Tryz.underlying22 rfl h9.shp) <| w_d rfl (d_move (v := .int .i64 0) rfl) <| w_done <| w_block <| w_loop <| w_sl 1 (.int .i64 n) rfl ?_
 refine w_sl 4 (.slice none 0 0) rfl <| w_sl 5 (v7) rfl <| w_sl 11 (.int .i64 (y1.length : Int)) rfl <| w_sl 12 (.int .i64 0) rfl <| hh.l0 (hle.trans e4) he h9
/-! ### (radome/wide.Int).Neg -/
noncomputable def wide_Int_Neg.C : Code := (Tryz.f121.body).getD .skip
def wide_Int_Neg.out (r : wide_Int) (H : Hp) (v : Value) : Prop := ∃ v0, v = .agg ⟨[.bool r.f_neg, v0]⟩ ∧ Ro (Kd.int .u32) H v0 r.f_w
theorem wide_Int_Neg.out_mono (r : wide_Int) {H H' : Hp} {v : Value} (hle : H.le H') (h : wide_Int_Neg.out r H v) : wide_Int_Neg.out r H' v := by
 obtain ⟨v0, rfl, h0⟩ := h; exact ⟨v0, rfl, h0.mono hle⟩
abbrev wide_Int_Neg.R (H0 : Hp) (L : Items) (r : wide_Int) : Value → Hp → Items → Prop := fun v H' L' => (∃ p, L' = p ++ L) ∧ H0.le H' ∧ wide_Int_Neg.out r H' v
noncomputable def wide_Int_Neg.f (k : Nat) (a : wide_Int) : Option wide_Int := some ((⟨(!a.f_neg) && (decide (0 < (a.f_w.length : Int))), a.f_w⟩ : wide_Int))
theorem wide_Int_Neg.mono : ∀ k y0, LeO (wide_Int_Neg.f k y0) (wide_Int_Neg.f (k + 1) y0) := fun k _ => by unfold wide_Int_Neg.f; exact (LeO.refl _)
theorem wide_Int_Neg.calls (k : Nat) {H : Hp} {L : Items} {a : wide_Int} {v0_a : Value} {r : wide_Int} (he : wide_Int_Neg.f k a = some r) (h0_a : Ro (Kd.int .u32) H v0_a a.f_w) : Ct Tryz.prog 121 ⟨[.agg ⟨[.bool a.f_neg, v0_a]⟩]⟩ H L (fun v H' L' => L = L' ∧ H.le H' ∧ wide_Int_Neg.out r H' v) := by
 refine ct_out (O := wide_Int_Neg.out r) ?_
 have hle : H.le H := .refl _
 unfold wide_Int_Neg.f at he
 refine ct_enter (args := [.agg ⟨[.bool a.f_neg, v0_a]⟩]) fn_121 rfl nt_121 rfl <| w_seq <| w_region rfl <| w_a rfl (o_box (v := .agg ⟨[.bool a.f_neg, v0_a]⟩) rfl rfl) ?_
 rintro _ _ _ ⟨b1, rfl, rfl, rfl⟩
 refine w_a rfl (o_alloc zr24 rfl) ?_
 rintro _ _ _ ⟨b2, rfl, rfl, rfl⟩
 refine w_done <| w_seq <| w_region rfl <| w_d rfl (d_fld (o' := 0) Tryz.underlying24 rfl sz4 rfl rfl rfl) <| w_d rfl (d_loado (v := .bool a.f_neg) ty4 rfl (.there .here) rfl rfl rfl rfl) <| w_d rfl (d_not (b := a.f_neg) rfl) <| w_d rfl (d_move (v := .bool (!a.f_neg)) rfl) <| w_g (g := !a.f_neg) rfl rfl rfl wn_t (fun g3 => d_fld (o' := 1) Tryz.underlying24 rfl sz22 rfl rfl rfl) <| w_g (g := !a.f_neg) rfl rfl rfl wn_t (fun g4 => d_loado (v := v0_a) ty22 (cvt g4) (.there .here) rfl rfl rfl rfl) <| w_g (g := !a.f_neg) rfl rfl rfl wn_t (fun g5 => d_len Tryz.underlying22 (cvt g5) h0_a.src) <| w_g (g := !a.f_neg) rfl rfl rfl wn_t (fun g6 => d_gtr (cvt g6) rfl) <| w_d rfl (d_and' (b := (!a.f_neg)) (p := (decide (0 < (a.f_w.length : Int)))) rfl rfl rfl) ?_
 refine w_d rfl (d_fld (o' := 1) Tryz.underlying24 rfl sz22 rfl rfl rfl) <| w_d rfl (d_loado (v := v0_a) ty22 rfl (.there .here) rfl rfl rfl rfl) <| w_d rfl (d_build (cs' := [.bool ((!a.f_neg) && (decide (0 < (a.f_w.length : Int)))), v0_a]) Tryz.underlying24 zr24 rfl (by kernel_rfl) (parts := [(0, .bool ((!a.f_neg) && (decide (0 < (a.f_w.length : Int))))), (1, v0_a)]) rfl (.cons (place_of rfl sz4 rfl) rfl rfl (.here .done) (.cons (place_of rfl sz22 rfl) h0_a.cells rfl (.there (.here .done)) .nil))) <| w_a0 rfl (o_store (v := .agg ⟨[.bool ((!a.f_neg) && (decide (0 < (a.f_w.length : Int)))), v0_a]⟩) sz24 rfl rfl rfl rfl (one_cons rfl (one_cons (h0_a.one) one_nil)) .here (.here (.here .done))) ?_
 rintro _ _ _ ⟨rfl, rfl, rfl⟩
 refine w_done ?_
 obtain rfl := Option.some.inj he
 refine w_return fn_121 rs_121 (.box (v := .agg ⟨[.bool ((!a.f_neg) && (decide (0 < (a.f_w.length : Int)))), v0_a]⟩) rfl ty24 rfl rfl .here rfl .nil) <| ⟨⟨[_, _], rfl⟩, hle, ⟨v0_a, rfl, h0_a⟩⟩
/-! ### radome/wide.plus -/
noncomputable def wide_plus.C : Code := (Tryz.f144.body).getD .skip
abbrev wide_plus.out (r : (List Int)) (H : Hp) (v : Value) : Prop := Ro (Kd.int .u32) H v r
abbrev wide_plus.R (H0 : Hp) (L : Items) (r : (List Int)) : Value → Hp → Items → Prop := fun v H' L' => (∃ p, L' = p ++ L) ∧ H0.le H' ∧ wide_plus.out r H' v
structure wide_plus.Hs where
 l0 : (List Int) → (List Int) → Int → (List Int) → Int → Int → Option (List Int)
noncomputable def wide_plus.j1 (k : Nat) (h : wide_plus.Hs)  (a : List Int) (b : List Int) : Option (List Int) := if 0 ≤ 0 ∧ 0 ≤ w64 ((a.length : Int) + 1) ∧ w64 ((a.length : Int) + 1) ≤ 70368744177664 then (h.l0 b (List.replicate (0 : Int).toNat (0 : Int)) 0 a (a.length : Int) 0) else none
noncomputable def wide_plus.j3 (k : Nat) (h : wide_plus.Hs)  (b : List Int) (out : List Int) (carry : Int) (s : Int) (t21 : List Int) (t22 : Int) (t23 : Int) : Option (List Int) := if out.length + 1 ≤ 35184372088704 then (h.l0 b (out ++ [(s) % 4294967296]) (s / 4294967296) t21 t22 (w64 (t23 + 1))) else none
noncomputable def wide_plus.b0 (k : Nat) (h : wide_plus.Hs)  (b : List Int) (out : List Int) (carry : Int) (t21 : List Int) (t22 : Int) (t23 : Int) : Option (List Int) := if t23 < t22 then (if (0 : Int) ≤ t23 ∧ t23 < (t21.length : Int) then (if t23 < (b.length : Int) then (if (0 : Int) ≤ t23 ∧ t23 < (b.length : Int) then (wide_plus.j3 k h b out carry ((((((rd t21 t23) % 18446744073709551616) + carry) % 18446744073709551616) + ((rd b t23) % 18446744073709551616)) % 18446744073709551616) t21 t22 t23) else none) else (wide_plus.j3 k h b out carry ((((rd t21 t23) % 18446744073709551616) + carry) % 18446744073709551616) t21 t22 t23)) else none) else (if out.length + 1 ≤ 35184372088704 then (some (out ++ [(carry) % 4294967296])) else none)
noncomputable def wide_plus.hs : Nat → wide_plus.Hs
 | 0 => ⟨fun _ _ _ _ _ _ => none⟩
 | k + 1 => ⟨fun x0 x1 x2 x3 x4 x5 => wide_plus.b0 k (wide_plus.hs k) x0 x1 x2 x3 x4 x5⟩
noncomputable def wide_plus.f (k : Nat) (a : List Int) (b : List Int) : Option (List Int) := (fun h : wide_plus.Hs => if (a.length : Int) < (b.length : Int) then (wide_plus.j1 k h b a) else (wide_plus.j1 k h a b)) (wide_plus.hs k)
structure wide_plus.LE (h h' : wide_plus.Hs) : Prop where
 l0 : ∀ y0 y1 y2 y3 y4 y5, LeO (h.l0 y0 y1 y2 y3 y4 y5) (h'.l0 y0 y1 y2 y3 y4 y5)
theorem wide_plus.j1_mono {k : Nat} {h h' : wide_plus.Hs} (hl : wide_plus.LE h h') : ∀ y0 y1, LeO (wide_plus.j1 k h y0 y1) (wide_plus.j1 (k + 1) h' y0 y1) := fun _ _ => (LeO.ite (hl.l0 _ _ _ _ _ _) (LeO.refl _))
theorem wide_plus.j3_mono {k : Nat} {h h' : wide_plus.Hs} (hl : wide_plus.LE h h') : ∀ y0 y1 y2 y3 y4 y5 y6, LeO (wide_plus.j3 k h y0 y1 y2 y3 y4 y5 y6) (wide_plus.j3 (k + 1) h' y0 y1 y2 y3 y4 y5 y6) := fun _ _ _ _ _ _ _ => (LeO.ite (hl.l0 _ _ _ _ _ _) (LeO.refl _))
theorem wide_plus.b0_mono {k : Nat} {h h' : wide_plus.Hs} (hl : wide_plus.LE h h') : ∀ y0 y1 y2 y3 y4 y5, LeO (wide_plus.b0 k h y0 y1 y2 y3 y4 y5) (wide_plus.b0 (k + 1) h' y0 y1 y2 y3 y4 y5) := fun _ _ _ _ _ _ => (LeO.ite (LeO.ite (LeO.ite (LeO.ite (wide_plus.j3_mono (k := k) hl _ _ _ _ _ _ _) (LeO.refl _)) (wide_plus.j3_mono (k := k) hl _ _ _ _ _ _ _)) (LeO.refl _)) (LeO.ite (LeO.refl _) (LeO.refl _)))
theorem wide_plus.hs_mono : ∀ k, wide_plus.LE (wide_plus.hs k) (wide_plus.hs (k + 1))
 | 0 => ⟨fun _ _ _ _ _ _ => LeO.none _⟩
 | k + 1 => ⟨wide_plus.b0_mono (k := k) (wide_plus.hs_mono k)⟩
theorem wide_plus.mono : ∀ k y0 y1, LeO (wide_plus.f k y0 y1) (wide_plus.f (k + 1) y0 y1) := fun k _ _ => have hl := wide_plus.hs_mono k; by unfold wide_plus.f; exact (LeO.ite (wide_plus.j1_mono (k := k) hl _ _) (wide_plus.j1_mono (k := k) hl _ _))
noncomputable def wide_plus.Kj1 : List Item := .code (seqR (seqR wide_plus.C)) :: []
noncomputable def wide_plus.Kl0 : List Item := .code (lopB (blkB (seqR (seqL (seqR (seqR (seqR (seqR wide_plus.C)))))))) :: .inLoop (lopB (blkB (seqR (seqL (seqR (seqR (seqR (seqR wide_plus.C)))))))) :: .inBlock 0 :: .code (seqR (seqR (seqR (seqR (seqR wide_plus.C))))) :: []
noncomputable def wide_plus.Kj3 : List Item := .code (seqR (seqR (seqR (blkB (seqL (seqR (seqR (lopB (blkB (seqR (seqL (seqR (seqR (seqR (seqR wide_plus.C))))))))))))))) :: .inBlock 1 :: .code (seqR (seqR (seqR (lopB (blkB (seqR (seqL (seqR (seqR (seqR (seqR wide_plus.C))))))))))) :: .inLoop (lopB (blkB (seqR (seqL (seqR (seqR (seqR (seqR wide_plus.C)))))))) :: .inBlock 0 :: .code (seqR (seqR (seqR (seqR (seqR wide_plus.C))))) :: []
structure wide_plus.OK (h : wide_plus.Hs) : Prop where
 l0 : ∀ {H0 H : Hp} {L : Items} {r : (List Int)} {jk_ : Nat → Value} {b : List Int} {out : List Int} {carry : Int} {t21 : List Int} {t22 : Int} {t23 : Int} {v_b : Value} {v_out : Value} {v_t21 : Value} {i_out : Item'} (_ : H0.le H) (_he : h.l0 b out carry t21 t22 t23 = some r) (_h_b : Src (Kd.int .u32) H L v_b b) (_h_out : Sl (Kd.int .u32) H 167 i_out v_out out) (_h_t21 : Src (Kd.int .u32) H L v_t21 t21), Wp Tryz.prog 144 56 wide_plus.Kl0 (upd (upd (upd (upd (upd (upd (upd jk_ 1 (v_b)) 4 (.slice none 0 0)) 5 (v_out)) 6 (.int .u64 carry)) 21 (v_t21)) 22 (.int .i64 t22)) 23 (.int .i64 t23)) H (i_out :: L) (wide_plus.R H0 L r)
theorem wide_plus.j1_ok {k : Nat} {h : wide_plus.Hs} (hh : wide_plus.OK h) {H0 H : Hp} {L : Items} {r : (List Int)} {jk_ : Nat → Value} {a : List Int} {b : List Int} {v_a : Value} {v_b : Value} (hle : H0.le H) (he : wide_plus.j1 k h a b = some r) (h_a : Src (Kd.int .u32) H L v_a a) (h_b : Src (Kd.int .u32) H L v_b b) : Wp Tryz.prog 144 56 wide_plus.Kj1 (upd (upd (upd jk_ 0 (v_a)) 1 (v_b)) 4 (.slice none 0 0)) H (L) (wide_plus.R H0 L r) := by
 unfold wide_plus.j1 at he
 unfold wide_plus.Kj1
 refine w_seq <| w_region rfl <| w_d rfl (d_move (v := v_a) rfl) <| w_d rfl (d_len Tryz.underlying22 rfl h_a) <| w_d rfl (d_add (c := w64 ((a.length : Int) + 1)) rfl rfl rfl) ?_
 obtain ⟨c2, he⟩ := rq he
 refine w_a rfl (o_make' (kd := (Kd.int .u32)) (z0 := 0) Tryz.underlying22 ti167 (zp167 _) rfl rfl (by omega) (by omega) (by omega)) ?_
 rintro v3 _ _ ⟨i4, rfl, rfl, h5⟩
 refine w_d rfl (d_assign (v := v3) rfl) <| w_done <| w_seq <| w_region rfl <| w_d rfl (d_assign (v := .int .u64 0) rfl) <| w_done <| w_seq <| w_seq <| w_region rfl <| w_d rfl (d_move (v := v_a) rfl) <| w_d rfl (d_len Tryz.underlying22 rfl h_a.th) <| w_d rfl (d_move (v := .int .i64 0) rfl) ?_
 refine w_done <| w_block <| w_loop <| w_sl 1 (v_b) rfl <| w_sl 4 (.slice none 0 0) rfl <| w_sl 5 (v3) rfl <| w_sl 6 (.int .u64 0) rfl <| w_sl 21 (v_a) rfl <| w_sl 22 (.int .i64 (a.length : Int)) rfl <| w_sl 23 (.int .i64 0) rfl <| hh.l0 hle he h_b h5 h_a
theorem wide_plus.j3_ok {k : Nat} {h : wide_plus.Hs} (hh : wide_plus.OK h) {H0 H : Hp} {L : Items} {r : (List Int)} {jk_ : Nat → Value} {b : List Int} {out : List Int} {carry : Int} {s : Int} {t21 : List Int} {t22 : Int} {t23 : Int} {v_b : Value} {v_out : Value} {v_t21 : Value} {i_out : Item'} (hle : H0.le H) (he : wide_plus.j3 k h b out carry s t21 t22 t23 = some r) (h_b : Src (Kd.int .u32) H L v_b b) (h_out : Sl (Kd.int .u32) H 167 i_out v_out out) (h_t21 : Src (Kd.int .u32) H L v_t21 t21) : Wp Tryz.prog 144 56 wide_plus.Kj3 (upd (upd (upd (upd (upd (upd (upd (upd jk_ 1 (v_b)) 4 (.slice none 0 0)) 5 (v_out)) 6 (.int .u64 carry)) 9 (.int .u64 s)) 21 (v_t21)) 22 (.int .i64 t22)) 23 (.int .i64 t23)) H (i_out :: L) (wide_plus.R H0 L r) := by
 unfold wide_plus.j3 at he
 unfold wide_plus.Kj3
 refine w_seq <| w_region rfl <| w_d rfl (d_move (v := v_out) rfl) <| w_d rfl (d_move (v := .int .u64 s) rfl) <| w_d rfl (d_conv (c := (s) % 4294967296) Tryz.underlying113 Tryz.underlying167 rfl rfl) <| w_a rfl (o_buildSlice' (kd := (Kd.int .u32)) (css := [[.int .u32 ((s) % 4294967296)]]) (xs := [(s) % 4294967296]) (parts := [(0, .int .u32 ((s) % 4294967296))]) Tryz.underlying22 ti167 rfl ⟨_, _, rfl, rfl, rfl⟩ ⟨rfl, trivial⟩ rfl (by decide)) ?_
 rintro v20 _ _ ⟨i21, rfl, rfl, h22⟩
 obtain ⟨c23, he⟩ := rq he
 refine w_a rfl (o_append' (kd := (Kd.int .u32)) (F := fun z_ => i21 :: z_ :: L) Tryz.underlying22 Tryz.underlying22 ti167 rfl (by first | omega | (simp only [List.nil_append, List.length_cons, List.length_nil]; omega)) rfl rfl h_out (h22.src .here) (fun _ => (.there .here))) ?_
 rintro v24 _ _ ⟨i25, rfl, rfl, h26⟩
 refine w_d rfl (d_assign (v := v24) rfl) <| w_done <| w_region rfl <| w_d rfl (d_move (v := .int .u64 s) rfl) <| w_d rfl (d_shr (c := s / 4294967296) rfl rfl (by decide) rfl) <| w_d rfl (d_assign (v := .int .u64 (s / 4294967296)) rfl) <| w_done <| w_inBlock <| w_region rfl <| w_d rfl (d_add (c := w64 (t23 + 1)) rfl rfl rfl) <| w_d rfl (d_move (v := .int .i64 (w64 (t23 + 1))) rfl) <| w_done ?_
 refine w_inLoop <| w_del .here <| w_sl 1 (v_b) rfl <| w_sl 4 (.slice none 0 0) rfl <| w_sl 5 (v24) rfl <| w_sl 6 (.int .u64 (s / 4294967296)) rfl <| w_sl 21 (v_t21) rfl <| w_sl 22 (.int .i64 t22) rfl <| w_sl 23 (.int .i64 (w64 (t23 + 1))) rfl <| hh.l0 hle he h_b h26 h_t21
theorem wide_plus.b0_ok {k : Nat} {h : wide_plus.Hs} (hh : wide_plus.OK h) {H0 H : Hp} {L : Items} {r : (List Int)} {jk_ : Nat → Value} {b : List Int} {out : List Int} {carry : Int} {t21 : List Int} {t22 : Int} {t23 : Int} {v_b : Value} {v_out : Value} {v_t21 : Value} {i_out : Item'} (hle : H0.le H) (he : wide_plus.b0 k h b out carry t21 t22 t23 = some r) (h_b : Src (Kd.int .u32) H L v_b b) (h_out : Sl (Kd.int .u32) H 167 i_out v_out out) (h_t21 : Src (Kd.int .u32) H L v_t21 t21) : Wp Tryz.prog 144 56 wide_plus.Kl0 (upd (upd (upd (upd (upd (upd (upd jk_ 1 (v_b)) 4 (.slice none 0 0)) 5 (v_out)) 6 (.int .u64 carry)) 21 (v_t21)) 22 (.int .i64 t22)) 23 (.int .i64 t23)) H (i_out :: L) (wide_plus.R H0 L r) := by
 unfold wide_plus.b0 at he
 unfold wide_plus.Kl0
 refine w_seq <| w_region rfl <| w_d rfl (d_lss rfl rfl) <| w_done <| w_seq ?_
 rcases its he with ⟨c6, he⟩ | ⟨c6, he⟩
 ·
  refine w_then rfl (decide_eq_true c6) <| w_skip <| w_seq <| w_block <| w_seq <| w_region rfl <| w_d rfl (d_move (v := .int .i64 t23) rfl) ?_
  obtain ⟨c7, he⟩ := rq he
  refine w_d rfl (d_index (sz := 1) Tryz.underlying22 sz167 rfl h_t21.th rfl c7) <| w_d rfl (d_ldint ty167 rfl h_t21.th c7) <| w_d rfl (d_assign (v := .int .i64 t23) rfl) <| w_d rfl (d_assign (v := .int .u32 (rd t21 t23)) rfl) <| w_done <| w_seq <| w_region rfl <| w_d rfl (d_move (v := .int .u32 (rd t21 t23)) rfl) <| w_d rfl (d_conv (c := (rd t21 t23) % 18446744073709551616) Tryz.underlying167 Tryz.underlying113 rfl rfl) <| w_d rfl (d_move (v := .int .u64 carry) rfl) <| w_d rfl (d_add (c := (((rd t21 t23) % 18446744073709551616) + carry) % 18446744073709551616) rfl rfl rfl) <| w_d rfl (d_assign (v := .int .u64 ((((rd t21 t23) % 18446744073709551616) + carry) % 18446744073709551616)) rfl) ?_
  refine w_done <| w_seq <| w_seq <| w_region rfl <| w_d rfl (d_move (v := .int .i64 t23) rfl) <| w_d rfl (d_move (v := v_b) rfl) <| w_d rfl (d_len Tryz.underlying22 rfl h_b.th) <| w_d rfl (d_lss rfl rfl) <| w_done ?_
  rcases its he with ⟨c8, he⟩ | ⟨c8, he⟩
  ·
   refine w_then rfl (decide_eq_true c8) <| w_region rfl <| w_d rfl (d_move (v := .int .u64 ((((rd t21 t23) % 18446744073709551616) + carry) % 18446744073709551616)) rfl) <| w_d rfl (d_move (v := v_b) rfl) <| w_d rfl (d_move (v := .int .i64 t23) rfl) ?_
   obtain ⟨c9, he⟩ := rq he
   refine w_d rfl (d_index (sz := 1) Tryz.underlying22 sz167 rfl h_b.th rfl c9) <| w_d rfl (d_ldint ty167 rfl h_b.th c9) <| w_d rfl (d_conv (c := (rd b t23) % 18446744073709551616) Tryz.underlying167 Tryz.underlying113 rfl rfl) <| w_d rfl (d_add (c := (((((rd t21 t23) % 18446744073709551616) + carry) % 18446744073709551616) + ((rd b t23) % 18446744073709551616)) % 18446744073709551616) rfl rfl rfl) <| w_d rfl (d_assign (v := .int .u64 ((((((rd t21 t23) % 18446744073709551616) + carry) % 18446744073709551616) + ((rd b t23) % 18446744073709551616)) % 18446744073709551616)) rfl) <| w_done <| w_sl 1 (v_b) rfl <| w_sl 4 (.slice none 0 0) rfl <| w_sl 5 (v_out) rfl <| w_sl 6 (.int .u64 carry) rfl <| w_sl 9 (.int .u64 ((((((rd t21 t23) % 18446744073709551616) + carry) % 18446744073709551616) + ((rd b t23) % 18446744073709551616)) % 18446744073709551616)) rfl <| w_sl 21 (v_t21) rfl ?_
   refine w_sl 22 (.int .i64 t22) rfl <| w_sl 23 (.int .i64 t23) rfl <| wide_plus.j3_ok (k := k) hh hle he h_b h_out h_t21
  ·
   refine w_else rfl (decide_eq_false c8) <| w_skip <| w_sl 1 (v_b) rfl <| w_sl 4 (.slice none 0 0) rfl <| w_sl 5 (v_out) rfl <| w_sl 6 (.int .u64 carry) rfl <| w_sl 9 (.int .u64 ((((rd t21 t23) % 18446744073709551616) + carry) % 18446744073709551616)) rfl <| w_sl 21 (v_t21) rfl <| w_sl 22 (.int .i64 t22) rfl <| w_sl 23 (.int .i64 t23) rfl <| wide_plus.j3_ok (k := k) hh hle he h_b h_out h_t21
 ·
  refine w_else rfl (decide_eq_false c6) <| w_exit rfl <| w_seq <| w_region rfl <| w_d rfl (d_move (v := v_out) rfl) <| w_d rfl (d_move (v := .int .u64 carry) rfl) <| w_d rfl (d_conv (c := (carry) % 4294967296) Tryz.underlying113 Tryz.underlying167 rfl rfl) <| w_a rfl (o_buildSlice' (kd := (Kd.int .u32)) (css := [[.int .u32 ((carry) % 4294967296)]]) (xs := [(carry) % 4294967296]) (parts := [(0, .int .u32 ((carry) % 4294967296))]) Tryz.underlying22 ti167 rfl ⟨_, _, rfl, rfl, rfl⟩ ⟨rfl, trivial⟩ rfl (by decide)) ?_
  rintro v10 _ _ ⟨i11, rfl, rfl, h12⟩
  obtain ⟨c13, he⟩ := rq he
  refine w_a rfl (o_append' (kd := (Kd.int .u32)) (F := fun z_ => i11 :: z_ :: L) Tryz.underlying22 Tryz.underlying22 ti167 rfl (by first | omega | (simp only [List.nil_append, List.length_cons, List.length_nil]; omega)) rfl rfl h_out (h12.src .here) (fun _ => (.there .here))) ?_
  rintro v14 _ _ ⟨i15, rfl, rfl, h16⟩
  refine w_d rfl (d_assign (v := v14) rfl) <| w_done <| w_freeze h16 (.there .here) ?_
  intro H17 e18 h19
  obtain rfl := Option.some.inj he
  refine w_return fn_144 rs_144 (.tmp (v := v14) rfl .nil) <| ⟨⟨[_, _], rfl⟩, hle.trans e18, h19⟩
theorem wide_plus.ok : ∀ k, wide_plus.OK (wide_plus.hs k)
 | 0 => ⟨(by intros; exact nomatch (show none = some _ from by assumption))⟩
 | k + 1 => ⟨wide_plus.b0_ok (k := k) (wide_plus.ok k)⟩
theorem wide_plus.calls (k : Nat) {H : Hp} {L : Items} {a : List Int} {b : List Int} {v0_a : Value} {v1_b : Value} {r : (List Int)} (he : wide_plus.f k a b = some r) (h0_a : Src (Kd.int .u32) H L v0_a a) (h1_b : Src (Kd.int .u32) H L v1_b b) : Ct Tryz.prog 144 ⟨[v0_a, v1_b]⟩ H L (fun v H' L' => L = L' ∧ H.le H' ∧ wide_plus.out r H' v) := by
 refine ct_out (O := wide_plus.out r) ?_
 have hle : H.le H := .refl _
 have hh := wide_plus.ok k
 unfold wide_plus.f at he
 refine ct_enter (args := [v0_a, v1_b]) fn_144 rfl nt_144 rfl <| w_seq <| w_region rfl <| w_d rfl (d_assign (v := .slice none 0 0) rfl) <| w_done <| w_seq <| w_seq <| w_region rfl <| w_d rfl (d_move (v := v0_a) rfl) <| w_d rfl (d_len Tryz.underlying22 rfl h0_a) <| w_d rfl (d_move (v := v1_b) rfl) <| w_d rfl (d_len Tryz.underlying22 rfl h1_b) ?_
 refine w_d rfl (d_lss rfl rfl) <| w_done ?_
 rcases its he with ⟨c1, he⟩ | ⟨c1, he⟩
 ·
  refine w_then rfl (decide_eq_true c1) <| w_region rfl <| w_d rfl (d_move (v := v1_b) rfl) <| w_d rfl (d_move (v := v0_a) rfl) <| w_d rfl (d_assign (v := v1_b) rfl) <| w_d rfl (d_assign (v := v0_a) rfl) <| w_done <| w_sl 0 (v1_b) rfl <| w_sl 1 (v0_a) rfl <| w_sl 4 (.slice none 0 0) rfl <| wide_plus.j1_ok (k := k) hh hle he h1_b h0_a
 ·
  refine w_else rfl (decide_eq_false c1) <| w_skip <| w_sl 0 (v0_a) rfl <| w_sl 1 (v1_b) rfl <| w_sl 4 (.slice none 0 0) rfl <| wide_plus.j1_ok (k := k) hh hle he h0_a h1_b
/-! ### cmp.isNaN[int] -/
noncomputable def cmp_isNaN_int.C : Code := (Tryz.f153.body).getD .skip
def cmp_isNaN_int.out (r : Bool) (H : Hp) (v : Value) : Prop := v = .bool r
abbrev cmp_isNaN_int.R (H0 : Hp) (L : Items) (r : Bool) : Value → Hp → Items → Prop := fun v H' L' => (∃ p, L' = p ++ L) ∧ H0.le H' ∧ cmp_isNaN_int.out r H' v
noncomputable def cmp_isNaN_int.f (k : Nat) (x : Int) : Option Bool := some (!decide (x = x))
theorem cmp_isNaN_int.mono : ∀ k y0, LeO (cmp_isNaN_int.f k y0) (cmp_isNaN_int.f (k + 1) y0) := fun k _ => by unfold cmp_isNaN_int.f; exact (LeO.refl _)
theorem cmp_isNaN_int.calls (k : Nat) {H : Hp} {L : Items} {x : Int} {r : Bool} (he : cmp_isNaN_int.f k x = some r) : Ct Tryz.prog 153 ⟨[.int .i64 x]⟩ H L (fun v H' L' => L = L' ∧ H = H' ∧ v = .bool r) := by
 refine ct_outs (O := cmp_isNaN_int.out r) (fun _ _ h => h) ?_
 have hle : H.le H := .refl _
 unfold cmp_isNaN_int.f at he
 refine ct_enter (args := [.int .i64 x]) fn_153 rfl nt_153 rfl <| w_seq <| w_region rfl <| w_d rfl (d_assign (v := .bool false) rfl) <| w_done <| w_seq <| w_region rfl <| w_d rfl (d_move (v := .int .i64 x) rfl) <| w_d rfl (d_move (v := .int .i64 x) rfl) <| w_d rfl (d_neq rfl rfl) <| w_d rfl (d_assign (v := .bool (!decide (x = x))) rfl) <| w_done ?_
 obtain rfl := Option.some.inj he
 refine w_return fn_153 rs_153 (.tmp (v := .bool (!decide (x = x))) rfl .nil) <| ⟨⟨[], rfl⟩, hle, rfl⟩
/-! ### cmp.Compare[int] -/
noncomputable def cmp_Compare_int.C : Code := (Tryz.f136.body).getD .skip
def cmp_Compare_int.out (r : Int) (H : Hp) (v : Value) : Prop := v = .int .i64 r
abbrev cmp_Compare_int.R (H0 : Hp) (L : Items) (r : Int) : Value → Hp → Items → Prop := fun v H' L' => (∃ p, L' = p ++ L) ∧ H0.le H' ∧ cmp_Compare_int.out r H' v
noncomputable def cmp_Compare_int.f (k : Nat) (x : Int) (y : Int) : Option Int := (cmp_isNaN_int.f k x).bind fun y1 => (cmp_isNaN_int.f k y).bind fun y5 => if y1 = true then (if y5 = true then (some (0)) else (some ((-1)))) else (if y5 = true then (some (1)) else (if x < y then (some ((-1))) else (if y < x then (some (1)) else (some (0)))))
theorem cmp_Compare_int.mono : ∀ k y0 y1, LeO (cmp_Compare_int.f k y0 y1) (cmp_Compare_int.f (k + 1) y0 y1) := fun k _ _ => by unfold cmp_Compare_int.f; exact (LeO.bind (cmp_isNaN_int.mono k _) fun _ => LeO.bind (cmp_isNaN_int.mono k _) fun _ => LeO.ite (LeO.ite (LeO.refl _) (LeO.refl _)) (LeO.ite (LeO.refl _) (LeO.ite (LeO.refl _) (LeO.ite (LeO.refl _) (LeO.refl _)))))
theorem cmp_Compare_int.calls (k : Nat) {H : Hp} {L : Items} {x : Int} {y : Int} {r : Int} (he : cmp_Compare_int.f k x y = some r) : Ct Tryz.prog 136 ⟨[.int .i64 x, .int .i64 y]⟩ H L (fun v H' L' => L = L' ∧ H = H' ∧ v = .int .i64 r) := by
 refine ct_outs (O := cmp_Compare_int.out r) (fun _ _ h => h) ?_
 have hle : H.le H := .refl _
 unfold cmp_Compare_int.f at he
 refine ct_enter (args := [.int .i64 x, .int .i64 y]) fn_136 rfl nt_136 rfl <| w_seq <| w_region rfl <| w_d rfl (d_assign (v := .int .i64 0) rfl) <| w_done <| w_seq <| w_region rfl <| w_d rfl (d_move (v := .int .i64 x) rfl) ?_
 obtain ⟨y1, hy2, he⟩ := Option.bind_eq_some_iff.1 he
 refine w_d rfl (call_d (o_call co153 (vs := [.int .i64 x]) rfl (cmp_isNaN_int.calls k hy2))) <| w_d rfl (d_assign (v := .bool y1) rfl) <| w_done <| w_seq <| w_region rfl <| w_d rfl (d_move (v := .int .i64 y) rfl) ?_
 obtain ⟨y5, hy6, he⟩ := Option.bind_eq_some_iff.1 he
 refine w_d rfl (call_d (o_call co153 (vs := [.int .i64 y]) rfl (cmp_isNaN_int.calls k hy6))) <| w_d rfl (d_assign (v := .bool y5) rfl) <| w_done <| w_seq <| w_seq <| w_region rfl <| w_d rfl (d_move (v := .bool y1) rfl) <| w_done ?_
 rcases its he with ⟨c9, he⟩ | ⟨c9, he⟩
 ·
  refine w_then rfl c9 <| w_seq <| w_seq <| w_region rfl <| w_d rfl (d_move (v := .bool y5) rfl) <| w_done ?_
  rcases its he with ⟨c10, he⟩ | ⟨c10, he⟩
  ·
   refine w_then rfl c10 <| w_seq <| w_region rfl <| w_d rfl (d_assign (v := .int .i64 0) rfl) <| w_done ?_
   obtain rfl := Option.some.inj he
   refine w_return fn_136 rs_136 (.tmp (v := .int .i64 0) rfl .nil) <| ⟨⟨[], rfl⟩, hle, rfl⟩
  ·
   refine w_else rfl (Bool.eq_false_iff.2 c10) <| w_skip <| w_seq <| w_region rfl <| w_d rfl (d_assign (v := .int .i64 (-1)) rfl) <| w_done ?_
   obtain rfl := Option.some.inj he
   refine w_return fn_136 rs_136 (.tmp (v := .int .i64 (-1)) rfl .nil) <| ⟨⟨[], rfl⟩, hle, rfl⟩
 ·
  refine w_else rfl (Bool.eq_false_iff.2 c9) <| w_skip <| w_seq <| w_seq <| w_region rfl <| w_d rfl (d_move (v := .bool y5) rfl) <| w_done ?_
  rcases its he with ⟨c11, he⟩ | ⟨c11, he⟩
  ·
   refine w_then rfl c11 <| w_seq <| w_region rfl <| w_d rfl (d_assign (v := .int .i64 1) rfl) <| w_done ?_
   obtain rfl := Option.some.inj he
   refine w_return fn_136 rs_136 (.tmp (v := .int .i64 1) rfl .nil) <| ⟨⟨[], rfl⟩, hle, rfl⟩
  ·
   refine w_else rfl (Bool.eq_false_iff.2 c11) <| w_skip <| w_seq <| w_seq <| w_region rfl <| w_d rfl (d_move (v := .int .i64 x) rfl) <| w_d rfl (d_move (v := .int .i64 y) rfl) <| w_d rfl (d_lss rfl rfl) <| w_done ?_
   rcases its he with ⟨c12, he⟩ | ⟨c12, he⟩
   ·
    refine w_then rfl (decide_eq_true c12) <| w_seq <| w_region rfl <| w_d rfl (d_assign (v := .int .i64 (-1)) rfl) <| w_done ?_
    obtain rfl := Option.some.inj he
    refine w_return fn_136 rs_136 (.tmp (v := .int .i64 (-1)) rfl .nil) <| ⟨⟨[], rfl⟩, hle, rfl⟩
   ·
    refine w_else rfl (decide_eq_false c12) <| w_skip <| w_seq <| w_seq <| w_region rfl <| w_d rfl (d_move (v := .int .i64 x) rfl) <| w_d rfl (d_move (v := .int .i64 y) rfl) <| w_d rfl (d_gtr rfl rfl) <| w_done ?_
    rcases its he with ⟨c13, he⟩ | ⟨c13, he⟩
    ·
     refine w_then rfl (decide_eq_true c13) <| w_seq <| w_region rfl <| w_d rfl (d_assign (v := .int .i64 1) rfl) <| w_done ?_
     obtain rfl := Option.some.inj he
     refine w_return fn_136 rs_136 (.tmp (v := .int .i64 1) rfl .nil) <| ⟨⟨[], rfl⟩, hle, rfl⟩
    ·
     refine w_else rfl (decide_eq_false c13) <| w_skip <| w_seq <| w_region rfl <| w_d rfl (d_assign (v := .int .i64 0) rfl) <| w_done ?_
     obtain rfl := Option.some.inj he
     refine w_return fn_136 rs_136 (.tmp (v := .int .i64 0) rfl .nil) <| ⟨⟨[], rfl⟩, hle, rfl⟩
/-! ### cmp.isNaN[uint32] -/
noncomputable def cmp_isNaN_uint32.C : Code := (Tryz.f166.body).getD .skip
def cmp_isNaN_uint32.out (r : Bool) (H : Hp) (v : Value) : Prop := v = .bool r
abbrev cmp_isNaN_uint32.R (H0 : Hp) (L : Items) (r : Bool) : Value → Hp → Items → Prop := fun v H' L' => (∃ p, L' = p ++ L) ∧ H0.le H' ∧ cmp_isNaN_uint32.out r H' v
noncomputable def cmp_isNaN_uint32.f (k : Nat) (x : Int) : Option Bool := some (!decide (x = x))
theorem cmp_isNaN_uint32.mono : ∀ k y0, LeO (cmp_isNaN_uint32.f k y0) (cmp_isNaN_uint32.f (k + 1) y0) := fun k _ => by unfold cmp_isNaN_uint32.f; exact (LeO.refl _)
theorem cmp_isNaN_uint32.calls (k : Nat) {H : Hp} {L : Items} {x : Int} {r : Bool} (he : cmp_isNaN_uint32.f k x = some r) : Ct Tryz.prog 166 ⟨[.int .u32 x]⟩ H L (fun v H' L' => L = L' ∧ H = H' ∧ v = .bool r) := by
 refine ct_outs (O := cmp_isNaN_uint32.out r) (fun _ _ h => h) ?_
 have hle : H.le H := .refl _
 unfold cmp_isNaN_uint32.f at he
 refine ct_enter (args := [.int .u32 x]) fn_166 rfl nt_166 rfl <| w_seq <| w_region rfl <| w_d rfl (d_assign (v := .bool false) rfl) <| w_done <| w_seq <| w_region rfl <| w_d rfl (d_move (v := .int .u32 x) rfl) <| w_d rfl (d_move (v := .int .u32 x) rfl) <| w_d rfl (d_neq rfl rfl) <| w_d rfl (d_assign (v := .bool (!decide (x = x))) rfl) <| w_done ?_
 obtain rfl := Option.some.inj he
 refine w_return fn_166 rs_166 (.tmp (v := .bool (!decide (x = x))) rfl .nil) <| ⟨⟨[], rfl⟩, hle, rfl⟩
/-! ### cmp.Compare[uint32] -/
noncomputable def cmp_Compare_uint32.C : Code := (Tryz.f154.body).getD .skip
def cmp_Compare_uint32.out (r : Int) (H : Hp) (v : Value) : Prop := v = .int .i64 r
abbrev cmp_Compare_uint32.R (H0 : Hp) (L : Items) (r : Int) : Value → Hp → Items → Prop := fun v H' L' => (∃ p, L' = p ++ L) ∧ H0.le H' ∧ cmp_Compare_uint32.out r H' v
noncomputable def cmp_Compare_uint32.f (k : Nat) (x : Int) (y : Int) : Option Int := (cmp_isNaN_uint32.f k x).bind fun y1 => (cmp_isNaN_uint32.f k y).bind fun y5 => if y1 = true then (if y5 = true then (some (0)) else (some ((-1)))) else (if y5 = true then (some (1)) else (if x < y then (some ((-1))) else (if y < x then (some (1)) else (some (0)))))
theorem cmp_Compare_uint32.mono : ∀ k y0 y1, LeO (cmp_Compare_uint32.f k y0 y1) (cmp_Compare_uint32.f (k + 1) y0 y1) := fun k _ _ => by unfold cmp_Compare_uint32.f; exact (LeO.bind (cmp_isNaN_uint32.mono k _) fun _ => LeO.bind (cmp_isNaN_uint32.mono k _) fun _ => LeO.ite (LeO.ite (LeO.refl _) (LeO.refl _)) (LeO.ite (LeO.refl _) (LeO.ite (LeO.refl _) (LeO.ite (LeO.refl _) (LeO.refl _)))))
theorem cmp_Compare_uint32.calls (k : Nat) {H : Hp} {L : Items} {x : Int} {y : Int} {r : Int} (he : cmp_Compare_uint32.f k x y = some r) : Ct Tryz.prog 154 ⟨[.int .u32 x, .int .u32 y]⟩ H L (fun v H' L' => L = L' ∧ H = H' ∧ v = .int .i64 r) := by
 refine ct_outs (O := cmp_Compare_uint32.out r) (fun _ _ h => h) ?_
 have hle : H.le H := .refl _
 unfold cmp_Compare_uint32.f at he
 refine ct_enter (args := [.int .u32 x, .int .u32 y]) fn_154 rfl nt_154 rfl <| w_seq <| w_region rfl <| w_d rfl (d_assign (v := .int .i64 0) rfl) <| w_done <| w_seq <| w_region rfl <| w_d rfl (d_move (v := .int .u32 x) rfl) ?_
 obtain ⟨y1, hy2, he⟩ := Option.bind_eq_some_iff.1 he
 refine w_d rfl (call_d (o_call co166 (vs := [.int .u32 x]) rfl (cmp_isNaN_uint32.calls k hy2))) <| w_d rfl (d_assign (v := .bool y1) rfl) <| w_done <| w_seq <| w_region rfl <| w_d rfl (d_move (v := .int .u32 y) rfl) ?_
 obtain ⟨y5, hy6, he⟩ := Option.bind_eq_some_iff.1 he
 refine w_d rfl (call_d (o_call co166 (vs := [.int .u32 y]) rfl (cmp_isNaN_uint32.calls k hy6))) <| w_d rfl (d_assign (v := .bool y5) rfl) <| w_done <| w_seq <| w_seq <| w_region rfl <| w_d rfl (d_move (v := .bool y1) rfl) <| w_done ?_
 rcases its he with ⟨c9, he⟩ | ⟨c9, he⟩
 ·
  refine w_then rfl c9 <| w_seq <| w_seq <| w_region rfl <| w_d rfl (d_move (v := .bool y5) rfl) <| w_done ?_
  rcases its he with ⟨c10, he⟩ | ⟨c10, he⟩
  ·
   refine w_then rfl c10 <| w_seq <| w_region rfl <| w_d rfl (d_assign (v := .int .i64 0) rfl) <| w_done ?_
   obtain rfl := Option.some.inj he
   refine w_return fn_154 rs_154 (.tmp (v := .int .i64 0) rfl .nil) <| ⟨⟨[], rfl⟩, hle, rfl⟩
  ·
   refine w_else rfl (Bool.eq_false_iff.2 c10) <| w_skip <| w_seq <| w_region rfl <| w_d rfl (d_assign (v := .int .i64 (-1)) rfl) <| w_done ?_
   obtain rfl := Option.some.inj he
   refine w_return fn_154 rs_154 (.tmp (v := .int .i64 (-1)) rfl .nil) <| ⟨⟨[], rfl⟩, hle, rfl⟩
 ·
  refine w_else rfl (Bool.eq_false_iff.2 c9) <| w_skip <| w_seq <| w_seq <| w_region rfl <| w_d rfl (d_move (v := .bool y5) rfl) <| w_done ?_
  rcases its he with ⟨c11, he⟩ | ⟨c11, he⟩
  ·
   refine w_then rfl c11 <| w_seq <| w_region rfl <| w_d rfl (d_assign (v := .int .i64 1) rfl) <| w_done ?_
   obtain rfl := Option.some.inj he
   refine w_return fn_154 rs_154 (.tmp (v := .int .i64 1) rfl .nil) <| ⟨⟨[], rfl⟩, hle, rfl⟩
  ·
   refine w_else rfl (Bool.eq_false_iff.2 c11) <| w_skip <| w_seq <| w_seq <| w_region rfl <| w_d rfl (d_move (v := .int .u32 x) rfl) <| w_d rfl (d_move (v := .int .u32 y) rfl) <| w_d rfl (d_lss rfl rfl) <| w_done ?_
   rcases its he with ⟨c12, he⟩ | ⟨c12, he⟩
   ·
    refine w_then rfl (decide_eq_true c12) <| w_seq <| w_region rfl <| w_d rfl (d_assign (v := .int .i64 (-1)) rfl) <| w_done ?_
    obtain rfl := Option.some.inj he
    refine w_return fn_154 rs_154 (.tmp (v := .int .i64 (-1)) rfl .nil) <| ⟨⟨[], rfl⟩, hle, rfl⟩
   ·
    refine w_else rfl (decide_eq_false c12) <| w_skip <| w_seq <| w_seq <| w_region rfl <| w_d rfl (d_move (v := .int .u32 x) rfl) <| w_d rfl (d_move (v := .int .u32 y) rfl) <| w_d rfl (d_gtr rfl rfl) <| w_done ?_
    rcases its he with ⟨c13, he⟩ | ⟨c13, he⟩
    ·
     refine w_then rfl (decide_eq_true c13) <| w_seq <| w_region rfl <| w_d rfl (d_assign (v := .int .i64 1) rfl) <| w_done ?_
     obtain rfl := Option.some.inj he
     refine w_return fn_154 rs_154 (.tmp (v := .int .i64 1) rfl .nil) <| ⟨⟨[], rfl⟩, hle, rfl⟩
    ·
     refine w_else rfl (decide_eq_false c13) <| w_skip <| w_seq <| w_region rfl <| w_d rfl (d_assign (v := .int .i64 0) rfl) <| w_done ?_
     obtain rfl := Option.some.inj he
     refine w_return fn_154 rs_154 (.tmp (v := .int .i64 0) rfl .nil) <| ⟨⟨[], rfl⟩, hle, rfl⟩
/-! ### radome/wide.less -/
noncomputable def wide_less.C : Code := (Tryz.f137.body).getD .skip
def wide_less.out (r : Int) (H : Hp) (v : Value) : Prop := v = .int .i64 r
abbrev wide_less.R (H0 : Hp) (L : Items) (r : Int) : Value → Hp → Items → Prop := fun v H' L' => (∃ p, L' = p ++ L) ∧ H0.le H' ∧ wide_less.out r H' v
structure wide_less.Hs where
 l0 : (List Int) → (List Int) → Int → Int → Option Int
noncomputable def wide_less.b0 (k : Nat) (h : wide_less.Hs)  (a : List Int) (b : List Int) (t4 : Int) (i : Int) : Option Int := if 0 ≤ i then (if (0 : Int) ≤ i ∧ i < (a.length : Int) then (if (0 : Int) ≤ i ∧ i < (b.length : Int) then ((cmp_Compare_uint32.f k (rd a i) (rd b i)).bind fun y11 => if y11 = 0 then (h.l0 a b t4 (w64 (i - 1))) else (some (y11))) else none) else none) else (some (0))
noncomputable def wide_less.hs : Nat → wide_less.Hs
 | 0 => ⟨fun _ _ _ _ => none⟩
 | k + 1 => ⟨fun x0 x1 x2 x3 => wide_less.b0 k (wide_less.hs k) x0 x1 x2 x3⟩
noncomputable def wide_less.f (k : Nat) (a : List Int) (b : List Int) : Option Int := (fun h : wide_less.Hs => (cmp_Compare_int.f k (a.length : Int) (b.length : Int)).bind fun y1 => if y1 = 0 then (h.l0 a b 0 (w64 ((a.length : Int) - 1))) else (some (y1))) (wide_less.hs k)
structure wide_less.LE (h h' : wide_less.Hs) : Prop where
 l0 : ∀ y0 y1 y2 y3, LeO (h.l0 y0 y1 y2 y3) (h'.l0 y0 y1 y2 y3)
theorem wide_less.b0_mono {k : Nat} {h h' : wide_less.Hs} (hl : wide_less.LE h h') : ∀ y0 y1 y2 y3, LeO (wide_less.b0 k h y0 y1 y2 y3) (wide_less.b0 (k + 1) h' y0 y1 y2 y3) := fun _ _ _ _ => (LeO.ite (LeO.ite (LeO.ite (LeO.bind (cmp_Compare_uint32.mono k _ _) fun _ => LeO.ite (hl.l0 _ _ _ _) (LeO.refl _)) (LeO.refl _)) (LeO.refl _)) (LeO.refl _))
theorem wide_less.hs_mono : ∀ k, wide_less.LE (wide_less.hs k) (wide_less.hs (k + 1))
 | 0 => ⟨fun _ _ _ _ => LeO.none _⟩
 | k + 1 => ⟨wide_less.b0_mono (k := k) (wide_less.hs_mono k)⟩
theorem wide_less.mono : ∀ k y0 y1, LeO (wide_less.f k y0 y1) (wide_less.f (k + 1) y0 y1) := fun k _ _ => have hl := wide_less.hs_mono k; by unfold wide_less.f; exact (LeO.bind (cmp_Compare_int.mono k _ _) fun _ => LeO.ite (hl.l0 _ _ _ _) (LeO.refl _))
noncomputable def wide_less.Kl0 : List Item := .code (lopB (blkB (seqR (seqL (seqR (seqR wide_less.C)))))) :: .inLoop (lopB (blkB (seqR (seqL (seqR (seqR wide_less.C)))))) :: .inBlock 0 :: .code (seqR (seqR (seqR wide_less.C))) :: []
structure wide_less.OK (h : wide_less.Hs) : Prop where
 l0 : ∀ {H0 H : Hp} {L : Items} {r : Int} {jk_ : Nat → Value} {a : List Int} {b : List Int} {t4 : Int} {i : Int} {v_a : Value} {v_b : Value} (_ : H0.le H) (_he : h.l0 a b t4 i = some r) (_h_a : Src (Kd.int .u32) H L v_a a) (_h_b : Src (Kd.int .u32) H L v_b b), Wp Tryz.prog 137 35 wide_less.Kl0 (upd (upd (upd (upd jk_ 0 (v_a)) 1 (v_b)) 4 (.int .i64 t4)) 6 (.int .i64 i)) H (L) (wide_less.R H0 L r)
theorem wide_less.b0_ok {k : Nat} {h : wide_less.Hs} (hh : wide_less.OK h) {H0 H : Hp} {L : Items} {r : Int} {jk_ : Nat → Value} {a : List Int} {b : List Int} {t4 : Int} {i : Int} {v_a : Value} {v_b : Value} (hle : H0.le H) (he : wide_less.b0 k h a b t4 i = some r) (h_a : Src (Kd.int .u32) H L v_a a) (h_b : Src (Kd.int .u32) H L v_b b) : Wp Tryz.prog 137 35 wide_less.Kl0 (upd (upd (upd (upd jk_ 0 (v_a)) 1 (v_b)) 4 (.int .i64 t4)) 6 (.int .i64 i)) H (L) (wide_less.R H0 L r) := by
 unfold wide_less.b0 at he
 unfold wide_less.Kl0
 refine w_seq <| w_seq <| w_region rfl <| w_d rfl (d_move (v := .int .i64 i) rfl) <| w_d rfl (d_geq rfl rfl) <| w_done ?_
 rcases its he with ⟨c6, he⟩ | ⟨c6, he⟩
 ·
  refine w_then rfl (decide_eq_true c6) <| w_skip <| w_seq <| w_block <| w_seq ?_
  obtain ⟨c7, he⟩ := rq he
  obtain ⟨c8, he⟩ := rq he
  refine w_drawn (p := 8) (tl := [8, 9]) [[], [], [(0, some 23), (1, some 24)], [(2, some 25)], [], [], [(4, some 27), (5, some 28)], [(6, some 29)]] [some 23, some 24, some 25, some 26, some 27, some 28, some 29, some 30] (fctF (.is (v_a) :: .is (.int .i64 i) :: .is (.pointer (some (pel v_a i 1))) :: .is (.int .u32 (rd a i)) :: .is (v_b) :: .is (.int .i64 i) :: .is (.pointer (some (pel v_b i 1))) :: .is (.int .u32 (rd b i)) :: [])) (fun m_ => L) (fun _ => none) mixed (by kernel_rfl) (by kernel_rfl) rfl (fct_mono (by kernel_rfl)) ⟨(fun H' m_ hH hm_ hu_ => depK_nil <| s_d (m_ 0) rfl (d_move (v := v_a) rfl) (by exact rfl) rfl), (fun H' m_ hH hm_ hu_ => depK_nil <| s_d (m_ 1) rfl (d_move (v := .int .i64 i) rfl) (by exact rfl) rfl), (by rintro H' m_ hH hm_ hu_ _ rfl _ rfl; exact depK_nil <| s_d (m_ 2) rfl (d_index (sz := 1) Tryz.underlying22 sz167 rfl (h_a.mono hH) rfl c7) (by exact rfl) rfl), (by rintro H' m_ hH hm_ hu_ _ rfl; exact depK_nil <| s_d (m_ 3) rfl (d_ldint ty167 rfl (h_a.mono hH) c7) (by exact rfl) rfl), (fun H' m_ hH hm_ hu_ => depK_nil <| s_d (m_ 4) rfl (d_move (v := v_b) rfl) (by exact rfl) rfl), (fun H' m_ hH hm_ hu_ => depK_nil <| s_d (m_ 5) rfl (d_move (v := .int .i64 i) rfl) (by exact rfl) rfl), (by rintro H' m_ hH hm_ hu_ _ rfl _ rfl; exact depK_nil <| s_d (m_ 6) rfl (d_index (sz := 1) Tryz.underlying22 sz167 rfl (h_b.mono hH) rfl c8) (by exact rfl) rfl), (by rintro H' m_ hH hm_ hu_ _ rfl; exact depK_nil <| s_d (m_ 7) rfl (d_ldint ty167 rfl (h_b.mono hH) c8) (by exact rfl) rfl), trivial⟩ ?_
  intro H9 e10
  rintro _ _ rfl _ _ rfl _ _ rfl _ _ rfl _ _ rfl _ _ rfl _ _ rfl _ _ rfl
  obtain ⟨y11, hy12, he⟩ := Option.bind_eq_some_iff.1 he
  refine w_d rfl (call_d (o_call co154 (vs := [.int .u32 (rd a i), .int .u32 (rd b i)]) rfl (cmp_Compare_uint32.calls k hy12))) <| w_d rfl (d_assign (v := .int .i64 y11) rfl) <| w_done <| w_seq <| w_region rfl <| w_d rfl (d_move (v := .int .i64 y11) rfl) <| w_d rfl (d_neq rfl rfl) <| w_done ?_
  rcases its he with ⟨c15, he⟩ | ⟨c15, he⟩
  ·
   refine w_else rfl (nd_t c15) <| w_skip <| w_inBlock <| w_region rfl <| w_d rfl (d_move (v := .int .i64 i) rfl) <| w_d rfl (d_sub (c := w64 (i - 1)) rfl rfl rfl) <| w_d rfl (d_assign (v := .int .i64 (w64 (i - 1))) rfl) <| w_done <| w_inLoop <| w_sl 0 (v_a) rfl <| w_sl 1 (v_b) rfl <| w_sl 4 (.int .i64 t4) rfl ?_
   refine w_sl 6 (.int .i64 (w64 (i - 1))) rfl <| hh.l0 (hle.trans e10) he (h_a.mono e10) (h_b.mono e10)
  ·
   refine w_then rfl (nd_f c15) <| w_seq <| w_region rfl <| w_d rfl (d_move (v := .int .i64 y11) rfl) <| w_d rfl (d_assign (v := .int .i64 y11) rfl) <| w_done ?_
   obtain rfl := Option.some.inj he
   refine w_return fn_137 rs_137 (.tmp (v := .int .i64 y11) rfl .nil) <| ⟨⟨[], rfl⟩, hle.trans e10, rfl⟩
 ·
  refine w_else rfl (decide_eq_false c6) <| w_exit rfl <| w_seq <| w_region rfl <| w_d rfl (d_assign (v := .int .i64 0) rfl) <| w_done ?_
  obtain rfl := Option.some.inj he
  refine w_return fn_137 rs_137 (.tmp (v := .int .i64 0) rfl .nil) <| ⟨⟨[], rfl⟩, hle, rfl⟩
theorem wide_less.ok : ∀ k, wide_less.OK (wide_less.hs k)
 | 0 => ⟨(by intros; exact nomatch (show none = some _ from by assumption))⟩
 | k + 1 => ⟨wide_less.b0_ok (k := k) (wide_less.ok k)⟩
theorem wide_less.calls (k : Nat) {H : Hp} {L : Items} {a : List Int} {b : List Int} {v0_a : Value} {v1_b : Value} {r : Int} (he : wide_less.f k a b = some r) (h0_a : Src (Kd.int .u32) H L v0_a a) (h1_b : Src (Kd.int .u32) H L v1_b b) : Ct Tryz.prog 137 ⟨[v0_a, v1_b]⟩ H L (fun v H' L' => L = L' ∧ H = H' ∧ v = .int .i64 r) := by
 refine ct_outs (O := wide_less.out r) (fun _ _ h => h) ?_
 have hle : H.le H := .refl _
 have hh := wide_less.ok k
 unfold wide_less.f at he
 refine ct_enter (args := [v0_a, v1_b]) fn_137 rfl nt_137 rfl <| w_seq <| w_region rfl <| w_d rfl (d_assign (v := .int .i64 0) rfl) <| w_done <| w_seq <| w_seq <| w_region rfl <| w_d rfl (d_move (v := v0_a) rfl) <| w_d rfl (d_len Tryz.underlying22 rfl h0_a) <| w_d rfl (d_move (v := v1_b) rfl) <| w_d rfl (d_len Tryz.underlying22 rfl h1_b) ?_
 obtain ⟨y1, hy2, he⟩ := Option.bind_eq_some_iff.1 he
 refine w_d rfl (call_d (o_call co136 (vs := [.int .i64 (a.length : Int), .int .i64 (b.length : Int)]) rfl (cmp_Compare_int.calls k hy2))) <| w_d rfl (d_assign (v := .int .i64 y1) rfl) <| w_done <| w_seq <| w_region rfl <| w_d rfl (d_move (v := .int .i64 y1) rfl) <| w_d rfl (d_neq rfl rfl) <| w_done ?_
 rcases its he with ⟨c5, he⟩ | ⟨c5, he⟩
 ·
  refine w_else rfl (nd_t c5) <| w_skip <| w_seq <| w_seq <| w_region rfl <| w_d rfl (d_move (v := v0_a) rfl) <| w_d rfl (d_len Tryz.underlying22 rfl h0_a) <| w_d rfl (d_sub (c := w64 ((a.length : Int) - 1)) rfl rfl rfl) <| w_d rfl (d_assign (v := .int .i64 (w64 ((a.length : Int) - 1))) rfl) <| w_done <| w_block <| w_loop ?_
  refine w_sl 0 (v0_a) rfl <| w_sl 1 (v1_b) rfl <| w_sl 4 (.int .i64 0) rfl <| w_sl 6 (.int .i64 (w64 ((a.length : Int) - 1))) rfl <| hh.l0 hle he h0_a h1_b
 ·
  refine w_then rfl (nd_f c5) <| w_seq <| w_region rfl <| w_d rfl (d_move (v := .int .i64 y1) rfl) <| w_d rfl (d_assign (v := .int .i64 y1) rfl) <| w_done ?_
  obtain rfl := Option.some.inj he
  refine w_return fn_137 rs_137 (.tmp (v := .int .i64 y1) rfl .nil) <| ⟨⟨[], rfl⟩, hle, rfl⟩
/-! ### math/bits.Sub32 -/
noncomputable def bits_Sub32.C : Code := (Tryz.f159.body).getD .skip
def bits_Sub32.out (r : Int × Int) (H : Hp) (v : Value) : Prop := v = .tuple ⟨[.int .u32 r.1, .int .u32 r.2]⟩
abbrev bits_Sub32.R (H0 : Hp) (L : Items) (r : Int × Int) : Value → Hp → Items → Prop := fun v H' L' => (∃ p, L' = p ++ L) ∧ H0.le H' ∧ bits_Sub32.out r H' v
noncomputable def bits_Sub32.f (k : Nat) (x : Int) (y : Int) (borrow : Int) : Option (Int × Int) := some ((((x - y) % 4294967296) - borrow) % 4294967296, (ior .u32 (iand .u32 (ixor .u32 4294967295 x) y) (iand .u32 (ixor .u32 4294967295 (ixor .u32 x y)) ((((x - y) % 4294967296) - borrow) % 4294967296))) / 2147483648)
theorem bits_Sub32.mono : ∀ k y0 y1 y2, LeO (bits_Sub32.f k y0 y1 y2) (bits_Sub32.f (k + 1) y0 y1 y2) := fun k _ _ _ => by unfold bits_Sub32.f; exact (LeO.refl _)
theorem bits_Sub32.calls (k : Nat) {H : Hp} {L : Items} {x : Int} {y : Int} {borrow : Int} {r : Int × Int} (he : bits_Sub32.f k x y borrow = some r) : Ct Tryz.prog 159 ⟨[.int .u32 x, .int .u32 y, .int .u32 borrow]⟩ H L (fun v H' L' => L = L' ∧ H = H' ∧ v = .tuple ⟨[.int .u32 r.1, .int .u32 r.2]⟩) := by
 refine ct_outs (O := bits_Sub32.out r) (fun _ _ h => h) ?_
 have hle : H.le H := .refl _
 unfold bits_Sub32.f at he
 refine ct_enter (args := [.int .u32 x, .int .u32 y, .int .u32 borrow]) fn_159 rfl nt_159 rfl <| w_seq <| w_region rfl <| w_d rfl (d_assign (v := .int .u32 0) rfl) <| w_d rfl (d_assign (v := .int .u32 0) rfl) <| w_done <| w_seq <| w_region rfl <| w_d rfl (d_move (v := .int .u32 x) rfl) <| w_d rfl (d_move (v := .int .u32 y) rfl) <| w_d rfl (d_sub (c := (x - y) % 4294967296) rfl rfl rfl) <| w_d rfl (d_move (v := .int .u32 borrow) rfl) ?_
 refine w_d rfl (d_sub (c := (((x - y) % 4294967296) - borrow) % 4294967296) rfl rfl rfl) <| w_d rfl (d_assign (v := .int .u32 ((((x - y) % 4294967296) - borrow) % 4294967296)) rfl) <| w_done <| w_seq <| w_region rfl <| w_d rfl (d_move (v := .int .u32 x) rfl) <| w_d rfl (d_inv rfl) <| w_d rfl (d_move (v := .int .u32 y) rfl) <| w_d rfl (d_band rfl rfl) <| w_d rfl (d_move (v := .int .u32 x) rfl) <| w_d rfl (d_move (v := .int .u32 y) rfl) <| w_d rfl (d_bxor rfl rfl) ?_
 refine w_d rfl (d_inv rfl) <| w_d rfl (d_move (v := .int .u32 ((((x - y) % 4294967296) - borrow) % 4294967296)) rfl) <| w_d rfl (d_band rfl rfl) <| w_d rfl (d_bor rfl rfl) <| w_d rfl (d_shr (c := (ior .u32 (iand .u32 (ixor .u32 4294967295 x) y) (iand .u32 (ixor .u32 4294967295 (ixor .u32 x y)) ((((x - y) % 4294967296) - borrow) % 4294967296))) / 2147483648) rfl rfl (by decide) rfl) <| w_d rfl (d_assign (v := .int .u32 ((ior .u32 (iand .u32 (ixor .u32 4294967295 x) y) (iand .u32 (ixor .u32 4294967295 (ixor .u32 x y)) ((((x - y) % 4294967296) - borrow) % 4294967296))) / 2147483648)) rfl) <| w_done ?_
 obtain rfl := Option.some.inj he
 refine w_return fn_159 rs_159 (.tmp (v := .int .u32 ((((x - y) % 4294967296) - borrow) % 4294967296)) rfl (.tmp (v := .int .u32 ((ior .u32 (iand .u32 (ixor .u32 4294967295 x) y) (iand .u32 (ixor .u32 4294967295 (ixor .u32 x y)) ((((x - y) % 4294967296) - borrow) % 4294967296))) / 2147483648)) rfl .nil)) <| ⟨⟨[], rfl⟩, hle, rfl⟩
/-! ### radome/wide.minus -/
noncomputable def wide_minus.C : Code := (Tryz.f143.body).getD .skip
abbrev wide_minus.out (r : (List Int)) (H : Hp) (v : Value) : Prop := Ro (Kd.int .u32) H v r
abbrev wide_minus.R (H0 : Hp) (L : Items) (r : (List Int)) : Value → Hp → Items → Prop := fun v H' L' => (∃ p, L' = p ++ L) ∧ H0.le H' ∧ wide_minus.out r H' v
structure wide_minus.Hs where
 l0 : (List Int) → (List Int) → Int → (List Int) → Int → Int → Option (List Int)
noncomputable def wide_minus.j2 (k : Nat) (h : wide_minus.Hs)  (b : List Int) (out : List Int) (borrow : Int) (x : Int) (y : Int) (t14 : List Int) (t15 : Int) (t16 : Int) : Option (List Int) := (bits_Sub32.f k x y borrow).bind fun y18 => if out.length + 1 ≤ 35184372088704 then (h.l0 b (out ++ [y18.1]) y18.2 t14 t15 (w64 (t16 + 1))) else none
noncomputable def wide_minus.b0 (k : Nat) (h : wide_minus.Hs)  (b : List Int) (out : List Int) (borrow : Int) (t14 : List Int) (t15 : Int) (t16 : Int) : Option (List Int) := if t16 < t15 then (if (0 : Int) ≤ t16 ∧ t16 < (t14.length : Int) then (if t16 < (b.length : Int) then (if (0 : Int) ≤ t16 ∧ t16 < (b.length : Int) then (wide_minus.j2 k h b out borrow (rd t14 t16) (rd b t16) t14 t15 t16) else none) else (wide_minus.j2 k h b out borrow (rd t14 t16) 0 t14 t15 t16)) else none) else ((wide_trim.f k out).bind fun y12 => some (y12))
noncomputable def wide_minus.hs : Nat → wide_minus.Hs
 | 0 => ⟨fun _ _ _ _ _ _ => none⟩
 | k + 1 => ⟨fun x0 x1 x2 x3 x4 x5 => wide_minus.b0 k (wide_minus.hs k) x0 x1 x2 x3 x4 x5⟩
noncomputable def wide_minus.f (k : Nat) (a : List Int) (b : List Int) : Option (List Int) := (fun h : wide_minus.Hs => if 0 ≤ 0 ∧ 0 ≤ (a.length : Int) ∧ (a.length : Int) ≤ 70368744177664 then (h.l0 b (List.replicate (0 : Int).toNat (0 : Int)) 0 a (a.length : Int) 0) else none) (wide_minus.hs k)
structure wide_minus.LE (h h' : wide_minus.Hs) : Prop where
 l0 : ∀ y0 y1 y2 y3 y4 y5, LeO (h.l0 y0 y1 y2 y3 y4 y5) (h'.l0 y0 y1 y2 y3 y4 y5)
theorem wide_minus.j2_mono {k : Nat} {h h' : wide_minus.Hs} (hl : wide_minus.LE h h') : ∀ y0 y1 y2 y3 y4 y5 y6 y7, LeO (wide_minus.j2 k h y0 y1 y2 y3 y4 y5 y6 y7) (wide_minus.j2 (k + 1) h' y0 y1 y2 y3 y4 y5 y6 y7) := fun _ _ _ _ _ _ _ _ => (LeO.bind (bits_Sub32.mono k _ _ _) fun _ => LeO.ite (hl.l0 _ _ _ _ _ _) (LeO.refl _))
theorem wide_minus.b0_mono {k : Nat} {h h' : wide_minus.Hs} (hl : wide_minus.LE h h') : ∀ y0 y1 y2 y3 y4 y5, LeO (wide_minus.b0 k h y0 y1 y2 y3 y4 y5) (wide_minus.b0 (k + 1) h' y0 y1 y2 y3 y4 y5) := fun _ _ _ _ _ _ => (LeO.ite (LeO.ite (LeO.ite (LeO.ite (wide_minus.j2_mono (k := k) hl _ _ _ _ _ _ _ _) (LeO.refl _)) (wide_minus.j2_mono (k := k) hl _ _ _ _ _ _ _ _)) (LeO.refl _)) (LeO.bind (wide_trim.mono k _) fun _ => LeO.refl _))
theorem wide_minus.hs_mono : ∀ k, wide_minus.LE (wide_minus.hs k) (wide_minus.hs (k + 1))
 | 0 => ⟨fun _ _ _ _ _ _ => LeO.none _⟩
 | k + 1 => ⟨wide_minus.b0_mono (k := k) (wide_minus.hs_mono k)⟩
theorem wide_minus.mono : ∀ k y0 y1, LeO (wide_minus.f k y0 y1) (wide_minus.f (k + 1) y0 y1) := fun k _ _ => have hl := wide_minus.hs_mono k; by unfold wide_minus.f; exact (LeO.ite (hl.l0 _ _ _ _ _ _) (LeO.refl _))
noncomputable def wide_minus.Kl0 : List Item := .code (lopB (blkB (seqR (seqL (seqR (seqR (seqR wide_minus.C))))))) :: .inLoop (lopB (blkB (seqR (seqL (seqR (seqR (seqR wide_minus.C))))))) :: .inBlock 0 :: .code (seqR (seqR (seqR (seqR wide_minus.C)))) :: []
noncomputable def wide_minus.Kj2 : List Item := .code (seqR (seqR (seqR (blkB (seqL (seqR (seqR (lopB (blkB (seqR (seqL (seqR (seqR (seqR wide_minus.C)))))))))))))) :: .inBlock 1 :: .code (seqR (seqR (seqR (lopB (blkB (seqR (seqL (seqR (seqR (seqR wide_minus.C)))))))))) :: .inLoop (lopB (blkB (seqR (seqL (seqR (seqR (seqR wide_minus.C))))))) :: .inBlock 0 :: .code (seqR (seqR (seqR (seqR wide_minus.C)))) :: []
structure wide_minus.OK (h : wide_minus.Hs) : Prop where
 l0 : ∀ {H0 H : Hp} {L : Items} {r : (List Int)} {jk_ : Nat → Value} {b : List Int} {out : List Int} {borrow : Int} {t14 : List Int} {t15 : Int} {t16 : Int} {v_b : Value} {v_out : Value} {v_t14 : Value} {i_out : Item'} (_ : H0.le H) (_he : h.l0 b out borrow t14 t15 t16 = some r) (_h_b : Src (Kd.int .u32) H L v_b b) (_h_out : Sl (Kd.int .u32) H 167 i_out v_out out) (_h_t14 : Src (Kd.int .u32) H L v_t14 t14), Wp Tryz.prog 143 43 wide_minus.Kl0 (upd (upd (upd (upd (upd (upd (upd jk_ 1 (v_b)) 4 (.slice none 0 0)) 5 (v_out)) 6 (.int .u32 borrow)) 14 (v_t14)) 15 (.int .i64 t15)) 16 (.int .i64 t16)) H (i_out :: L) (wide_minus.R H0 L r)
theorem wide_minus.j2_ok {k : Nat} {h : wide_minus.Hs} (hh : wide_minus.OK h) {H0 H : Hp} {L : Items} {r : (List Int)} {jk_ : Nat → Value} {b : List Int} {out : List Int} {borrow : Int} {x : Int} {y : Int} {t14 : List Int} {t15 : Int} {t16 : Int} {v_b : Value} {v_out : Value} {v_t14 : Value} {i_out : Item'} (hle : H0.le H) (he : wide_minus.j2 k h b out borrow x y t14 t15 t16 = some r) (h_b : Src (Kd.int .u32) H L v_b b) (h_out : Sl (Kd.int .u32) H 167 i_out v_out out) (h_t14 : Src (Kd.int .u32) H L v_t14 t14) : Wp Tryz.prog 143 43 wide_minus.Kj2 (upd (upd (upd (upd (upd (upd (upd (upd (upd jk_ 1 (v_b)) 4 (.slice none 0 0)) 5 (v_out)) 6 (.int .u32 borrow)) 8 (.int .u32 x)) 9 (.int .u32 y)) 14 (v_t14)) 15 (.int .i64 t15)) 16 (.int .i64 t16)) H (i_out :: L) (wide_minus.R H0 L r) := by
 unfold wide_minus.j2 at he
 unfold wide_minus.Kj2
 refine w_seq <| w_region rfl <| w_d rfl (d_assign (v := .int .u32 0) rfl) <| w_done <| w_seq <| w_region rfl <| w_d rfl (d_move (v := .int .u32 x) rfl) <| w_d rfl (d_move (v := .int .u32 y) rfl) <| w_d rfl (d_move (v := .int .u32 borrow) rfl) ?_
 obtain ⟨y18, hy19, he⟩ := Option.bind_eq_some_iff.1 he
 refine w_d rfl (call_d (o_call co159 (vs := [.int .u32 x, .int .u32 y, .int .u32 borrow]) rfl (bits_Sub32.calls k hy19))) <| w_d rfl (d_move (v := .tuple ⟨[.int .u32 y18.1, .int .u32 y18.2]⟩) rfl) <| w_d rfl (d_ext (vs := [.int .u32 y18.1, .int .u32 y18.2]) rfl rfl) <| w_d rfl (d_ext (vs := [.int .u32 y18.1, .int .u32 y18.2]) rfl rfl) <| w_d rfl (d_assign (v := .int .u32 y18.1) rfl) <| w_d rfl (d_assign (v := .int .u32 y18.2) rfl) <| w_done <| w_region rfl <| w_d rfl (d_move (v := v_out) rfl) <| w_d rfl (d_move (v := .int .u32 y18.1) rfl) <| w_a rfl (o_buildSlice' (kd := (Kd.int .u32)) (css := [[.int .u32 y18.1]]) (xs := [y18.1]) (parts := [(0, .int .u32 y18.1)]) Tryz.underlying22 ti167 rfl ⟨_, _, rfl, rfl, rfl⟩ ⟨rfl, trivial⟩ rfl (by decide)) ?_
 rintro v22 _ _ ⟨i23, rfl, rfl, h24⟩
 obtain ⟨c25, he⟩ := rq he
 refine w_a rfl (o_append' (kd := (Kd.int .u32)) (F := fun z_ => i23 :: z_ :: L) Tryz.underlying22 Tryz.underlying22 ti167 rfl (by first | omega | (simp only [List.nil_append, List.length_cons, List.length_nil]; omega)) rfl rfl h_out (h24.src .here) (fun _ => (.there .here))) ?_
 rintro v26 _ _ ⟨i27, rfl, rfl, h28⟩
 refine w_d rfl (d_assign (v := v26) rfl) <| w_done <| w_inBlock <| w_region rfl <| w_d rfl (d_add (c := w64 (t16 + 1)) rfl rfl rfl) <| w_d rfl (d_move (v := .int .i64 (w64 (t16 + 1))) rfl) <| w_done <| w_inLoop <| w_del .here <| w_sl 1 (v_b) rfl <| w_sl 4 (.slice none 0 0) rfl <| w_sl 5 (v26) rfl ?_
 refine w_sl 6 (.int .u32 y18.2) rfl <| w_sl 14 (v_t14) rfl <| w_sl 15 (.int .i64 t15) rfl <| w_sl 16 (.int .i64 (w64 (t16 + 1))) rfl <| hh.l0 hle he h_b h28 h_t14
theorem wide_minus.b0_ok {k : Nat} {h : wide_minus.Hs} (hh : wide_minus.OK h) {H0 H : Hp} {L : Items} {r : (List Int)} {jk_ : Nat → Value} {b : List Int} {out : List Int} {borrow : Int} {t14 : List Int} {t15 : Int} {t16 : Int} {v_b : Value} {v_out : Value} {v_t14 : Value} {i_out : Item'} (hle : H0.le H) (he : wide_minus.b0 k h b out borrow t14 t15 t16 = some r) (h_b : Src (Kd.int .u32) H L v_b b) (h_out : Sl (Kd.int .u32) H 167 i_out v_out out) (h_t14 : Src (Kd.int .u32) H L v_t14 t14) : Wp Tryz.prog 143 43 wide_minus.Kl0 (upd (upd (upd (upd (upd (upd (upd jk_ 1 (v_b)) 4 (.slice none 0 0)) 5 (v_out)) 6 (.int .u32 borrow)) 14 (v_t14)) 15 (.int .i64 t15)) 16 (.int .i64 t16)) H (i_out :: L) (wide_minus.R H0 L r) := by
 unfold wide_minus.b0 at he
 unfold wide_minus.Kl0
 refine w_seq <| w_region rfl <| w_d rfl (d_lss rfl rfl) <| w_done <| w_seq ?_
 rcases its he with ⟨c5, he⟩ | ⟨c5, he⟩
 ·
  refine w_then rfl (decide_eq_true c5) <| w_skip <| w_seq <| w_block <| w_seq <| w_region rfl <| w_d rfl (d_move (v := .int .i64 t16) rfl) ?_
  obtain ⟨c6, he⟩ := rq he
  refine w_d rfl (d_index (sz := 1) Tryz.underlying22 sz167 rfl h_t14.th rfl c6) <| w_d rfl (d_ldint ty167 rfl h_t14.th c6) <| w_d rfl (d_assign (v := .int .i64 t16) rfl) <| w_d rfl (d_assign (v := .int .u32 (rd t14 t16)) rfl) <| w_done <| w_seq <| w_region rfl <| w_d rfl (d_assign (v := .int .u32 0) rfl) <| w_done <| w_seq <| w_seq <| w_region rfl ?_
  refine w_d rfl (d_move (v := .int .i64 t16) rfl) <| w_d rfl (d_move (v := v_b) rfl) <| w_d rfl (d_len Tryz.underlying22 rfl h_b.th) <| w_d rfl (d_lss rfl rfl) <| w_done ?_
  rcases its he with ⟨c7, he⟩ | ⟨c7, he⟩
  ·
   refine w_then rfl (decide_eq_true c7) <| w_region rfl <| w_d rfl (d_move (v := v_b) rfl) <| w_d rfl (d_move (v := .int .i64 t16) rfl) ?_
   obtain ⟨c8, he⟩ := rq he
   refine w_d rfl (d_index (sz := 1) Tryz.underlying22 sz167 rfl h_b.th rfl c8) <| w_d rfl (d_ldint ty167 rfl h_b.th c8) <| w_d rfl (d_assign (v := .int .u32 (rd b t16)) rfl) <| w_done <| w_sl 1 (v_b) rfl <| w_sl 4 (.slice none 0 0) rfl <| w_sl 5 (v_out) rfl <| w_sl 6 (.int .u32 borrow) rfl <| w_sl 8 (.int .u32 (rd t14 t16)) rfl <| w_sl 9 (.int .u32 (rd b t16)) rfl <| w_sl 14 (v_t14) rfl <| w_sl 15 (.int .i64 t15) rfl ?_
   refine w_sl 16 (.int .i64 t16) rfl <| wide_minus.j2_ok (k := k) hh hle he h_b h_out h_t14
  ·
   refine w_else rfl (decide_eq_false c7) <| w_skip <| w_sl 1 (v_b) rfl <| w_sl 4 (.slice none 0 0) rfl <| w_sl 5 (v_out) rfl <| w_sl 6 (.int .u32 borrow) rfl <| w_sl 8 (.int .u32 (rd t14 t16)) rfl <| w_sl 9 (.int .u32 0) rfl <| w_sl 14 (v_t14) rfl <| w_sl 15 (.int .i64 t15) rfl <| w_sl 16 (.int .i64 t16) rfl <| wide_minus.j2_ok (k := k) hh hle he h_b h_out h_t14
 ·
  refine w_else rfl (decide_eq_false c5) <| w_exit rfl <| w_seq <| w_region rfl <| w_d rfl (d_move (v := v_out) rfl) <| w_freeze h_out .here ?_
  intro H9 e10 h11
  obtain ⟨y12, hy13, he⟩ := Option.bind_eq_some_iff.1 he
  refine w_a rfl (o_call co113 (vs := [v_out]) rfl (wide_trim.calls k hy13 h11)) ?_
  rintro v16 H14 _ ⟨rfl, e15, h17⟩
  refine w_d rfl (d_assign (v := v16) rfl) <| w_done ?_
  obtain rfl := Option.some.inj he
  refine w_return fn_143 rs_143 (.tmp (v := v16) rfl .nil) <| ⟨⟨[_], rfl⟩, hle.trans (e10.trans e15), h17⟩
theorem wide_minus.ok : ∀ k, wide_minus.OK (wide_minus.hs k)
 | 0 => ⟨(by intros; exact nomatch (show none = some _ from by assumption))⟩
 | k + 1 => ⟨wide_minus.b0_ok (k := k) (wide_minus.ok k)⟩
theorem wide_minus.calls (k : Nat) {H : Hp} {L : Items} {a : List Int} {b : List Int} {v0_a : Value} {v1_b : Value} {r : (List Int)} (he : wide_minus.f k a b = some r) (h0_a : Src (Kd.int .u32) H L v0_a a) (h1_b : Src (Kd.int .u32) H L v1_b b) : Ct Tryz.prog 143 ⟨[v0_a, v1_b]⟩ H L (fun v H' L' => L = L' ∧ H.le H' ∧ wide_minus.out r H' v) := by
 refine ct_out (O := wide_minus.out r) ?_
 have hle : H.le H := .refl _
 have hh := wide_minus.ok k
 unfold wide_minus.f at he
 refine ct_enter (args := [v0_a, v1_b]) fn_143 rfl nt_143 rfl <| w_seq <| w_region rfl <| w_d rfl (d_assign (v := .slice none 0 0) rfl) <| w_done <| w_seq <| w_region rfl <| w_d rfl (d_move (v := v0_a) rfl) <| w_d rfl (d_len Tryz.underlying22 rfl h0_a) ?_
 obtain ⟨c1, he⟩ := rq he
 refine w_a rfl (o_make' (kd := (Kd.int .u32)) (z0 := 0) Tryz.underlying22 ti167 (zp167 _) rfl rfl (by omega) (by omega) (by omega)) ?_
 rintro v2 _ _ ⟨i3, rfl, rfl, h4⟩
 refine w_d rfl (d_assign (v := v2) rfl) <| w_done <| w_seq <| w_region rfl <| w_d rfl (d_assign (v := .int .u32 0) rfl) <| w_done <| w_seq <| w_seq <| w_region rfl <| w_d rfl (d_move (v := v0_a) rfl) <| w_d rfl (d_len Tryz.underlying22 rfl h0_a.th) <| w_d rfl (d_move (v := .int .i64 0) rfl) ?_
 refine w_done <| w_block <| w_loop <| w_sl 1 (v1_b) rfl <| w_sl 4 (.slice none 0 0) rfl <| w_sl 5 (v2) rfl <| w_sl 6 (.int .u32 0) rfl <| w_sl 14 (v0_a) rfl <| w_sl 15 (.int .i64 (a.length : Int)) rfl <| w_sl 16 (.int .i64 0) rfl <| hh.l0 hle he h1_b h4 h0_a
/-! ### (radome/wide.Int).Add -/
noncomputable def wide_Int_Add.C : Code := (Tryz.f127.body).getD .skip
def wide_Int_Add.out (r : wide_Int × (Option Int)) (H : Hp) (v : Value) : Prop := ∃ v0, v = .tuple ⟨[.agg ⟨[.bool r.1.f_neg, v0]⟩, errV 104 r.2]⟩ ∧ Ro (Kd.int .u32) H v0 r.1.f_w
theorem wide_Int_Add.out_mono (r : wide_Int × (Option Int)) {H H' : Hp} {v : Value} (hle : H.le H') (h : wide_Int_Add.out r H v) : wide_Int_Add.out r H' v := by
 obtain ⟨v0, rfl, h0⟩ := h; exact ⟨v0, rfl, h0.mono hle⟩
abbrev wide_Int_Add.R (H0 : Hp) (L : Items) (r : wide_Int × (Option Int)) : Value → Hp → Items → Prop := fun v H' L' => (∃ p, L' = p ++ L) ∧ H0.le H' ∧ wide_Int_Add.out r H' v
noncomputable def wide_Int_Add.j1 (k : Nat)  (a_0 : Bool) (a_1 : List Int) (b_0 : Bool) (b_1 : List Int) : Option (wide_Int × (Option Int)) := (wide_minus.f k a_1 b_1).bind fun y26 => (wide_made.f k a_0 y26).bind fun y32 => some (y32.1, y32.2)
noncomputable def wide_Int_Add.f (k : Nat) (a : wide_Int) (b : wide_Int) : Option (wide_Int × (Option Int)) := if (a.f_neg == b.f_neg) = true then ((wide_plus.f k a.f_w b.f_w).bind fun y5 => (wide_made.f k a.f_neg y5).bind fun y11 => some (y11.1, y11.2)) else ((wide_less.f k a.f_w b.f_w).bind fun y21 => if y21 < 0 then (wide_Int_Add.j1 k b.f_neg b.f_w a.f_neg a.f_w) else (wide_Int_Add.j1 k a.f_neg a.f_w b.f_neg b.f_w))
theorem wide_Int_Add.j1_mono {k : Nat} : ∀ y0 y1 y2 y3, LeO (wide_Int_Add.j1 k y0 y1 y2 y3) (wide_Int_Add.j1 (k + 1) y0 y1 y2 y3) := fun _ _ _ _ => (LeO.bind (wide_minus.mono k _ _) fun _ => LeO.bind (wide_made.mono k _ _) fun _ => LeO.refl _)
theorem wide_Int_Add.mono : ∀ k y0 y1, LeO (wide_Int_Add.f k y0 y1) (wide_Int_Add.f (k + 1) y0 y1) := fun k _ _ => by unfold wide_Int_Add.f; exact (LeO.ite (LeO.bind (wide_plus.mono k _ _) fun _ => LeO.bind (wide_made.mono k _ _) fun _ => LeO.refl _) (LeO.bind (wide_less.mono k _ _) fun _ => LeO.ite (wide_Int_Add.j1_mono (k := k)  _ _ _ _) (wide_Int_Add.j1_mono (k := k)  _ _ _ _)))
noncomputable def wide_Int_Add.Kj1 : List Item := .code (seqR (seqR (seqR wide_Int_Add.C))) :: []
theorem wide_Int_Add.j1_ok {k : Nat} {H0 H : Hp} {L : Items} {r : wide_Int × (Option Int)} {jk_ : Nat → Value} {a_0 : Bool} {a_1 : List Int} {b_0 : Bool} {b_1 : List Int} {v_a_1 : Value} {v_b_1 : Value} {b_a : Nat} {b_b : Nat} {b_t4 : Nat} (hle : H0.le H) (he : wide_Int_Add.j1 k a_0 a_1 b_0 b_1 = some r) (h_a_1 : Ro (Kd.int .u32) H v_a_1 a_1) (h_b_1 : Ro (Kd.int .u32) H v_b_1 b_1) : Wp Tryz.prog 127 39 wide_Int_Add.Kj1 (upd (upd (upd (upd jk_ 2 (.pointer (some ⟨b_a, 0, none⟩))) 3 (.pointer (some ⟨b_b, 0, none⟩))) 4 (.pointer (some ⟨b_t4, 0, none⟩))) 5 (errV 104 none)) H (some (b_t4, .cells ⟨[.bool false, .slice none 0 0]⟩ 24 (0, 0)) :: some (b_b, .cells ⟨[.bool b_0, v_b_1]⟩ 24 (0, 0)) :: some (b_a, .cells ⟨[.bool a_0, v_a_1]⟩ 24 (0, 0)) :: L) (wide_Int_Add.R H0 L r) := by
 unfold wide_Int_Add.j1 at he
 unfold wide_Int_Add.Kj1
 refine w_seq ?_
 obtain ⟨y26, hy27, he⟩ := Option.bind_eq_some_iff.1 he
 obtain ⟨y32, hy33, he⟩ := Option.bind_eq_some_iff.1 he
 refine w_drawn (p := 10) (tl := [10, 11]) [[], [(0, some 29)], [], [(2, some 31)], [], [(4, some 33)], [(3, some 32), (5, some 34)], [(1, some 30), (6, some 35)], [(7, some 36)], [(7, some 36)]] [some 29, some 30, some 31, some 32, some 33, some 34, some 35, some 36, some 37, some 38] (fctF (.is (.pointer (some ⟨b_a, 0, none⟩)) :: .is (.bool a_0) :: .is (.pointer (some ⟨b_a, 1, none⟩)) :: .is (v_a_1) :: .is (.pointer (some ⟨b_b, 1, none⟩)) :: .is (v_b_1) :: .ro (Kd.int .u32) (y26) :: .of (wide_made.out y32) (wide_made.out_mono _) :: .of (fun H v => ∃ v38, v = .agg ⟨[.bool y32.1.f_neg, v38]⟩ ∧ Ro (Kd.int .u32) H v38 y32.1.f_w) (by rintro _ _ _ hle ⟨v38, rfl, h39⟩; exact ⟨v38, rfl, h39.mono hle⟩) :: .is (errV 104 y32.2) :: [])) (fun m_ => some (b_t4, .cells ⟨[.bool false, .slice none 0 0]⟩ 24 (0, 0)) :: some (b_b, .cells ⟨[.bool b_0, v_b_1]⟩ 24 (0, 0)) :: some (b_a, .cells ⟨[.bool a_0, v_a_1]⟩ 24 (0, 0)) :: L) (fun _ => none) mixed (by kernel_rfl) (by kernel_rfl) rfl (fct_mono (by kernel_rfl)) ⟨(fun H' m_ hH hm_ hu_ => depK_nil <| s_d (m_ 0) rfl (d_fld (o' := 0) Tryz.underlying24 rfl sz4 rfl rfl rfl) (by exact rfl) rfl), (by rintro H' m_ hH hm_ hu_ _ rfl; exact depK_nil <| s_d (m_ 1) rfl (d_loado (v := .bool a_0) ty4 rfl (.there (.there .here)) rfl rfl rfl rfl) (by exact rfl) rfl), (fun H' m_ hH hm_ hu_ => depK_nil <| s_d (m_ 2) rfl (d_fld (o' := 1) Tryz.underlying24 rfl sz22 rfl rfl rfl) (by exact rfl) rfl), (by rintro H' m_ hH hm_ hu_ _ rfl; exact depK_nil <| s_d (m_ 3) rfl (d_loado (v := v_a_1) ty22 rfl (.there (.there .here)) rfl rfl rfl rfl) (by exact rfl) rfl), (fun H' m_ hH hm_ hu_ => depK_nil <| s_d (m_ 4) rfl (d_fld (o' := 1) Tryz.underlying24 rfl sz22 rfl rfl rfl) (by exact rfl) rfl), (by rintro H' m_ hH hm_ hu_ _ rfl; exact depK_nil <| s_d (m_ 5) rfl (d_loado (v := v_b_1) ty22 rfl (.there .here) rfl rfl rfl rfl) (by exact rfl) rfl), (by rintro H' m_ hH hm_ hu_ _ rfl _ rfl; exact depK_nil <| s_k (m_ 6) rfl (o_call co143 (vs := [v_a_1, v_b_1]) rfl (wide_minus.calls k hy27 ((h_a_1.mono hH).src) ((h_b_1.mono hH).src))) rfl (by rintro v_ H_ _ ⟨rfl, e_, h_⟩; exact ⟨rfl, e_, h_⟩)), (by rintro H' m_ hH hm_ hu_ _ rfl v30 (h31 : Ro (Kd.int .u32) H' v30 y26); exact depK_nil <| s_k (m_ 7) rfl (o_call co115 (vs := [.bool a_0, v30]) rfl (wide_made.calls k hy33 h31)) rfl (by rintro v_ H_ _ ⟨rfl, e_, h_⟩; exact ⟨rfl, e_, h_⟩)), (by rintro H' m_ hH hm_ hu_ _ ⟨v36, rfl, h37⟩; exact depK_nil <| s_d (m_ 8) rfl (d_ext (vs := [.agg ⟨[.bool y32.1.f_neg, v36]⟩, errV 104 y32.2]) rfl rfl) (by exact ⟨v36, rfl, h37⟩) rfl), (by rintro H' m_ hH hm_ hu_ _ ⟨v36, rfl, h37⟩; exact depK_nil <| s_d (m_ 9) rfl (d_ext (vs := [.agg ⟨[.bool y32.1.f_neg, v36]⟩, errV 104 y32.2]) rfl rfl) (by exact rfl) rfl), trivial⟩ ?_
 intro H40 e41
 rintro _ _ rfl _ _ rfl _ _ rfl _ _ rfl _ _ rfl _ _ rfl v30 _ (h31 : Ro (Kd.int .u32) H40 v30 y26) _ _ ⟨v36, rfl, h37⟩ _ _ ⟨v38, rfl, h39⟩ _ _ rfl
 refine w_a0 rfl (o_store (v := .agg ⟨[.bool y32.1.f_neg, v38]⟩) sz24 rfl rfl rfl rfl (one_cons rfl (one_cons (h39.one) one_nil)) .here (.here (.here .done))) ?_
 rintro _ _ _ ⟨rfl, rfl, rfl⟩
 refine w_d rfl (d_assign (v := errV 104 y32.2) rfl) <| w_done ?_
 obtain rfl := Option.some.inj he
 refine w_return fn_127 rs_127 (.box (v := .agg ⟨[.bool y32.1.f_neg, v38]⟩) rfl ty24 rfl rfl .here rfl (.tmp (v := errV 104 y32.2) rfl .nil)) <| ⟨⟨[_, _, _], rfl⟩, hle.trans e41, ⟨v38, rfl, h39⟩⟩
theorem wide_Int_Add.calls (k : Nat) {H : Hp} {L : Items} {a : wide_Int} {b : wide_Int} {v0_a : Value} {v1_b : Value} {r : wide_Int × (Option Int)} (he : wide_Int_Add.f k a b = some r) (h0_a : Ro (Kd.int .u32) H v0_a a.f_w) (h1_b : Ro (Kd.int .u32) H v1_b b.f_w) : Ct Tryz.prog 127 ⟨[.agg ⟨[.bool a.f_neg, v0_a]⟩, .agg ⟨[.bool b.f_neg, v1_b]⟩]⟩ H L (fun v H' L' => L = L' ∧ H.le H' ∧ wide_Int_Add.out r H' v) := by
 refine ct_out (O := wide_Int_Add.out r) ?_
 have hle : H.le H := .refl _
 unfold wide_Int_Add.f at he
 refine ct_enter (args := [.agg ⟨[.bool a.f_neg, v0_a]⟩, .agg ⟨[.bool b.f_neg, v1_b]⟩]) fn_127 rfl nt_127 rfl <| w_seq <| w_region rfl <| w_a rfl (o_box (v := .agg ⟨[.bool a.f_neg, v0_a]⟩) rfl rfl) ?_
 rintro _ _ _ ⟨b1, rfl, rfl, rfl⟩
 refine w_a rfl (o_box (v := .agg ⟨[.bool b.f_neg, v1_b]⟩) rfl rfl) ?_
 rintro _ _ _ ⟨b2, rfl, rfl, rfl⟩
 refine w_a rfl (o_alloc zr24 rfl) ?_
 rintro _ _ _ ⟨b3, rfl, rfl, rfl⟩
 refine w_d rfl (d_assign (v := errV 104 none) rfl) <| w_done <| w_seq <| w_seq <| w_region rfl <| w_d rfl (d_fld (o' := 0) Tryz.underlying24 rfl sz4 rfl rfl rfl) <| w_d rfl (d_loado (v := .bool a.f_neg) ty4 rfl (.there (.there .here)) rfl rfl rfl rfl) <| w_d rfl (d_fld (o' := 0) Tryz.underlying24 rfl sz4 rfl rfl rfl) <| w_d rfl (d_loado (v := .bool b.f_neg) ty4 rfl (.there .here) rfl rfl rfl rfl) <| w_d rfl (d_eqb (a := a.f_neg) (b := b.f_neg) Tryz.underlying4 rfl rfl) <| w_done ?_
 rcases its he with ⟨c4, he⟩ | ⟨c4, he⟩
 ·
  refine w_then rfl c4 <| w_seq ?_
  obtain ⟨y5, hy6, he⟩ := Option.bind_eq_some_iff.1 he
  obtain ⟨y11, hy12, he⟩ := Option.bind_eq_some_iff.1 he
  refine w_drawn (p := 10) (tl := [10, 11]) [[], [(0, some 11)], [], [(2, some 13)], [], [(4, some 15)], [(3, some 14), (5, some 16)], [(1, some 12), (6, some 17)], [(7, some 18)], [(7, some 18)]] [some 11, some 12, some 13, some 14, some 15, some 16, some 17, some 18, some 19, some 20] (fctF (.is (.pointer (some ⟨b1, 0, none⟩)) :: .is (.bool a.f_neg) :: .is (.pointer (some ⟨b1, 1, none⟩)) :: .is (v0_a) :: .is (.pointer (some ⟨b2, 1, none⟩)) :: .is (v1_b) :: .ro (Kd.int .u32) (y5) :: .of (wide_made.out y11) (wide_made.out_mono _) :: .of (fun H v => ∃ v17, v = .agg ⟨[.bool y11.1.f_neg, v17]⟩ ∧ Ro (Kd.int .u32) H v17 y11.1.f_w) (by rintro _ _ _ hle ⟨v17, rfl, h18⟩; exact ⟨v17, rfl, h18.mono hle⟩) :: .is (errV 104 y11.2) :: [])) (fun m_ => some (b3, .cells ⟨[.bool false, .slice none 0 0]⟩ 24 (0, 0)) :: some (b2, .cells ⟨[.bool b.f_neg, v1_b]⟩ 24 (0, 0)) :: some (b1, .cells ⟨[.bool a.f_neg, v0_a]⟩ 24 (0, 0)) :: L) (fun _ => none) mixed (by kernel_rfl) (by kernel_rfl) rfl (fct_mono (by kernel_rfl)) ⟨(fun H' m_ hH hm_ hu_ => depK_nil <| s_d (m_ 0) rfl (d_fld (o' := 0) Tryz.underlying24 rfl sz4 rfl rfl rfl) (by exact rfl) rfl), (by rintro H' m_ hH hm_ hu_ _ rfl; exact depK_nil <| s_d (m_ 1) rfl (d_loado (v := .bool a.f_neg) ty4 rfl (.there (.there .here)) rfl rfl rfl rfl) (by exact rfl) rfl), (fun H' m_ hH hm_ hu_ => depK_nil <| s_d (m_ 2) rfl (d_fld (o' := 1) Tryz.underlying24 rfl sz22 rfl rfl rfl) (by exact rfl) rfl), (by rintro H' m_ hH hm_ hu_ _ rfl; exact depK_nil <| s_d (m_ 3) rfl (d_loado (v := v0_a) ty22 rfl (.there (.there .here)) rfl rfl rfl rfl) (by exact rfl) rfl), (fun H' m_ hH hm_ hu_ => depK_nil <| s_d (m_ 4) rfl (d_fld (o' := 1) Tryz.underlying24 rfl sz22 rfl rfl rfl) (by exact rfl) rfl), (by rintro H' m_ hH hm_ hu_ _ rfl; exact depK_nil <| s_d (m_ 5) rfl (d_loado (v := v1_b) ty22 rfl (.there .here) rfl rfl rfl rfl) (by exact rfl) rfl), (by rintro H' m_ hH hm_ hu_ _ rfl _ rfl; exact depK_nil <| s_k (m_ 6) rfl (o_call co144 (vs := [v0_a, v1_b]) rfl (wide_plus.calls k hy6 ((h0_a.mono hH).src) ((h1_b.mono hH).src))) rfl (by rintro v_ H_ _ ⟨rfl, e_, h_⟩; exact ⟨rfl, e_, h_⟩)), (by rintro H' m_ hH hm_ hu_ _ rfl v9 (h10 : Ro (Kd.int .u32) H' v9 y5); exact depK_nil <| s_k (m_ 7) rfl (o_call co115 (vs := [.bool a.f_neg, v9]) rfl (wide_made.calls k hy12 h10)) rfl (by rintro v_ H_ _ ⟨rfl, e_, h_⟩; exact ⟨rfl, e_, h_⟩)), (by rintro H' m_ hH hm_ hu_ _ ⟨v15, rfl, h16⟩; exact depK_nil <| s_d (m_ 8) rfl (d_ext (vs := [.agg ⟨[.bool y11.1.f_neg, v15]⟩, errV 104 y11.2]) rfl rfl) (by exact ⟨v15, rfl, h16⟩) rfl), (by rintro H' m_ hH hm_ hu_ _ ⟨v15, rfl, h16⟩; exact depK_nil <| s_d (m_ 9) rfl (d_ext (vs := [.agg ⟨[.bool y11.1.f_neg, v15]⟩, errV 104 y11.2]) rfl rfl) (by exact rfl) rfl), trivial⟩ ?_
  intro H19 e20
  rintro _ _ rfl _ _ rfl _ _ rfl _ _ rfl _ _ rfl _ _ rfl v9 _ (h10 : Ro (Kd.int .u32) H19 v9 y5) _ _ ⟨v15, rfl, h16⟩ _ _ ⟨v17, rfl, h18⟩ _ _ rfl
  refine w_a0 rfl (o_store (v := .agg ⟨[.bool y11.1.f_neg, v17]⟩) sz24 rfl rfl rfl rfl (one_cons rfl (one_cons (h18.one) one_nil)) .here (.here (.here .done))) ?_
  rintro _ _ _ ⟨rfl, rfl, rfl⟩
  refine w_d rfl (d_assign (v := errV 104 y11.2) rfl) <| w_done ?_
  obtain rfl := Option.some.inj he
  refine w_return fn_127 rs_127 (.box (v := .agg ⟨[.bool y11.1.f_neg, v17]⟩) rfl ty24 rfl rfl .here rfl (.tmp (v := errV 104 y11.2) rfl .nil)) <| ⟨⟨[_, _, _], rfl⟩, hle.trans e20, ⟨v17, rfl, h18⟩⟩
 ·
  refine w_else rfl (Bool.eq_false_iff.2 c4) <| w_skip <| w_seq <| w_seq <| w_region rfl <| w_d rfl (d_fld (o' := 1) Tryz.underlying24 rfl sz22 rfl rfl rfl) <| w_d rfl (d_loado (v := v0_a) ty22 rfl (.there (.there .here)) rfl rfl rfl rfl) <| w_d rfl (d_fld (o' := 1) Tryz.underlying24 rfl sz22 rfl rfl rfl) <| w_d rfl (d_loado (v := v1_b) ty22 rfl (.there .here) rfl rfl rfl rfl) ?_
  obtain ⟨y21, hy22, he⟩ := Option.bind_eq_some_iff.1 he
  refine w_d rfl (call_d (o_call co137 (vs := [v0_a, v1_b]) rfl (wide_less.calls k hy22 h0_a.src h1_b.src))) <| w_d rfl (d_lss rfl rfl) <| w_done ?_
  rcases its he with ⟨c25, he⟩ | ⟨c25, he⟩
  ·
   refine w_then rfl (decide_eq_true c25) <| w_region rfl <| w_d rfl (d_loado (v := .agg ⟨[.bool b.f_neg, v1_b]⟩) ty24 rfl (.there .here) rfl rfl rfl rfl) <| w_d rfl (d_loado (v := .agg ⟨[.bool a.f_neg, v0_a]⟩) ty24 rfl (.there (.there .here)) rfl rfl rfl rfl) <| w_a0 rfl (o_store (v := .agg ⟨[.bool b.f_neg, v1_b]⟩) sz24 rfl rfl rfl rfl (one_cons rfl (one_cons (h1_b.one) one_nil)) (.there (.there .here)) (.here (.here .done))) ?_
   rintro _ _ _ ⟨rfl, rfl, rfl⟩
   refine w_a0 rfl (o_store (v := .agg ⟨[.bool a.f_neg, v0_a]⟩) sz24 rfl rfl rfl rfl (one_cons rfl (one_cons (h0_a.one) one_nil)) (.there .here) (.here (.here .done))) ?_
   rintro _ _ _ ⟨rfl, rfl, rfl⟩
   refine w_done <| w_sl 2 (.pointer (some ⟨b1, 0, none⟩)) rfl <| w_sl 3 (.pointer (some ⟨b2, 0, none⟩)) rfl <| w_sl 4 (.pointer (some ⟨b3, 0, none⟩)) rfl <| w_sl 5 (errV 104 none) rfl <| wide_Int_Add.j1_ok (k := k) hle he h1_b h0_a
  ·
   refine w_else rfl (decide_eq_false c25) <| w_skip <| w_sl 2 (.pointer (some ⟨b1, 0, none⟩)) rfl <| w_sl 3 (.pointer (some ⟨b2, 0, none⟩)) rfl <| w_sl 4 (.pointer (some ⟨b3, 0, none⟩)) rfl <| w_sl 5 (errV 104 none) rfl <| wide_Int_Add.j1_ok (k := k) hle he h0_a h1_b
/-! ### (radome/wide.Int).Sub -/
noncomputable def wide_Int_Sub.C : Code := (Tryz.f120.body).getD .skip
def wide_Int_Sub.out (r : wide_Int × (Option Int)) (H : Hp) (v : Value) : Prop := ∃ v0, v = .tuple ⟨[.agg ⟨[.bool r.1.f_neg, v0]⟩, errV 104 r.2]⟩ ∧ Ro (Kd.int .u32) H v0 r.1.f_w
theorem wide_Int_Sub.out_mono (r : wide_Int × (Option Int)) {H H' : Hp} {v : Value} (hle : H.le H') (h : wide_Int_Sub.out r H v) : wide_Int_Sub.out r H' v := by
 obtain ⟨v0, rfl, h0⟩ := h; exact ⟨v0, rfl, h0.mono hle⟩
abbrev wide_Int_Sub.R (H0 : Hp) (L : Items) (r : wide_Int × (Option Int)) : Value → Hp → Items → Prop := fun v H' L' => (∃ p, L' = p ++ L) ∧ H0.le H' ∧ wide_Int_Sub.out r H' v
noncomputable def wide_Int_Sub.f (k : Nat) (a : wide_Int) (b : wide_Int) : Option (wide_Int × (Option Int)) := (wide_Int_Neg.f k b).bind fun y4 => (wide_Int_Add.f k a y4).bind fun y10 => some (y10.1, y10.2)
theorem wide_Int_Sub.mono : ∀ k y0 y1, LeO (wide_Int_Sub.f k y0 y1) (wide_Int_Sub.f (k + 1) y0 y1) := fun k _ _ => by unfold wide_Int_Sub.f; exact (LeO.bind (wide_Int_Neg.mono k _) fun _ => LeO.bind (wide_Int_Add.mono k _ _) fun _ => LeO.refl _)
theorem wide_Int_Sub.calls (k : Nat) {H : Hp} {L : Items} {a : wide_Int} {b : wide_Int} {v0_a : Value} {v1_b : Value} {r : wide_Int × (Option Int)} (he : wide_Int_Sub.f k a b = some r) (h0_a : Ro (Kd.int .u32) H v0_a a.f_w) (h1_b : Ro (Kd.int .u32) H v1_b b.f_w) : Ct Tryz.prog 120 ⟨[.agg ⟨[.bool a.f_neg, v0_a]⟩, .agg ⟨[.bool b.f_neg, v1_b]⟩]⟩ H L (fun v H' L' => L = L' ∧ H.le H' ∧ wide_Int_Sub.out r H' v) := by
 refine ct_out (O := wide_Int_Sub.out r) ?_
 have hle : H.le H := .refl _
 unfold wide_Int_Sub.f at he
 refine ct_enter (args := [.agg ⟨[.bool a.f_neg, v0_a]⟩, .agg ⟨[.bool b.f_neg, v1_b]⟩]) fn_120 rfl nt_120 rfl <| w_seq <| w_region rfl <| w_a rfl (o_box (v := .agg ⟨[.bool a.f_neg, v0_a]⟩) rfl rfl) ?_
 rintro _ _ _ ⟨b1, rfl, rfl, rfl⟩
 refine w_a rfl (o_box (v := .agg ⟨[.bool b.f_neg, v1_b]⟩) rfl rfl) ?_
 rintro _ _ _ ⟨b2, rfl, rfl, rfl⟩
 refine w_a rfl (o_alloc zr24 rfl) ?_
 rintro _ _ _ ⟨b3, rfl, rfl, rfl⟩
 refine w_d rfl (d_assign (v := errV 104 none) rfl) <| w_done <| w_seq ?_
 obtain ⟨y4, hy5, he⟩ := Option.bind_eq_some_iff.1 he
 obtain ⟨y10, hy11, he⟩ := Option.bind_eq_some_iff.1 he
 refine w_drawn (p := 6) (tl := [6, 7]) [[], [], [(1, some 7)], [(0, some 6), (2, some 8)], [(3, some 9)], [(3, some 9)]] [some 6, some 7, some 8, some 9, some 10, some 11] (fctF (.is (.agg ⟨[.bool a.f_neg, v0_a]⟩) :: .is (.agg ⟨[.bool b.f_neg, v1_b]⟩) :: .of (wide_Int_Neg.out y4) (wide_Int_Neg.out_mono _) :: .of (wide_Int_Add.out y10) (wide_Int_Add.out_mono _) :: .of (fun H v => ∃ v16, v = .agg ⟨[.bool y10.1.f_neg, v16]⟩ ∧ Ro (Kd.int .u32) H v16 y10.1.f_w) (by rintro _ _ _ hle ⟨v16, rfl, h17⟩; exact ⟨v16, rfl, h17.mono hle⟩) :: .is (errV 104 y10.2) :: [])) (fun m_ => some (b3, .cells ⟨[.bool false, .slice none 0 0]⟩ 24 (0, 0)) :: some (b2, .cells ⟨[.bool b.f_neg, v1_b]⟩ 24 (0, 0)) :: some (b1, .cells ⟨[.bool a.f_neg, v0_a]⟩ 24 (0, 0)) :: L) (fun _ => none) mixed (by kernel_rfl) (by kernel_rfl) rfl (fct_mono (by kernel_rfl)) ⟨(fun H' m_ hH hm_ hu_ => depK_nil <| s_d (m_ 0) rfl (d_loado (v := .agg ⟨[.bool a.f_neg, v0_a]⟩) ty24 rfl (.there (.there .here)) rfl rfl rfl rfl) (by exact rfl) rfl), (fun H' m_ hH hm_ hu_ => depK_nil <| s_d (m_ 1) rfl (d_loado (v := .agg ⟨[.bool b.f_neg, v1_b]⟩) ty24 rfl (.there .here) rfl rfl rfl rfl) (by exact rfl) rfl), (by rintro H' m_ hH hm_ hu_ _ rfl; exact depK_nil <| s_k (m_ 2) rfl (o_call co121 (vs := [.agg ⟨[.bool b.f_neg, v1_b]⟩]) rfl (wide_Int_Neg.calls k (a := b) hy5 (h1_b.mono hH))) rfl (by rintro v_ H_ _ ⟨rfl, e_, h_⟩; exact ⟨rfl, e_, h_⟩)), (by rintro H' m_ hH hm_ hu_ _ rfl _ ⟨v8, rfl, h9⟩; exact depK_nil <| s_k (m_ 3) rfl (o_call co127 (vs := [.agg ⟨[.bool a.f_neg, v0_a]⟩, .agg ⟨[.bool y4.f_neg, v8]⟩]) rfl (wide_Int_Add.calls k (a := a) (b := y4) hy11 (h0_a.mono hH) h9)) rfl (by rintro v_ H_ _ ⟨rfl, e_, h_⟩; exact ⟨rfl, e_, h_⟩)), (by rintro H' m_ hH hm_ hu_ _ ⟨v14, rfl, h15⟩; exact depK_nil <| s_d (m_ 4) rfl (d_ext (vs := [.agg ⟨[.bool y10.1.f_neg, v14]⟩, errV 104 y10.2]) rfl rfl) (by exact ⟨v14, rfl, h15⟩) rfl), (by rintro H' m_ hH hm_ hu_ _ ⟨v14, rfl, h15⟩; exact depK_nil <| s_d (m_ 5) rfl (d_ext (vs := [.agg ⟨[.bool y10.1.f_neg, v14]⟩, errV 104 y10.2]) rfl rfl) (by exact rfl) rfl), trivial⟩ ?_
 intro H18 e19
 rintro _ _ rfl _ _ rfl _ _ ⟨v8, rfl, h9⟩ _ _ ⟨v14, rfl, h15⟩ _ _ ⟨v16, rfl, h17⟩ _ _ rfl
 refine w_a0 rfl (o_store (v := .agg ⟨[.bool y10.1.f_neg, v16]⟩) sz24 rfl rfl rfl rfl (one_cons rfl (one_cons (h17.one) one_nil)) .here (.here (.here .done))) ?_
 rintro _ _ _ ⟨rfl, rfl, rfl⟩
 refine w_d rfl (d_assign (v := errV 104 y10.2) rfl) <| w_done ?_
 obtain rfl := Option.some.inj he
 refine w_return fn_120 rs_120 (.box (v := .agg ⟨[.bool y10.1.f_neg, v16]⟩) rfl ty24 rfl rfl .here rfl (.tmp (v := errV 104 y10.2) rfl .nil)) <| ⟨⟨[_, _, _], rfl⟩, hle.trans e19, ⟨v16, rfl, h17⟩⟩
end Go.Proofs.YtkccpkccdbfomaaGreatDoor.GSL

/- A text of this session, written by a program (wip/k/gen.py): Go functions as Lean functions, and proofs that the code comes to them. -/
import Derived.Test.YtoijknggnlbopaaDoorGZHt
namespace Go.Proofs.YtoijknggnlbopaaDoor.GZH
open Go Go.RowKit Go.Proofs.YtoijknggnlbopaaDoorK Go.Proofs.YtoijknggnlbopaaDoor
set_option maxRecDepth 100000
set_option maxHeartbeats 2000000
set_option linter.unusedVariables false
set_option linter.unusedSimpArgs false
/-! ### radome/zone.Check -/
noncomputable def zone_Check.C : Code := (Tryd.f17.body).getD .skip
def zone_Check.out (r : (Option Int)) (H : Hp) (v : Value) : Prop := v = errV 99 r
abbrev zone_Check.R (H0 : Hp) (L : Items) (r : (Option Int)) : Value → Hp → Items → Prop := fun v H' L' => (∃ p, L' = p ++ L) ∧ H0.le H' ∧ zone_Check.out r H' v
structure zone_Check.Hs where
 l0 : (Option Int) → (List zone_Spot) → Int → Int → Option (Option Int)
noncomputable def zone_Check.b0 (k : Nat) (h : zone_Check.Hs)  (t2 : Option Int) (t29 : List zone_Spot) (t30 : Int) (t31 : Int) : Option (Option Int) := if t31 < t30 then (if (0 : Int) ≤ t31 ∧ t31 < (t29.length : Int) then (if ((((decide (((rd t29 t31).f_X) < (-8388608))) || (decide (8388608 ≤ ((rd t29 t31).f_X)))) || (decide (((rd t29 t31).f_Y) < (-8388608)))) || (decide (8388608 ≤ ((rd t29 t31).f_Y)))) = true then (some (some 1)) else (h.l0 t2 t29 t30 (w64 (t31 + 1)))) else none) else (some (none))
noncomputable def zone_Check.hs : Nat → zone_Check.Hs
 | 0 => ⟨fun _ _ _ _ => none⟩
 | k + 1 => ⟨fun x0 x1 x2 x3 => zone_Check.b0 k (zone_Check.hs k) x0 x1 x2 x3⟩
noncomputable def zone_Check.f (k : Nat) (z : zone_Zone) : Option (Option Int) := (fun h : zone_Check.Hs => if ((((decide ((z.f_Name.size : Int) < 1)) || (decide (32 < (z.f_Name.size : Int)))) || (decide ((z.f_Corners.length : Int) < 3))) || (decide (32 < (z.f_Corners.length : Int)))) = true then (some (some 1)) else (h.l0 none z.f_Corners (z.f_Corners.length : Int) 0)) (zone_Check.hs k)
structure zone_Check.LE (h h' : zone_Check.Hs) : Prop where
 l0 : ∀ y0 y1 y2 y3, LeO (h.l0 y0 y1 y2 y3) (h'.l0 y0 y1 y2 y3)
theorem zone_Check.b0_mono {k : Nat} {h h' : zone_Check.Hs} (hl : zone_Check.LE h h') : ∀ y0 y1 y2 y3, LeO (zone_Check.b0 k h y0 y1 y2 y3) (zone_Check.b0 (k + 1) h' y0 y1 y2 y3) := fun _ _ _ _ => (LeO.ite (LeO.ite (LeO.ite (LeO.refl _) (hl.l0 _ _ _ _)) (LeO.refl _)) (LeO.refl _))
theorem zone_Check.hs_mono : ∀ k, zone_Check.LE (zone_Check.hs k) (zone_Check.hs (k + 1))
 | 0 => ⟨fun _ _ _ _ => LeO.none _⟩
 | k + 1 => ⟨zone_Check.b0_mono (k := k) (zone_Check.hs_mono k)⟩
theorem zone_Check.mono : ∀ k y0, LeO (zone_Check.f k y0) (zone_Check.f (k + 1) y0) := fun k _ => have hl := zone_Check.hs_mono k; by unfold zone_Check.f; exact (LeO.ite (LeO.refl _) (hl.l0 _ _ _ _))
noncomputable def zone_Check.Kl0 : List Item := .code (lopB (blkB (seqR (seqL (seqR (seqR zone_Check.C)))))) :: .inLoop (lopB (blkB (seqR (seqL (seqR (seqR zone_Check.C)))))) :: .inBlock 0 :: .code (seqR (seqR (seqR zone_Check.C))) :: []
structure zone_Check.OK (h : zone_Check.Hs) : Prop where
 l0 : ∀ {H0 H : Hp} {L : Items} {r : (Option Int)} {jk_ : Nat → Value} {t2 : Option Int} {t29 : List zone_Spot} {t30 : Int} {t31 : Int} {v_t29 : Value} (_ : H0.le H) (_he : h.l0 t2 t29 t30 t31 = some r) (_h_t29 : Ro k_zone_Spot H v_t29 t29), Wp Tryd.prog 17 55 zone_Check.Kl0 (upd (upd (upd (upd jk_ 2 (errV 99 t2)) 29 (v_t29)) 30 (.int .i64 t30)) 31 (.int .i64 t31)) H (L) (zone_Check.R H0 L r)
theorem zone_Check.b0_ok {k : Nat} {h : zone_Check.Hs} (hh : zone_Check.OK h) {H0 H : Hp} {L : Items} {r : (Option Int)} {jk_ : Nat → Value} {t2 : Option Int} {t29 : List zone_Spot} {t30 : Int} {t31 : Int} {v_t29 : Value} (hle : H0.le H) (he : zone_Check.b0 k h t2 t29 t30 t31 = some r) (h_t29 : Ro k_zone_Spot H v_t29 t29) : Wp Tryd.prog 17 55 zone_Check.Kl0 (upd (upd (upd (upd jk_ 2 (errV 99 t2)) 29 (v_t29)) 30 (.int .i64 t30)) 31 (.int .i64 t31)) H (L) (zone_Check.R H0 L r) := by
 unfold zone_Check.b0 at he
 unfold zone_Check.Kl0
 refine w_seq <| w_region rfl <| w_d rfl (d_lss rfl rfl) <| w_done <| w_seq ?_
 rcases its he with ⟨c15, he⟩ | ⟨c15, he⟩
 ·
  refine w_then rfl (decide_eq_true c15) <| w_skip <| w_seq <| w_block <| w_seq <| w_region rfl ?_
  obtain ⟨c16, he⟩ := rq he
  refine w_d rfl (d_index (sz := 2) Tryd.underlying30 sz39 rfl h_t29.src rfl c16) ?_
  obtain ⟨_, l17, r18⟩ := el_ro (kd := k_zone_Spot) h_t29 c16
  obtain ⟨rfl⟩ := k_zone_Spot_out r18
  refine w_d rfl (d_load (v := .agg ⟨[.int .i32 ((rd t29 t31).f_X), .int .i32 ((rd t29 t31).f_Y)]⟩) (cs := [.int .i32 ((rd t29 t31).f_X), .int .i32 ((rd t29 t31).f_Y)]) ty39 rfl rfl (by decide) (l17).lies rfl) <| w_a rfl (o_alloc zr39 rfl) ?_
  rintro _ _ _ ⟨b19, rfl, rfl, rfl⟩
  refine w_a0 rfl (o_store (v := .agg ⟨[.int .i32 ((rd t29 t31).f_X), .int .i32 ((rd t29 t31).f_Y)]⟩) sz39 rfl rfl rfl rfl (one_cons rfl (one_cons rfl one_nil)) .here (.here (.here .done))) ?_
  rintro _ _ _ ⟨rfl, rfl, rfl⟩
  refine w_done <| w_seq <| w_region rfl <| w_d rfl (d_fld (o' := 0) Tryd.underlying39 rfl sz21 rfl rfl rfl) <| w_d rfl (d_loado (v := .int .i32 ((rd t29 t31).f_X)) ty21 rfl .here rfl rfl rfl rfl) <| w_d rfl (d_lss rfl rfl) <| w_d rfl (d_move (v := .bool (decide (((rd t29 t31).f_X) < (-8388608)))) rfl) <| w_g (g := !(decide (((rd t29 t31).f_X) < (-8388608)))) rfl rfl rfl wn_f (fun g20 => d_fld (o' := 0) Tryd.underlying39 rfl sz21 rfl rfl rfl) <| w_g (g := !(decide (((rd t29 t31).f_X) < (-8388608)))) rfl rfl rfl wn_f (fun g21 => d_loado (v := .int .i32 ((rd t29 t31).f_X)) ty21 (cvt g21) .here rfl rfl rfl rfl) <| w_g (g := !(decide (((rd t29 t31).f_X) < (-8388608)))) rfl rfl rfl wn_f (fun g22 => d_geq (cvt g22) rfl) <| w_d rfl (d_or' (b := (decide (((rd t29 t31).f_X) < (-8388608)))) (p := (decide (8388608 ≤ ((rd t29 t31).f_X)))) rfl rfl rfl) <| w_d rfl (d_move (v := .bool ((decide (((rd t29 t31).f_X) < (-8388608))) || (decide (8388608 ≤ ((rd t29 t31).f_X))))) rfl) ?_
  refine w_g (g := !((decide (((rd t29 t31).f_X) < (-8388608))) || (decide (8388608 ≤ ((rd t29 t31).f_X))))) rfl rfl rfl wn_f (fun g23 => d_fld (o' := 1) Tryd.underlying39 rfl sz21 rfl rfl rfl) <| w_g (g := !((decide (((rd t29 t31).f_X) < (-8388608))) || (decide (8388608 ≤ ((rd t29 t31).f_X))))) rfl rfl rfl wn_f (fun g24 => d_loado (v := .int .i32 ((rd t29 t31).f_Y)) ty21 (cvt g24) .here rfl rfl rfl rfl) <| w_g (g := !((decide (((rd t29 t31).f_X) < (-8388608))) || (decide (8388608 ≤ ((rd t29 t31).f_X))))) rfl rfl rfl wn_f (fun g25 => d_lss (cvt g25) rfl) <| w_d rfl (d_or' (b := ((decide (((rd t29 t31).f_X) < (-8388608))) || (decide (8388608 ≤ ((rd t29 t31).f_X))))) (p := (decide (((rd t29 t31).f_Y) < (-8388608)))) rfl rfl rfl) <| w_d rfl (d_move (v := .bool (((decide (((rd t29 t31).f_X) < (-8388608))) || (decide (8388608 ≤ ((rd t29 t31).f_X)))) || (decide (((rd t29 t31).f_Y) < (-8388608))))) rfl) <| w_g (g := !(((decide (((rd t29 t31).f_X) < (-8388608))) || (decide (8388608 ≤ ((rd t29 t31).f_X)))) || (decide (((rd t29 t31).f_Y) < (-8388608))))) rfl rfl rfl wn_f (fun g26 => d_fld (o' := 1) Tryd.underlying39 rfl sz21 rfl rfl rfl) <| w_g (g := !(((decide (((rd t29 t31).f_X) < (-8388608))) || (decide (8388608 ≤ ((rd t29 t31).f_X)))) || (decide (((rd t29 t31).f_Y) < (-8388608))))) rfl rfl rfl wn_f (fun g27 => d_loado (v := .int .i32 ((rd t29 t31).f_Y)) ty21 (cvt g27) .here rfl rfl rfl rfl) <| w_g (g := !(((decide (((rd t29 t31).f_X) < (-8388608))) || (decide (8388608 ≤ ((rd t29 t31).f_X)))) || (decide (((rd t29 t31).f_Y) < (-8388608))))) rfl rfl rfl wn_f (fun g28 => d_geq (cvt g28) rfl) <| w_d rfl (d_or' (b := (((decide (((rd t29 t31).f_X) < (-8388608))) || (decide (8388608 ≤ ((rd t29 t31).f_X)))) || (decide (((rd t29 t31).f_Y) < (-8388608))))) (p := (decide (8388608 ≤ ((rd t29 t31).f_Y)))) rfl rfl rfl) <| w_done ?_
  rcases its he with ⟨c29, he⟩ | ⟨c29, he⟩
  ·
   refine w_then rfl c29 <| w_seq <| w_region rfl <| w_d rfl (d_iface (v := .int .i64 1) Tryd.underlying99 rfl rfl) <| w_d rfl (d_assign (v := errV 99 (some 1)) rfl) <| w_done ?_
   obtain rfl := Option.some.inj he
   refine w_return fn_17 rs_17 (.tmp (v := errV 99 (some 1)) rfl .nil) <| ⟨⟨[_], rfl⟩, hle, rfl⟩
  ·
   refine w_else rfl (Bool.eq_false_iff.2 c29) <| w_skip <| w_inBlock <| w_region rfl <| w_d rfl (d_add (c := w64 (t31 + 1)) rfl rfl rfl) <| w_d rfl (d_move (v := .int .i64 (w64 (t31 + 1))) rfl) <| w_done <| w_inLoop <| w_del .here <| w_sl 2 (errV 99 t2) rfl <| w_sl 29 (v_t29) rfl <| w_sl 30 (.int .i64 t30) rfl ?_
   refine w_sl 31 (.int .i64 (w64 (t31 + 1))) rfl <| hh.l0 hle he h_t29
 ·
  refine w_else rfl (decide_eq_false c15) <| w_exit rfl <| w_seq <| w_region rfl <| w_d rfl (d_assign (v := errV 99 none) rfl) <| w_done ?_
  obtain rfl := Option.some.inj he
  refine w_return fn_17 rs_17 (.tmp (v := errV 99 none) rfl .nil) <| ⟨⟨[], rfl⟩, hle, rfl⟩
theorem zone_Check.ok : ∀ k, zone_Check.OK (zone_Check.hs k)
 | 0 => ⟨(by intros; exact nomatch (show none = some _ from by assumption))⟩
 | k + 1 => ⟨zone_Check.b0_ok (k := k) (zone_Check.ok k)⟩
theorem zone_Check.calls (k : Nat) {H : Hp} {L : Items} {z : zone_Zone} {v0_z : Value} {r : (Option Int)} (he : zone_Check.f k z = some r) (h0_z : Ro k_zone_Spot H v0_z z.f_Corners) : Ct Tryd.prog 17 ⟨[.agg ⟨[.string z.f_Name, v0_z]⟩]⟩ H L (fun v H' L' => L = L' ∧ H = H' ∧ v = errV 99 r) := by
 refine ct_outs (O := zone_Check.out r) (fun _ _ h => h) ?_
 have hle : H.le H := .refl _
 have hh := zone_Check.ok k
 unfold zone_Check.f at he
 refine ct_enter (args := [.agg ⟨[.string z.f_Name, v0_z]⟩]) fn_17 rfl nt_17 rfl <| w_seq <| w_region rfl <| w_a rfl (o_box (v := .agg ⟨[.string z.f_Name, v0_z]⟩) rfl rfl) ?_
 rintro _ _ _ ⟨b1, rfl, rfl, rfl⟩
 refine w_d rfl (d_assign (v := errV 99 none) rfl) <| w_done <| w_seq <| w_seq <| w_region rfl <| w_d rfl (d_fld (o' := 0) Tryd.underlying32 rfl sz9 rfl rfl rfl) <| w_d rfl (d_loado (v := .string z.f_Name) ty9 rfl .here rfl rfl rfl rfl) <| w_d rfl (d_lens Tryd.underlying9 rfl) <| w_d rfl (d_lss rfl rfl) <| w_d rfl (d_move (v := .bool (decide ((z.f_Name.size : Int) < 1))) rfl) <| w_g (g := !(decide ((z.f_Name.size : Int) < 1))) rfl rfl rfl wn_f (fun g2 => d_fld (o' := 0) Tryd.underlying32 rfl sz9 rfl rfl rfl) <| w_g (g := !(decide ((z.f_Name.size : Int) < 1))) rfl rfl rfl wn_f (fun g3 => d_loado (v := .string z.f_Name) ty9 (cvt g3) .here rfl rfl rfl rfl) ?_
 refine w_g (g := !(decide ((z.f_Name.size : Int) < 1))) rfl rfl rfl wn_f (fun g4 => d_lens Tryd.underlying9 (cvt g4)) <| w_g (g := !(decide ((z.f_Name.size : Int) < 1))) rfl rfl rfl wn_f (fun g5 => d_gtr (cvt g5) rfl) <| w_d rfl (d_or' (b := (decide ((z.f_Name.size : Int) < 1))) (p := (decide (32 < (z.f_Name.size : Int)))) rfl rfl rfl) <| w_d rfl (d_move (v := .bool ((decide ((z.f_Name.size : Int) < 1)) || (decide (32 < (z.f_Name.size : Int))))) rfl) <| w_g (g := !((decide ((z.f_Name.size : Int) < 1)) || (decide (32 < (z.f_Name.size : Int))))) rfl rfl rfl wn_f (fun g6 => d_fld (o' := 1) Tryd.underlying32 rfl sz30 rfl rfl rfl) <| w_g (g := !((decide ((z.f_Name.size : Int) < 1)) || (decide (32 < (z.f_Name.size : Int))))) rfl rfl rfl wn_f (fun g7 => d_loado (v := v0_z) ty30 (cvt g7) .here rfl rfl rfl rfl) <| w_g (g := !((decide ((z.f_Name.size : Int) < 1)) || (decide (32 < (z.f_Name.size : Int))))) rfl rfl rfl wn_f (fun g8 => d_len Tryd.underlying30 (cvt g8) h0_z.src) <| w_g (g := !((decide ((z.f_Name.size : Int) < 1)) || (decide (32 < (z.f_Name.size : Int))))) rfl rfl rfl wn_f (fun g9 => d_lss (cvt g9) rfl) <| w_d rfl (d_or' (b := ((decide ((z.f_Name.size : Int) < 1)) || (decide (32 < (z.f_Name.size : Int))))) (p := (decide ((z.f_Corners.length : Int) < 3))) rfl rfl rfl) <| w_d rfl (d_move (v := .bool (((decide ((z.f_Name.size : Int) < 1)) || (decide (32 < (z.f_Name.size : Int)))) || (decide ((z.f_Corners.length : Int) < 3)))) rfl) <| w_g (g := !(((decide ((z.f_Name.size : Int) < 1)) || (decide (32 < (z.f_Name.size : Int)))) || (decide ((z.f_Corners.length : Int) < 3)))) rfl rfl rfl wn_f (fun g10 => d_fld (o' := 1) Tryd.underlying32 rfl sz30 rfl rfl rfl) <| w_g (g := !(((decide ((z.f_Name.size : Int) < 1)) || (decide (32 < (z.f_Name.size : Int)))) || (decide ((z.f_Corners.length : Int) < 3)))) rfl rfl rfl wn_f (fun g11 => d_loado (v := v0_z) ty30 (cvt g11) .here rfl rfl rfl rfl) ?_
 refine w_g (g := !(((decide ((z.f_Name.size : Int) < 1)) || (decide (32 < (z.f_Name.size : Int)))) || (decide ((z.f_Corners.length : Int) < 3)))) rfl rfl rfl wn_f (fun g12 => d_len Tryd.underlying30 (cvt g12) h0_z.src) <| w_g (g := !(((decide ((z.f_Name.size : Int) < 1)) || (decide (32 < (z.f_Name.size : Int)))) || (decide ((z.f_Corners.length : Int) < 3)))) rfl rfl rfl wn_f (fun g13 => d_gtr (cvt g13) rfl) <| w_d rfl (d_or' (b := (((decide ((z.f_Name.size : Int) < 1)) || (decide (32 < (z.f_Name.size : Int)))) || (decide ((z.f_Corners.length : Int) < 3)))) (p := (decide (32 < (z.f_Corners.length : Int)))) rfl rfl rfl) <| w_done ?_
 rcases its he with ⟨c14, he⟩ | ⟨c14, he⟩
 ·
  refine w_then rfl c14 <| w_seq <| w_region rfl <| w_d rfl (d_iface (v := .int .i64 1) Tryd.underlying99 rfl rfl) <| w_d rfl (d_assign (v := errV 99 (some 1)) rfl) <| w_done ?_
  obtain rfl := Option.some.inj he
  refine w_return fn_17 rs_17 (.tmp (v := errV 99 (some 1)) rfl .nil) <| ⟨⟨[_], rfl⟩, hle, rfl⟩
 ·
  refine w_else rfl (Bool.eq_false_iff.2 c14) <| w_skip <| w_seq <| w_seq <| w_region rfl <| w_d rfl (d_fld (o' := 1) Tryd.underlying32 rfl sz30 rfl rfl rfl) <| w_d rfl (d_loado (v := v0_z) ty30 rfl .here rfl rfl rfl rfl) <| w_d rfl (d_len Tryd.underlying30 rfl h0_z.src) <| w_d rfl (d_move (v := .int .i64 0) rfl) <| w_done <| w_block <| w_loop ?_
  refine w_del .here <| w_sl 2 (errV 99 none) rfl <| w_sl 29 (v0_z) rfl <| w_sl 30 (.int .i64 (z.f_Corners.length : Int)) rfl <| w_sl 31 (.int .i64 0) rfl <| hh.l0 hle he h0_z
/-! ### radome/zone.side -/
noncomputable def zone_side.C : Code := (Tryd.f60.body).getD .skip
def zone_side.out (r : Int) (H : Hp) (v : Value) : Prop := v = .int .i64 r
abbrev zone_side.R (H0 : Hp) (L : Items) (r : Int) : Value → Hp → Items → Prop := fun v H' L' => (∃ p, L' = p ++ L) ∧ H0.le H' ∧ zone_side.out r H' v
noncomputable def zone_side.f (k : Nat) (a : zone_Spot) (b : zone_Spot) (p : zone_Spot) : Option Int := some (w64 ((w64 ((w64 ((w64 (b.f_X)) - (w64 (a.f_X)))) * (w64 ((w64 (p.f_Y)) - (w64 (a.f_Y)))))) - (w64 ((w64 ((w64 (p.f_X)) - (w64 (a.f_X)))) * (w64 ((w64 (b.f_Y)) - (w64 (a.f_Y))))))))
theorem zone_side.mono : ∀ k y0 y1 y2, LeO (zone_side.f k y0 y1 y2) (zone_side.f (k + 1) y0 y1 y2) := fun k _ _ _ => by unfold zone_side.f; exact (LeO.refl _)
theorem zone_side.calls (k : Nat) {H : Hp} {L : Items} {a : zone_Spot} {b : zone_Spot} {p : zone_Spot} {r : Int} (he : zone_side.f k a b p = some r) : Ct Tryd.prog 60 ⟨[.agg ⟨[.int .i32 a.f_X, .int .i32 a.f_Y]⟩, .agg ⟨[.int .i32 b.f_X, .int .i32 b.f_Y]⟩, .agg ⟨[.int .i32 p.f_X, .int .i32 p.f_Y]⟩]⟩ H L (fun v H' L' => L = L' ∧ H = H' ∧ v = .int .i64 r) := by
 refine ct_outs (O := zone_side.out r) (fun _ _ h => h) ?_
 have hle : H.le H := .refl _
 unfold zone_side.f at he
 refine ct_enter (args := [.agg ⟨[.int .i32 a.f_X, .int .i32 a.f_Y]⟩, .agg ⟨[.int .i32 b.f_X, .int .i32 b.f_Y]⟩, .agg ⟨[.int .i32 p.f_X, .int .i32 p.f_Y]⟩]) fn_60 rfl nt_60 rfl <| w_seq <| w_region rfl <| w_a rfl (o_box (v := .agg ⟨[.int .i32 a.f_X, .int .i32 a.f_Y]⟩) rfl rfl) ?_
 rintro _ _ _ ⟨b1, rfl, rfl, rfl⟩
 refine w_a rfl (o_box (v := .agg ⟨[.int .i32 b.f_X, .int .i32 b.f_Y]⟩) rfl rfl) ?_
 rintro _ _ _ ⟨b2, rfl, rfl, rfl⟩
 refine w_a rfl (o_box (v := .agg ⟨[.int .i32 p.f_X, .int .i32 p.f_Y]⟩) rfl rfl) ?_
 rintro _ _ _ ⟨b3, rfl, rfl, rfl⟩
 refine w_d rfl (d_assign (v := .int .i64 0) rfl) <| w_done <| w_seq <| w_region rfl <| w_d rfl (d_fld (o' := 0) Tryd.underlying39 rfl sz21 rfl rfl rfl) <| w_d rfl (d_loado (v := .int .i32 b.f_X) ty21 rfl (.there .here) rfl rfl rfl rfl) <| w_d rfl (d_conv (c := w64 (b.f_X)) Tryd.underlying21 Tryd.underlying2 rfl rfl) <| w_d rfl (d_fld (o' := 0) Tryd.underlying39 rfl sz21 rfl rfl rfl) <| w_d rfl (d_loado (v := .int .i32 a.f_X) ty21 rfl (.there (.there .here)) rfl rfl rfl rfl) <| w_d rfl (d_conv (c := w64 (a.f_X)) Tryd.underlying21 Tryd.underlying2 rfl rfl) <| w_d rfl (d_sub (c := w64 ((w64 (b.f_X)) - (w64 (a.f_X)))) rfl rfl rfl) <| w_d rfl (d_fld (o' := 1) Tryd.underlying39 rfl sz21 rfl rfl rfl) ?_
 refine w_d rfl (d_loado (v := .int .i32 p.f_Y) ty21 rfl .here rfl rfl rfl rfl) <| w_d rfl (d_conv (c := w64 (p.f_Y)) Tryd.underlying21 Tryd.underlying2 rfl rfl) <| w_d rfl (d_fld (o' := 1) Tryd.underlying39 rfl sz21 rfl rfl rfl) <| w_d rfl (d_loado (v := .int .i32 a.f_Y) ty21 rfl (.there (.there .here)) rfl rfl rfl rfl) <| w_d rfl (d_conv (c := w64 (a.f_Y)) Tryd.underlying21 Tryd.underlying2 rfl rfl) <| w_d rfl (d_sub (c := w64 ((w64 (p.f_Y)) - (w64 (a.f_Y)))) rfl rfl rfl) <| w_d rfl (d_mul (c := w64 ((w64 ((w64 (b.f_X)) - (w64 (a.f_X)))) * (w64 ((w64 (p.f_Y)) - (w64 (a.f_Y)))))) rfl rfl rfl) <| w_d rfl (d_fld (o' := 0) Tryd.underlying39 rfl sz21 rfl rfl rfl) <| w_d rfl (d_loado (v := .int .i32 p.f_X) ty21 rfl .here rfl rfl rfl rfl) <| w_d rfl (d_conv (c := w64 (p.f_X)) Tryd.underlying21 Tryd.underlying2 rfl rfl) <| w_d rfl (d_fld (o' := 0) Tryd.underlying39 rfl sz21 rfl rfl rfl) <| w_d rfl (d_loado (v := .int .i32 a.f_X) ty21 rfl (.there (.there .here)) rfl rfl rfl rfl) ?_
 refine w_d rfl (d_conv (c := w64 (a.f_X)) Tryd.underlying21 Tryd.underlying2 rfl rfl) <| w_d rfl (d_sub (c := w64 ((w64 (p.f_X)) - (w64 (a.f_X)))) rfl rfl rfl) <| w_d rfl (d_fld (o' := 1) Tryd.underlying39 rfl sz21 rfl rfl rfl) <| w_d rfl (d_loado (v := .int .i32 b.f_Y) ty21 rfl (.there .here) rfl rfl rfl rfl) <| w_d rfl (d_conv (c := w64 (b.f_Y)) Tryd.underlying21 Tryd.underlying2 rfl rfl) <| w_d rfl (d_fld (o' := 1) Tryd.underlying39 rfl sz21 rfl rfl rfl) <| w_d rfl (d_loado (v := .int .i32 a.f_Y) ty21 rfl (.there (.there .here)) rfl rfl rfl rfl) <| w_d rfl (d_conv (c := w64 (a.f_Y)) Tryd.underlying21 Tryd.underlying2 rfl rfl) <| w_d rfl (d_sub (c := w64 ((w64 (b.f_Y)) - (w64 (a.f_Y)))) rfl rfl rfl) <| w_d rfl (d_mul (c := w64 ((w64 ((w64 (p.f_X)) - (w64 (a.f_X)))) * (w64 ((w64 (b.f_Y)) - (w64 (a.f_Y)))))) rfl rfl rfl) <| w_d rfl (d_sub (c := w64 ((w64 ((w64 ((w64 (b.f_X)) - (w64 (a.f_X)))) * (w64 ((w64 (p.f_Y)) - (w64 (a.f_Y)))))) - (w64 ((w64 ((w64 (p.f_X)) - (w64 (a.f_X)))) * (w64 ((w64 (b.f_Y)) - (w64 (a.f_Y)))))))) rfl rfl rfl) <| w_d rfl (d_assign (v := .int .i64 (w64 ((w64 ((w64 ((w64 (b.f_X)) - (w64 (a.f_X)))) * (w64 ((w64 (p.f_Y)) - (w64 (a.f_Y)))))) - (w64 ((w64 ((w64 (p.f_X)) - (w64 (a.f_X)))) * (w64 ((w64 (b.f_Y)) - (w64 (a.f_Y))))))))) rfl) ?_
 refine w_done ?_
 obtain rfl := Option.some.inj he
 refine w_return fn_60 rs_60 (.tmp (v := .int .i64 (w64 ((w64 ((w64 ((w64 (b.f_X)) - (w64 (a.f_X)))) * (w64 ((w64 (p.f_Y)) - (w64 (a.f_Y)))))) - (w64 ((w64 ((w64 (p.f_X)) - (w64 (a.f_X)))) * (w64 ((w64 (b.f_Y)) - (w64 (a.f_Y))))))))) rfl .nil) <| ⟨⟨[_, _, _], rfl⟩, hle, rfl⟩
/-! ### radome/zone.on -/
noncomputable def zone_on.C : Code := (Tryd.f44.body).getD .skip
def zone_on.out (r : Bool) (H : Hp) (v : Value) : Prop := v = .bool r
abbrev zone_on.R (H0 : Hp) (L : Items) (r : Bool) : Value → Hp → Items → Prop := fun v H' L' => (∃ p, L' = p ++ L) ∧ H0.le H' ∧ zone_on.out r H' v
noncomputable def zone_on.f (k : Nat) (a : zone_Spot) (b : zone_Spot) (p : zone_Spot) : Option Bool := (zone_side.f k a b p).bind fun y4 => some (((((decide (y4 = 0)) && (decide ((min a.f_X b.f_X) ≤ p.f_X))) && (decide (p.f_X ≤ (max a.f_X b.f_X)))) && (decide ((min a.f_Y b.f_Y) ≤ p.f_Y))) && (decide (p.f_Y ≤ (max a.f_Y b.f_Y))))
theorem zone_on.mono : ∀ k y0 y1 y2, LeO (zone_on.f k y0 y1 y2) (zone_on.f (k + 1) y0 y1 y2) := fun k _ _ _ => by unfold zone_on.f; exact (LeO.bind (zone_side.mono k _ _ _) fun _ => LeO.refl _)
theorem zone_on.calls (k : Nat) {H : Hp} {L : Items} {a : zone_Spot} {b : zone_Spot} {p : zone_Spot} {r : Bool} (he : zone_on.f k a b p = some r) : Ct Tryd.prog 44 ⟨[.agg ⟨[.int .i32 a.f_X, .int .i32 a.f_Y]⟩, .agg ⟨[.int .i32 b.f_X, .int .i32 b.f_Y]⟩, .agg ⟨[.int .i32 p.f_X, .int .i32 p.f_Y]⟩]⟩ H L (fun v H' L' => L = L' ∧ H = H' ∧ v = .bool r) := by
 refine ct_outs (O := zone_on.out r) (fun _ _ h => h) ?_
 have hle : H.le H := .refl _
 unfold zone_on.f at he
 refine ct_enter (args := [.agg ⟨[.int .i32 a.f_X, .int .i32 a.f_Y]⟩, .agg ⟨[.int .i32 b.f_X, .int .i32 b.f_Y]⟩, .agg ⟨[.int .i32 p.f_X, .int .i32 p.f_Y]⟩]) fn_44 rfl nt_44 rfl <| w_seq <| w_region rfl <| w_a rfl (o_box (v := .agg ⟨[.int .i32 a.f_X, .int .i32 a.f_Y]⟩) rfl rfl) ?_
 rintro _ _ _ ⟨b1, rfl, rfl, rfl⟩
 refine w_a rfl (o_box (v := .agg ⟨[.int .i32 b.f_X, .int .i32 b.f_Y]⟩) rfl rfl) ?_
 rintro _ _ _ ⟨b2, rfl, rfl, rfl⟩
 refine w_a rfl (o_box (v := .agg ⟨[.int .i32 p.f_X, .int .i32 p.f_Y]⟩) rfl rfl) ?_
 rintro _ _ _ ⟨b3, rfl, rfl, rfl⟩
 refine w_d rfl (d_assign (v := .bool false) rfl) <| w_done <| w_seq <| w_region rfl <| w_d rfl (d_loado (v := .agg ⟨[.int .i32 a.f_X, .int .i32 a.f_Y]⟩) ty39 rfl (.there (.there .here)) rfl rfl rfl rfl) <| w_d rfl (d_loado (v := .agg ⟨[.int .i32 b.f_X, .int .i32 b.f_Y]⟩) ty39 rfl (.there .here) rfl rfl rfl rfl) <| w_d rfl (d_loado (v := .agg ⟨[.int .i32 p.f_X, .int .i32 p.f_Y]⟩) ty39 rfl .here rfl rfl rfl rfl) ?_
 obtain ⟨y4, hy5, he⟩ := Option.bind_eq_some_iff.1 he
 refine w_d rfl (call_d (o_call co60 (vs := [.agg ⟨[.int .i32 a.f_X, .int .i32 a.f_Y]⟩, .agg ⟨[.int .i32 b.f_X, .int .i32 b.f_Y]⟩, .agg ⟨[.int .i32 p.f_X, .int .i32 p.f_Y]⟩]) rfl (zone_side.calls k (a := a) (b := b) (p := p) hy5))) <| w_d rfl (d_eql rfl rfl) <| w_d rfl (d_move (v := .bool (decide (y4 = 0))) rfl) <| w_g (g := decide (y4 = 0)) rfl rfl rfl wn_t (fun g8 => d_fld (o' := 0) Tryd.underlying39 rfl sz21 rfl rfl rfl) <| w_g (g := decide (y4 = 0)) rfl rfl rfl wn_t (fun g9 => d_loado (v := .int .i32 p.f_X) ty21 (cvt g9) .here rfl rfl rfl rfl) <| w_g (g := decide (y4 = 0)) rfl rfl rfl wn_t (fun g10 => d_fld (o' := 0) Tryd.underlying39 rfl sz21 rfl rfl rfl) <| w_g (g := decide (y4 = 0)) rfl rfl rfl wn_t (fun g11 => d_loado (v := .int .i32 a.f_X) ty21 (cvt g11) (.there (.there .here)) rfl rfl rfl rfl) <| w_g (g := decide (y4 = 0)) rfl rfl rfl wn_t (fun g12 => d_fld (o' := 0) Tryd.underlying39 rfl sz21 rfl rfl rfl) <| w_g (g := decide (y4 = 0)) rfl rfl rfl wn_t (fun g13 => d_loado (v := .int .i32 b.f_X) ty21 (cvt g13) (.there .here) rfl rfl rfl rfl) <| w_g (g := decide (y4 = 0)) rfl rfl rfl wn_t (fun g14 => d_min (cvt g14) (cvt g14)) <| w_g (g := decide (y4 = 0)) rfl rfl rfl wn_t (fun g15 => d_geq (cvt g15) (cvt g15)) <| w_d rfl (d_and' (b := (decide (y4 = 0))) (p := (decide ((min a.f_X b.f_X) ≤ p.f_X))) rfl rfl rfl) ?_
 refine w_d rfl (d_move (v := .bool ((decide (y4 = 0)) && (decide ((min a.f_X b.f_X) ≤ p.f_X)))) rfl) <| w_g (g := (decide (y4 = 0)) && (decide ((min a.f_X b.f_X) ≤ p.f_X))) rfl rfl rfl wn_t (fun g16 => d_fld (o' := 0) Tryd.underlying39 rfl sz21 rfl rfl rfl) <| w_g (g := (decide (y4 = 0)) && (decide ((min a.f_X b.f_X) ≤ p.f_X))) rfl rfl rfl wn_t (fun g17 => d_loado (v := .int .i32 p.f_X) ty21 (cvt g17) .here rfl rfl rfl rfl) <| w_g (g := (decide (y4 = 0)) && (decide ((min a.f_X b.f_X) ≤ p.f_X))) rfl rfl rfl wn_t (fun g18 => d_fld (o' := 0) Tryd.underlying39 rfl sz21 rfl rfl rfl) <| w_g (g := (decide (y4 = 0)) && (decide ((min a.f_X b.f_X) ≤ p.f_X))) rfl rfl rfl wn_t (fun g19 => d_loado (v := .int .i32 a.f_X) ty21 (cvt g19) (.there (.there .here)) rfl rfl rfl rfl) <| w_g (g := (decide (y4 = 0)) && (decide ((min a.f_X b.f_X) ≤ p.f_X))) rfl rfl rfl wn_t (fun g20 => d_fld (o' := 0) Tryd.underlying39 rfl sz21 rfl rfl rfl) <| w_g (g := (decide (y4 = 0)) && (decide ((min a.f_X b.f_X) ≤ p.f_X))) rfl rfl rfl wn_t (fun g21 => d_loado (v := .int .i32 b.f_X) ty21 (cvt g21) (.there .here) rfl rfl rfl rfl) <| w_g (g := (decide (y4 = 0)) && (decide ((min a.f_X b.f_X) ≤ p.f_X))) rfl rfl rfl wn_t (fun g22 => d_max (cvt g22) (cvt g22)) <| w_g (g := (decide (y4 = 0)) && (decide ((min a.f_X b.f_X) ≤ p.f_X))) rfl rfl rfl wn_t (fun g23 => d_leq (cvt g23) (cvt g23)) <| w_d rfl (d_and' (b := ((decide (y4 = 0)) && (decide ((min a.f_X b.f_X) ≤ p.f_X)))) (p := (decide (p.f_X ≤ (max a.f_X b.f_X)))) rfl rfl rfl) <| w_d rfl (d_move (v := .bool (((decide (y4 = 0)) && (decide ((min a.f_X b.f_X) ≤ p.f_X))) && (decide (p.f_X ≤ (max a.f_X b.f_X))))) rfl) <| w_g (g := ((decide (y4 = 0)) && (decide ((min a.f_X b.f_X) ≤ p.f_X))) && (decide (p.f_X ≤ (max a.f_X b.f_X)))) rfl rfl rfl wn_t (fun g24 => d_fld (o' := 1) Tryd.underlying39 rfl sz21 rfl rfl rfl) ?_
 refine w_g (g := ((decide (y4 = 0)) && (decide ((min a.f_X b.f_X) ≤ p.f_X))) && (decide (p.f_X ≤ (max a.f_X b.f_X)))) rfl rfl rfl wn_t (fun g25 => d_loado (v := .int .i32 p.f_Y) ty21 (cvt g25) .here rfl rfl rfl rfl) <| w_g (g := ((decide (y4 = 0)) && (decide ((min a.f_X b.f_X) ≤ p.f_X))) && (decide (p.f_X ≤ (max a.f_X b.f_X)))) rfl rfl rfl wn_t (fun g26 => d_fld (o' := 1) Tryd.underlying39 rfl sz21 rfl rfl rfl) <| w_g (g := ((decide (y4 = 0)) && (decide ((min a.f_X b.f_X) ≤ p.f_X))) && (decide (p.f_X ≤ (max a.f_X b.f_X)))) rfl rfl rfl wn_t (fun g27 => d_loado (v := .int .i32 a.f_Y) ty21 (cvt g27) (.there (.there .here)) rfl rfl rfl rfl) <| w_g (g := ((decide (y4 = 0)) && (decide ((min a.f_X b.f_X) ≤ p.f_X))) && (decide (p.f_X ≤ (max a.f_X b.f_X)))) rfl rfl rfl wn_t (fun g28 => d_fld (o' := 1) Tryd.underlying39 rfl sz21 rfl rfl rfl) <| w_g (g := ((decide (y4 = 0)) && (decide ((min a.f_X b.f_X) ≤ p.f_X))) && (decide (p.f_X ≤ (max a.f_X b.f_X)))) rfl rfl rfl wn_t (fun g29 => d_loado (v := .int .i32 b.f_Y) ty21 (cvt g29) (.there .here) rfl rfl rfl rfl) <| w_g (g := ((decide (y4 = 0)) && (decide ((min a.f_X b.f_X) ≤ p.f_X))) && (decide (p.f_X ≤ (max a.f_X b.f_X)))) rfl rfl rfl wn_t (fun g30 => d_min (cvt g30) (cvt g30)) <| w_g (g := ((decide (y4 = 0)) && (decide ((min a.f_X b.f_X) ≤ p.f_X))) && (decide (p.f_X ≤ (max a.f_X b.f_X)))) rfl rfl rfl wn_t (fun g31 => d_geq (cvt g31) (cvt g31)) <| w_d rfl (d_and' (b := (((decide (y4 = 0)) && (decide ((min a.f_X b.f_X) ≤ p.f_X))) && (decide (p.f_X ≤ (max a.f_X b.f_X))))) (p := (decide ((min a.f_Y b.f_Y) ≤ p.f_Y))) rfl rfl rfl) <| w_d rfl (d_move (v := .bool ((((decide (y4 = 0)) && (decide ((min a.f_X b.f_X) ≤ p.f_X))) && (decide (p.f_X ≤ (max a.f_X b.f_X)))) && (decide ((min a.f_Y b.f_Y) ≤ p.f_Y)))) rfl) <| w_g (g := (((decide (y4 = 0)) && (decide ((min a.f_X b.f_X) ≤ p.f_X))) && (decide (p.f_X ≤ (max a.f_X b.f_X)))) && (decide ((min a.f_Y b.f_Y) ≤ p.f_Y))) rfl rfl rfl wn_t (fun g32 => d_fld (o' := 1) Tryd.underlying39 rfl sz21 rfl rfl rfl) <| w_g (g := (((decide (y4 = 0)) && (decide ((min a.f_X b.f_X) ≤ p.f_X))) && (decide (p.f_X ≤ (max a.f_X b.f_X)))) && (decide ((min a.f_Y b.f_Y) ≤ p.f_Y))) rfl rfl rfl wn_t (fun g33 => d_loado (v := .int .i32 p.f_Y) ty21 (cvt g33) .here rfl rfl rfl rfl) <| w_g (g := (((decide (y4 = 0)) && (decide ((min a.f_X b.f_X) ≤ p.f_X))) && (decide (p.f_X ≤ (max a.f_X b.f_X)))) && (decide ((min a.f_Y b.f_Y) ≤ p.f_Y))) rfl rfl rfl wn_t (fun g34 => d_fld (o' := 1) Tryd.underlying39 rfl sz21 rfl rfl rfl) ?_
 refine w_g (g := (((decide (y4 = 0)) && (decide ((min a.f_X b.f_X) ≤ p.f_X))) && (decide (p.f_X ≤ (max a.f_X b.f_X)))) && (decide ((min a.f_Y b.f_Y) ≤ p.f_Y))) rfl rfl rfl wn_t (fun g35 => d_loado (v := .int .i32 a.f_Y) ty21 (cvt g35) (.there (.there .here)) rfl rfl rfl rfl) <| w_g (g := (((decide (y4 = 0)) && (decide ((min a.f_X b.f_X) ≤ p.f_X))) && (decide (p.f_X ≤ (max a.f_X b.f_X)))) && (decide ((min a.f_Y b.f_Y) ≤ p.f_Y))) rfl rfl rfl wn_t (fun g36 => d_fld (o' := 1) Tryd.underlying39 rfl sz21 rfl rfl rfl) <| w_g (g := (((decide (y4 = 0)) && (decide ((min a.f_X b.f_X) ≤ p.f_X))) && (decide (p.f_X ≤ (max a.f_X b.f_X)))) && (decide ((min a.f_Y b.f_Y) ≤ p.f_Y))) rfl rfl rfl wn_t (fun g37 => d_loado (v := .int .i32 b.f_Y) ty21 (cvt g37) (.there .here) rfl rfl rfl rfl) <| w_g (g := (((decide (y4 = 0)) && (decide ((min a.f_X b.f_X) ≤ p.f_X))) && (decide (p.f_X ≤ (max a.f_X b.f_X)))) && (decide ((min a.f_Y b.f_Y) ≤ p.f_Y))) rfl rfl rfl wn_t (fun g38 => d_max (cvt g38) (cvt g38)) <| w_g (g := (((decide (y4 = 0)) && (decide ((min a.f_X b.f_X) ≤ p.f_X))) && (decide (p.f_X ≤ (max a.f_X b.f_X)))) && (decide ((min a.f_Y b.f_Y) ≤ p.f_Y))) rfl rfl rfl wn_t (fun g39 => d_leq (cvt g39) (cvt g39)) <| w_d rfl (d_and' (b := ((((decide (y4 = 0)) && (decide ((min a.f_X b.f_X) ≤ p.f_X))) && (decide (p.f_X ≤ (max a.f_X b.f_X)))) && (decide ((min a.f_Y b.f_Y) ≤ p.f_Y)))) (p := (decide (p.f_Y ≤ (max a.f_Y b.f_Y)))) rfl rfl rfl) <| w_d rfl (d_assign (v := .bool (((((decide (y4 = 0)) && (decide ((min a.f_X b.f_X) ≤ p.f_X))) && (decide (p.f_X ≤ (max a.f_X b.f_X)))) && (decide ((min a.f_Y b.f_Y) ≤ p.f_Y))) && (decide (p.f_Y ≤ (max a.f_Y b.f_Y))))) rfl) <| w_done ?_
 obtain rfl := Option.some.inj he
 refine w_return fn_44 rs_44 (.tmp (v := .bool (((((decide (y4 = 0)) && (decide ((min a.f_X b.f_X) ≤ p.f_X))) && (decide (p.f_X ≤ (max a.f_X b.f_X)))) && (decide ((min a.f_Y b.f_Y) ≤ p.f_Y))) && (decide (p.f_Y ≤ (max a.f_Y b.f_Y))))) rfl .nil) <| ⟨⟨[_, _, _], rfl⟩, hle, rfl⟩
/-! ### radome/zone.passes -/
noncomputable def zone_passes.C : Code := (Tryd.f45.body).getD .skip
def zone_passes.out (r : Bool) (H : Hp) (v : Value) : Prop := v = .bool r
abbrev zone_passes.R (H0 : Hp) (L : Items) (r : Bool) : Value → Hp → Items → Prop := fun v H' L' => (∃ p, L' = p ++ L) ∧ H0.le H' ∧ zone_passes.out r H' v
noncomputable def zone_passes.f (k : Nat) (a : zone_Spot) (b : zone_Spot) (p : zone_Spot) : Option Bool := if ((decide (a.f_Y ≤ p.f_Y)) && (decide (p.f_Y < b.f_Y))) = true then ((zone_side.f k a b p).bind fun y10 => some (decide (0 < y10))) else (if ((decide (b.f_Y ≤ p.f_Y)) && (decide (p.f_Y < a.f_Y))) = true then ((zone_side.f k a b p).bind fun y20 => some (decide (y20 < 0))) else (some (false)))
theorem zone_passes.mono : ∀ k y0 y1 y2, LeO (zone_passes.f k y0 y1 y2) (zone_passes.f (k + 1) y0 y1 y2) := fun k _ _ _ => by unfold zone_passes.f; exact (LeO.ite (LeO.bind (zone_side.mono k _ _ _) fun _ => LeO.refl _) (LeO.ite (LeO.bind (zone_side.mono k _ _ _) fun _ => LeO.refl _) (LeO.refl _)))
theorem zone_passes.calls (k : Nat) {H : Hp} {L : Items} {a : zone_Spot} {b : zone_Spot} {p : zone_Spot} {r : Bool} (he : zone_passes.f k a b p = some r) : Ct Tryd.prog 45 ⟨[.agg ⟨[.int .i32 a.f_X, .int .i32 a.f_Y]⟩, .agg ⟨[.int .i32 b.f_X, .int .i32 b.f_Y]⟩, .agg ⟨[.int .i32 p.f_X, .int .i32 p.f_Y]⟩]⟩ H L (fun v H' L' => L = L' ∧ H = H' ∧ v = .bool r) := by
 refine ct_outs (O := zone_passes.out r) (fun _ _ h => h) ?_
 have hle : H.le H := .refl _
 unfold zone_passes.f at he
 refine ct_enter (args := [.agg ⟨[.int .i32 a.f_X, .int .i32 a.f_Y]⟩, .agg ⟨[.int .i32 b.f_X, .int .i32 b.f_Y]⟩, .agg ⟨[.int .i32 p.f_X, .int .i32 p.f_Y]⟩]) fn_45 rfl nt_45 rfl <| w_seq <| w_region rfl <| w_a rfl (o_box (v := .agg ⟨[.int .i32 a.f_X, .int .i32 a.f_Y]⟩) rfl rfl) ?_
 rintro _ _ _ ⟨b1, rfl, rfl, rfl⟩
 refine w_a rfl (o_box (v := .agg ⟨[.int .i32 b.f_X, .int .i32 b.f_Y]⟩) rfl rfl) ?_
 rintro _ _ _ ⟨b2, rfl, rfl, rfl⟩
 refine w_a rfl (o_box (v := .agg ⟨[.int .i32 p.f_X, .int .i32 p.f_Y]⟩) rfl rfl) ?_
 rintro _ _ _ ⟨b3, rfl, rfl, rfl⟩
 refine w_d rfl (d_assign (v := .bool false) rfl) <| w_done <| w_seq <| w_block <| w_seq <| w_region rfl <| w_d rfl (d_fld (o' := 1) Tryd.underlying39 rfl sz21 rfl rfl rfl) <| w_d rfl (d_loado (v := .int .i32 a.f_Y) ty21 rfl (.there (.there .here)) rfl rfl rfl rfl) <| w_d rfl (d_fld (o' := 1) Tryd.underlying39 rfl sz21 rfl rfl rfl) <| w_d rfl (d_loado (v := .int .i32 p.f_Y) ty21 rfl .here rfl rfl rfl rfl) <| w_d rfl (d_leq rfl rfl) <| w_d rfl (d_move (v := .bool (decide (a.f_Y ≤ p.f_Y))) rfl) ?_
 refine w_g (g := decide (a.f_Y ≤ p.f_Y)) rfl rfl rfl wn_t (fun g4 => d_fld (o' := 1) Tryd.underlying39 rfl sz21 rfl rfl rfl) <| w_g (g := decide (a.f_Y ≤ p.f_Y)) rfl rfl rfl wn_t (fun g5 => d_loado (v := .int .i32 b.f_Y) ty21 (cvt g5) (.there .here) rfl rfl rfl rfl) <| w_g (g := decide (a.f_Y ≤ p.f_Y)) rfl rfl rfl wn_t (fun g6 => d_fld (o' := 1) Tryd.underlying39 rfl sz21 rfl rfl rfl) <| w_g (g := decide (a.f_Y ≤ p.f_Y)) rfl rfl rfl wn_t (fun g7 => d_loado (v := .int .i32 p.f_Y) ty21 (cvt g7) .here rfl rfl rfl rfl) <| w_g (g := decide (a.f_Y ≤ p.f_Y)) rfl rfl rfl wn_t (fun g8 => d_gtr (cvt g8) (cvt g8)) <| w_d rfl (d_and' (b := (decide (a.f_Y ≤ p.f_Y))) (p := (decide (p.f_Y < b.f_Y))) rfl rfl rfl) <| w_d rfl (d_assign (v := .bool ((decide (a.f_Y ≤ p.f_Y)) && (decide (p.f_Y < b.f_Y)))) rfl) <| w_done ?_
 rcases its he with ⟨c9, he⟩ | ⟨c9, he⟩
 ·
  refine w_then rfl c9 <| w_seq <| w_region rfl <| w_d rfl (d_loado (v := .agg ⟨[.int .i32 a.f_X, .int .i32 a.f_Y]⟩) ty39 rfl (.there (.there .here)) rfl rfl rfl rfl) <| w_d rfl (d_loado (v := .agg ⟨[.int .i32 b.f_X, .int .i32 b.f_Y]⟩) ty39 rfl (.there .here) rfl rfl rfl rfl) <| w_d rfl (d_loado (v := .agg ⟨[.int .i32 p.f_X, .int .i32 p.f_Y]⟩) ty39 rfl .here rfl rfl rfl rfl) ?_
  obtain ⟨y10, hy11, he⟩ := Option.bind_eq_some_iff.1 he
  refine w_d rfl (call_d (o_call co60 (vs := [.agg ⟨[.int .i32 a.f_X, .int .i32 a.f_Y]⟩, .agg ⟨[.int .i32 b.f_X, .int .i32 b.f_Y]⟩, .agg ⟨[.int .i32 p.f_X, .int .i32 p.f_Y]⟩]) rfl (zone_side.calls k (a := a) (b := b) (p := p) hy11))) <| w_d rfl (d_gtr rfl rfl) <| w_d rfl (d_assign (v := .bool (decide (0 < y10))) rfl) <| w_done ?_
  obtain rfl := Option.some.inj he
  refine w_return fn_45 rs_45 (.tmp (v := .bool (decide (0 < y10))) rfl .nil) <| ⟨⟨[_, _, _], rfl⟩, hle, rfl⟩
 ·
  refine w_else rfl (Bool.eq_false_iff.2 c9) <| w_seq <| w_region rfl <| w_d rfl (d_fld (o' := 1) Tryd.underlying39 rfl sz21 rfl rfl rfl) <| w_d rfl (d_loado (v := .int .i32 b.f_Y) ty21 rfl (.there .here) rfl rfl rfl rfl) <| w_d rfl (d_fld (o' := 1) Tryd.underlying39 rfl sz21 rfl rfl rfl) <| w_d rfl (d_loado (v := .int .i32 p.f_Y) ty21 rfl .here rfl rfl rfl rfl) <| w_d rfl (d_leq rfl rfl) <| w_d rfl (d_move (v := .bool (decide (b.f_Y ≤ p.f_Y))) rfl) <| w_g (g := decide (b.f_Y ≤ p.f_Y)) rfl rfl rfl wn_t (fun g14 => d_fld (o' := 1) Tryd.underlying39 rfl sz21 rfl rfl rfl) <| w_g (g := decide (b.f_Y ≤ p.f_Y)) rfl rfl rfl wn_t (fun g15 => d_loado (v := .int .i32 a.f_Y) ty21 (cvt g15) (.there (.there .here)) rfl rfl rfl rfl) <| w_g (g := decide (b.f_Y ≤ p.f_Y)) rfl rfl rfl wn_t (fun g16 => d_fld (o' := 1) Tryd.underlying39 rfl sz21 rfl rfl rfl) ?_
  refine w_g (g := decide (b.f_Y ≤ p.f_Y)) rfl rfl rfl wn_t (fun g17 => d_loado (v := .int .i32 p.f_Y) ty21 (cvt g17) .here rfl rfl rfl rfl) <| w_g (g := decide (b.f_Y ≤ p.f_Y)) rfl rfl rfl wn_t (fun g18 => d_gtr (cvt g18) (cvt g18)) <| w_d rfl (d_and' (b := (decide (b.f_Y ≤ p.f_Y))) (p := (decide (p.f_Y < a.f_Y))) rfl rfl rfl) <| w_d rfl (d_assign (v := .bool ((decide (b.f_Y ≤ p.f_Y)) && (decide (p.f_Y < a.f_Y)))) rfl) <| w_done ?_
  rcases its he with ⟨c19, he⟩ | ⟨c19, he⟩
  ·
   refine w_then rfl c19 <| w_seq <| w_region rfl <| w_d rfl (d_loado (v := .agg ⟨[.int .i32 a.f_X, .int .i32 a.f_Y]⟩) ty39 rfl (.there (.there .here)) rfl rfl rfl rfl) <| w_d rfl (d_loado (v := .agg ⟨[.int .i32 b.f_X, .int .i32 b.f_Y]⟩) ty39 rfl (.there .here) rfl rfl rfl rfl) <| w_d rfl (d_loado (v := .agg ⟨[.int .i32 p.f_X, .int .i32 p.f_Y]⟩) ty39 rfl .here rfl rfl rfl rfl) ?_
   obtain ⟨y20, hy21, he⟩ := Option.bind_eq_some_iff.1 he
   refine w_d rfl (call_d (o_call co60 (vs := [.agg ⟨[.int .i32 a.f_X, .int .i32 a.f_Y]⟩, .agg ⟨[.int .i32 b.f_X, .int .i32 b.f_Y]⟩, .agg ⟨[.int .i32 p.f_X, .int .i32 p.f_Y]⟩]) rfl (zone_side.calls k (a := a) (b := b) (p := p) hy21))) <| w_d rfl (d_lss rfl rfl) <| w_d rfl (d_assign (v := .bool (decide (y20 < 0))) rfl) <| w_done ?_
   obtain rfl := Option.some.inj he
   refine w_return fn_45 rs_45 (.tmp (v := .bool (decide (y20 < 0))) rfl .nil) <| ⟨⟨[_, _, _], rfl⟩, hle, rfl⟩
  ·
   refine w_else rfl (Bool.eq_false_iff.2 c19) <| w_skip <| w_inBlock <| w_seq <| w_region rfl <| w_d rfl (d_assign (v := .bool false) rfl) <| w_done ?_
   obtain rfl := Option.some.inj he
   refine w_return fn_45 rs_45 (.tmp (v := .bool false) rfl .nil) <| ⟨⟨[_, _, _], rfl⟩, hle, rfl⟩


/-! ### a zone's edges, each handed to a function -/
noncomputable def zedges {S : Type} (st : zone_Spot → zone_Spot → S → Option (S × Bool)) (z : List zone_Spot) : Nat → Int → S → Option (S × Bool)
 | 0, _, _ => none
 | k + 1, i, s => if i < (z.length : Int) then (if (0 : Int) ≤ i ∧ i < (z.length : Int) then (if (z.length : Int) ≠ 0 then (if (0 : Int) ≤ Int.tmod (w64 (i + 1)) (z.length : Int) ∧ Int.tmod (w64 (i + 1)) (z.length : Int) < (z.length : Int) then ((st (rd z i) (rd z (Int.tmod (w64 (i + 1)) (z.length : Int))) s).bind fun y => if y.2 = true then some y else zedges st z k (w64 (i + 1)) y.1) else none) else none) else none) else some (s, false)
theorem zedges_mono {S : Type} {st st' : zone_Spot → zone_Spot → S → Option (S × Bool)} (h : ∀ a b s, LeO (st a b s) (st' a b s)) (z : List zone_Spot) : ∀ k i s, LeO (zedges st z k i s) (zedges st' z (k + 1) i s)
 | 0, _, _ => LeO.none _
 | k + 1, i, s => by unfold zedges; exact LeO.ite (LeO.ite (LeO.ite (LeO.ite (LeO.bind (h _ _ _) fun y => LeO.ite (LeO.refl _) (zedges_mono h z k _ _)) (LeO.refl _)) (LeO.refl _)) (LeO.refl _)) (LeO.refl _)
noncomputable def zedges.C : Code := (Tryd.f43.body).getD .skip
noncomputable def zedges.Kl0 : List Item := .code (lopB (blkB (seqR (seqR zedges.C)))) :: .inLoop (lopB (blkB (seqR (seqR zedges.C)))) :: .inBlock 0 :: []
structure ZY {S : Type} (st : zone_Spot → zone_Spot → S → Option (S × Bool)) (g n' p q l r : Nat) (σ' : Nat → Value) (as_ bd : Code) (Λ : S → Bool → Items) : Prop where
 has : ∀ s, Has (Λ s false) (some (l, lpO g (fr n' σ') #[p, q] as_ bd r false))
 run : ∀ {H : Hp} {L : Items} {x : Item'} {a b : zone_Spot} {s : S} {y : S × Bool}, st a b s = some y → Wp Tryd.prog { fn := g, ro := some l } n' [.code as_, .beginRound, .code bd] (upd (upd σ' p (.agg ⟨[.int .i32 a.f_X, .int .i32 a.f_Y]⟩)) q (.agg ⟨[.int .i32 b.f_X, .int .i32 b.f_Y]⟩)) H (x :: (Λ s false ++ L)) (fun v H' L' => ∃ p its_, L' = p ++ (its_ ++ L) ∧ H.le H' ∧ its_ = x :: Λ y.1 y.2 ∧ v = .bool (!y.2))
section
variable {S : Type} {st : zone_Spot → zone_Spot → S → Option (S × Bool)} {g n' p q l r : Nat} {σ' : Nat → Value} {as_ bd : Code} {Λ : S → Bool → Items}
theorem zedges.loop (hy : ZY st g n' p q l r σ' as_ bd Λ) : ∀ (k : Nat) {H0 H : Hp} {L : Items} {jk_ : Nat → Value} {i : Int} {s : S} {y : S × Bool} {nm : ByteArray} {z : List zone_Spot} {vz : Value} {bz : Nat} (hle : H0.le H) (he : zedges st z k i s = some y) (hz : Ro k_zone_Spot H vz z),
  Wp Tryd.prog 43 29 zedges.Kl0 (upd (upd (upd (upd (upd jk_ 1 (.func (.yield l) #[] #[])) 2 (.pointer (some ⟨bz, 0, none⟩))) 7 vz) 8 (.int .i64 (z.length : Int))) 9 (.int .i64 i)) H (some (bz, .cells ⟨[.string nm, vz]⟩ 32 (0, 0)) :: (Λ s false ++ L)) (fun v H' L' => ∃ p its_, L' = p ++ (its_ ++ L) ∧ H0.le H' ∧ its_ = Λ y.1 y.2 ∧ v = .tuple ⟨[]⟩) := by
 intro k
 induction k with
 | zero => intro H0 H L jk_ i s y nm z vz bz hle he hz; exact nomatch he
 | succ k ih =>
  intro H0 H L jk_ i s y nm z vz bz hle he hz
  unfold zedges at he
  unfold zedges.Kl0
  refine w_seq <| w_region rfl <| w_d rfl (d_lss rfl rfl) <| w_done <| w_seq ?_
  rcases its he with ⟨c2, he⟩ | ⟨c2, he⟩
  · refine w_then rfl (decide_eq_true c2) ?_
    refine w_skip <| w_seq <| w_block <| w_seq <| w_region rfl <| w_d rfl (d_move (v := .int .i64 i) rfl) ?_
    obtain ⟨c3, he⟩ := rq he
    refine w_d rfl (d_index (sz := 2) Tryd.underlying30 sz39 rfl hz.src rfl c3) ?_
    obtain ⟨_, l4, r5⟩ := el_ro (kd := k_zone_Spot) hz c3
    obtain ⟨rfl⟩ := k_zone_Spot_out r5
    refine w_d rfl (d_load (v := .agg ⟨[.int .i32 ((rd z i).f_X), .int .i32 ((rd z i).f_Y)]⟩) (cs := [.int .i32 ((rd z i).f_X), .int .i32 ((rd z i).f_Y)]) ty39 rfl rfl (by decide) (l4).lies rfl) <| w_a rfl (o_alloc zr39 rfl) ?_
    rintro _ _ _ ⟨b6, rfl, rfl, rfl⟩
    refine w_d rfl (d_assign (v := .int .i64 i) rfl) <| w_a0 rfl (o_store (v := .agg ⟨[.int .i32 ((rd z i).f_X), .int .i32 ((rd z i).f_Y)]⟩) sz39 rfl rfl rfl rfl (one_cons rfl (one_cons rfl one_nil)) .here (.here (.here .done))) ?_
    rintro _ _ _ ⟨rfl, rfl, rfl⟩
    refine w_done <| w_seq ?_
    obtain ⟨c7, he⟩ := rq he
    obtain ⟨c8, he⟩ := rq he
    obtain ⟨_, l9, r10⟩ := el_ro (kd := k_zone_Spot) hz c8
    obtain ⟨rfl⟩ := k_zone_Spot_out r10
    refine w_drawn (p := 12) (tl := [12, 13]) [[], [], [], [(2, some 16)], [], [(4, some 18)], [], [(6, some 20)], [(7, some 21)], [(5, some 19), (8, some 22)], [(3, some 17), (9, some 23)], [(10, some 24)]] [some 14, some 15, some 16, some 17, some 18, some 19, some 20, some 21, some 22, some 23, some 24, some 25] (fctF (.is (.func (.yield l) #[] #[]) :: .is (.agg ⟨[.int .i32 ((rd z i).f_X), .int .i32 ((rd z i).f_Y)]⟩) :: .is (.pointer (some ⟨bz, 1, none⟩)) :: .is (vz) :: .is (.int .i64 i) :: .is (.int .i64 (w64 (i + 1))) :: .is (.pointer (some ⟨bz, 1, none⟩)) :: .is (vz) :: .is (.int .i64 (z.length : Int)) :: .is (.int .i64 (Int.tmod (w64 (i + 1)) (z.length : Int))) :: .is (.pointer (some (pel vz (Int.tmod (w64 (i + 1)) (z.length : Int)) 2))) :: .is (.agg ⟨[.int .i32 ((rd z (Int.tmod (w64 (i + 1)) (z.length : Int))).f_X), .int .i32 ((rd z (Int.tmod (w64 (i + 1)) (z.length : Int))).f_Y)]⟩) :: [])) (fun m_ => some (b6, .cells ⟨[.int .i32 ((rd z i).f_X), .int .i32 ((rd z i).f_Y)]⟩ 39 (0, 0)) :: some (bz, .cells ⟨[.string nm, vz]⟩ 32 (0, 0)) :: (Λ s false ++ L)) (fun _ => none) mixed (by kernel_rfl) (by kernel_rfl) rfl (fct_mono (by kernel_rfl)) ⟨(fun H' m_ hH hm_ hu_ => depK_nil <| s_d (m_ 0) rfl (d_move (v := .func (.yield l) #[] #[]) rfl) (by exact rfl) rfl), (fun H' m_ hH hm_ hu_ => depK_nil <| s_d (m_ 1) rfl (d_loado (v := .agg ⟨[.int .i32 ((rd z i).f_X), .int .i32 ((rd z i).f_Y)]⟩) ty39 rfl .here rfl rfl rfl rfl) (by exact rfl) rfl), (fun H' m_ hH hm_ hu_ => depK_nil <| s_d (m_ 2) rfl (d_fld (o' := 1) Tryd.underlying32 rfl sz30 rfl rfl rfl) (by exact rfl) rfl), (by rintro H' m_ hH hm_ hu_ _ rfl; exact depK_nil <| s_d (m_ 3) rfl (d_loado (v := vz) ty30 rfl (.there .here) rfl rfl rfl rfl) (by exact rfl) rfl), (fun H' m_ hH hm_ hu_ => depK_nil <| s_d (m_ 4) rfl (d_move (v := .int .i64 i) rfl) (by exact rfl) rfl), (by rintro H' m_ hH hm_ hu_ _ rfl; exact depK_nil <| s_d (m_ 5) rfl (d_add (c := w64 (i + 1)) rfl rfl rfl) (by exact rfl) rfl), (fun H' m_ hH hm_ hu_ => depK_nil <| s_d (m_ 6) rfl (d_fld (o' := 1) Tryd.underlying32 rfl sz30 rfl rfl rfl) (by exact rfl) rfl), (by rintro H' m_ hH hm_ hu_ _ rfl; exact depK_nil <| s_d (m_ 7) rfl (d_loado (v := vz) ty30 rfl (.there .here) rfl rfl rfl rfl) (by exact rfl) rfl), (by rintro H' m_ hH hm_ hu_ _ rfl; exact depK_nil <| s_d (m_ 8) rfl (d_len Tryd.underlying30 rfl (hz.mono hH).src) (by exact rfl) rfl), (by rintro H' m_ hH hm_ hu_ _ rfl _ rfl; exact depK_nil <| s_d (m_ 9) rfl (d_rem rfl rfl c7) (by exact rfl) rfl), (by rintro H' m_ hH hm_ hu_ _ rfl _ rfl; exact depK_nil <| s_d (m_ 10) rfl (d_index (sz := 2) Tryd.underlying30 sz39 rfl (hz.mono hH).src rfl c8) (by exact rfl) rfl), (by rintro H' m_ hH hm_ hu_ _ rfl; exact depK_nil <| s_d (m_ 11) rfl (d_load (v := .agg ⟨[.int .i32 ((rd z (Int.tmod (w64 (i + 1)) (z.length : Int))).f_X), .int .i32 ((rd z (Int.tmod (w64 (i + 1)) (z.length : Int))).f_Y)]⟩) (cs := [.int .i32 ((rd z (Int.tmod (w64 (i + 1)) (z.length : Int))).f_X), .int .i32 ((rd z (Int.tmod (w64 (i + 1)) (z.length : Int))).f_Y)]) ty39 rfl rfl (by decide) (l9.mono hH).lies rfl) (by exact rfl) rfl), trivial⟩ ?_
    intro H11 e12
    rintro _ _ rfl _ _ rfl _ _ rfl _ _ rfl _ _ rfl _ _ rfl _ _ rfl _ _ rfl _ _ rfl _ _ rfl _ _ rfl _ _ rfl
    obtain ⟨y13, hy14, he⟩ := Option.bind_eq_some_iff.1 he
    refine w_del .here <| w_a rfl (o_yield rfl rfl (.there (has_appl (hy.has s))) (wp_ptr (hy.run hy14))) ?_
    rintro _ H12 _ ⟨_, rfl, e13, rfl, rfl⟩
    refine w_d rfl (d_not (b := !y13.2) rfl) <| w_done ?_
    rcases its he with ⟨c17, he⟩ | ⟨c17, he⟩
    · refine w_then rfl (by rw [c17]; rfl) ?_
      obtain rfl := Option.some.inj he
      refine w_return fn_43 rs_43 .nil <| ⟨[_], _, rfl, (hle.trans e12).trans e13, rfl, rfl⟩
    · have c17' := Bool.eq_false_iff.2 c17
      refine w_else rfl (by rw [c17']; rfl) <| w_skip <| w_inBlock <| w_region rfl <| w_d rfl (d_add (c := w64 (i + 1)) rfl rfl rfl) <| w_d rfl (d_move (v := .int .i64 (w64 (i + 1))) rfl) <| w_done <| w_inLoop <| w_sl 1 (.func (.yield l) #[] #[]) rfl <| w_sl 2 (.pointer (some ⟨bz, 0, none⟩)) rfl <| w_sl 7 (vz) rfl <| w_sl 8 (.int .i64 (z.length : Int)) rfl ?_
      refine w_sl 9 (.int .i64 (w64 (i + 1))) rfl ?_
      rw [c17']
      exact ih ((hle.trans e12).trans e13) he ((hz.mono e12).mono e13)
  · refine w_else rfl (decide_eq_false c2) ?_
    refine w_exit rfl ?_
    obtain rfl := Option.some.inj he
    refine w_finish fn_43 rs_43 .nil <| ⟨[_], _, rfl, hle, rfl, rfl⟩
theorem zedges.calls (hy : ZY st g n' p q l r σ' as_ bd Λ) (k : Nat) {H : Hp} {L : Items} {s : S} {y : S × Bool} {nm : ByteArray} {z : List zone_Spot} {vz : Value} (he : zedges st z k 0 s = some y) (hz : Ro k_zone_Spot H vz z) : Ct Tryd.prog 43 ⟨[.agg ⟨[.string nm, vz]⟩, .func (.yield l) #[] #[]]⟩ H (Λ s false ++ L) (fun v H' L' => ∃ its_, L' = its_ ++ L ∧ H.le H' ∧ its_ = Λ y.1 y.2 ∧ v = .tuple ⟨[]⟩) := by
 refine ct_ptr (O := fun its_ _ v => its_ = Λ y.1 y.2 ∧ v = .tuple ⟨[]⟩) ?_
 have hle : H.le H := .refl _
 refine ct_enter (args := [.agg ⟨[.string nm, vz]⟩, .func (.yield l) #[] #[]]) fn_43 rfl nt_43 rfl <| w_seq <| w_region rfl <| w_a rfl (o_box (v := .agg ⟨[.string nm, vz]⟩) rfl rfl) ?_
 rintro _ _ _ ⟨b1, rfl, rfl, rfl⟩
 refine w_done <| w_seq <| w_region rfl <| w_d rfl (d_fld (o' := 1) Tryd.underlying32 rfl sz30 rfl rfl rfl) <| w_d rfl (d_loado (v := vz) ty30 rfl .here rfl rfl rfl rfl) <| w_d rfl (d_len Tryd.underlying30 rfl hz.src) <| w_d rfl (d_move (v := .int .i64 0) rfl) <| w_done <| w_block <| w_loop <| w_sl 1 (.func (.yield l) #[] #[]) rfl <| w_sl 2 (.pointer (some ⟨b1, 0, none⟩)) rfl ?_
 refine w_sl 7 (vz) rfl <| w_sl 8 (.int .i64 (z.length : Int)) rfl <| w_sl 9 (.int .i64 0) rfl <| zedges.loop hy k hle he hz
end
/-! ### radome/zone.Where -/
noncomputable def zone_Where.C : Code := (Tryd.f14.body).getD .skip
noncomputable def zone_Where.st (k : Nat) (p a b : zone_Spot) (s : Int × Option Int × Bool) : Option ((Int × Option Int × Bool) × Bool) := (zone_on.f k a b p).bind fun y => if y = true then some ((1, none, s.2.2), true) else (zone_passes.f k a b p).bind fun y => if y = true then some ((s.1, s.2.1, !s.2.2), false) else some (s, false)
theorem zone_Where.st_mono (k : Nat) (p a b : zone_Spot) (s : Int × Option Int × Bool) : LeO (zone_Where.st k p a b s) (zone_Where.st (k + 1) p a b s) := by unfold zone_Where.st; exact LeO.bind (zone_on.mono k _ _ _) fun _ => LeO.ite (LeO.refl _) (LeO.bind (zone_passes.mono k _ _ _) fun _ => LeO.ite (LeO.refl _) (LeO.refl _))
def zone_Where.out (r : Int × (Option Int)) (H : Hp) (v : Value) : Prop := v = .tuple ⟨[.int .i64 r.1, errV 99 r.2]⟩
noncomputable def zone_Where.f (k : Nat) (z : zone_Zone) (p : zone_Spot) : Option (Int × (Option Int)) := (zone_Check.f k (⟨z.f_Name, z.f_Corners⟩ : zone_Zone)).bind fun y => if y.isSome = true then some (0, y) else (zedges (zone_Where.st k p) z.f_Corners k 0 (0, none, false)).bind fun y => if y.2 = true then some (y.1.1, y.1.2.1) else if y.1.2.2 = true then some (2, none) else some (0, none)
theorem zone_Where.mono : ∀ k y0 y1, LeO (zone_Where.f k y0 y1) (zone_Where.f (k + 1) y0 y1) := fun k _ _ => by unfold zone_Where.f; exact LeO.bind (zone_Check.mono k _) fun _ => LeO.ite (LeO.refl _) (LeO.bind (zedges_mono (zone_Where.st_mono k _) _ k _ _) fun _ => LeO.ite (LeO.refl _) (LeO.ite (LeO.refl _) (LeO.refl _)))
noncomputable abbrev zone_Where.F : Code := blkB (seqR (seqL (seqR (seqR (seqR zone_Where.C)))))
theorem zone_Where.rd (k : Nat) {p : zone_Spot} {l r b2 b3 b4 b7 : Nat} {σ : Nat → Value} (h3 : σ 3 = .pointer (some ⟨b2, 0, none⟩)) (h4 : σ 4 = .pointer (some ⟨b3, 0, none⟩)) (h5 : σ 5 = .pointer (some ⟨b4, 0, none⟩)) (h7 : σ 7 = .pointer (some ⟨b7, 0, none⟩)) :
  ZY (zone_Where.st k p) 14 30 17 18 l r σ (rngA zone_Where.F) (rngB zone_Where.F) (fun s b => [some (l, lpO 14 (fr 30 σ) #[17, 18] (rngA zone_Where.F) (rngB zone_Where.F) r b), some (r, .deferred (some [])), some (b7, .cells ⟨[.bool s.2.2]⟩ 4 (0, 0)), some (b4, .cells ⟨[errV 99 s.2.1]⟩ 36 (0, 0)), some (b3, .cells ⟨[.int .i64 s.1]⟩ 3 (0, 0)), some (b2, .cells ⟨[.int .i32 p.f_X, .int .i32 p.f_Y]⟩ 39 (0, 0))]) := by
 refine ⟨fun s => .here, ?_⟩
 intro H L x a b s y he
 have hle : H.le H := .refl _
 unfold zone_Where.st at he
 refine w_sl 3 _ h3 <| w_sl 4 _ h4 <| w_sl 5 _ h5 <| w_sl 7 _ h7 <| w_seq <| w_region rfl <| w_a rfl (o_alloc zr39 rfl) ?_
 rintro _ _ _ ⟨b1, rfl, rfl, rfl⟩
 refine w_a0 rfl (o_store (v := .agg ⟨[.int .i32 a.f_X, .int .i32 a.f_Y]⟩) sz39 rfl rfl rfl rfl (one_cons rfl (one_cons rfl one_nil)) .here (.here (.here .done))) ?_
 rintro _ _ _ ⟨rfl, rfl, rfl⟩
 refine w_done <| w_region rfl <| w_a rfl (o_alloc zr39 rfl) ?_
 rintro _ _ _ ⟨b2', rfl, rfl, rfl⟩
 refine w_a0 rfl (o_store (v := .agg ⟨[.int .i32 b.f_X, .int .i32 b.f_Y]⟩) sz39 rfl rfl rfl rfl (one_cons rfl (one_cons rfl one_nil)) .here (.here (.here .done))) ?_
 rintro _ _ _ ⟨rfl, rfl, rfl⟩
 refine w_done <| w_begin (.there (.there (.there .here))) <| w_block <| w_seq <| w_seq <| w_region rfl <| w_d rfl (d_loado (v := .agg ⟨[.int .i32 a.f_X, .int .i32 a.f_Y]⟩) ty39 rfl (.there .here) rfl rfl rfl rfl) <| w_d rfl (d_loado (v := .agg ⟨[.int .i32 b.f_X, .int .i32 b.f_Y]⟩) ty39 rfl .here rfl rfl rfl rfl) <| w_d rfl (d_loado (v := .agg ⟨[.int .i32 p.f_X, .int .i32 p.f_Y]⟩) ty39 rfl (.there (.there (.there (.there (.there (.there (.there (.there .here)))))))) rfl rfl rfl rfl) ?_
 obtain ⟨y3, hy4, he⟩ := Option.bind_eq_some_iff.1 he
 refine w_d rfl (call_d (o_call co44 (vs := [.agg ⟨[.int .i32 a.f_X, .int .i32 a.f_Y]⟩, .agg ⟨[.int .i32 b.f_X, .int .i32 b.f_Y]⟩, .agg ⟨[.int .i32 p.f_X, .int .i32 p.f_Y]⟩]) rfl (zone_on.calls k (a := a) (b := b) (p := p) hy4))) <| w_done ?_
 rcases its he with ⟨c7, he⟩ | ⟨c7, he⟩
 · refine w_then rfl c7 ?_
   refine w_seq <| w_region rfl <| w_a0 rfl (o_store (v := .int .i64 1) sz3 rfl rfl rfl rfl (one_cons rfl one_nil) (.there (.there (.there (.there (.there (.there (.there .here))))))) (.here .done)) ?_
   rintro _ _ _ ⟨rfl, rfl, rfl⟩
   refine w_a0 rfl (o_store (v := errV 99 none) sz36 rfl rfl rfl rfl (one_cons rfl one_nil) (.there (.there (.there (.there (.there (.there .here)))))) (.here .done)) ?_
   rintro _ _ _ ⟨rfl, rfl, rfl⟩
   refine w_done ?_
   obtain rfl := Option.some.inj he
   refine w_rret (.there (.there (.there .here))) <| ⟨[_, _], _, rfl, hle, rfl, rfl⟩
 · refine w_else rfl (Bool.eq_false_iff.2 c7) ?_
   refine w_skip <| w_seq <| w_region rfl <| w_d rfl (d_loado (v := .agg ⟨[.int .i32 a.f_X, .int .i32 a.f_Y]⟩) ty39 rfl (.there .here) rfl rfl rfl rfl) <| w_d rfl (d_loado (v := .agg ⟨[.int .i32 b.f_X, .int .i32 b.f_Y]⟩) ty39 rfl .here rfl rfl rfl rfl) <| w_d rfl (d_loado (v := .agg ⟨[.int .i32 p.f_X, .int .i32 p.f_Y]⟩) ty39 rfl (.there (.there (.there (.there (.there (.there (.there (.there .here)))))))) rfl rfl rfl rfl) ?_
   obtain ⟨y8, hy9, he⟩ := Option.bind_eq_some_iff.1 he
   refine w_d rfl (call_d (o_call co45 (vs := [.agg ⟨[.int .i32 a.f_X, .int .i32 a.f_Y]⟩, .agg ⟨[.int .i32 b.f_X, .int .i32 b.f_Y]⟩, .agg ⟨[.int .i32 p.f_X, .int .i32 p.f_Y]⟩]) rfl (zone_passes.calls k (a := a) (b := b) (p := p) hy9))) <| w_done ?_
   rcases its he with ⟨c12, he⟩ | ⟨c12, he⟩
   · refine w_then rfl c12 ?_
     refine w_region rfl <| w_d rfl (d_loado (v := .bool s.2.2) ty4 rfl (.there (.there (.there (.there (.there .here))))) rfl rfl rfl rfl) <| w_d rfl (d_not (b := s.2.2) rfl) <| w_a0 rfl (o_store (v := .bool (!s.2.2)) sz4 rfl rfl rfl rfl (one_cons rfl one_nil) (.there (.there (.there (.there (.there .here))))) (.here .done)) ?_
     rintro _ _ _ ⟨rfl, rfl, rfl⟩
     refine w_done <| w_inBlock ?_
     obtain rfl := Option.some.inj he
     refine w_rend (.there (.there (.there .here))) <| ⟨[_, _], _, rfl, hle, rfl, rfl⟩
   · refine w_else rfl (Bool.eq_false_iff.2 c12) ?_
     refine w_skip <| w_inBlock ?_
     obtain rfl := Option.some.inj he
     refine w_rend (.there (.there (.there .here))) <| ⟨[_, _], _, rfl, hle, rfl, rfl⟩
theorem zone_Where.calls (k : Nat) {H : Hp} {L : Items} {z : zone_Zone} {p : zone_Spot} {v0_z : Value} {r : Int × (Option Int)} (he : zone_Where.f k z p = some r) (h0_z : Ro k_zone_Spot H v0_z z.f_Corners) : Ct Tryd.prog 14 ⟨[.agg ⟨[.string z.f_Name, v0_z]⟩, .agg ⟨[.int .i32 p.f_X, .int .i32 p.f_Y]⟩]⟩ H L (fun v H' L' => L = L' ∧ H = H' ∧ v = .tuple ⟨[.int .i64 r.1, errV 99 r.2]⟩) := by
 refine ct_outs (O := zone_Where.out r) (fun _ _ h => h) ?_
 have hle : H.le H := .refl _
 unfold zone_Where.f at he
 refine ct_enter (args := [.agg ⟨[.string z.f_Name, v0_z]⟩, .agg ⟨[.int .i32 p.f_X, .int .i32 p.f_Y]⟩]) fn_14 rfl nt_14 rfl <| w_seq <| w_region rfl <| w_a rfl (o_box (v := .agg ⟨[.string z.f_Name, v0_z]⟩) rfl rfl) ?_
 rintro _ _ _ ⟨b1, rfl, rfl, rfl⟩
 refine w_a rfl (o_box (v := .agg ⟨[.int .i32 p.f_X, .int .i32 p.f_Y]⟩) rfl rfl) ?_
 rintro _ _ _ ⟨b2, rfl, rfl, rfl⟩
 refine w_a rfl (o_alloc zr3 rfl) ?_
 rintro _ _ _ ⟨b3, rfl, rfl, rfl⟩
 refine w_a rfl (o_alloc zr36 rfl) ?_
 rintro _ _ _ ⟨b4, rfl, rfl, rfl⟩
 refine w_done <| w_seq <| w_seq <| w_region rfl <| w_d rfl (d_loado (v := .agg ⟨[.string z.f_Name, v0_z]⟩) ty32 rfl (.there (.there (.there .here))) rfl rfl rfl rfl) ?_
 obtain ⟨y5, hy6, he⟩ := Option.bind_eq_some_iff.1 he
 refine w_d rfl (call_d (o_call co17 (vs := [.agg ⟨[.string z.f_Name, v0_z]⟩]) rfl (zone_Check.calls k (z := ⟨z.f_Name, z.f_Corners⟩) hy6 h0_z))) <| w_d rfl (d_assign (v := errV 99 y5) rfl) <| w_done <| w_seq <| w_region rfl <| w_d rfl (d_move (v := errV 99 y5) rfl) <| w_d rfl (d_nenil (e := y5) Tryd.underlying36 rfl) <| w_done ?_
 rcases its he with ⟨c9, he⟩ | ⟨c9, he⟩
 · refine w_then rfl c9 ?_
   refine w_seq <| w_region rfl <| w_d rfl (d_move (v := errV 99 y5) rfl) <| w_a0 rfl (o_store (v := .int .i64 0) sz3 rfl rfl rfl rfl (one_cons rfl one_nil) (.there .here) (.here .done)) ?_
   rintro _ _ _ ⟨rfl, rfl, rfl⟩
   refine w_a0 rfl (o_store (v := errV 99 y5) sz36 rfl rfl (errV_cells _ _) rfl (one_cons (errV_one _ _) one_nil) .here (.here .done)) ?_
   rintro _ _ _ ⟨rfl, rfl, rfl⟩
   refine w_done ?_
   obtain rfl := Option.some.inj he
   refine w_return fn_14 rs_14 (.box (v := .int .i64 0) rfl ty3 rfl rfl (.there .here) rfl (.box (v := errV 99 y5) rfl ty36 rfl rfl .here rfl .nil)) <| ⟨⟨[_, _, _, _], rfl⟩, hle, rfl⟩
 · refine w_else rfl (Bool.eq_false_iff.2 c9) ?_
   refine w_skip <| w_seq <| w_region rfl <| w_a rfl (o_alloc zr4 rfl) ?_
   rintro _ _ _ ⟨b10, rfl, rfl, rfl⟩
   refine w_a0 rfl (o_store (v := .bool false) sz4 rfl rfl rfl rfl (one_cons rfl one_nil) .here (.here .done)) ?_
   rintro _ _ _ ⟨rfl, rfl, rfl⟩
   refine w_done <| w_seq <| w_seq <| w_region rfl <| w_d rfl (d_loado (v := .agg ⟨[.string z.f_Name, v0_z]⟩) ty32 rfl (.there (.there (.there (.there .here)))) rfl rfl rfl rfl) <| w_d rfl (d_makeFunc (fs := [.agg ⟨[.string z.f_Name, v0_z]⟩]) (cs := []) rfl rfl) <| w_done <| w_block ?_
   obtain ⟨y11, hy12, he⟩ := Option.bind_eq_some_iff.1 he
   refine w_range (e := 43) (fs := [.agg ⟨[.string z.f_Name, v0_z]⟩]) rfl rfl rfl co43 fun l r => Ct.mono (zedges.calls (L := some (b1, .cells ⟨[.string z.f_Name, v0_z]⟩ 32 (0, 0)) :: L) (zone_Where.rd k (p := p) (l := l) (r := r) (b2 := b2) (b3 := b3) (b4 := b4) (b7 := b10) rfl rfl rfl rfl) k hy12 h0_z) ?_
   rintro v H' L' ⟨_, rfl, e13, rfl, rfl⟩
   refine ⟨y11.2, _, rfl, ?_⟩
   rcases its he with ⟨c14, he⟩ | ⟨c14, he⟩
   · rw [c14]
     obtain rfl := Option.some.inj he
     refine w_returnm (r := r) fn_14 rs_14 .here (.box (v := .int .i64 y11.1.1) rfl ty3 rfl rfl (.there (.there (.there .here))) rfl (.box (v := errV 99 y11.1.2.1) rfl ty36 rfl rfl (.there (.there .here)) rfl .nil)) <| ⟨⟨[_, _, _, _, _, _], rfl⟩, hle.trans e13, rfl⟩
   · rw [Bool.eq_false_iff.2 c14]
     refine w_inBlock <| w_seq <| w_seq <| w_region rfl <| w_d rfl (d_loado (v := .bool y11.1.2.2) ty4 rfl (.there .here) rfl rfl rfl rfl) <| w_done ?_
     rcases its he with ⟨c15, he⟩ | ⟨c15, he⟩
     · refine w_then rfl c15 ?_
       refine w_seq <| w_region rfl <| w_a0 rfl (o_store (v := .int .i64 2) sz3 rfl rfl rfl rfl (one_cons rfl one_nil) (.there (.there (.there .here))) (.here .done)) ?_
       rintro _ _ _ ⟨rfl, rfl, rfl⟩
       refine w_a0 rfl (o_store (v := errV 99 none) sz36 rfl rfl rfl rfl (one_cons rfl one_nil) (.there (.there .here)) (.here .done)) ?_
       rintro _ _ _ ⟨rfl, rfl, rfl⟩
       refine w_done ?_
       obtain rfl := Option.some.inj he
       refine w_returnm (r := r) fn_14 rs_14 .here (.box (v := .int .i64 2) rfl ty3 rfl rfl (.there (.there (.there .here))) rfl (.box (v := errV 99 none) rfl ty36 rfl rfl (.there (.there .here)) rfl .nil)) <| ⟨⟨[_, _, _, _, _, _], rfl⟩, hle.trans e13, rfl⟩
     · refine w_else rfl (Bool.eq_false_iff.2 c15) ?_
       refine w_skip <| w_seq <| w_region rfl <| w_a0 rfl (o_store (v := .int .i64 0) sz3 rfl rfl rfl rfl (one_cons rfl one_nil) (.there (.there (.there .here))) (.here .done)) ?_
       rintro _ _ _ ⟨rfl, rfl, rfl⟩
       refine w_a0 rfl (o_store (v := errV 99 none) sz36 rfl rfl rfl rfl (one_cons rfl one_nil) (.there (.there .here)) (.here .done)) ?_
       rintro _ _ _ ⟨rfl, rfl, rfl⟩
       refine w_done ?_
       obtain rfl := Option.some.inj he
       refine w_returnm (r := r) fn_14 rs_14 .here (.box (v := .int .i64 0) rfl ty3 rfl rfl (.there (.there (.there .here))) rfl (.box (v := errV 99 none) rfl ty36 rfl rfl (.there (.there .here)) rfl .nil)) <| ⟨⟨[_, _, _, _, _, _], rfl⟩, hle.trans e13, rfl⟩
/-! ### radome/zone.Area -/
noncomputable def zone_Area.C : Code := (Tryd.f15.body).getD .skip
noncomputable def zone_Area.st (a b : zone_Spot) (s : Int) : Option (Int × Bool) := some (w64 (s + (w64 ((w64 ((w64 (a.f_X)) * (w64 (b.f_Y)))) - (w64 ((w64 (b.f_X)) * (w64 (a.f_Y))))))), false)
def zone_Area.out (r : Int × (Option Int)) (H : Hp) (v : Value) : Prop := v = .tuple ⟨[.int .i64 r.1, errV 99 r.2]⟩
noncomputable def zone_Area.f (k : Nat) (z : zone_Zone) : Option (Int × (Option Int)) := (zone_Check.f k (⟨z.f_Name, z.f_Corners⟩ : zone_Zone)).bind fun y => if y.isSome = true then some (0, y) else (zedges zone_Area.st z.f_Corners k 0 0).bind fun y => if y.2 = true then none else some (max y.1 (w64 (0 - y.1)), none)
theorem zone_Area.mono : ∀ k y0, LeO (zone_Area.f k y0) (zone_Area.f (k + 1) y0) := fun k _ => by unfold zone_Area.f; exact LeO.bind (zone_Check.mono k _) fun _ => LeO.ite (LeO.refl _) (LeO.bind (zedges_mono (fun _ _ _ => LeO.refl _) _ k _ _) fun _ => LeO.ite (LeO.refl _) (LeO.refl _))
noncomputable abbrev zone_Area.F : Code := blkB (seqR (seqL (seqR (seqR (seqR zone_Area.C)))))
theorem zone_Area.rd {l r b5 : Nat} {σ : Nat → Value} (h5 : σ 5 = .pointer (some ⟨b5, 0, none⟩)) :
  ZY zone_Area.st 15 38 15 16 l r σ (rngA zone_Area.F) (rngB zone_Area.F) (fun s b => [some (l, lpO 15 (fr 38 σ) #[15, 16] (rngA zone_Area.F) (rngB zone_Area.F) r b), some (r, .deferred (some [])), some (b5, .cells ⟨[.int .i64 s]⟩ 2 (0, 0))]) := by
 refine ⟨fun s => .here, ?_⟩
 intro H L x a b s y he
 have hle : H.le H := .refl _
 unfold zone_Area.st at he
 refine w_sl 5 _ h5 <| w_seq <| w_region rfl <| w_a rfl (o_alloc zr39 rfl) ?_
 rintro _ _ _ ⟨b1, rfl, rfl, rfl⟩
 refine w_a0 rfl (o_store (v := .agg ⟨[.int .i32 a.f_X, .int .i32 a.f_Y]⟩) sz39 rfl rfl rfl rfl (one_cons rfl (one_cons rfl one_nil)) .here (.here (.here .done))) ?_
 rintro _ _ _ ⟨rfl, rfl, rfl⟩
 refine w_done <| w_region rfl <| w_a rfl (o_alloc zr39 rfl) ?_
 rintro _ _ _ ⟨b2, rfl, rfl, rfl⟩
 refine w_a0 rfl (o_store (v := .agg ⟨[.int .i32 b.f_X, .int .i32 b.f_Y]⟩) sz39 rfl rfl rfl rfl (one_cons rfl (one_cons rfl one_nil)) .here (.here (.here .done))) ?_
 rintro _ _ _ ⟨rfl, rfl, rfl⟩
 refine w_done <| w_begin (.there (.there (.there .here))) <| w_block <| w_region rfl <| w_d rfl (d_loado (v := .int .i64 s) ty2 rfl (.there (.there (.there (.there (.there .here))))) rfl rfl rfl rfl) <| w_d rfl (d_fld (o' := 0) Tryd.underlying39 rfl sz21 rfl rfl rfl) <| w_d rfl (d_loado (v := .int .i32 a.f_X) ty21 rfl (.there .here) rfl rfl rfl rfl) <| w_d rfl (d_conv (c := w64 (a.f_X)) Tryd.underlying21 Tryd.underlying2 rfl rfl) <| w_d rfl (d_fld (o' := 1) Tryd.underlying39 rfl sz21 rfl rfl rfl) <| w_d rfl (d_loado (v := .int .i32 b.f_Y) ty21 rfl .here rfl rfl rfl rfl) <| w_d rfl (d_conv (c := w64 (b.f_Y)) Tryd.underlying21 Tryd.underlying2 rfl rfl) <| w_d rfl (d_mul (c := w64 ((w64 (a.f_X)) * (w64 (b.f_Y)))) rfl rfl rfl) ?_
 refine w_d rfl (d_fld (o' := 0) Tryd.underlying39 rfl sz21 rfl rfl rfl) <| w_d rfl (d_loado (v := .int .i32 b.f_X) ty21 rfl .here rfl rfl rfl rfl) <| w_d rfl (d_conv (c := w64 (b.f_X)) Tryd.underlying21 Tryd.underlying2 rfl rfl) <| w_d rfl (d_fld (o' := 1) Tryd.underlying39 rfl sz21 rfl rfl rfl) <| w_d rfl (d_loado (v := .int .i32 a.f_Y) ty21 rfl (.there .here) rfl rfl rfl rfl) <| w_d rfl (d_conv (c := w64 (a.f_Y)) Tryd.underlying21 Tryd.underlying2 rfl rfl) <| w_d rfl (d_mul (c := w64 ((w64 (b.f_X)) * (w64 (a.f_Y)))) rfl rfl rfl) <| w_d rfl (d_sub (c := w64 ((w64 ((w64 (a.f_X)) * (w64 (b.f_Y)))) - (w64 ((w64 (b.f_X)) * (w64 (a.f_Y)))))) rfl rfl rfl) <| w_d rfl (d_add (c := w64 (s + (w64 ((w64 ((w64 (a.f_X)) * (w64 (b.f_Y)))) - (w64 ((w64 (b.f_X)) * (w64 (a.f_Y)))))))) rfl rfl rfl) <| w_a0 rfl (o_store (v := .int .i64 (w64 (s + (w64 ((w64 ((w64 (a.f_X)) * (w64 (b.f_Y)))) - (w64 ((w64 (b.f_X)) * (w64 (a.f_Y))))))))) sz2 rfl rfl rfl rfl (one_cons rfl one_nil) (.there (.there (.there (.there (.there .here))))) (.here .done)) ?_
 rintro _ _ _ ⟨rfl, rfl, rfl⟩
 refine w_done <| w_inBlock ?_
 obtain rfl := Option.some.inj he
 refine w_rend (.there (.there (.there .here))) <| ⟨[_, _], _, rfl, hle, rfl, rfl⟩
theorem zone_Area.calls (k : Nat) {H : Hp} {L : Items} {z : zone_Zone} {v0_z : Value} {r : Int × (Option Int)} (he : zone_Area.f k z = some r) (h0_z : Ro k_zone_Spot H v0_z z.f_Corners) : Ct Tryd.prog 15 ⟨[.agg ⟨[.string z.f_Name, v0_z]⟩]⟩ H L (fun v H' L' => L = L' ∧ H = H' ∧ v = .tuple ⟨[.int .i64 r.1, errV 99 r.2]⟩) := by
 refine ct_outs (O := zone_Area.out r) (fun _ _ h => h) ?_
 have hle : H.le H := .refl _
 unfold zone_Area.f at he
 refine ct_enter (args := [.agg ⟨[.string z.f_Name, v0_z]⟩]) fn_15 rfl nt_15 rfl <| w_seq <| w_region rfl <| w_a rfl (o_box (v := .agg ⟨[.string z.f_Name, v0_z]⟩) rfl rfl) ?_
 rintro _ _ _ ⟨b1, rfl, rfl, rfl⟩
 refine w_d rfl (d_assign (v := .int .i64 0) rfl) <| w_d rfl (d_assign (v := errV 99 none) rfl) <| w_done <| w_seq <| w_seq <| w_region rfl <| w_d rfl (d_loado (v := .agg ⟨[.string z.f_Name, v0_z]⟩) ty32 rfl .here rfl rfl rfl rfl) ?_
 obtain ⟨y2, hy3, he⟩ := Option.bind_eq_some_iff.1 he
 refine w_d rfl (call_d (o_call co17 (vs := [.agg ⟨[.string z.f_Name, v0_z]⟩]) rfl (zone_Check.calls k (z := ⟨z.f_Name, z.f_Corners⟩) hy3 h0_z))) <| w_d rfl (d_assign (v := errV 99 y2) rfl) <| w_done <| w_seq <| w_region rfl <| w_d rfl (d_move (v := errV 99 y2) rfl) <| w_d rfl (d_nenil (e := y2) Tryd.underlying36 rfl) <| w_done ?_
 rcases its he with ⟨c6, he⟩ | ⟨c6, he⟩
 · refine w_then rfl c6 ?_
   refine w_seq <| w_region rfl <| w_d rfl (d_move (v := errV 99 y2) rfl) <| w_d rfl (d_assign (v := .int .i64 0) rfl) <| w_d rfl (d_assign (v := errV 99 y2) rfl) <| w_done ?_
   obtain rfl := Option.some.inj he
   refine w_return fn_15 rs_15 (.tmp (v := .int .i64 0) rfl (.tmp (v := errV 99 y2) rfl .nil)) <| ⟨⟨[_], rfl⟩, hle, rfl⟩
 · refine w_else rfl (Bool.eq_false_iff.2 c6) ?_
   refine w_skip <| w_seq <| w_region rfl <| w_a rfl (o_alloc zr2 rfl) ?_
   rintro _ _ _ ⟨b7, rfl, rfl, rfl⟩
   refine w_a0 rfl (o_store (v := .int .i64 0) sz2 rfl rfl rfl rfl (one_cons rfl one_nil) .here (.here .done)) ?_
   rintro _ _ _ ⟨rfl, rfl, rfl⟩
   refine w_done <| w_seq <| w_seq <| w_region rfl <| w_d rfl (d_loado (v := .agg ⟨[.string z.f_Name, v0_z]⟩) ty32 rfl (.there .here) rfl rfl rfl rfl) <| w_d rfl (d_makeFunc (fs := [.agg ⟨[.string z.f_Name, v0_z]⟩]) (cs := []) rfl rfl) <| w_done <| w_block ?_
   obtain ⟨y8, hy9, he⟩ := Option.bind_eq_some_iff.1 he
   refine w_range (e := 43) (fs := [.agg ⟨[.string z.f_Name, v0_z]⟩]) rfl rfl rfl co43 fun l r => Ct.mono (zedges.calls (L := some (b1, .cells ⟨[.string z.f_Name, v0_z]⟩ 32 (0, 0)) :: L) (zone_Area.rd (l := l) (r := r) (b5 := b7) rfl) k hy9 h0_z) ?_
   rintro v H' L' ⟨_, rfl, e13, rfl, rfl⟩
   refine ⟨y8.2, _, rfl, ?_⟩
   rcases its he with ⟨c14, he⟩ | ⟨c14, he⟩
   · exact nomatch he
   · rw [Bool.eq_false_iff.2 c14]
     refine w_inBlock <| w_seq <| w_region rfl <| w_d rfl (d_loado (v := .int .i64 y8.1) ty2 rfl (.there .here) rfl rfl rfl rfl) <| w_d rfl (d_loado (v := .int .i64 y8.1) ty2 rfl (.there .here) rfl rfl rfl rfl) <| w_d rfl (d_neg (c := w64 (0 - y8.1)) rfl rfl) <| w_d rfl (d_max rfl rfl) <| w_d rfl (d_assign (v := .int .i64 (max y8.1 (w64 (0 - y8.1)))) rfl) <| w_d rfl (d_assign (v := errV 99 none) rfl) <| w_done ?_
     obtain rfl := Option.some.inj he
     refine w_returnm (r := r) fn_15 rs_15 .here (.tmp (v := .int .i64 (max y8.1 (w64 (0 - y8.1)))) rfl (.tmp (v := errV 99 none) rfl .nil)) <| ⟨⟨[_, _, _], rfl⟩, hle.trans e13, rfl⟩


/-! ### radome/zone.check -/
noncomputable def zone_check.C : Code := (Tryd.f41.body).getD .skip
def zone_check.out (r : (Option Int)) (H : Hp) (v : Value) : Prop := v = errV 99 r
abbrev zone_check.R (H0 : Hp) (L : Items) (r : (Option Int)) : Value → Hp → Items → Prop := fun v H' L' => (∃ p, L' = p ++ L) ∧ H0.le H' ∧ zone_check.out r H' v
structure zone_check.Hs where
 l0 : (Option Int) → (List (ByteArray × Bool)) → Bool → (List zone_Zone) → Int → Int → Option (Option Int)
noncomputable def zone_check.b0 (k : Nat) (h : zone_check.Hs)  (t2 : Option Int) (names : List (ByteArray × Bool)) (twice : Bool) (t13 : List zone_Zone) (t14 : Int) (t15 : Int) : Option (Option Int) := if t15 < t14 then (if (0 : Int) ≤ t15 ∧ t15 < (t13.length : Int) then ((zone_Check.f k (rd t13 t15)).bind fun y12 => if y12.isSome = true then (some (y12)) else (h.l0 t2 (mput names ((rd t13 t15).f_Name) true) (twice || (mget names ((rd t13 t15).f_Name) false)) t13 t14 (w64 (t15 + 1)))) else none) else (if twice = true then (some (some 9)) else (some (none)))
noncomputable def zone_check.hs : Nat → zone_check.Hs
 | 0 => ⟨fun _ _ _ _ _ _ => none⟩
 | k + 1 => ⟨fun x0 x1 x2 x3 x4 x5 => zone_check.b0 k (zone_check.hs k) x0 x1 x2 x3 x4 x5⟩
noncomputable def zone_check.f (k : Nat) (l : List zone_Zone) : Option (Option Int) := (fun h : zone_check.Hs => if 64 < (l.length : Int) then (some (some 2)) else (h.l0 none [] false l (l.length : Int) 0)) (zone_check.hs k)
structure zone_check.LE (h h' : zone_check.Hs) : Prop where
 l0 : ∀ y0 y1 y2 y3 y4 y5, LeO (h.l0 y0 y1 y2 y3 y4 y5) (h'.l0 y0 y1 y2 y3 y4 y5)
theorem zone_check.b0_mono {k : Nat} {h h' : zone_check.Hs} (hl : zone_check.LE h h') : ∀ y0 y1 y2 y3 y4 y5, LeO (zone_check.b0 k h y0 y1 y2 y3 y4 y5) (zone_check.b0 (k + 1) h' y0 y1 y2 y3 y4 y5) := fun _ _ _ _ _ _ => (LeO.ite (LeO.ite (LeO.bind (zone_Check.mono k _) fun _ => LeO.ite (LeO.refl _) (hl.l0 _ _ _ _ _ _)) (LeO.refl _)) (LeO.ite (LeO.refl _) (LeO.refl _)))
theorem zone_check.hs_mono : ∀ k, zone_check.LE (zone_check.hs k) (zone_check.hs (k + 1))
 | 0 => ⟨fun _ _ _ _ _ _ => LeO.none _⟩
 | k + 1 => ⟨zone_check.b0_mono (k := k) (zone_check.hs_mono k)⟩
theorem zone_check.mono : ∀ k y0, LeO (zone_check.f k y0) (zone_check.f (k + 1) y0) := fun k _ => have hl := zone_check.hs_mono k; by unfold zone_check.f; exact (LeO.ite (LeO.refl _) (hl.l0 _ _ _ _ _ _))
noncomputable def zone_check.Kl0 : List Item := .code (lopB (blkB (seqR (seqL (seqR (seqR (seqR (seqR zone_check.C)))))))) :: .inLoop (lopB (blkB (seqR (seqL (seqR (seqR (seqR (seqR zone_check.C)))))))) :: .inBlock 0 :: .code (seqR (seqR (seqR (seqR (seqR zone_check.C))))) :: []
structure zone_check.OK (h : zone_check.Hs) : Prop where
 l0 : ∀ {H0 H : Hp} {L : Items} {r : (Option Int)} {jk_ : Nat → Value} {t2 : Option Int} {names : List (ByteArray × Bool)} {twice : Bool} {t13 : List zone_Zone} {t14 : Int} {t15 : Int} {v_names : Value} {v_t13 : Value} {i_names : Item'} (_ : H0.le H) (_he : h.l0 t2 names twice t13 t14 t15 = some r) (_h_names : Mp (mkStr (fun b => .bool b)) H 117 i_names v_names names) (_h_t13 : Src k_zone_Zone H L v_t13 t13), Wp Tryd.prog 41 37 zone_check.Kl0 (upd (upd (upd (upd (upd (upd jk_ 2 (errV 99 t2)) 3 (v_names)) 4 (.bool twice)) 13 (v_t13)) 14 (.int .i64 t14)) 15 (.int .i64 t15)) H (i_names :: L) (zone_check.R H0 L r)
theorem zone_check.b0_ok {k : Nat} {h : zone_check.Hs} (hh : zone_check.OK h) {H0 H : Hp} {L : Items} {r : (Option Int)} {jk_ : Nat → Value} {t2 : Option Int} {names : List (ByteArray × Bool)} {twice : Bool} {t13 : List zone_Zone} {t14 : Int} {t15 : Int} {v_names : Value} {v_t13 : Value} {i_names : Item'} (hle : H0.le H) (he : zone_check.b0 k h t2 names twice t13 t14 t15 = some r) (h_names : Mp (mkStr (fun b => .bool b)) H 117 i_names v_names names) (h_t13 : Src k_zone_Zone H L v_t13 t13) : Wp Tryd.prog 41 37 zone_check.Kl0 (upd (upd (upd (upd (upd (upd jk_ 2 (errV 99 t2)) 3 (v_names)) 4 (.bool twice)) 13 (v_t13)) 14 (.int .i64 t14)) 15 (.int .i64 t15)) H (i_names :: L) (zone_check.R H0 L r) := by
 unfold zone_check.b0 at he
 unfold zone_check.Kl0
 refine w_seq <| w_region rfl <| w_d rfl (d_lss rfl rfl) <| w_done <| w_seq ?_
 rcases its he with ⟨c5, he⟩ | ⟨c5, he⟩
 ·
  refine w_then rfl (decide_eq_true c5) <| w_skip <| w_seq <| w_block <| w_seq <| w_region rfl ?_
  obtain ⟨c6, he⟩ := rq he
  refine w_d rfl (d_index (sz := 2) Tryd.underlying26 sz32 rfl h_t13.th rfl c6) ?_
  obtain ⟨_, l7, r8⟩ := el_of (kd := k_zone_Zone) h_t13.th c6
  obtain ⟨v9, rfl, h10⟩ := k_zone_Zone_out r8
  refine w_d rfl (d_load (v := .agg ⟨[.string ((rd t13 t15).f_Name), v9]⟩) (cs := [.string ((rd t13 t15).f_Name), v9]) ty32 rfl rfl (by decide) l7 rfl) <| w_a rfl (o_alloc zr32 rfl) ?_
  rintro _ _ _ ⟨b11, rfl, rfl, rfl⟩
  refine w_a0 rfl (o_store (v := .agg ⟨[.string ((rd t13 t15).f_Name), v9]⟩) sz32 rfl rfl rfl rfl (one_cons rfl (one_cons (h10.one) one_nil)) .here (.here (.here .done))) ?_
  rintro _ _ _ ⟨rfl, rfl, rfl⟩
  refine w_done <| w_seq <| w_seq <| w_region rfl <| w_d rfl (d_loado (v := .agg ⟨[.string ((rd t13 t15).f_Name), v9]⟩) ty32 rfl .here rfl rfl rfl rfl) ?_
  obtain ⟨y12, hy13, he⟩ := Option.bind_eq_some_iff.1 he
  refine w_d rfl (call_d (o_call co17 (vs := [.agg ⟨[.string ((rd t13 t15).f_Name), v9]⟩]) rfl (zone_Check.calls k (z := (rd t13 t15)) hy13 h10))) <| w_d rfl (d_assign (v := errV 99 y12) rfl) <| w_done <| w_seq <| w_region rfl <| w_d rfl (d_move (v := errV 99 y12) rfl) <| w_d rfl (d_nenil (e := y12) Tryd.underlying36 rfl) <| w_done ?_
  rcases its he with ⟨c16, he⟩ | ⟨c16, he⟩
  ·
   refine w_then rfl c16 <| w_seq <| w_region rfl <| w_d rfl (d_move (v := errV 99 y12) rfl) <| w_d rfl (d_assign (v := errV 99 y12) rfl) <| w_done ?_
   obtain rfl := Option.some.inj he
   refine w_return fn_41 rs_41 (.tmp (v := errV 99 y12) rfl .nil) <| ⟨⟨[_, _], rfl⟩, hle, rfl⟩
  ·
   refine w_else rfl (Bool.eq_false_iff.2 c16) <| w_skip <| w_seq <| w_region rfl <| w_d rfl (d_move (v := .bool twice) rfl) <| w_d rfl (d_move (v := .bool twice) rfl) <| w_g (g := !twice) rfl rfl rfl wn_f (fun g17 => d_move (v := v_names) rfl) <| w_g (g := !twice) rfl rfl rfl wn_f (fun g18 => d_fld (o' := 0) Tryd.underlying32 rfl sz9 rfl rfl rfl) <| w_g (g := !twice) rfl rfl rfl wn_f (fun g19 => d_loado (v := .string ((rd t13 t15).f_Name)) ty9 (cvt g19) .here rfl rfl rfl rfl) <| w_g (g := !twice) rfl rfl rfl wn_f (fun g20 => d_lookup (mk := (mkStr (fun b => .bool b))) (a := (rd t13 t15).f_Name) (d := false) Tryd.underlying117 Tryd.underlying9 rfl (cvt g20) (cvt g20) h_names (.there .here)) <| w_d rfl (d_or' (b := twice) (p := (mget names ((rd t13 t15).f_Name) false)) rfl rfl rfl) <| w_d rfl (d_assign (v := .bool (twice || (mget names ((rd t13 t15).f_Name) false))) rfl) ?_
   refine w_done <| w_region rfl <| w_d rfl (d_move (v := v_names) rfl) <| w_d rfl (d_fld (o' := 0) Tryd.underlying32 rfl sz9 rfl rfl rfl) <| w_d rfl (d_loado (v := .string ((rd t13 t15).f_Name)) ty9 rfl .here rfl rfl rfl rfl) <| w_a0 rfl (o_mapUpdate (mk := (mkStr (fun b => .bool b))) (a := (rd t13 t15).f_Name) (c := true) (F := fun z_ => some (b11, .cells ⟨[.string ((rd t13 t15).f_Name), v9]⟩ 32 (0, 0)) :: z_ :: L) Tryd.underlying117 Tryd.underlying9 rfl rfl rfl h_names (fun _ => (.there .here))) ?_
   rintro _ _ _ ⟨i21, rfl, rfl, rfl, h22⟩
   refine w_done <| w_inBlock <| w_region rfl <| w_d rfl (d_add (c := w64 (t15 + 1)) rfl rfl rfl) <| w_d rfl (d_move (v := .int .i64 (w64 (t15 + 1))) rfl) <| w_done <| w_inLoop <| w_del .here <| w_sl 2 (errV 99 t2) rfl <| w_sl 3 (v_names) rfl <| w_sl 4 (.bool (twice || (mget names ((rd t13 t15).f_Name) false))) rfl <| w_sl 13 (v_t13) rfl ?_
   refine w_sl 14 (.int .i64 t14) rfl <| w_sl 15 (.int .i64 (w64 (t15 + 1))) rfl <| hh.l0 hle he h22 h_t13
 ·
  refine w_else rfl (decide_eq_false c5) <| w_exit rfl <| w_seq <| w_seq <| w_region rfl <| w_d rfl (d_move (v := .bool twice) rfl) <| w_done ?_
  rcases its he with ⟨c23, he⟩ | ⟨c23, he⟩
  ·
   refine w_then rfl c23 <| w_seq <| w_region rfl <| w_d rfl (d_iface (v := .int .i64 9) Tryd.underlying99 rfl rfl) <| w_d rfl (d_assign (v := errV 99 (some 9)) rfl) <| w_done ?_
   obtain rfl := Option.some.inj he
   refine w_return fn_41 rs_41 (.tmp (v := errV 99 (some 9)) rfl .nil) <| ⟨⟨[_], rfl⟩, hle, rfl⟩
  ·
   refine w_else rfl (Bool.eq_false_iff.2 c23) <| w_skip <| w_seq <| w_region rfl <| w_d rfl (d_assign (v := errV 99 none) rfl) <| w_done ?_
   obtain rfl := Option.some.inj he
   refine w_return fn_41 rs_41 (.tmp (v := errV 99 none) rfl .nil) <| ⟨⟨[_], rfl⟩, hle, rfl⟩
theorem zone_check.ok : ∀ k, zone_check.OK (zone_check.hs k)
 | 0 => ⟨(by intros; exact nomatch (show none = some _ from by assumption))⟩
 | k + 1 => ⟨zone_check.b0_ok (k := k) (zone_check.ok k)⟩
theorem zone_check.calls (k : Nat) {H : Hp} {L : Items} {l : List zone_Zone} {v0_l : Value} {r : (Option Int)} (he : zone_check.f k l = some r) (h0_l : Src k_zone_Zone H L v0_l l) : Ct Tryd.prog 41 ⟨[v0_l]⟩ H L (fun v H' L' => L = L' ∧ H = H' ∧ v = errV 99 r) := by
 refine ct_outs (O := zone_check.out r) (fun _ _ h => h) ?_
 have hle : H.le H := .refl _
 have hh := zone_check.ok k
 unfold zone_check.f at he
 refine ct_enter (args := [v0_l]) fn_41 rfl nt_41 rfl <| w_seq <| w_region rfl <| w_d rfl (d_assign (v := errV 99 none) rfl) <| w_done <| w_seq <| w_seq <| w_region rfl <| w_d rfl (d_move (v := v0_l) rfl) <| w_d rfl (d_len Tryd.underlying26 rfl h0_l) <| w_d rfl (d_gtr rfl rfl) <| w_done ?_
 rcases its he with ⟨c1, he⟩ | ⟨c1, he⟩
 ·
  refine w_then rfl (decide_eq_true c1) <| w_seq <| w_region rfl <| w_d rfl (d_iface (v := .int .i64 2) Tryd.underlying99 rfl rfl) <| w_d rfl (d_assign (v := errV 99 (some 2)) rfl) <| w_done ?_
  obtain rfl := Option.some.inj he
  refine w_return fn_41 rs_41 (.tmp (v := errV 99 (some 2)) rfl .nil) <| ⟨⟨[], rfl⟩, hle, rfl⟩
 ·
  refine w_else rfl (decide_eq_false c1) <| w_skip <| w_seq <| w_region rfl <| w_a rfl (o_makeMap (mk := (mkStr (fun b => .bool b)))) ?_
  rintro v2 _ _ ⟨i3, rfl, rfl, h4⟩
  refine w_d rfl (d_assign (v := v2) rfl) <| w_done <| w_seq <| w_region rfl <| w_d rfl (d_assign (v := .bool false) rfl) <| w_done <| w_seq <| w_seq <| w_region rfl <| w_d rfl (d_move (v := v0_l) rfl) <| w_d rfl (d_len Tryd.underlying26 rfl h0_l.th) <| w_d rfl (d_move (v := .int .i64 0) rfl) ?_
  refine w_done <| w_block <| w_loop <| w_sl 2 (errV 99 none) rfl <| w_sl 3 (v2) rfl <| w_sl 4 (.bool false) rfl <| w_sl 13 (v0_l) rfl <| w_sl 14 (.int .i64 (l.length : Int)) rfl <| w_sl 15 (.int .i64 0) rfl <| hh.l0 hle he h4 h0_l
/-! ### radome/zone.Hits -/
noncomputable def zone_Hits.C : Code := (Tryd.f11.body).getD .skip
def zone_Hits.out (r : (List ByteArray) × (Option Int)) (H : Hp) (v : Value) : Prop := ∃ v0, v = .tuple ⟨[v0, errV 99 r.2]⟩ ∧ Ro Kd.str H v0 r.1
theorem zone_Hits.out_mono (r : (List ByteArray) × (Option Int)) {H H' : Hp} {v : Value} (hle : H.le H') (h : zone_Hits.out r H v) : zone_Hits.out r H' v := by
 obtain ⟨v0, rfl, h0⟩ := h; exact ⟨v0, rfl, h0.mono hle⟩
abbrev zone_Hits.R (H0 : Hp) (L : Items) (r : (List ByteArray) × (Option Int)) : Value → Hp → Items → Prop := fun v H' L' => (∃ p, L' = p ++ L) ∧ H0.le H' ∧ zone_Hits.out r H' v
structure zone_Hits.Hs where
 l0 : Int → Int → (List ByteArray) → (Option Int) → (List ByteArray) → (List zone_Zone) → Int → Int → Option ((List ByteArray) × (Option Int))
noncomputable def zone_Hits.b0 (k : Nat) (h : zone_Hits.Hs)  (p_0 : Int) (p_1 : Int) (t4 : List ByteArray) (t5 : Option Int) (out : List ByteArray) (t17 : List zone_Zone) (t18 : Int) (t19 : Int) : Option ((List ByteArray) × (Option Int)) := if t19 < t18 then (if (0 : Int) ≤ t19 ∧ t19 < (t17.length : Int) then ((zone_Where.f k (rd t17 t19) (⟨p_0, p_1⟩ : zone_Spot)).bind fun y14 => if y14.2.isSome = true then (some ([], y14.2)) else (if y14.1 = 0 then (h.l0 p_0 p_1 t4 t5 out t17 t18 (w64 (t19 + 1))) else (if out.length + 1 ≤ 8796093022080 then (h.l0 p_0 p_1 t4 t5 (out ++ [(rd t17 t19).f_Name]) t17 t18 (w64 (t19 + 1))) else none))) else none) else (some (out, none))
noncomputable def zone_Hits.hs : Nat → zone_Hits.Hs
 | 0 => ⟨fun _ _ _ _ _ _ _ _ => none⟩
 | k + 1 => ⟨fun x0 x1 x2 x3 x4 x5 x6 x7 => zone_Hits.b0 k (zone_Hits.hs k) x0 x1 x2 x3 x4 x5 x6 x7⟩
noncomputable def zone_Hits.f (k : Nat) (l : List zone_Zone) (p : zone_Spot) : Option ((List ByteArray) × (Option Int)) := (fun h : zone_Hits.Hs => (zone_check.f k l).bind fun y2 => if y2.isSome = true then (some ([], y2)) else (h.l0 p.f_X p.f_Y [] none [] l (l.length : Int) 0)) (zone_Hits.hs k)
structure zone_Hits.LE (h h' : zone_Hits.Hs) : Prop where
 l0 : ∀ y0 y1 y2 y3 y4 y5 y6 y7, LeO (h.l0 y0 y1 y2 y3 y4 y5 y6 y7) (h'.l0 y0 y1 y2 y3 y4 y5 y6 y7)
theorem zone_Hits.b0_mono {k : Nat} {h h' : zone_Hits.Hs} (hl : zone_Hits.LE h h') : ∀ y0 y1 y2 y3 y4 y5 y6 y7, LeO (zone_Hits.b0 k h y0 y1 y2 y3 y4 y5 y6 y7) (zone_Hits.b0 (k + 1) h' y0 y1 y2 y3 y4 y5 y6 y7) := fun _ _ _ _ _ _ _ _ => (LeO.ite (LeO.ite (LeO.bind (zone_Where.mono k _ _) fun _ => LeO.ite (LeO.refl _) (LeO.ite (hl.l0 _ _ _ _ _ _ _ _) (LeO.ite (hl.l0 _ _ _ _ _ _ _ _) (LeO.refl _)))) (LeO.refl _)) (LeO.refl _))
theorem zone_Hits.hs_mono : ∀ k, zone_Hits.LE (zone_Hits.hs k) (zone_Hits.hs (k + 1))
 | 0 => ⟨fun _ _ _ _ _ _ _ _ => LeO.none _⟩
 | k + 1 => ⟨zone_Hits.b0_mono (k := k) (zone_Hits.hs_mono k)⟩
theorem zone_Hits.mono : ∀ k y0 y1, LeO (zone_Hits.f k y0 y1) (zone_Hits.f (k + 1) y0 y1) := fun k _ _ => have hl := zone_Hits.hs_mono k; by unfold zone_Hits.f; exact (LeO.bind (zone_check.mono k _) fun _ => LeO.ite (LeO.refl _) (hl.l0 _ _ _ _ _ _ _ _))
noncomputable def zone_Hits.Kl0 : List Item := .code (lopB (blkB (seqR (seqL (seqR (seqR (seqR zone_Hits.C))))))) :: .inLoop (lopB (blkB (seqR (seqL (seqR (seqR (seqR zone_Hits.C))))))) :: .inBlock 0 :: .code (seqR (seqR (seqR (seqR zone_Hits.C)))) :: []
structure zone_Hits.OK (h : zone_Hits.Hs) : Prop where
 l0 : ∀ {H0 H : Hp} {L : Items} {r : (List ByteArray) × (Option Int)} {jk_ : Nat → Value} {p_0 : Int} {p_1 : Int} {t4 : List ByteArray} {t5 : Option Int} {out : List ByteArray} {t17 : List zone_Zone} {t18 : Int} {t19 : Int} {v_t4 : Value} {v_out : Value} {v_t17 : Value} {i_out : Item'} {b_p : Nat} (_ : H0.le H) (_he : h.l0 p_0 p_1 t4 t5 out t17 t18 t19 = some r) (_h_t4 : Ro Kd.str H v_t4 t4) (_h_out : Sl Kd.str H 9 i_out v_out out) (_h_t17 : Src k_zone_Zone H L v_t17 t17), Wp Tryd.prog 11 41 zone_Hits.Kl0 (upd (upd (upd (upd (upd (upd (upd jk_ 3 (.pointer (some ⟨b_p, 0, none⟩))) 4 (v_t4)) 5 (errV 99 t5)) 7 (v_out)) 17 (v_t17)) 18 (.int .i64 t18)) 19 (.int .i64 t19)) H (i_out :: some (b_p, .cells ⟨[.int .i32 p_0, .int .i32 p_1]⟩ 39 (0, 0)) :: L) (zone_Hits.R H0 L r)
theorem zone_Hits.b0_ok {k : Nat} {h : zone_Hits.Hs} (hh : zone_Hits.OK h) {H0 H : Hp} {L : Items} {r : (List ByteArray) × (Option Int)} {jk_ : Nat → Value} {p_0 : Int} {p_1 : Int} {t4 : List ByteArray} {t5 : Option Int} {out : List ByteArray} {t17 : List zone_Zone} {t18 : Int} {t19 : Int} {v_t4 : Value} {v_out : Value} {v_t17 : Value} {i_out : Item'} {b_p : Nat} (hle : H0.le H) (he : zone_Hits.b0 k h p_0 p_1 t4 t5 out t17 t18 t19 = some r) (h_t4 : Ro Kd.str H v_t4 t4) (h_out : Sl Kd.str H 9 i_out v_out out) (h_t17 : Src k_zone_Zone H L v_t17 t17) : Wp Tryd.prog 11 41 zone_Hits.Kl0 (upd (upd (upd (upd (upd (upd (upd jk_ 3 (.pointer (some ⟨b_p, 0, none⟩))) 4 (v_t4)) 5 (errV 99 t5)) 7 (v_out)) 17 (v_t17)) 18 (.int .i64 t18)) 19 (.int .i64 t19)) H (i_out :: some (b_p, .cells ⟨[.int .i32 p_0, .int .i32 p_1]⟩ 39 (0, 0)) :: L) (zone_Hits.R H0 L r) := by
 unfold zone_Hits.b0 at he
 unfold zone_Hits.Kl0
 refine w_seq <| w_region rfl <| w_d rfl (d_lss rfl rfl) <| w_done <| w_seq ?_
 rcases its he with ⟨c7, he⟩ | ⟨c7, he⟩
 ·
  refine w_then rfl (decide_eq_true c7) <| w_skip <| w_seq <| w_block <| w_seq <| w_region rfl ?_
  obtain ⟨c8, he⟩ := rq he
  refine w_d rfl (d_index (sz := 2) Tryd.underlying26 sz32 rfl h_t17.th.th rfl c8) ?_
  obtain ⟨_, l9, r10⟩ := el_of (kd := k_zone_Zone) h_t17.th.th c8
  obtain ⟨v11, rfl, h12⟩ := k_zone_Zone_out r10
  refine w_d rfl (d_load (v := .agg ⟨[.string ((rd t17 t19).f_Name), v11]⟩) (cs := [.string ((rd t17 t19).f_Name), v11]) ty32 rfl rfl (by decide) l9 rfl) <| w_a rfl (o_alloc zr32 rfl) ?_
  rintro _ _ _ ⟨b13, rfl, rfl, rfl⟩
  refine w_a0 rfl (o_store (v := .agg ⟨[.string ((rd t17 t19).f_Name), v11]⟩) sz32 rfl rfl rfl rfl (one_cons rfl (one_cons (h12.one) one_nil)) .here (.here (.here .done))) ?_
  rintro _ _ _ ⟨rfl, rfl, rfl⟩
  refine w_done <| w_seq <| w_region rfl <| w_d rfl (d_loado (v := .agg ⟨[.string ((rd t17 t19).f_Name), v11]⟩) ty32 rfl .here rfl rfl rfl rfl) <| w_d rfl (d_loado (v := .agg ⟨[.int .i32 p_0, .int .i32 p_1]⟩) ty39 rfl (.there (.there .here)) rfl rfl rfl rfl) ?_
  obtain ⟨y14, hy15, he⟩ := Option.bind_eq_some_iff.1 he
  refine w_d rfl (call_d (o_call co14 (vs := [.agg ⟨[.string ((rd t17 t19).f_Name), v11]⟩, .agg ⟨[.int .i32 p_0, .int .i32 p_1]⟩]) rfl (zone_Where.calls k (z := (rd t17 t19)) (p := ⟨p_0, p_1⟩) hy15 h12))) <| w_d rfl (d_move (v := .tuple ⟨[.int .i64 y14.1, errV 99 y14.2]⟩) rfl) <| w_d rfl (d_ext (vs := [.int .i64 y14.1, errV 99 y14.2]) rfl rfl) <| w_d rfl (d_ext (vs := [.int .i64 y14.1, errV 99 y14.2]) rfl rfl) <| w_d rfl (d_assign (v := .int .i64 y14.1) rfl) <| w_d rfl (d_assign (v := errV 99 y14.2) rfl) <| w_done <| w_seq <| w_seq <| w_region rfl <| w_d rfl (d_move (v := errV 99 y14.2) rfl) <| w_d rfl (d_nenil (e := y14.2) Tryd.underlying36 rfl) ?_
  refine w_done ?_
  rcases its he with ⟨c18, he⟩ | ⟨c18, he⟩
  ·
   refine w_then rfl c18 <| w_seq <| w_region rfl <| w_d rfl (d_move (v := errV 99 y14.2) rfl) <| w_d rfl (d_assign (v := .slice none 0 0) rfl) <| w_d rfl (d_assign (v := errV 99 y14.2) rfl) <| w_done ?_
   obtain rfl := Option.some.inj he
   refine w_return fn_11 rs_11 (.tmp (v := .slice none 0 0) rfl (.tmp (v := errV 99 y14.2) rfl .nil)) <| ⟨⟨[_, _, _], rfl⟩, hle, ⟨.slice none 0 0, rfl, (ro_nil _ _)⟩⟩
  ·
   refine w_else rfl (Bool.eq_false_iff.2 c18) <| w_skip <| w_seq <| w_region rfl <| w_d rfl (d_move (v := .int .i64 y14.1) rfl) <| w_d rfl (d_neq rfl rfl) <| w_done ?_
   rcases its he with ⟨c19, he⟩ | ⟨c19, he⟩
   ·
    refine w_else rfl (nd_t c19) <| w_skip <| w_inBlock <| w_region rfl <| w_d rfl (d_add (c := w64 (t19 + 1)) rfl rfl rfl) <| w_d rfl (d_move (v := .int .i64 (w64 (t19 + 1))) rfl) <| w_done <| w_inLoop <| w_del .here <| w_sl 3 (.pointer (some ⟨b_p, 0, none⟩)) rfl <| w_sl 4 (v_t4) rfl <| w_sl 5 (errV 99 t5) rfl ?_
    refine w_sl 7 (v_out) rfl <| w_sl 17 (v_t17) rfl <| w_sl 18 (.int .i64 t18) rfl <| w_sl 19 (.int .i64 (w64 (t19 + 1))) rfl <| hh.l0 hle he h_t4 h_out h_t17
   ·
    refine w_then rfl (nd_f c19) <| w_region rfl <| w_d rfl (d_move (v := v_out) rfl) <| w_d rfl (d_fld (o' := 0) Tryd.underlying32 rfl sz9 rfl rfl rfl) <| w_d rfl (d_loado (v := .string ((rd t17 t19).f_Name)) ty9 rfl .here rfl rfl rfl rfl) <| w_a rfl (o_buildSlice' (kd := Kd.str) (css := [[.string ((rd t17 t19).f_Name)]]) (xs := [(rd t17 t19).f_Name]) (parts := [(0, .string ((rd t17 t19).f_Name))]) Tryd.underlying34 ti9 rfl ⟨_, _, rfl, rfl, rfl⟩ ⟨rfl, trivial⟩ rfl (by decide)) ?_
    rintro v20 _ _ ⟨i21, rfl, rfl, h22⟩
    obtain ⟨c23, he⟩ := rq he
    refine w_a rfl (o_append' (kd := Kd.str) (F := fun z_ => i21 :: some (b13, .cells ⟨[.string ((rd t17 t19).f_Name), v11]⟩ 32 (0, 0)) :: z_ :: some (b_p, .cells ⟨[.int .i32 p_0, .int .i32 p_1]⟩ 39 (0, 0)) :: L) Tryd.underlying34 Tryd.underlying34 ti9 rfl (by first | omega | (simp only [List.nil_append, List.length_cons, List.length_nil]; omega)) rfl rfl h_out (h22.src .here) (fun _ => (.there (.there .here)))) ?_
    rintro v24 _ _ ⟨i25, rfl, rfl, h26⟩
    refine w_d rfl (d_assign (v := v24) rfl) <| w_done <| w_inBlock <| w_region rfl <| w_d rfl (d_add (c := w64 (t19 + 1)) rfl rfl rfl) <| w_d rfl (d_move (v := .int .i64 (w64 (t19 + 1))) rfl) <| w_done <| w_inLoop <| w_del (.there .here) <| w_del .here <| w_sl 3 (.pointer (some ⟨b_p, 0, none⟩)) rfl <| w_sl 4 (v_t4) rfl ?_
    refine w_sl 5 (errV 99 t5) rfl <| w_sl 7 (v24) rfl <| w_sl 17 (v_t17) rfl <| w_sl 18 (.int .i64 t18) rfl <| w_sl 19 (.int .i64 (w64 (t19 + 1))) rfl <| hh.l0 hle he h_t4 h26 h_t17
 ·
  refine w_else rfl (decide_eq_false c7) <| w_exit rfl <| w_seq <| w_region rfl <| w_d rfl (d_move (v := v_out) rfl) <| w_d rfl (d_assign (v := v_out) rfl) <| w_d rfl (d_assign (v := errV 99 none) rfl) <| w_done <| w_freeze h_out .here ?_
  intro H27 e28 h29
  obtain rfl := Option.some.inj he
  refine w_return fn_11 rs_11 (.tmp (v := v_out) rfl (.tmp (v := errV 99 none) rfl .nil)) <| ⟨⟨[_, _], rfl⟩, hle.trans e28, ⟨v_out, rfl, h29⟩⟩
theorem zone_Hits.ok : ∀ k, zone_Hits.OK (zone_Hits.hs k)
 | 0 => ⟨(by intros; exact nomatch (show none = some _ from by assumption))⟩
 | k + 1 => ⟨zone_Hits.b0_ok (k := k) (zone_Hits.ok k)⟩
theorem zone_Hits.calls (k : Nat) {H : Hp} {L : Items} {l : List zone_Zone} {p : zone_Spot} {v0_l : Value} {r : (List ByteArray) × (Option Int)} (he : zone_Hits.f k l p = some r) (h0_l : Src k_zone_Zone H L v0_l l) : Ct Tryd.prog 11 ⟨[v0_l, .agg ⟨[.int .i32 p.f_X, .int .i32 p.f_Y]⟩]⟩ H L (fun v H' L' => L = L' ∧ H.le H' ∧ zone_Hits.out r H' v) := by
 refine ct_out (O := zone_Hits.out r) ?_
 have hle : H.le H := .refl _
 have hh := zone_Hits.ok k
 unfold zone_Hits.f at he
 refine ct_enter (args := [v0_l, .agg ⟨[.int .i32 p.f_X, .int .i32 p.f_Y]⟩]) fn_11 rfl nt_11 rfl <| w_seq <| w_region rfl <| w_a rfl (o_box (v := .agg ⟨[.int .i32 p.f_X, .int .i32 p.f_Y]⟩) rfl rfl) ?_
 rintro _ _ _ ⟨b1, rfl, rfl, rfl⟩
 refine w_d rfl (d_assign (v := .slice none 0 0) rfl) <| w_d rfl (d_assign (v := errV 99 none) rfl) <| w_done <| w_seq <| w_seq <| w_region rfl <| w_d rfl (d_move (v := v0_l) rfl) ?_
 obtain ⟨y2, hy3, he⟩ := Option.bind_eq_some_iff.1 he
 refine w_d rfl (call_d (o_call co41 (vs := [v0_l]) rfl (zone_check.calls k hy3 h0_l.th))) <| w_d rfl (d_assign (v := errV 99 y2) rfl) <| w_done <| w_seq <| w_region rfl <| w_d rfl (d_move (v := errV 99 y2) rfl) <| w_d rfl (d_nenil (e := y2) Tryd.underlying36 rfl) <| w_done ?_
 rcases its he with ⟨c6, he⟩ | ⟨c6, he⟩
 ·
  refine w_then rfl c6 <| w_seq <| w_region rfl <| w_d rfl (d_move (v := errV 99 y2) rfl) <| w_d rfl (d_assign (v := .slice none 0 0) rfl) <| w_d rfl (d_assign (v := errV 99 y2) rfl) <| w_done ?_
  obtain rfl := Option.some.inj he
  refine w_return fn_11 rs_11 (.tmp (v := .slice none 0 0) rfl (.tmp (v := errV 99 y2) rfl .nil)) <| ⟨⟨[_], rfl⟩, hle, ⟨.slice none 0 0, rfl, (ro_nil _ _)⟩⟩
 ·
  refine w_else rfl (Bool.eq_false_iff.2 c6) <| w_skip <| w_seq <| w_region rfl <| w_d rfl (d_assign (v := .slice none 0 0) rfl) <| w_done <| w_seq <| w_seq <| w_region rfl <| w_d rfl (d_move (v := v0_l) rfl) <| w_d rfl (d_len Tryd.underlying26 rfl h0_l.th) <| w_d rfl (d_move (v := .int .i64 0) rfl) ?_
  refine w_done <| w_block <| w_loop <| w_none <| w_sl 3 (.pointer (some ⟨b1, 0, none⟩)) rfl <| w_sl 4 (.slice none 0 0) rfl <| w_sl 5 (errV 99 none) rfl <| w_sl 7 (.slice none 0 0) rfl <| w_sl 17 (v0_l) rfl <| w_sl 18 (.int .i64 (l.length : Int)) rfl <| w_sl 19 (.int .i64 0) rfl <| hh.l0 hle he (ro_nil _ _) (sl_nil _ _ _) h0_l
/-! ### radome/radomelaw39.sure -/
noncomputable def radomelaw39_sure.C : Code := (Tryd.f9.body).getD .skip
def radomelaw39_sure.out (r : Bool) (H : Hp) (v : Value) : Prop := v = .bool r
abbrev radomelaw39_sure.R (H0 : Hp) (L : Items) (r : Bool) : Value → Hp → Items → Prop := fun v H' L' => (∃ p, L' = p ++ L) ∧ H0.le H' ∧ radomelaw39_sure.out r H' v
noncomputable def radomelaw39_sure.f (k : Nat)  : Option Bool := (zone_Area.f k (⟨str_1, [(⟨0, 0⟩ : zone_Spot), (⟨4, 0⟩ : zone_Spot), (⟨4, 4⟩ : zone_Spot), (⟨0, 4⟩ : zone_Spot)]⟩ : zone_Zone)).bind fun y8 => (zone_Where.f k (⟨str_1, [(⟨0, 0⟩ : zone_Spot), (⟨4, 0⟩ : zone_Spot), (⟨4, 4⟩ : zone_Spot), (⟨0, 4⟩ : zone_Spot)]⟩ : zone_Zone) (⟨2, 2⟩ : zone_Spot)).bind fun y12 => (zone_Where.f k (⟨str_1, [(⟨0, 0⟩ : zone_Spot), (⟨4, 0⟩ : zone_Spot), (⟨4, 4⟩ : zone_Spot), (⟨0, 4⟩ : zone_Spot)]⟩ : zone_Zone) (⟨4, 1⟩ : zone_Spot)).bind fun y16 => (zone_Hits.f k [(⟨str_1, [(⟨0, 0⟩ : zone_Spot), (⟨4, 0⟩ : zone_Spot), (⟨4, 4⟩ : zone_Spot), (⟨0, 4⟩ : zone_Spot)]⟩ : zone_Zone)] (⟨1, 1⟩ : zone_Spot)).bind fun y23 => if (((((((y8.2.isNone && y12.2.isNone) && y16.2.isNone) && y23.2.isNone) && (decide (y8.1 = 32))) && (decide (y12.1 = 2))) && (decide (y16.1 = 1))) && (decide ((y23.1.length : Int) = 1))) = true → (0 : Int) ≤ 0 ∧ 0 < (y23.1.length : Int) then (some ((((((((y8.2.isNone && y12.2.isNone) && y16.2.isNone) && y23.2.isNone) && (decide (y8.1 = 32))) && (decide (y12.1 = 2))) && (decide (y16.1 = 1))) && (decide ((y23.1.length : Int) = 1))) && (decide ((rd y23.1 0) = str_1)))) else none
theorem radomelaw39_sure.mono : ∀ k, LeO (radomelaw39_sure.f k) (radomelaw39_sure.f (k + 1)) := fun k => by unfold radomelaw39_sure.f; exact (LeO.bind (zone_Area.mono k _) fun _ => LeO.bind (zone_Where.mono k _ _) fun _ => LeO.bind (zone_Where.mono k _ _) fun _ => LeO.bind (zone_Hits.mono k _ _) fun _ => LeO.ite (LeO.refl _) (LeO.refl _))
theorem radomelaw39_sure.calls (k : Nat) {H : Hp} {L : Items} {r : Bool} (he : radomelaw39_sure.f k  = some r) : Ct Tryd.prog 9 ⟨[]⟩ H L (fun v H' L' => L = L' ∧ H = H' ∧ v = .bool r) := by
 refine ct_outs (O := radomelaw39_sure.out r) (fun _ _ h => h) ?_
 have hle : H.le H := .refl _
 unfold radomelaw39_sure.f at he
 refine ct_enter (args := []) fn_9 rfl nt_9 rfl <| w_seq <| w_region rfl <| w_d rfl (d_assign (v := .bool false) rfl) <| w_done <| w_seq <| w_region rfl <| w_d rfl (d_build (cs' := [.int .i32 0, .int .i32 0]) Tryd.underlying39 zr39 rfl (by kernel_rfl) (parts := []) rfl .nil) <| w_d rfl (d_build (cs' := [.int .i32 4, .int .i32 0]) Tryd.underlying39 zr39 rfl (by kernel_rfl) (parts := [(0, .int .i32 4)]) rfl (.cons (place_of rfl sz21 rfl) rfl rfl (.here .done) .nil)) <| w_d rfl (d_build (cs' := [.int .i32 4, .int .i32 4]) Tryd.underlying39 zr39 rfl (by kernel_rfl) (parts := [(0, .int .i32 4), (1, .int .i32 4)]) rfl (.cons (place_of rfl sz21 rfl) rfl rfl (.here .done) (.cons (place_of rfl sz21 rfl) rfl rfl (.there (.here .done)) .nil))) <| w_d rfl (d_build (cs' := [.int .i32 0, .int .i32 4]) Tryd.underlying39 zr39 rfl (by kernel_rfl) (parts := [(1, .int .i32 4)]) rfl (.cons (place_of rfl sz21 rfl) rfl rfl (.there (.here .done)) .nil)) <| w_a rfl (o_buildSlice' (kd := k_zone_Spot) (css := [[.int .i32 0, .int .i32 0], [.int .i32 4, .int .i32 0], [.int .i32 4, .int .i32 4], [.int .i32 0, .int .i32 4]]) (xs := [(⟨0, 0⟩ : zone_Spot), (⟨4, 0⟩ : zone_Spot), (⟨4, 4⟩ : zone_Spot), (⟨0, 4⟩ : zone_Spot)]) (parts := [(0, .agg ⟨[.int .i32 0, .int .i32 0]⟩), (1, .agg ⟨[.int .i32 4, .int .i32 0]⟩), (2, .agg ⟨[.int .i32 4, .int .i32 4]⟩), (3, .agg ⟨[.int .i32 0, .int .i32 4]⟩)]) Tryd.underlying30 ti39 rfl ⟨_, _, rfl, rfl, ⟨_, _, rfl, rfl, ⟨_, _, rfl, rfl, ⟨_, _, rfl, rfl, rfl⟩⟩⟩⟩ ⟨(k_zone_Spot_in (x := ⟨0, 0⟩) ), ⟨(k_zone_Spot_in (x := ⟨4, 0⟩) ), ⟨(k_zone_Spot_in (x := ⟨4, 4⟩) ), ⟨(k_zone_Spot_in (x := ⟨0, 4⟩) ), trivial⟩⟩⟩⟩ rfl (by decide)) ?_
 rintro v1 _ _ ⟨i2, rfl, rfl, h3⟩
 refine w_d rfl (d_build (cs' := [.string str_1, v1]) Tryd.underlying32 zr32 rfl (by kernel_rfl) (parts := [(0, .string str_1), (1, v1)]) rfl (.cons (place_of rfl sz9 rfl) rfl rfl (.here .done) (.cons (place_of rfl sz30 rfl) h3.cells rfl (.there (.here .done)) .nil))) <| w_a rfl (o_alloc zr32 rfl) ?_
 rintro _ _ _ ⟨b4, rfl, rfl, rfl⟩
 refine w_a0 rfl (o_store (v := .agg ⟨[.string str_1, v1]⟩) sz32 rfl rfl rfl rfl (one_cons rfl (one_cons (h3.one) one_nil)) .here (.here (.here .done))) ?_
 rintro _ _ _ ⟨rfl, rfl, rfl⟩
 refine w_done <| w_seq <| w_region rfl <| w_d rfl (d_loado (v := .agg ⟨[.string str_1, v1]⟩) ty32 rfl .here rfl rfl rfl rfl) <| w_freeze h3 (.there .here) ?_
 intro H5 e6 h7
 obtain ⟨y8, hy9, he⟩ := Option.bind_eq_some_iff.1 he
 refine w_d rfl (call_d (o_call co15 (vs := [.agg ⟨[.string str_1, v1]⟩]) rfl (zone_Area.calls k (z := ⟨str_1, [⟨0, 0⟩, ⟨4, 0⟩, ⟨4, 4⟩, ⟨0, 4⟩]⟩) hy9 h7))) <| w_d rfl (d_move (v := .tuple ⟨[.int .i64 y8.1, errV 99 y8.2]⟩) rfl) <| w_d rfl (d_ext (vs := [.int .i64 y8.1, errV 99 y8.2]) rfl rfl) <| w_d rfl (d_ext (vs := [.int .i64 y8.1, errV 99 y8.2]) rfl rfl) <| w_d rfl (d_assign (v := .int .i64 y8.1) rfl) <| w_d rfl (d_assign (v := errV 99 y8.2) rfl) <| w_done <| w_seq <| w_region rfl <| w_d rfl (d_loado (v := .agg ⟨[.string str_1, v1]⟩) ty32 rfl .here rfl rfl rfl rfl) <| w_d rfl (d_build (cs' := [.int .i32 2, .int .i32 2]) Tryd.underlying39 zr39 rfl (by kernel_rfl) (parts := [(0, .int .i32 2), (1, .int .i32 2)]) rfl (.cons (place_of rfl sz21 rfl) rfl rfl (.here .done) (.cons (place_of rfl sz21 rfl) rfl rfl (.there (.here .done)) .nil))) ?_
 obtain ⟨y12, hy13, he⟩ := Option.bind_eq_some_iff.1 he
 refine w_d rfl (call_d (o_call co14 (vs := [.agg ⟨[.string str_1, v1]⟩, .agg ⟨[.int .i32 2, .int .i32 2]⟩]) rfl (zone_Where.calls k (z := ⟨str_1, [⟨0, 0⟩, ⟨4, 0⟩, ⟨4, 4⟩, ⟨0, 4⟩]⟩) (p := ⟨2, 2⟩) hy13 h7))) <| w_d rfl (d_move (v := .tuple ⟨[.int .i64 y12.1, errV 99 y12.2]⟩) rfl) <| w_d rfl (d_ext (vs := [.int .i64 y12.1, errV 99 y12.2]) rfl rfl) <| w_d rfl (d_ext (vs := [.int .i64 y12.1, errV 99 y12.2]) rfl rfl) <| w_d rfl (d_assign (v := .int .i64 y12.1) rfl) <| w_d rfl (d_assign (v := errV 99 y12.2) rfl) <| w_done <| w_seq <| w_region rfl <| w_d rfl (d_loado (v := .agg ⟨[.string str_1, v1]⟩) ty32 rfl .here rfl rfl rfl rfl) <| w_d rfl (d_build (cs' := [.int .i32 4, .int .i32 1]) Tryd.underlying39 zr39 rfl (by kernel_rfl) (parts := [(0, .int .i32 4), (1, .int .i32 1)]) rfl (.cons (place_of rfl sz21 rfl) rfl rfl (.here .done) (.cons (place_of rfl sz21 rfl) rfl rfl (.there (.here .done)) .nil))) ?_
 obtain ⟨y16, hy17, he⟩ := Option.bind_eq_some_iff.1 he
 refine w_d rfl (call_d (o_call co14 (vs := [.agg ⟨[.string str_1, v1]⟩, .agg ⟨[.int .i32 4, .int .i32 1]⟩]) rfl (zone_Where.calls k (z := ⟨str_1, [⟨0, 0⟩, ⟨4, 0⟩, ⟨4, 4⟩, ⟨0, 4⟩]⟩) (p := ⟨4, 1⟩) hy17 h7))) <| w_d rfl (d_move (v := .tuple ⟨[.int .i64 y16.1, errV 99 y16.2]⟩) rfl) <| w_d rfl (d_ext (vs := [.int .i64 y16.1, errV 99 y16.2]) rfl rfl) <| w_d rfl (d_ext (vs := [.int .i64 y16.1, errV 99 y16.2]) rfl rfl) <| w_d rfl (d_assign (v := .int .i64 y16.1) rfl) <| w_d rfl (d_assign (v := errV 99 y16.2) rfl) <| w_done <| w_seq <| w_region rfl <| w_d rfl (d_loado (v := .agg ⟨[.string str_1, v1]⟩) ty32 rfl .here rfl rfl rfl rfl) <| w_a rfl (o_buildSlice' (kd := k_zone_Zone) (css := [[.string str_1, v1]]) (xs := [(⟨str_1, [(⟨0, 0⟩ : zone_Spot), (⟨4, 0⟩ : zone_Spot), (⟨4, 4⟩ : zone_Spot), (⟨0, 4⟩ : zone_Spot)]⟩ : zone_Zone)]) (parts := [(0, .agg ⟨[.string str_1, v1]⟩)]) Tryd.underlying26 ti32 rfl ⟨_, _, rfl, rfl, rfl⟩ ⟨(k_zone_Zone_in (x := ⟨str_1, [⟨0, 0⟩, ⟨4, 0⟩, ⟨4, 4⟩, ⟨0, 4⟩]⟩) h7), trivial⟩ rfl (by decide)) ?_
 rintro v20 _ _ ⟨i21, rfl, rfl, h22⟩
 refine w_d rfl (d_build (cs' := [.int .i32 1, .int .i32 1]) Tryd.underlying39 zr39 rfl (by kernel_rfl) (parts := [(0, .int .i32 1), (1, .int .i32 1)]) rfl (.cons (place_of rfl sz21 rfl) rfl rfl (.here .done) (.cons (place_of rfl sz21 rfl) rfl rfl (.there (.here .done)) .nil))) ?_
 obtain ⟨y23, hy24, he⟩ := Option.bind_eq_some_iff.1 he
 refine w_a rfl (o_call co11 (vs := [v20, .agg ⟨[.int .i32 1, .int .i32 1]⟩]) rfl (zone_Hits.calls k (p := ⟨1, 1⟩) hy24 (h22.src .here))) ?_
 rintro _ H25 _ ⟨rfl, e26, ⟨v27, rfl, h28⟩⟩
 refine w_d rfl (d_move (v := .tuple ⟨[v27, errV 99 y23.2]⟩) rfl) <| w_d rfl (d_ext (vs := [v27, errV 99 y23.2]) rfl rfl) <| w_d rfl (d_ext (vs := [v27, errV 99 y23.2]) rfl rfl) <| w_d rfl (d_assign (v := v27) rfl) <| w_d rfl (d_assign (v := errV 99 y23.2) rfl) <| w_done <| w_seq <| w_region rfl <| w_d rfl (d_move (v := errV 99 y8.2) rfl) <| w_d rfl (d_eqnil (e := y8.2) Tryd.underlying36 rfl) <| w_d rfl (d_move (v := .bool y8.2.isNone) rfl) <| w_g (g := y8.2.isNone) rfl rfl rfl wn_t (fun g29 => d_move (v := errV 99 y12.2) rfl) ?_
 refine w_g (g := y8.2.isNone) rfl rfl rfl wn_t (fun g30 => d_eqnil (e := y12.2) Tryd.underlying36 (cvt g30)) <| w_d rfl (d_and' (b := y8.2.isNone) (p := y12.2.isNone) rfl rfl rfl) <| w_d rfl (d_move (v := .bool (y8.2.isNone && y12.2.isNone)) rfl) <| w_g (g := y8.2.isNone && y12.2.isNone) rfl rfl rfl wn_t (fun g31 => d_move (v := errV 99 y16.2) rfl) <| w_g (g := y8.2.isNone && y12.2.isNone) rfl rfl rfl wn_t (fun g32 => d_eqnil (e := y16.2) Tryd.underlying36 (cvt g32)) <| w_d rfl (d_and' (b := (y8.2.isNone && y12.2.isNone)) (p := y16.2.isNone) rfl rfl rfl) <| w_d rfl (d_move (v := .bool ((y8.2.isNone && y12.2.isNone) && y16.2.isNone)) rfl) <| w_g (g := (y8.2.isNone && y12.2.isNone) && y16.2.isNone) rfl rfl rfl wn_t (fun g33 => d_move (v := errV 99 y23.2) rfl) <| w_g (g := (y8.2.isNone && y12.2.isNone) && y16.2.isNone) rfl rfl rfl wn_t (fun g34 => d_eqnil (e := y23.2) Tryd.underlying36 (cvt g34)) <| w_d rfl (d_and' (b := ((y8.2.isNone && y12.2.isNone) && y16.2.isNone)) (p := y23.2.isNone) rfl rfl rfl) <| w_d rfl (d_move (v := .bool (((y8.2.isNone && y12.2.isNone) && y16.2.isNone) && y23.2.isNone)) rfl) <| w_g (g := ((y8.2.isNone && y12.2.isNone) && y16.2.isNone) && y23.2.isNone) rfl rfl rfl wn_t (fun g35 => d_move (v := .int .i64 y8.1) rfl) ?_
 refine w_g (g := ((y8.2.isNone && y12.2.isNone) && y16.2.isNone) && y23.2.isNone) rfl rfl rfl wn_t (fun g36 => d_eql (cvt g36) rfl) <| w_d rfl (d_and' (b := (((y8.2.isNone && y12.2.isNone) && y16.2.isNone) && y23.2.isNone)) (p := (decide (y8.1 = 32))) rfl rfl rfl) <| w_d rfl (d_move (v := .bool ((((y8.2.isNone && y12.2.isNone) && y16.2.isNone) && y23.2.isNone) && (decide (y8.1 = 32)))) rfl) <| w_g (g := (((y8.2.isNone && y12.2.isNone) && y16.2.isNone) && y23.2.isNone) && (decide (y8.1 = 32))) rfl rfl rfl wn_t (fun g37 => d_move (v := .int .i64 y12.1) rfl) <| w_g (g := (((y8.2.isNone && y12.2.isNone) && y16.2.isNone) && y23.2.isNone) && (decide (y8.1 = 32))) rfl rfl rfl wn_t (fun g38 => d_eql (cvt g38) rfl) <| w_d rfl (d_and' (b := ((((y8.2.isNone && y12.2.isNone) && y16.2.isNone) && y23.2.isNone) && (decide (y8.1 = 32)))) (p := (decide (y12.1 = 2))) rfl rfl rfl) <| w_d rfl (d_move (v := .bool (((((y8.2.isNone && y12.2.isNone) && y16.2.isNone) && y23.2.isNone) && (decide (y8.1 = 32))) && (decide (y12.1 = 2)))) rfl) <| w_g (g := ((((y8.2.isNone && y12.2.isNone) && y16.2.isNone) && y23.2.isNone) && (decide (y8.1 = 32))) && (decide (y12.1 = 2))) rfl rfl rfl wn_t (fun g39 => d_move (v := .int .i64 y16.1) rfl) <| w_g (g := ((((y8.2.isNone && y12.2.isNone) && y16.2.isNone) && y23.2.isNone) && (decide (y8.1 = 32))) && (decide (y12.1 = 2))) rfl rfl rfl wn_t (fun g40 => d_eql (cvt g40) rfl) <| w_d rfl (d_and' (b := (((((y8.2.isNone && y12.2.isNone) && y16.2.isNone) && y23.2.isNone) && (decide (y8.1 = 32))) && (decide (y12.1 = 2)))) (p := (decide (y16.1 = 1))) rfl rfl rfl) <| w_d rfl (d_move (v := .bool ((((((y8.2.isNone && y12.2.isNone) && y16.2.isNone) && y23.2.isNone) && (decide (y8.1 = 32))) && (decide (y12.1 = 2))) && (decide (y16.1 = 1)))) rfl) <| w_g (g := (((((y8.2.isNone && y12.2.isNone) && y16.2.isNone) && y23.2.isNone) && (decide (y8.1 = 32))) && (decide (y12.1 = 2))) && (decide (y16.1 = 1))) rfl rfl rfl wn_t (fun g41 => d_move (v := v27) rfl) ?_
 refine w_g (g := (((((y8.2.isNone && y12.2.isNone) && y16.2.isNone) && y23.2.isNone) && (decide (y8.1 = 32))) && (decide (y12.1 = 2))) && (decide (y16.1 = 1))) rfl rfl rfl wn_t (fun g42 => d_len Tryd.underlying34 (cvt g42) h28.src) <| w_g (g := (((((y8.2.isNone && y12.2.isNone) && y16.2.isNone) && y23.2.isNone) && (decide (y8.1 = 32))) && (decide (y12.1 = 2))) && (decide (y16.1 = 1))) rfl rfl rfl wn_t (fun g43 => d_eql (cvt g43) rfl) <| w_d rfl (d_and' (b := ((((((y8.2.isNone && y12.2.isNone) && y16.2.isNone) && y23.2.isNone) && (decide (y8.1 = 32))) && (decide (y12.1 = 2))) && (decide (y16.1 = 1)))) (p := (decide ((y23.1.length : Int) = 1))) rfl rfl rfl) <| w_d rfl (d_move (v := .bool (((((((y8.2.isNone && y12.2.isNone) && y16.2.isNone) && y23.2.isNone) && (decide (y8.1 = 32))) && (decide (y12.1 = 2))) && (decide (y16.1 = 1))) && (decide ((y23.1.length : Int) = 1)))) rfl) <| w_g (g := ((((((y8.2.isNone && y12.2.isNone) && y16.2.isNone) && y23.2.isNone) && (decide (y8.1 = 32))) && (decide (y12.1 = 2))) && (decide (y16.1 = 1))) && (decide ((y23.1.length : Int) = 1))) rfl rfl rfl wn_t (fun g44 => d_move (v := v27) rfl) ?_
 obtain ⟨c46, he⟩ := rq he
 refine w_g (g := ((((((y8.2.isNone && y12.2.isNone) && y16.2.isNone) && y23.2.isNone) && (decide (y8.1 = 32))) && (decide (y12.1 = 2))) && (decide (y16.1 = 1))) && (decide ((y23.1.length : Int) = 1))) rfl rfl rfl wn_t (fun g45 => d_index (sz := 1) Tryd.underlying34 sz9 (cvt g45) h28.src rfl (c46 g45)) <| w_g (g := ((((((y8.2.isNone && y12.2.isNone) && y16.2.isNone) && y23.2.isNone) && (decide (y8.1 = 32))) && (decide (y12.1 = 2))) && (decide (y16.1 = 1))) && (decide ((y23.1.length : Int) = 1))) rfl rfl rfl wn_t (fun g47 => d_ldstr ty9 (cvt g47) h28.src (c46 g47)) <| w_g (g := ((((((y8.2.isNone && y12.2.isNone) && y16.2.isNone) && y23.2.isNone) && (decide (y8.1 = 32))) && (decide (y12.1 = 2))) && (decide (y16.1 = 1))) && (decide ((y23.1.length : Int) = 1))) rfl rfl rfl wn_t (fun g48 => d_eqs (cvt g48) rfl) <| w_d rfl (d_and' (b := (((((((y8.2.isNone && y12.2.isNone) && y16.2.isNone) && y23.2.isNone) && (decide (y8.1 = 32))) && (decide (y12.1 = 2))) && (decide (y16.1 = 1))) && (decide ((y23.1.length : Int) = 1)))) (p := (decide ((rd y23.1 0) = str_1))) rfl rfl rfl) <| w_d rfl (d_assign (v := .bool ((((((((y8.2.isNone && y12.2.isNone) && y16.2.isNone) && y23.2.isNone) && (decide (y8.1 = 32))) && (decide (y12.1 = 2))) && (decide (y16.1 = 1))) && (decide ((y23.1.length : Int) = 1))) && (decide ((rd y23.1 0) = str_1)))) rfl) <| w_done ?_
 obtain rfl := Option.some.inj he
 refine w_return fn_9 rs_9 (.tmp (v := .bool ((((((((y8.2.isNone && y12.2.isNone) && y16.2.isNone) && y23.2.isNone) && (decide (y8.1 = 32))) && (decide (y12.1 = 2))) && (decide (y16.1 = 1))) && (decide ((y23.1.length : Int) = 1))) && (decide ((rd y23.1 0) = str_1)))) rfl .nil) <| ⟨⟨[_, _, _], rfl⟩, hle.trans (e6.trans e26), rfl⟩
/-! ### radome/radomelaw39.give -/
noncomputable def radomelaw39_give.C : Code := (Tryd.f10.body).getD .skip
def radomelaw39_give.out (r : zone_Zone) (H : Hp) (v : Value) : Prop := ∃ v0, v = .agg ⟨[.string r.f_Name, v0]⟩ ∧ Ro k_zone_Spot H v0 r.f_Corners
theorem radomelaw39_give.out_mono (r : zone_Zone) {H H' : Hp} {v : Value} (hle : H.le H') (h : radomelaw39_give.out r H v) : radomelaw39_give.out r H' v := by
 obtain ⟨v0, rfl, h0⟩ := h; exact ⟨v0, rfl, h0.mono hle⟩
abbrev radomelaw39_give.R (H0 : Hp) (L : Items) (r : zone_Zone) : Value → Hp → Items → Prop := fun v H' L' => (∃ p, L' = p ++ L) ∧ H0.le H' ∧ radomelaw39_give.out r H' v
structure radomelaw39_give.Hs where
 l0 : ByteArray → (List radomeref39_Spot) → ByteArray → ByteArray → (List zone_Spot) → Int → Option zone_Zone
noncomputable def radomelaw39_give.b0 (k : Nat) (h : radomelaw39_give.Hs)  (z_0 : ByteArray) (z_1 : List radomeref39_Spot) (t2_0 : ByteArray) (out_0 : ByteArray) (out_1 : List zone_Spot) (i : Int) : Option zone_Zone := if i < (z_1.length : Int) then (if (0 : Int) ≤ i ∧ i < (z_1.length : Int) then (if out_1.length + [(⟨(rd z_1 i).f_X, (rd z_1 i).f_Y⟩ : zone_Spot)].length ≤ 17592186044288 then (h.l0 z_0 z_1 t2_0 out_0 (out_1 ++ [(⟨(rd z_1 i).f_X, (rd z_1 i).f_Y⟩ : zone_Spot)]) (w64 (i + 1))) else none) else none) else (some ((⟨out_0, out_1⟩ : zone_Zone)))
noncomputable def radomelaw39_give.hs : Nat → radomelaw39_give.Hs
 | 0 => ⟨fun _ _ _ _ _ _ => none⟩
 | k + 1 => ⟨fun x0 x1 x2 x3 x4 x5 => radomelaw39_give.b0 k (radomelaw39_give.hs k) x0 x1 x2 x3 x4 x5⟩
noncomputable def radomelaw39_give.f (k : Nat) (z : radomeref39_Zone) : Option zone_Zone := (fun h : radomelaw39_give.Hs => h.l0 z.f_Name z.f_Corners str_0 z.f_Name [] 0) (radomelaw39_give.hs k)
structure radomelaw39_give.LE (h h' : radomelaw39_give.Hs) : Prop where
 l0 : ∀ y0 y1 y2 y3 y4 y5, LeO (h.l0 y0 y1 y2 y3 y4 y5) (h'.l0 y0 y1 y2 y3 y4 y5)
theorem radomelaw39_give.b0_mono {k : Nat} {h h' : radomelaw39_give.Hs} (hl : radomelaw39_give.LE h h') : ∀ y0 y1 y2 y3 y4 y5, LeO (radomelaw39_give.b0 k h y0 y1 y2 y3 y4 y5) (radomelaw39_give.b0 (k + 1) h' y0 y1 y2 y3 y4 y5) := fun _ _ _ _ _ _ => (LeO.ite (LeO.ite (LeO.ite (hl.l0 _ _ _ _ _ _) (LeO.refl _)) (LeO.refl _)) (LeO.refl _))
theorem radomelaw39_give.hs_mono : ∀ k, radomelaw39_give.LE (radomelaw39_give.hs k) (radomelaw39_give.hs (k + 1))
 | 0 => ⟨fun _ _ _ _ _ _ => LeO.none _⟩
 | k + 1 => ⟨radomelaw39_give.b0_mono (k := k) (radomelaw39_give.hs_mono k)⟩
theorem radomelaw39_give.mono : ∀ k y0, LeO (radomelaw39_give.f k y0) (radomelaw39_give.f (k + 1) y0) := fun k _ => have hl := radomelaw39_give.hs_mono k; by unfold radomelaw39_give.f; exact (hl.l0 _ _ _ _ _ _)
noncomputable def radomelaw39_give.Kl0 : List Item := .code (lopB (blkB (seqR (seqL (seqR (seqR radomelaw39_give.C)))))) :: .inLoop (lopB (blkB (seqR (seqL (seqR (seqR radomelaw39_give.C)))))) :: .inBlock 0 :: .code (seqR (seqR (seqR radomelaw39_give.C))) :: []
structure radomelaw39_give.OK (h : radomelaw39_give.Hs) : Prop where
 l0 : ∀ {H0 H : Hp} {L : Items} {r : zone_Zone} {jk_ : Nat → Value} {z_0 : ByteArray} {z_1 : List radomeref39_Spot} {t2_0 : ByteArray} {out_0 : ByteArray} {out_1 : List zone_Spot} {i : Int} {v_z_1 : Value} {v_out_1 : Value} {i_out_1 : Item'} {b_z : Nat} {b_t2 : Nat} {b_out : Nat} (_ : H0.le H) (_he : h.l0 z_0 z_1 t2_0 out_0 out_1 i = some r) (_h_z_1 : Ro k_radomeref39_Spot H v_z_1 z_1) (_h_out_1 : Sl k_zone_Spot H 39 i_out_1 v_out_1 out_1), Wp Tryd.prog 10 26 radomelaw39_give.Kl0 (upd (upd (upd (upd jk_ 1 (.pointer (some ⟨b_z, 0, none⟩))) 2 (.pointer (some ⟨b_t2, 0, none⟩))) 3 (.pointer (some ⟨b_out, 0, none⟩))) 4 (.int .i64 i)) H (i_out_1 :: some (b_out, .cells ⟨[.string out_0, v_out_1]⟩ 32 (0, 0)) :: some (b_t2, .cells ⟨[.string t2_0, .slice none 0 0]⟩ 32 (0, 0)) :: some (b_z, .cells ⟨[.string z_0, v_z_1]⟩ 29 (0, 0)) :: L) (radomelaw39_give.R H0 L r)
theorem radomelaw39_give.b0_ok {k : Nat} {h : radomelaw39_give.Hs} (hh : radomelaw39_give.OK h) {H0 H : Hp} {L : Items} {r : zone_Zone} {jk_ : Nat → Value} {z_0 : ByteArray} {z_1 : List radomeref39_Spot} {t2_0 : ByteArray} {out_0 : ByteArray} {out_1 : List zone_Spot} {i : Int} {v_z_1 : Value} {v_out_1 : Value} {i_out_1 : Item'} {b_z : Nat} {b_t2 : Nat} {b_out : Nat} (hle : H0.le H) (he : radomelaw39_give.b0 k h z_0 z_1 t2_0 out_0 out_1 i = some r) (h_z_1 : Ro k_radomeref39_Spot H v_z_1 z_1) (h_out_1 : Sl k_zone_Spot H 39 i_out_1 v_out_1 out_1) : Wp Tryd.prog 10 26 radomelaw39_give.Kl0 (upd (upd (upd (upd jk_ 1 (.pointer (some ⟨b_z, 0, none⟩))) 2 (.pointer (some ⟨b_t2, 0, none⟩))) 3 (.pointer (some ⟨b_out, 0, none⟩))) 4 (.int .i64 i)) H (i_out_1 :: some (b_out, .cells ⟨[.string out_0, v_out_1]⟩ 32 (0, 0)) :: some (b_t2, .cells ⟨[.string t2_0, .slice none 0 0]⟩ 32 (0, 0)) :: some (b_z, .cells ⟨[.string z_0, v_z_1]⟩ 29 (0, 0)) :: L) (radomelaw39_give.R H0 L r) := by
 unfold radomelaw39_give.b0 at he
 unfold radomelaw39_give.Kl0
 refine w_seq <| w_seq <| w_region rfl <| w_d rfl (d_move (v := .int .i64 i) rfl) <| w_d rfl (d_fld (o' := 1) Tryd.underlying29 rfl sz27 rfl rfl rfl) <| w_d rfl (d_loado (v := v_z_1) ty27 rfl (.there (.there (.there .here))) rfl rfl rfl rfl) <| w_d rfl (d_len Tryd.underlying27 rfl h_z_1.src) <| w_d rfl (d_lss rfl rfl) <| w_done ?_
 rcases its he with ⟨c4, he⟩ | ⟨c4, he⟩
 ·
  refine w_then rfl (decide_eq_true c4) <| w_skip <| w_seq <| w_block ?_
  obtain ⟨c5, he⟩ := rq he
  obtain ⟨_, l6, r7⟩ := el_ro (kd := k_radomeref39_Spot) h_z_1 c5
  obtain ⟨rfl⟩ := k_radomeref39_Spot_out r7
  refine w_none (?_)
  refine w_drawn (p := 8) (tl := [8, 9, 10]) [[], [(0, some 15)], [], [(2, some 17)], [], [(3, some 18), (4, some 19)], [(5, some 20)], [(6, some 21)]] [some 15, some 16, some 17, some 18, some 19, some 20, some 21, some 22] (fctF (.is (.pointer (some ⟨b_out, 1, none⟩)) :: .is (v_out_1) :: .is (.pointer (some ⟨b_z, 1, none⟩)) :: .is (v_z_1) :: .is (.int .i64 i) :: .is (.pointer (some (pel v_z_1 i 2))) :: .is (.agg ⟨[.int .i32 ((rd z_1 i).f_X), .int .i32 ((rd z_1 i).f_Y)]⟩) :: .sl k_zone_Spot 39 [(⟨(rd z_1 i).f_X, (rd z_1 i).f_Y⟩ : zone_Spot)] :: [])) (fun m_ => m_ 7 :: i_out_1 :: some (b_out, .cells ⟨[.string out_0, v_out_1]⟩ 32 (0, 0)) :: some (b_t2, .cells ⟨[.string t2_0, .slice none 0 0]⟩ 32 (0, 0)) :: some (b_z, .cells ⟨[.string z_0, v_z_1]⟩ 29 (0, 0)) :: L) (fun _ => none) mixed (by kernel_rfl) (by kernel_rfl) rfl (fct_mono (by kernel_rfl)) ⟨(fun H' m_ hH hm_ hu_ => depK_nil <| s_d (m_ 0) rfl (d_fld (o' := 1) Tryd.underlying32 rfl sz30 rfl rfl rfl) (by exact rfl) rfl), (by rintro H' m_ hH hm_ hu_ _ rfl; exact depK_nil <| s_d (m_ 1) rfl (d_loado (v := v_out_1) ty30 rfl (.there (.there .here)) rfl rfl rfl rfl) (by exact rfl) rfl), (fun H' m_ hH hm_ hu_ => depK_nil <| s_d (m_ 2) rfl (d_fld (o' := 1) Tryd.underlying29 rfl sz27 rfl rfl rfl) (by exact rfl) rfl), (by rintro H' m_ hH hm_ hu_ _ rfl; exact depK_nil <| s_d (m_ 3) rfl (d_loado (v := v_z_1) ty27 rfl (.there (.there (.there (.there .here)))) rfl rfl rfl rfl) (by exact rfl) rfl), (fun H' m_ hH hm_ hu_ => depK_nil <| s_d (m_ 4) rfl (d_move (v := .int .i64 i) rfl) (by exact rfl) rfl), (by rintro H' m_ hH hm_ hu_ _ rfl _ rfl; exact depK_nil <| s_d (m_ 5) rfl (d_index (sz := 2) Tryd.underlying27 sz24 rfl (h_z_1.mono hH).src rfl c5) (by exact rfl) rfl), (by rintro H' m_ hH hm_ hu_ _ rfl; exact depK_nil <| s_d (m_ 6) rfl (d_load (v := .agg ⟨[.int .i32 ((rd z_1 i).f_X), .int .i32 ((rd z_1 i).f_Y)]⟩) (cs := [.int .i32 ((rd z_1 i).f_X), .int .i32 ((rd z_1 i).f_Y)]) ty24 rfl rfl (by decide) (l6.mono hH).lies rfl) (by exact rfl) rfl), (by rintro H' m_ hH hm_ hu_ _ rfl; exact depK_nil <| s_sl hm_ rfl rfl (o_buildSlice' (kd := k_zone_Spot) (css := [[.int .i32 ((rd z_1 i).f_X), .int .i32 ((rd z_1 i).f_Y)]]) (xs := [(⟨(rd z_1 i).f_X, (rd z_1 i).f_Y⟩ : zone_Spot)]) (parts := [(0, .agg ⟨[.int .i32 ((rd z_1 i).f_X), .int .i32 ((rd z_1 i).f_Y)]⟩)]) Tryd.underlying30 ti39 rfl ⟨_, _, rfl, rfl, rfl⟩ ⟨(k_zone_Spot_in (x := ⟨(rd z_1 i).f_X, (rd z_1 i).f_Y⟩) ), trivial⟩ rfl (by decide)) rfl (fun _ => .here) (by exact fun _ _ h_ => h_)), trivial⟩ ?_
  intro H11 e12
  rintro _ _ rfl _ _ rfl _ _ rfl _ _ rfl _ _ rfl _ _ rfl _ _ rfl v8 i9 (h10 : Sl k_zone_Spot H11 39 i9 v8 [(⟨(rd z_1 i).f_X, (rd z_1 i).f_Y⟩ : zone_Spot)])
  obtain ⟨c13, he⟩ := rq he
  refine w_a rfl (o_append' (kd := k_zone_Spot) (F := fun z_ => i9 :: z_ :: some (b_out, .cells ⟨[.string out_0, v_out_1]⟩ 32 (0, 0)) :: some (b_t2, .cells ⟨[.string t2_0, .slice none 0 0]⟩ 32 (0, 0)) :: some (b_z, .cells ⟨[.string z_0, v_z_1]⟩ 29 (0, 0)) :: L) Tryd.underlying30 Tryd.underlying30 ti39 rfl (by first | omega | (simp only [List.nil_append, List.length_cons, List.length_nil]; omega)) rfl rfl (h_out_1.mono e12) (h10.src .here) (fun _ => (.there .here))) ?_
  rintro v14 _ _ ⟨i15, rfl, rfl, h16⟩
  refine w_d rfl (d_fld (o' := 1) Tryd.underlying32 rfl sz30 rfl rfl rfl) <| w_a0 rfl (o_store (v := v14) sz30 rfl rfl h16.cells rfl (one_cons (h16.one) one_nil) (.there (.there .here)) (.there (.here .done))) ?_
  rintro _ _ _ ⟨rfl, rfl, rfl⟩
  refine w_done <| w_inBlock <| w_region rfl <| w_d rfl (d_move (v := .int .i64 i) rfl) <| w_d rfl (d_add (c := w64 (i + 1)) rfl rfl rfl) <| w_d rfl (d_assign (v := .int .i64 (w64 (i + 1))) rfl) <| w_done <| w_inLoop <| w_del .here <| w_sl 1 (.pointer (some ⟨b_z, 0, none⟩)) rfl <| w_sl 2 (.pointer (some ⟨b_t2, 0, none⟩)) rfl <| w_sl 3 (.pointer (some ⟨b_out, 0, none⟩)) rfl ?_
  refine w_sl 4 (.int .i64 (w64 (i + 1))) rfl <| hh.l0 (hle.trans e12) he (h_z_1.mono e12) h16
 ·
  refine w_else rfl (decide_eq_false c4) <| w_exit rfl <| w_seq <| w_region rfl <| w_d rfl (d_loado (v := .agg ⟨[.string out_0, v_out_1]⟩) ty32 rfl (.there .here) rfl rfl rfl rfl) <| w_a0 rfl (o_store (v := .agg ⟨[.string out_0, v_out_1]⟩) sz32 rfl rfl rfl rfl (one_cons rfl (one_cons (h_out_1.one) one_nil)) (.there (.there .here)) (.here (.here .done))) ?_
  rintro _ _ _ ⟨rfl, rfl, rfl⟩
  refine w_done <| w_freeze h_out_1 .here ?_
  intro H17 e18 h19
  obtain rfl := Option.some.inj he
  refine w_return fn_10 rs_10 (.box (v := .agg ⟨[.string out_0, v_out_1]⟩) rfl ty32 rfl rfl (.there (.there .here)) rfl .nil) <| ⟨⟨[_, _, _, _], rfl⟩, hle.trans e18, ⟨v_out_1, rfl, h19⟩⟩
theorem radomelaw39_give.ok : ∀ k, radomelaw39_give.OK (radomelaw39_give.hs k)
 | 0 => ⟨(by intros; exact nomatch (show none = some _ from by assumption))⟩
 | k + 1 => ⟨radomelaw39_give.b0_ok (k := k) (radomelaw39_give.ok k)⟩
theorem radomelaw39_give.calls (k : Nat) {H : Hp} {L : Items} {z : radomeref39_Zone} {v0_z : Value} {r : zone_Zone} (he : radomelaw39_give.f k z = some r) (h0_z : Ro k_radomeref39_Spot H v0_z z.f_Corners) : Ct Tryd.prog 10 ⟨[.agg ⟨[.string z.f_Name, v0_z]⟩]⟩ H L (fun v H' L' => L = L' ∧ H.le H' ∧ radomelaw39_give.out r H' v) := by
 refine ct_out (O := radomelaw39_give.out r) ?_
 have hle : H.le H := .refl _
 have hh := radomelaw39_give.ok k
 unfold radomelaw39_give.f at he
 refine ct_enter (args := [.agg ⟨[.string z.f_Name, v0_z]⟩]) fn_10 rfl nt_10 rfl <| w_seq <| w_region rfl <| w_a rfl (o_box (v := .agg ⟨[.string z.f_Name, v0_z]⟩) rfl rfl) ?_
 rintro _ _ _ ⟨b1, rfl, rfl, rfl⟩
 refine w_a rfl (o_alloc zr32 rfl) ?_
 rintro _ _ _ ⟨b2, rfl, rfl, rfl⟩
 refine w_done <| w_seq <| w_region rfl <| w_d rfl (d_fld (o' := 0) Tryd.underlying29 rfl sz9 rfl rfl rfl) <| w_d rfl (d_loado (v := .string z.f_Name) ty9 rfl (.there .here) rfl rfl rfl rfl) <| w_d rfl (d_build (cs' := [.string z.f_Name, .slice none 0 0]) Tryd.underlying32 zr32 rfl (by kernel_rfl) (parts := [(0, .string z.f_Name)]) rfl (.cons (place_of rfl sz9 rfl) rfl rfl (.here .done) .nil)) <| w_a rfl (o_alloc zr32 rfl) ?_
 rintro _ _ _ ⟨b3, rfl, rfl, rfl⟩
 refine w_a0 rfl (o_store (v := .agg ⟨[.string z.f_Name, .slice none 0 0]⟩) sz32 rfl rfl rfl rfl (one_cons rfl (one_cons rfl one_nil)) .here (.here (.here .done))) ?_
 rintro _ _ _ ⟨rfl, rfl, rfl⟩
 refine w_done <| w_seq <| w_seq <| w_region rfl <| w_d rfl (d_assign (v := .int .i64 0) rfl) <| w_done <| w_block <| w_loop <| w_none <| w_sl 1 (.pointer (some ⟨b1, 0, none⟩)) rfl <| w_sl 2 (.pointer (some ⟨b2, 0, none⟩)) rfl <| w_sl 3 (.pointer (some ⟨b3, 0, none⟩)) rfl ?_
 refine w_sl 4 (.int .i64 0) rfl <| hh.l0 hle he h0_z (sl_nil _ _ _)
/-! ### radome/radomeref39.May -/
noncomputable def radomeref39_May.C : Code := (Tryd.f18.body).getD .skip
def radomeref39_May.out (r : Bool) (H : Hp) (v : Value) : Prop := v = .bool r
abbrev radomeref39_May.R (H0 : Hp) (L : Items) (r : Bool) : Value → Hp → Items → Prop := fun v H' L' => (∃ p, L' = p ++ L) ∧ H0.le H' ∧ radomeref39_May.out r H' v
structure radomeref39_May.Hs where
 l0 : ByteArray → (List radomeref39_Spot) → Bool → Int → Option Bool
noncomputable def radomeref39_May.b0 (k : Nat) (h : radomeref39_May.Hs)  (z_0 : ByteArray) (z_1 : List radomeref39_Spot) (ok : Bool) (i : Int) : Option Bool := if ((decide (i < (z_1.length : Int))) && ok) = true then (if (0 : Int) ≤ i ∧ i < (z_1.length : Int) then (h.l0 z_0 z_1 ((((decide ((-8388608) ≤ ((rd z_1 i).f_X))) && (decide (((rd z_1 i).f_X) ≤ 8388607))) && (decide ((-8388608) ≤ ((rd z_1 i).f_Y)))) && (decide (((rd z_1 i).f_Y) ≤ 8388607))) (w64 (i + 1))) else none) else (some (ok))
noncomputable def radomeref39_May.hs : Nat → radomeref39_May.Hs
 | 0 => ⟨fun _ _ _ _ => none⟩
 | k + 1 => ⟨fun x0 x1 x2 x3 => radomeref39_May.b0 k (radomeref39_May.hs k) x0 x1 x2 x3⟩
noncomputable def radomeref39_May.f (k : Nat) (z : radomeref39_Zone) : Option Bool := (fun h : radomeref39_May.Hs => h.l0 z.f_Name z.f_Corners ((((decide (1 ≤ (z.f_Name.size : Int))) && (decide ((z.f_Name.size : Int) ≤ 32))) && (decide (3 ≤ (z.f_Corners.length : Int)))) && (decide ((z.f_Corners.length : Int) ≤ 32))) 0) (radomeref39_May.hs k)
structure radomeref39_May.LE (h h' : radomeref39_May.Hs) : Prop where
 l0 : ∀ y0 y1 y2 y3, LeO (h.l0 y0 y1 y2 y3) (h'.l0 y0 y1 y2 y3)
theorem radomeref39_May.b0_mono {k : Nat} {h h' : radomeref39_May.Hs} (hl : radomeref39_May.LE h h') : ∀ y0 y1 y2 y3, LeO (radomeref39_May.b0 k h y0 y1 y2 y3) (radomeref39_May.b0 (k + 1) h' y0 y1 y2 y3) := fun _ _ _ _ => (LeO.ite (LeO.ite (hl.l0 _ _ _ _) (LeO.refl _)) (LeO.refl _))
theorem radomeref39_May.hs_mono : ∀ k, radomeref39_May.LE (radomeref39_May.hs k) (radomeref39_May.hs (k + 1))
 | 0 => ⟨fun _ _ _ _ => LeO.none _⟩
 | k + 1 => ⟨radomeref39_May.b0_mono (k := k) (radomeref39_May.hs_mono k)⟩
theorem radomeref39_May.mono : ∀ k y0, LeO (radomeref39_May.f k y0) (radomeref39_May.f (k + 1) y0) := fun k _ => have hl := radomeref39_May.hs_mono k; by unfold radomeref39_May.f; exact (hl.l0 _ _ _ _)
noncomputable def radomeref39_May.Kl0 : List Item := .code (lopB (blkB (seqR (seqL (seqR (seqR radomeref39_May.C)))))) :: .inLoop (lopB (blkB (seqR (seqL (seqR (seqR radomeref39_May.C)))))) :: .inBlock 0 :: .code (seqR (seqR (seqR radomeref39_May.C))) :: []
structure radomeref39_May.OK (h : radomeref39_May.Hs) : Prop where
 l0 : ∀ {H0 H : Hp} {L : Items} {r : Bool} {jk_ : Nat → Value} {z_0 : ByteArray} {z_1 : List radomeref39_Spot} {ok : Bool} {i : Int} {v_z_1 : Value} {b_z : Nat} (_ : H0.le H) (_he : h.l0 z_0 z_1 ok i = some r) (_h_z_1 : Ro k_radomeref39_Spot H v_z_1 z_1), Wp Tryd.prog 18 62 radomeref39_May.Kl0 (upd (upd (upd (upd jk_ 1 (.pointer (some ⟨b_z, 0, none⟩))) 2 (.bool false)) 3 (.bool ok)) 4 (.int .i64 i)) H (some (b_z, .cells ⟨[.string z_0, v_z_1]⟩ 29 (0, 0)) :: L) (radomeref39_May.R H0 L r)
theorem radomeref39_May.b0_ok {k : Nat} {h : radomeref39_May.Hs} (hh : radomeref39_May.OK h) {H0 H : Hp} {L : Items} {r : Bool} {jk_ : Nat → Value} {z_0 : ByteArray} {z_1 : List radomeref39_Spot} {ok : Bool} {i : Int} {v_z_1 : Value} {b_z : Nat} (hle : H0.le H) (he : radomeref39_May.b0 k h z_0 z_1 ok i = some r) (h_z_1 : Ro k_radomeref39_Spot H v_z_1 z_1) : Wp Tryd.prog 18 62 radomeref39_May.Kl0 (upd (upd (upd (upd jk_ 1 (.pointer (some ⟨b_z, 0, none⟩))) 2 (.bool false)) 3 (.bool ok)) 4 (.int .i64 i)) H (some (b_z, .cells ⟨[.string z_0, v_z_1]⟩ 29 (0, 0)) :: L) (radomeref39_May.R H0 L r) := by
 unfold radomeref39_May.b0 at he
 unfold radomeref39_May.Kl0
 refine w_seq <| w_seq <| w_region rfl <| w_d rfl (d_move (v := .int .i64 i) rfl) <| w_d rfl (d_fld (o' := 1) Tryd.underlying29 rfl sz27 rfl rfl rfl) <| w_d rfl (d_loado (v := v_z_1) ty27 rfl .here rfl rfl rfl rfl) <| w_d rfl (d_len Tryd.underlying27 rfl h_z_1.src) <| w_d rfl (d_lss rfl rfl) <| w_d rfl (d_move (v := .bool (decide (i < (z_1.length : Int)))) rfl) <| w_g (g := decide (i < (z_1.length : Int))) rfl rfl rfl wn_t (fun g14 => d_move (v := .bool ok) rfl) <| w_d rfl (d_and' (b := (decide (i < (z_1.length : Int)))) (p := ok) rfl rfl rfl) <| w_done ?_
 rcases its he with ⟨c15, he⟩ | ⟨c15, he⟩
 ·
  refine w_then rfl c15 <| w_skip <| w_seq <| w_block <| w_seq <| w_region rfl <| w_d rfl (d_fld (o' := 1) Tryd.underlying29 rfl sz27 rfl rfl rfl) <| w_d rfl (d_loado (v := v_z_1) ty27 rfl .here rfl rfl rfl rfl) <| w_d rfl (d_move (v := .int .i64 i) rfl) ?_
  obtain ⟨c16, he⟩ := rq he
  refine w_d rfl (d_index (sz := 2) Tryd.underlying27 sz24 rfl h_z_1.src rfl c16) ?_
  obtain ⟨_, l17, r18⟩ := el_ro (kd := k_radomeref39_Spot) h_z_1 c16
  obtain ⟨rfl⟩ := k_radomeref39_Spot_out r18
  refine w_d rfl (d_load (v := .agg ⟨[.int .i32 ((rd z_1 i).f_X), .int .i32 ((rd z_1 i).f_Y)]⟩) (cs := [.int .i32 ((rd z_1 i).f_X), .int .i32 ((rd z_1 i).f_Y)]) ty24 rfl rfl (by decide) (l17).lies rfl) <| w_a rfl (o_alloc zr24 rfl) ?_
  rintro _ _ _ ⟨b19, rfl, rfl, rfl⟩
  refine w_a0 rfl (o_store (v := .agg ⟨[.int .i32 ((rd z_1 i).f_X), .int .i32 ((rd z_1 i).f_Y)]⟩) sz24 rfl rfl rfl rfl (one_cons rfl (one_cons rfl one_nil)) .here (.here (.here .done))) ?_
  rintro _ _ _ ⟨rfl, rfl, rfl⟩
  refine w_done <| w_region rfl <| w_d rfl (d_fld (o' := 0) Tryd.underlying24 rfl sz21 rfl rfl rfl) <| w_d rfl (d_loado (v := .int .i32 ((rd z_1 i).f_X)) ty21 rfl .here rfl rfl rfl rfl) <| w_d rfl (d_geq rfl rfl) <| w_d rfl (d_move (v := .bool (decide ((-8388608) ≤ ((rd z_1 i).f_X)))) rfl) <| w_g (g := decide ((-8388608) ≤ ((rd z_1 i).f_X))) rfl rfl rfl wn_t (fun g20 => d_fld (o' := 0) Tryd.underlying24 rfl sz21 rfl rfl rfl) <| w_g (g := decide ((-8388608) ≤ ((rd z_1 i).f_X))) rfl rfl rfl wn_t (fun g21 => d_loado (v := .int .i32 ((rd z_1 i).f_X)) ty21 (cvt g21) .here rfl rfl rfl rfl) <| w_g (g := decide ((-8388608) ≤ ((rd z_1 i).f_X))) rfl rfl rfl wn_t (fun g22 => d_leq (cvt g22) rfl) <| w_d rfl (d_and' (b := (decide ((-8388608) ≤ ((rd z_1 i).f_X)))) (p := (decide (((rd z_1 i).f_X) ≤ 8388607))) rfl rfl rfl) <| w_d rfl (d_move (v := .bool ((decide ((-8388608) ≤ ((rd z_1 i).f_X))) && (decide (((rd z_1 i).f_X) ≤ 8388607)))) rfl) <| w_g (g := (decide ((-8388608) ≤ ((rd z_1 i).f_X))) && (decide (((rd z_1 i).f_X) ≤ 8388607))) rfl rfl rfl wn_t (fun g23 => d_fld (o' := 1) Tryd.underlying24 rfl sz21 rfl rfl rfl) ?_
  refine w_g (g := (decide ((-8388608) ≤ ((rd z_1 i).f_X))) && (decide (((rd z_1 i).f_X) ≤ 8388607))) rfl rfl rfl wn_t (fun g24 => d_loado (v := .int .i32 ((rd z_1 i).f_Y)) ty21 (cvt g24) .here rfl rfl rfl rfl) <| w_g (g := (decide ((-8388608) ≤ ((rd z_1 i).f_X))) && (decide (((rd z_1 i).f_X) ≤ 8388607))) rfl rfl rfl wn_t (fun g25 => d_geq (cvt g25) rfl) <| w_d rfl (d_and' (b := ((decide ((-8388608) ≤ ((rd z_1 i).f_X))) && (decide (((rd z_1 i).f_X) ≤ 8388607)))) (p := (decide ((-8388608) ≤ ((rd z_1 i).f_Y)))) rfl rfl rfl) <| w_d rfl (d_move (v := .bool (((decide ((-8388608) ≤ ((rd z_1 i).f_X))) && (decide (((rd z_1 i).f_X) ≤ 8388607))) && (decide ((-8388608) ≤ ((rd z_1 i).f_Y))))) rfl) <| w_g (g := ((decide ((-8388608) ≤ ((rd z_1 i).f_X))) && (decide (((rd z_1 i).f_X) ≤ 8388607))) && (decide ((-8388608) ≤ ((rd z_1 i).f_Y)))) rfl rfl rfl wn_t (fun g26 => d_fld (o' := 1) Tryd.underlying24 rfl sz21 rfl rfl rfl) <| w_g (g := ((decide ((-8388608) ≤ ((rd z_1 i).f_X))) && (decide (((rd z_1 i).f_X) ≤ 8388607))) && (decide ((-8388608) ≤ ((rd z_1 i).f_Y)))) rfl rfl rfl wn_t (fun g27 => d_loado (v := .int .i32 ((rd z_1 i).f_Y)) ty21 (cvt g27) .here rfl rfl rfl rfl) <| w_g (g := ((decide ((-8388608) ≤ ((rd z_1 i).f_X))) && (decide (((rd z_1 i).f_X) ≤ 8388607))) && (decide ((-8388608) ≤ ((rd z_1 i).f_Y)))) rfl rfl rfl wn_t (fun g28 => d_leq (cvt g28) rfl) <| w_d rfl (d_and' (b := (((decide ((-8388608) ≤ ((rd z_1 i).f_X))) && (decide (((rd z_1 i).f_X) ≤ 8388607))) && (decide ((-8388608) ≤ ((rd z_1 i).f_Y))))) (p := (decide (((rd z_1 i).f_Y) ≤ 8388607))) rfl rfl rfl) <| w_d rfl (d_assign (v := .bool ((((decide ((-8388608) ≤ ((rd z_1 i).f_X))) && (decide (((rd z_1 i).f_X) ≤ 8388607))) && (decide ((-8388608) ≤ ((rd z_1 i).f_Y)))) && (decide (((rd z_1 i).f_Y) ≤ 8388607)))) rfl) <| w_done <| w_inBlock <| w_region rfl ?_
  refine w_d rfl (d_move (v := .int .i64 i) rfl) <| w_d rfl (d_add (c := w64 (i + 1)) rfl rfl rfl) <| w_d rfl (d_assign (v := .int .i64 (w64 (i + 1))) rfl) <| w_done <| w_inLoop <| w_del .here <| w_sl 1 (.pointer (some ⟨b_z, 0, none⟩)) rfl <| w_sl 2 (.bool false) rfl <| w_sl 3 (.bool ((((decide ((-8388608) ≤ ((rd z_1 i).f_X))) && (decide (((rd z_1 i).f_X) ≤ 8388607))) && (decide ((-8388608) ≤ ((rd z_1 i).f_Y)))) && (decide (((rd z_1 i).f_Y) ≤ 8388607)))) rfl <| w_sl 4 (.int .i64 (w64 (i + 1))) rfl <| hh.l0 hle he h_z_1
 ·
  refine w_else rfl (Bool.eq_false_iff.2 c15) <| w_exit rfl <| w_seq <| w_region rfl <| w_d rfl (d_move (v := .bool ok) rfl) <| w_d rfl (d_assign (v := .bool ok) rfl) <| w_done ?_
  obtain rfl := Option.some.inj he
  refine w_return fn_18 rs_18 (.tmp (v := .bool ok) rfl .nil) <| ⟨⟨[_], rfl⟩, hle, rfl⟩
theorem radomeref39_May.ok : ∀ k, radomeref39_May.OK (radomeref39_May.hs k)
 | 0 => ⟨(by intros; exact nomatch (show none = some _ from by assumption))⟩
 | k + 1 => ⟨radomeref39_May.b0_ok (k := k) (radomeref39_May.ok k)⟩
theorem radomeref39_May.calls (k : Nat) {H : Hp} {L : Items} {z : radomeref39_Zone} {v0_z : Value} {r : Bool} (he : radomeref39_May.f k z = some r) (h0_z : Ro k_radomeref39_Spot H v0_z z.f_Corners) : Ct Tryd.prog 18 ⟨[.agg ⟨[.string z.f_Name, v0_z]⟩]⟩ H L (fun v H' L' => L = L' ∧ H = H' ∧ v = .bool r) := by
 refine ct_outs (O := radomeref39_May.out r) (fun _ _ h => h) ?_
 have hle : H.le H := .refl _
 have hh := radomeref39_May.ok k
 unfold radomeref39_May.f at he
 refine ct_enter (args := [.agg ⟨[.string z.f_Name, v0_z]⟩]) fn_18 rfl nt_18 rfl <| w_seq <| w_region rfl <| w_a rfl (o_box (v := .agg ⟨[.string z.f_Name, v0_z]⟩) rfl rfl) ?_
 rintro _ _ _ ⟨b1, rfl, rfl, rfl⟩
 refine w_d rfl (d_assign (v := .bool false) rfl) <| w_done <| w_seq <| w_region rfl <| w_d rfl (d_fld (o' := 0) Tryd.underlying29 rfl sz9 rfl rfl rfl) <| w_d rfl (d_loado (v := .string z.f_Name) ty9 rfl .here rfl rfl rfl rfl) <| w_d rfl (d_lens Tryd.underlying9 rfl) <| w_d rfl (d_geq rfl rfl) <| w_d rfl (d_move (v := .bool (decide (1 ≤ (z.f_Name.size : Int)))) rfl) <| w_g (g := decide (1 ≤ (z.f_Name.size : Int))) rfl rfl rfl wn_t (fun g2 => d_fld (o' := 0) Tryd.underlying29 rfl sz9 rfl rfl rfl) <| w_g (g := decide (1 ≤ (z.f_Name.size : Int))) rfl rfl rfl wn_t (fun g3 => d_loado (v := .string z.f_Name) ty9 (cvt g3) .here rfl rfl rfl rfl) <| w_g (g := decide (1 ≤ (z.f_Name.size : Int))) rfl rfl rfl wn_t (fun g4 => d_lens Tryd.underlying9 (cvt g4)) ?_
 refine w_g (g := decide (1 ≤ (z.f_Name.size : Int))) rfl rfl rfl wn_t (fun g5 => d_leq (cvt g5) rfl) <| w_d rfl (d_and' (b := (decide (1 ≤ (z.f_Name.size : Int)))) (p := (decide ((z.f_Name.size : Int) ≤ 32))) rfl rfl rfl) <| w_d rfl (d_move (v := .bool ((decide (1 ≤ (z.f_Name.size : Int))) && (decide ((z.f_Name.size : Int) ≤ 32)))) rfl) <| w_g (g := (decide (1 ≤ (z.f_Name.size : Int))) && (decide ((z.f_Name.size : Int) ≤ 32))) rfl rfl rfl wn_t (fun g6 => d_fld (o' := 1) Tryd.underlying29 rfl sz27 rfl rfl rfl) <| w_g (g := (decide (1 ≤ (z.f_Name.size : Int))) && (decide ((z.f_Name.size : Int) ≤ 32))) rfl rfl rfl wn_t (fun g7 => d_loado (v := v0_z) ty27 (cvt g7) .here rfl rfl rfl rfl) <| w_g (g := (decide (1 ≤ (z.f_Name.size : Int))) && (decide ((z.f_Name.size : Int) ≤ 32))) rfl rfl rfl wn_t (fun g8 => d_len Tryd.underlying27 (cvt g8) h0_z.src) <| w_g (g := (decide (1 ≤ (z.f_Name.size : Int))) && (decide ((z.f_Name.size : Int) ≤ 32))) rfl rfl rfl wn_t (fun g9 => d_geq (cvt g9) rfl) <| w_d rfl (d_and' (b := ((decide (1 ≤ (z.f_Name.size : Int))) && (decide ((z.f_Name.size : Int) ≤ 32)))) (p := (decide (3 ≤ (z.f_Corners.length : Int)))) rfl rfl rfl) <| w_d rfl (d_move (v := .bool (((decide (1 ≤ (z.f_Name.size : Int))) && (decide ((z.f_Name.size : Int) ≤ 32))) && (decide (3 ≤ (z.f_Corners.length : Int))))) rfl) <| w_g (g := ((decide (1 ≤ (z.f_Name.size : Int))) && (decide ((z.f_Name.size : Int) ≤ 32))) && (decide (3 ≤ (z.f_Corners.length : Int)))) rfl rfl rfl wn_t (fun g10 => d_fld (o' := 1) Tryd.underlying29 rfl sz27 rfl rfl rfl) <| w_g (g := ((decide (1 ≤ (z.f_Name.size : Int))) && (decide ((z.f_Name.size : Int) ≤ 32))) && (decide (3 ≤ (z.f_Corners.length : Int)))) rfl rfl rfl wn_t (fun g11 => d_loado (v := v0_z) ty27 (cvt g11) .here rfl rfl rfl rfl) <| w_g (g := ((decide (1 ≤ (z.f_Name.size : Int))) && (decide ((z.f_Name.size : Int) ≤ 32))) && (decide (3 ≤ (z.f_Corners.length : Int)))) rfl rfl rfl wn_t (fun g12 => d_len Tryd.underlying27 (cvt g12) h0_z.src) ?_
 refine w_g (g := ((decide (1 ≤ (z.f_Name.size : Int))) && (decide ((z.f_Name.size : Int) ≤ 32))) && (decide (3 ≤ (z.f_Corners.length : Int)))) rfl rfl rfl wn_t (fun g13 => d_leq (cvt g13) rfl) <| w_d rfl (d_and' (b := (((decide (1 ≤ (z.f_Name.size : Int))) && (decide ((z.f_Name.size : Int) ≤ 32))) && (decide (3 ≤ (z.f_Corners.length : Int))))) (p := (decide ((z.f_Corners.length : Int) ≤ 32))) rfl rfl rfl) <| w_d rfl (d_assign (v := .bool ((((decide (1 ≤ (z.f_Name.size : Int))) && (decide ((z.f_Name.size : Int) ≤ 32))) && (decide (3 ≤ (z.f_Corners.length : Int)))) && (decide ((z.f_Corners.length : Int) ≤ 32)))) rfl) <| w_done <| w_seq <| w_seq <| w_region rfl <| w_d rfl (d_assign (v := .int .i64 0) rfl) <| w_done <| w_block <| w_loop <| w_sl 1 (.pointer (some ⟨b1, 0, none⟩)) rfl ?_
 refine w_sl 2 (.bool false) rfl <| w_sl 3 (.bool ((((decide (1 ≤ (z.f_Name.size : Int))) && (decide ((z.f_Name.size : Int) ≤ 32))) && (decide (3 ≤ (z.f_Corners.length : Int)))) && (decide ((z.f_Corners.length : Int) ≤ 32)))) rfl <| w_sl 4 (.int .i64 0) rfl <| hh.l0 hle he h0_z
end Go.Proofs.YtoijknggnlbopaaDoor.GZH

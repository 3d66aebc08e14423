/- A text of this session, written by a program (wip/k/gen.py): Go functions as Lean functions, and proofs that the code comes to them. -/
import Derived.Test.YtoijknggnlbopaaDoorGZHx0
namespace Go.Proofs.YtoijknggnlbopaaDoor.GZH
open Go Go.RowKit Go.Proofs.YtoijknggnlbopaaDoorK Go.Proofs.YtoijknggnlbopaaDoor
set_option maxRecDepth 100000
set_option maxHeartbeats 2000000
set_option linter.unusedVariables false
set_option linter.unusedSimpArgs false
/-! ### radome/radomeref39.Where -/
noncomputable def radomeref39_Where.C : Code := (Tryd.f19.body).getD .skip
def radomeref39_Where.out (r : Int) (H : Hp) (v : Value) : Prop := v = .int .i64 r
abbrev radomeref39_Where.R (H0 : Hp) (L : Items) (r : Int) : Value → Hp → Items → Prop := fun v H' L' => (∃ p, L' = p ++ L) ∧ H0.le H' ∧ radomeref39_Where.out r H' v
structure radomeref39_Where.Hs where
 l0 : ByteArray → (List radomeref39_Spot) → Int → Int → Bool → Int → Int → Int → Option Int
noncomputable def radomeref39_Where.j2 (k : Nat) (h : radomeref39_Where.Hs)  (z_0 : ByteArray) (z_1 : List radomeref39_Spot) (t4 : Int) (n : Int) (odd : Bool) (x : Int) (y : Int) (i : Int) (a_0 : Int) (a_1 : Int) (b_0 : Int) (b_1 : Int) : Option Int := if ((decide (y < (w64 (a_1)))) || (decide ((w64 (b_1)) < y))) = true then (h.l0 z_0 z_1 t4 n odd x y (w64 (i + 1))) else (if (w64 (a_1)) = (w64 (b_1)) then (if ((decide ((min (w64 (a_0)) (w64 (b_0))) ≤ x)) && (decide (x ≤ (max (w64 (a_0)) (w64 (b_0)))))) = true then (some (1)) else (h.l0 z_0 z_1 t4 n odd x y (w64 (i + 1)))) else (if (w64 ((w64 ((w64 ((w64 (a_0)) * (w64 ((w64 (b_1)) - (w64 (a_1)))))) + (w64 ((w64 ((w64 (b_0)) - (w64 (a_0)))) * (w64 (y - (w64 (a_1)))))))) - (w64 (x * (w64 ((w64 (b_1)) - (w64 (a_1)))))))) = 0 then (some (1)) else (if ((decide (y < (w64 (b_1)))) && (decide (0 < (w64 ((w64 ((w64 ((w64 (a_0)) * (w64 ((w64 (b_1)) - (w64 (a_1)))))) + (w64 ((w64 ((w64 (b_0)) - (w64 (a_0)))) * (w64 (y - (w64 (a_1)))))))) - (w64 (x * (w64 ((w64 (b_1)) - (w64 (a_1))))))))))) = true then (h.l0 z_0 z_1 t4 n (!odd) x y (w64 (i + 1))) else (h.l0 z_0 z_1 t4 n odd x y (w64 (i + 1))))))
noncomputable def radomeref39_Where.b0 (k : Nat) (h : radomeref39_Where.Hs)  (z_0 : ByteArray) (z_1 : List radomeref39_Spot) (t4 : Int) (n : Int) (odd : Bool) (x : Int) (y : Int) (i : Int) : Option Int := if i < n then (if (0 : Int) ≤ i ∧ i < (z_1.length : Int) then (if n ≠ 0 then (if (0 : Int) ≤ Int.tmod (w64 (i + 1)) n ∧ Int.tmod (w64 (i + 1)) n < (z_1.length : Int) then (if ((rd z_1 (Int.tmod (w64 (i + 1)) n)).f_Y) < ((rd z_1 i).f_Y) then (radomeref39_Where.j2 k h z_0 z_1 t4 n odd x y i ((rd z_1 (Int.tmod (w64 (i + 1)) n)).f_X) ((rd z_1 (Int.tmod (w64 (i + 1)) n)).f_Y) ((rd z_1 i).f_X) ((rd z_1 i).f_Y)) else (radomeref39_Where.j2 k h z_0 z_1 t4 n odd x y i ((rd z_1 i).f_X) ((rd z_1 i).f_Y) ((rd z_1 (Int.tmod (w64 (i + 1)) n)).f_X) ((rd z_1 (Int.tmod (w64 (i + 1)) n)).f_Y))) else none) else none) else none) else (if odd = true then (some (2)) else (some (0)))
noncomputable def radomeref39_Where.hs : Nat → radomeref39_Where.Hs
 | 0 => ⟨fun _ _ _ _ _ _ _ _ => none⟩
 | k + 1 => ⟨fun x0 x1 x2 x3 x4 x5 x6 x7 => radomeref39_Where.b0 k (radomeref39_Where.hs k) x0 x1 x2 x3 x4 x5 x6 x7⟩
noncomputable def radomeref39_Where.f (k : Nat) (z : radomeref39_Zone) (p : radomeref39_Spot) : Option Int := (fun h : radomeref39_Where.Hs => h.l0 z.f_Name z.f_Corners 0 (z.f_Corners.length : Int) false (w64 (p.f_X)) (w64 (p.f_Y)) 0) (radomeref39_Where.hs k)
structure radomeref39_Where.LE (h h' : radomeref39_Where.Hs) : Prop where
 l0 : ∀ y0 y1 y2 y3 y4 y5 y6 y7, LeO (h.l0 y0 y1 y2 y3 y4 y5 y6 y7) (h'.l0 y0 y1 y2 y3 y4 y5 y6 y7)
theorem radomeref39_Where.j2_mono {k : Nat} {h h' : radomeref39_Where.Hs} (hl : radomeref39_Where.LE h h') : ∀ y0 y1 y2 y3 y4 y5 y6 y7 y8 y9 y10 y11, LeO (radomeref39_Where.j2 k h y0 y1 y2 y3 y4 y5 y6 y7 y8 y9 y10 y11) (radomeref39_Where.j2 (k + 1) h' y0 y1 y2 y3 y4 y5 y6 y7 y8 y9 y10 y11) := fun _ _ _ _ _ _ _ _ _ _ _ _ => (LeO.ite (hl.l0 _ _ _ _ _ _ _ _) (LeO.ite (LeO.ite (LeO.refl _) (hl.l0 _ _ _ _ _ _ _ _)) (LeO.ite (LeO.refl _) (LeO.ite (hl.l0 _ _ _ _ _ _ _ _) (hl.l0 _ _ _ _ _ _ _ _)))))
theorem radomeref39_Where.b0_mono {k : Nat} {h h' : radomeref39_Where.Hs} (hl : radomeref39_Where.LE h h') : ∀ y0 y1 y2 y3 y4 y5 y6 y7, LeO (radomeref39_Where.b0 k h y0 y1 y2 y3 y4 y5 y6 y7) (radomeref39_Where.b0 (k + 1) h' y0 y1 y2 y3 y4 y5 y6 y7) := fun _ _ _ _ _ _ _ _ => (LeO.ite (LeO.ite (LeO.ite (LeO.ite (LeO.ite (radomeref39_Where.j2_mono (k := k) hl _ _ _ _ _ _ _ _ _ _ _ _) (radomeref39_Where.j2_mono (k := k) hl _ _ _ _ _ _ _ _ _ _ _ _)) (LeO.refl _)) (LeO.refl _)) (LeO.refl _)) (LeO.ite (LeO.refl _) (LeO.refl _)))
theorem radomeref39_Where.hs_mono : ∀ k, radomeref39_Where.LE (radomeref39_Where.hs k) (radomeref39_Where.hs (k + 1))
 | 0 => ⟨fun _ _ _ _ _ _ _ _ => LeO.none _⟩
 | k + 1 => ⟨radomeref39_Where.b0_mono (k := k) (radomeref39_Where.hs_mono k)⟩
theorem radomeref39_Where.mono : ∀ k y0 y1, LeO (radomeref39_Where.f k y0 y1) (radomeref39_Where.f (k + 1) y0 y1) := fun k _ _ => have hl := radomeref39_Where.hs_mono k; by unfold radomeref39_Where.f; exact (hl.l0 _ _ _ _ _ _ _ _)
noncomputable def radomeref39_Where.Kl0 : List Item := .code (lopB (blkB (seqR (seqL (seqR (seqR (seqR (seqR radomeref39_Where.C)))))))) :: .inLoop (lopB (blkB (seqR (seqL (seqR (seqR (seqR (seqR radomeref39_Where.C)))))))) :: .inBlock 0 :: .code (seqR (seqR (seqR (seqR (seqR radomeref39_Where.C))))) :: []
noncomputable def radomeref39_Where.Kj2 : List Item := .code (seqR (seqR (blkB (seqL (seqR (lopB (blkB (seqR (seqL (seqR (seqR (seqR (seqR radomeref39_Where.C))))))))))))) :: .inBlock 1 :: .code (seqR (seqR (lopB (blkB (seqR (seqL (seqR (seqR (seqR (seqR radomeref39_Where.C)))))))))) :: .inLoop (lopB (blkB (seqR (seqL (seqR (seqR (seqR (seqR radomeref39_Where.C)))))))) :: .inBlock 0 :: .code (seqR (seqR (seqR (seqR (seqR radomeref39_Where.C))))) :: []
structure radomeref39_Where.OK (h : radomeref39_Where.Hs) : Prop where
 l0 : ∀ {H0 H : Hp} {L : Items} {r : Int} {jk_ : Nat → Value} {z_0 : ByteArray} {z_1 : List radomeref39_Spot} {t4 : Int} {n : Int} {odd : Bool} {x : Int} {y : Int} {i : Int} {v_z_1 : Value} {b_z : Nat} (_ : H0.le H) (_he : h.l0 z_0 z_1 t4 n odd x y i = some r) (_h_z_1 : Ro k_radomeref39_Spot H v_z_1 z_1), Wp Tryd.prog 19 117 radomeref39_Where.Kl0 (upd (upd (upd (upd (upd (upd (upd jk_ 2 (.pointer (some ⟨b_z, 0, none⟩))) 4 (.int .i64 t4)) 5 (.int .i64 n)) 6 (.bool odd)) 7 (.int .i64 x)) 8 (.int .i64 y)) 9 (.int .i64 i)) H (some (b_z, .cells ⟨[.string z_0, v_z_1]⟩ 29 (0, 0)) :: L) (radomeref39_Where.R H0 L r)
theorem radomeref39_Where.j2_ok {k : Nat} {h : radomeref39_Where.Hs} (hh : radomeref39_Where.OK h) {H0 H : Hp} {L : Items} {r : Int} {jk_ : Nat → Value} {z_0 : ByteArray} {z_1 : List radomeref39_Spot} {t4 : Int} {n : Int} {odd : Bool} {x : Int} {y : Int} {i : Int} {a_0 : Int} {a_1 : Int} {b_0 : Int} {b_1 : Int} {v_z_1 : Value} {b_z : Nat} {b_a : Nat} {b_b : Nat} (hle : H0.le H) (he : radomeref39_Where.j2 k h z_0 z_1 t4 n odd x y i a_0 a_1 b_0 b_1 = some r) (h_z_1 : Ro k_radomeref39_Spot H v_z_1 z_1) : Wp Tryd.prog 19 117 radomeref39_Where.Kj2 (upd (upd (upd (upd (upd (upd (upd (upd (upd jk_ 2 (.pointer (some ⟨b_z, 0, none⟩))) 4 (.int .i64 t4)) 5 (.int .i64 n)) 6 (.bool odd)) 7 (.int .i64 x)) 8 (.int .i64 y)) 9 (.int .i64 i)) 10 (.pointer (some ⟨b_a, 0, none⟩))) 11 (.pointer (some ⟨b_b, 0, none⟩))) H (some (b_a, .cells ⟨[.int .i32 a_0, .int .i32 a_1]⟩ 24 (0, 0)) :: some (b_b, .cells ⟨[.int .i32 b_0, .int .i32 b_1]⟩ 24 (0, 0)) :: some (b_z, .cells ⟨[.string z_0, v_z_1]⟩ 29 (0, 0)) :: L) (radomeref39_Where.R H0 L r) := by
 unfold radomeref39_Where.j2 at he
 unfold radomeref39_Where.Kj2
 refine w_seq <| w_drawn (p := 15) (tl := [15]) [[], [(0, some 51)], [(1, some 52)], [], [(3, some 54)], [(4, some 55)], [], [(6, some 57)], [(7, some 58)], [], [(9, some 60)], [(10, some 61)], [(2, some 53)], [(5, some 56)], [(8, some 59)]] [some 51, some 52, some 53, some 54, some 55, some 56, some 57, some 58, some 59, some 60, some 61, some 62, some 12, some 13, some 14] (fctF (.is (.pointer (some ⟨b_a, 0, none⟩)) :: .is (.int .i32 a_0) :: .is (.int .i64 (w64 (a_0))) :: .is (.pointer (some ⟨b_a, 1, none⟩)) :: .is (.int .i32 a_1) :: .is (.int .i64 (w64 (a_1))) :: .is (.pointer (some ⟨b_b, 0, none⟩)) :: .is (.int .i32 b_0) :: .is (.int .i64 (w64 (b_0))) :: .is (.pointer (some ⟨b_b, 1, none⟩)) :: .is (.int .i32 b_1) :: .is (.int .i64 (w64 (b_1))) :: .is (.int .i64 (w64 (a_0))) :: .is (.int .i64 (w64 (a_1))) :: .is (.int .i64 (w64 (b_0))) :: [])) (fun m_ => some (b_a, .cells ⟨[.int .i32 a_0, .int .i32 a_1]⟩ 24 (0, 0)) :: some (b_b, .cells ⟨[.int .i32 b_0, .int .i32 b_1]⟩ 24 (0, 0)) :: some (b_z, .cells ⟨[.string z_0, v_z_1]⟩ 29 (0, 0)) :: L) (fun _ => none) mixed (by kernel_rfl) (by kernel_rfl) rfl (fct_mono (by kernel_rfl)) ⟨(fun H' m_ hH hm_ hu_ => depK_nil <| s_d (m_ 0) rfl (d_fld (o' := 0) Tryd.underlying24 rfl sz21 rfl rfl rfl) (by exact rfl) rfl), (by rintro H' m_ hH hm_ hu_ _ rfl; exact depK_nil <| s_d (m_ 1) rfl (d_loado (v := .int .i32 a_0) ty21 rfl .here rfl rfl rfl rfl) (by exact rfl) rfl), (by rintro H' m_ hH hm_ hu_ _ rfl; exact depK_nil <| s_d (m_ 2) rfl (d_conv (c := w64 (a_0)) Tryd.underlying21 Tryd.underlying2 rfl rfl) (by exact rfl) rfl), (fun H' m_ hH hm_ hu_ => depK_nil <| s_d (m_ 3) rfl (d_fld (o' := 1) Tryd.underlying24 rfl sz21 rfl rfl rfl) (by exact rfl) rfl), (by rintro H' m_ hH hm_ hu_ _ rfl; exact depK_nil <| s_d (m_ 4) rfl (d_loado (v := .int .i32 a_1) ty21 rfl .here rfl rfl rfl rfl) (by exact rfl) rfl), (by rintro H' m_ hH hm_ hu_ _ rfl; exact depK_nil <| s_d (m_ 5) rfl (d_conv (c := w64 (a_1)) Tryd.underlying21 Tryd.underlying2 rfl rfl) (by exact rfl) rfl), (fun H' m_ hH hm_ hu_ => depK_nil <| s_d (m_ 6) rfl (d_fld (o' := 0) Tryd.underlying24 rfl sz21 rfl rfl rfl) (by exact rfl) rfl), (by rintro H' m_ hH hm_ hu_ _ rfl; exact depK_nil <| s_d (m_ 7) rfl (d_loado (v := .int .i32 b_0) ty21 rfl (.there .here) rfl rfl rfl rfl) (by exact rfl) rfl), (by rintro H' m_ hH hm_ hu_ _ rfl; exact depK_nil <| s_d (m_ 8) rfl (d_conv (c := w64 (b_0)) Tryd.underlying21 Tryd.underlying2 rfl rfl) (by exact rfl) rfl), (fun H' m_ hH hm_ hu_ => depK_nil <| s_d (m_ 9) rfl (d_fld (o' := 1) Tryd.underlying24 rfl sz21 rfl rfl rfl) (by exact rfl) rfl), (by rintro H' m_ hH hm_ hu_ _ rfl; exact depK_nil <| s_d (m_ 10) rfl (d_loado (v := .int .i32 b_1) ty21 rfl (.there .here) rfl rfl rfl rfl) (by exact rfl) rfl), (by rintro H' m_ hH hm_ hu_ _ rfl; exact depK_nil <| s_d (m_ 11) rfl (d_conv (c := w64 (b_1)) Tryd.underlying21 Tryd.underlying2 rfl rfl) (by exact rfl) rfl), (by rintro H' m_ hH hm_ hu_ _ rfl; exact depK_nil <| s_d (m_ 12) rfl (d_assign (v := .int .i64 (w64 (a_0))) rfl) (by exact rfl) rfl), (by rintro H' m_ hH hm_ hu_ _ rfl; exact depK_nil <| s_d (m_ 13) rfl (d_assign (v := .int .i64 (w64 (a_1))) rfl) (by exact rfl) rfl), (by rintro H' m_ hH hm_ hu_ _ rfl; exact depK_nil <| s_d (m_ 14) rfl (d_assign (v := .int .i64 (w64 (b_0))) rfl) (by exact rfl) rfl), trivial⟩ ?_
 intro H21 e22
 rintro _ _ rfl _ _ rfl _ _ rfl _ _ rfl _ _ rfl _ _ rfl _ _ rfl _ _ rfl _ _ rfl _ _ rfl _ _ rfl _ _ rfl _ _ rfl _ _ rfl _ _ rfl
 refine w_d rfl (d_assign (v := .int .i64 (w64 (b_1))) rfl) <| w_done <| w_seq <| w_seq <| w_region rfl <| w_d rfl (d_move (v := .int .i64 y) rfl) <| w_d rfl (d_move (v := .int .i64 (w64 (a_1))) rfl) <| w_d rfl (d_lss rfl rfl) <| w_d rfl (d_move (v := .bool (decide (y < (w64 (a_1))))) rfl) <| w_g (g := !(decide (y < (w64 (a_1))))) rfl rfl rfl wn_f (fun g23 => d_move (v := .int .i64 y) rfl) <| w_g (g := !(decide (y < (w64 (a_1))))) rfl rfl rfl wn_f (fun g24 => d_move (v := .int .i64 (w64 (b_1))) rfl) <| w_g (g := !(decide (y < (w64 (a_1))))) rfl rfl rfl wn_f (fun g25 => d_gtr (cvt g25) (cvt g25)) ?_
 refine w_d rfl (d_or' (b := (decide (y < (w64 (a_1))))) (p := (decide ((w64 (b_1)) < y))) rfl rfl rfl) <| w_done ?_
 rcases its he with ⟨c26, he⟩ | ⟨c26, he⟩
 ·
  refine w_then rfl c26 <| w_exit rfl <| w_region rfl <| w_d rfl (d_move (v := .int .i64 i) rfl) <| w_d rfl (d_add (c := w64 (i + 1)) rfl rfl rfl) <| w_d rfl (d_assign (v := .int .i64 (w64 (i + 1))) rfl) <| w_done <| w_inLoop <| w_del (.there .here) <| w_del .here <| w_sl 2 (.pointer (some ⟨b_z, 0, none⟩)) rfl <| w_sl 4 (.int .i64 t4) rfl ?_
  refine w_sl 5 (.int .i64 n) rfl <| w_sl 6 (.bool odd) rfl <| w_sl 7 (.int .i64 x) rfl <| w_sl 8 (.int .i64 y) rfl <| w_sl 9 (.int .i64 (w64 (i + 1))) rfl <| hh.l0 (hle.trans e22) he (h_z_1.mono e22)
 ·
  refine w_else rfl (Bool.eq_false_iff.2 c26) <| w_skip <| w_seq <| w_seq <| w_region rfl <| w_d rfl (d_move (v := .int .i64 (w64 (a_1))) rfl) <| w_d rfl (d_move (v := .int .i64 (w64 (b_1))) rfl) <| w_d rfl (d_eql rfl rfl) <| w_done ?_
  rcases its he with ⟨c27, he⟩ | ⟨c27, he⟩
  ·
   refine w_then rfl (decide_eq_true c27) <| w_seq <| w_seq <| w_region rfl <| w_d rfl (d_move (v := .int .i64 x) rfl) <| w_d rfl (d_move (v := .int .i64 (w64 (a_0))) rfl) <| w_d rfl (d_move (v := .int .i64 (w64 (b_0))) rfl) <| w_d rfl (d_min rfl rfl) <| w_d rfl (d_geq rfl rfl) <| w_d rfl (d_move (v := .bool (decide ((min (w64 (a_0)) (w64 (b_0))) ≤ x))) rfl) <| w_g (g := decide ((min (w64 (a_0)) (w64 (b_0))) ≤ x)) rfl rfl rfl wn_t (fun g28 => d_move (v := .int .i64 x) rfl) <| w_g (g := decide ((min (w64 (a_0)) (w64 (b_0))) ≤ x)) rfl rfl rfl wn_t (fun g29 => d_move (v := .int .i64 (w64 (a_0))) rfl) ?_
   refine w_g (g := decide ((min (w64 (a_0)) (w64 (b_0))) ≤ x)) rfl rfl rfl wn_t (fun g30 => d_move (v := .int .i64 (w64 (b_0))) rfl) <| w_g (g := decide ((min (w64 (a_0)) (w64 (b_0))) ≤ x)) rfl rfl rfl wn_t (fun g31 => d_max (cvt g31) (cvt g31)) <| w_g (g := decide ((min (w64 (a_0)) (w64 (b_0))) ≤ x)) rfl rfl rfl wn_t (fun g32 => d_leq (cvt g32) (cvt g32)) <| w_d rfl (d_and' (b := (decide ((min (w64 (a_0)) (w64 (b_0))) ≤ x))) (p := (decide (x ≤ (max (w64 (a_0)) (w64 (b_0)))))) rfl rfl rfl) <| w_done ?_
   rcases its he with ⟨c33, he⟩ | ⟨c33, he⟩
   ·
    refine w_then rfl c33 <| w_seq <| w_region rfl <| w_d rfl (d_assign (v := .int .i64 1) rfl) <| w_done ?_
    obtain rfl := Option.some.inj he
    refine w_return fn_19 rs_19 (.tmp (v := .int .i64 1) rfl .nil) <| ⟨⟨[_, _, _], rfl⟩, hle.trans e22, rfl⟩
   ·
    refine w_else rfl (Bool.eq_false_iff.2 c33) <| w_skip <| w_exit rfl <| w_region rfl <| w_d rfl (d_move (v := .int .i64 i) rfl) <| w_d rfl (d_add (c := w64 (i + 1)) rfl rfl rfl) <| w_d rfl (d_assign (v := .int .i64 (w64 (i + 1))) rfl) <| w_done <| w_inLoop <| w_del (.there .here) <| w_del .here <| w_sl 2 (.pointer (some ⟨b_z, 0, none⟩)) rfl ?_
    refine w_sl 4 (.int .i64 t4) rfl <| w_sl 5 (.int .i64 n) rfl <| w_sl 6 (.bool odd) rfl <| w_sl 7 (.int .i64 x) rfl <| w_sl 8 (.int .i64 y) rfl <| w_sl 9 (.int .i64 (w64 (i + 1))) rfl <| hh.l0 (hle.trans e22) he (h_z_1.mono e22)
  ·
   refine w_else rfl (decide_eq_false c27) <| w_skip <| w_seq <| w_region rfl <| w_d rfl (d_move (v := .int .i64 (w64 (a_0))) rfl) <| w_d rfl (d_move (v := .int .i64 (w64 (b_1))) rfl) <| w_d rfl (d_move (v := .int .i64 (w64 (a_1))) rfl) <| w_d rfl (d_sub (c := w64 ((w64 (b_1)) - (w64 (a_1)))) rfl rfl rfl) <| w_d rfl (d_mul (c := w64 ((w64 (a_0)) * (w64 ((w64 (b_1)) - (w64 (a_1)))))) rfl rfl rfl) <| w_d rfl (d_move (v := .int .i64 (w64 (b_0))) rfl) <| w_d rfl (d_move (v := .int .i64 (w64 (a_0))) rfl) <| w_d rfl (d_sub (c := w64 ((w64 (b_0)) - (w64 (a_0)))) rfl rfl rfl) ?_
   refine w_d rfl (d_move (v := .int .i64 y) rfl) <| w_d rfl (d_move (v := .int .i64 (w64 (a_1))) rfl) <| w_d rfl (d_sub (c := w64 (y - (w64 (a_1)))) rfl rfl rfl) <| w_d rfl (d_mul (c := w64 ((w64 ((w64 (b_0)) - (w64 (a_0)))) * (w64 (y - (w64 (a_1)))))) rfl rfl rfl) <| w_d rfl (d_add (c := w64 ((w64 ((w64 (a_0)) * (w64 ((w64 (b_1)) - (w64 (a_1)))))) + (w64 ((w64 ((w64 (b_0)) - (w64 (a_0)))) * (w64 (y - (w64 (a_1)))))))) rfl rfl rfl) <| w_d rfl (d_move (v := .int .i64 x) rfl) <| w_d rfl (d_move (v := .int .i64 (w64 (b_1))) rfl) <| w_d rfl (d_move (v := .int .i64 (w64 (a_1))) rfl) <| w_d rfl (d_sub (c := w64 ((w64 (b_1)) - (w64 (a_1)))) rfl rfl rfl) <| w_d rfl (d_mul (c := w64 (x * (w64 ((w64 (b_1)) - (w64 (a_1)))))) rfl rfl rfl) <| w_d rfl (d_sub (c := w64 ((w64 ((w64 ((w64 (a_0)) * (w64 ((w64 (b_1)) - (w64 (a_1)))))) + (w64 ((w64 ((w64 (b_0)) - (w64 (a_0)))) * (w64 (y - (w64 (a_1)))))))) - (w64 (x * (w64 ((w64 (b_1)) - (w64 (a_1)))))))) rfl rfl rfl) <| w_d rfl (d_assign (v := .int .i64 (w64 ((w64 ((w64 ((w64 (a_0)) * (w64 ((w64 (b_1)) - (w64 (a_1)))))) + (w64 ((w64 ((w64 (b_0)) - (w64 (a_0)))) * (w64 (y - (w64 (a_1)))))))) - (w64 (x * (w64 ((w64 (b_1)) - (w64 (a_1))))))))) rfl) ?_
   refine w_done <| w_seq <| w_seq <| w_region rfl <| w_d rfl (d_move (v := .int .i64 (w64 ((w64 ((w64 ((w64 (a_0)) * (w64 ((w64 (b_1)) - (w64 (a_1)))))) + (w64 ((w64 ((w64 (b_0)) - (w64 (a_0)))) * (w64 (y - (w64 (a_1)))))))) - (w64 (x * (w64 ((w64 (b_1)) - (w64 (a_1))))))))) rfl) <| w_d rfl (d_eql rfl rfl) <| w_done ?_
   rcases its he with ⟨c34, he⟩ | ⟨c34, he⟩
   ·
    refine w_then rfl (decide_eq_true c34) <| w_seq <| w_region rfl <| w_d rfl (d_assign (v := .int .i64 1) rfl) <| w_done ?_
    obtain rfl := Option.some.inj he
    refine w_return fn_19 rs_19 (.tmp (v := .int .i64 1) rfl .nil) <| ⟨⟨[_, _, _], rfl⟩, hle.trans e22, rfl⟩
   ·
    refine w_else rfl (decide_eq_false c34) <| w_skip <| w_seq <| w_region rfl <| w_d rfl (d_move (v := .int .i64 y) rfl) <| w_d rfl (d_move (v := .int .i64 (w64 (b_1))) rfl) <| w_d rfl (d_lss rfl rfl) <| w_d rfl (d_move (v := .bool (decide (y < (w64 (b_1))))) rfl) <| w_g (g := decide (y < (w64 (b_1)))) rfl rfl rfl wn_t (fun g35 => d_move (v := .int .i64 (w64 ((w64 ((w64 ((w64 (a_0)) * (w64 ((w64 (b_1)) - (w64 (a_1)))))) + (w64 ((w64 ((w64 (b_0)) - (w64 (a_0)))) * (w64 (y - (w64 (a_1)))))))) - (w64 (x * (w64 ((w64 (b_1)) - (w64 (a_1))))))))) rfl) <| w_g (g := decide (y < (w64 (b_1)))) rfl rfl rfl wn_t (fun g36 => d_gtr (cvt g36) rfl) <| w_d rfl (d_and' (b := (decide (y < (w64 (b_1))))) (p := (decide (0 < (w64 ((w64 ((w64 ((w64 (a_0)) * (w64 ((w64 (b_1)) - (w64 (a_1)))))) + (w64 ((w64 ((w64 (b_0)) - (w64 (a_0)))) * (w64 (y - (w64 (a_1)))))))) - (w64 (x * (w64 ((w64 (b_1)) - (w64 (a_1))))))))))) rfl rfl rfl) <| w_done ?_
    rcases its he with ⟨c37, he⟩ | ⟨c37, he⟩
    ·
     refine w_then rfl c37 <| w_region rfl <| w_d rfl (d_move (v := .bool odd) rfl) <| w_d rfl (d_not (b := odd) rfl) <| w_d rfl (d_assign (v := .bool (!odd)) rfl) <| w_done <| w_inBlock <| w_region rfl <| w_d rfl (d_move (v := .int .i64 i) rfl) <| w_d rfl (d_add (c := w64 (i + 1)) rfl rfl rfl) <| w_d rfl (d_assign (v := .int .i64 (w64 (i + 1))) rfl) <| w_done ?_
     refine w_inLoop <| w_del (.there .here) <| w_del .here <| w_sl 2 (.pointer (some ⟨b_z, 0, none⟩)) rfl <| w_sl 4 (.int .i64 t4) rfl <| w_sl 5 (.int .i64 n) rfl <| w_sl 6 (.bool (!odd)) rfl <| w_sl 7 (.int .i64 x) rfl <| w_sl 8 (.int .i64 y) rfl <| w_sl 9 (.int .i64 (w64 (i + 1))) rfl <| hh.l0 (hle.trans e22) he (h_z_1.mono e22)
    ·
     refine w_else rfl (Bool.eq_false_iff.2 c37) <| w_skip <| w_inBlock <| w_region rfl <| w_d rfl (d_move (v := .int .i64 i) rfl) <| w_d rfl (d_add (c := w64 (i + 1)) rfl rfl rfl) <| w_d rfl (d_assign (v := .int .i64 (w64 (i + 1))) rfl) <| w_done <| w_inLoop <| w_del (.there .here) <| w_del .here <| w_sl 2 (.pointer (some ⟨b_z, 0, none⟩)) rfl ?_
     refine w_sl 4 (.int .i64 t4) rfl <| w_sl 5 (.int .i64 n) rfl <| w_sl 6 (.bool odd) rfl <| w_sl 7 (.int .i64 x) rfl <| w_sl 8 (.int .i64 y) rfl <| w_sl 9 (.int .i64 (w64 (i + 1))) rfl <| hh.l0 (hle.trans e22) he (h_z_1.mono e22)
theorem radomeref39_Where.b0_ok {k : Nat} {h : radomeref39_Where.Hs} (hh : radomeref39_Where.OK h) {H0 H : Hp} {L : Items} {r : Int} {jk_ : Nat → Value} {z_0 : ByteArray} {z_1 : List radomeref39_Spot} {t4 : Int} {n : Int} {odd : Bool} {x : Int} {y : Int} {i : Int} {v_z_1 : Value} {b_z : Nat} (hle : H0.le H) (he : radomeref39_Where.b0 k h z_0 z_1 t4 n odd x y i = some r) (h_z_1 : Ro k_radomeref39_Spot H v_z_1 z_1) : Wp Tryd.prog 19 117 radomeref39_Where.Kl0 (upd (upd (upd (upd (upd (upd (upd jk_ 2 (.pointer (some ⟨b_z, 0, none⟩))) 4 (.int .i64 t4)) 5 (.int .i64 n)) 6 (.bool odd)) 7 (.int .i64 x)) 8 (.int .i64 y)) 9 (.int .i64 i)) H (some (b_z, .cells ⟨[.string z_0, v_z_1]⟩ 29 (0, 0)) :: L) (radomeref39_Where.R H0 L r) := by
 unfold radomeref39_Where.b0 at he
 unfold radomeref39_Where.Kl0
 refine w_seq <| w_seq <| w_region rfl <| w_d rfl (d_move (v := .int .i64 i) rfl) <| w_d rfl (d_move (v := .int .i64 n) rfl) <| w_d rfl (d_lss rfl rfl) <| w_done ?_
 rcases its he with ⟨c5, he⟩ | ⟨c5, he⟩
 ·
  refine w_then rfl (decide_eq_true c5) <| w_skip <| w_seq <| w_block <| w_seq ?_
  obtain ⟨c6, he⟩ := rq he
  obtain ⟨_, l7, r8⟩ := el_ro (kd := k_radomeref39_Spot) h_z_1 c6
  obtain ⟨rfl⟩ := k_radomeref39_Spot_out r8
  obtain ⟨c9, he⟩ := rq he
  obtain ⟨c10, he⟩ := rq he
  obtain ⟨_, l11, r12⟩ := el_ro (kd := k_radomeref39_Spot) h_z_1 c10
  obtain ⟨rfl⟩ := k_radomeref39_Spot_out r12
  refine w_none (w_none (?_))
  refine w_drawn (p := 16) (tl := [16]) [[], [(0, some 31)], [], [(1, some 32), (2, some 33)], [(3, some 34)], [], [(5, some 36)], [], [(7, some 38)], [], [(8, some 39), (9, some 40)], [(6, some 37), (10, some 41)], [(11, some 42)], [], [], [(4, some 35), (13, some 10)]] [some 31, some 32, some 33, some 34, some 35, some 36, some 37, some 38, some 39, some 40, some 41, some 42, some 43, some 10, some 11, none] (fctF (.is (.pointer (some ⟨b_z, 1, none⟩)) :: .is (v_z_1) :: .is (.int .i64 i) :: .is (.pointer (some (pel v_z_1 i 2))) :: .is (.agg ⟨[.int .i32 ((rd z_1 i).f_X), .int .i32 ((rd z_1 i).f_Y)]⟩) :: .is (.pointer (some ⟨b_z, 1, none⟩)) :: .is (v_z_1) :: .is (.int .i64 i) :: .is (.int .i64 (w64 (i + 1))) :: .is (.int .i64 n) :: .is (.int .i64 (Int.tmod (w64 (i + 1)) n)) :: .is (.pointer (some (pel v_z_1 (Int.tmod (w64 (i + 1)) n) 2))) :: .is (.agg ⟨[.int .i32 ((rd z_1 (Int.tmod (w64 (i + 1)) n)).f_X), .int .i32 ((rd z_1 (Int.tmod (w64 (i + 1)) n)).f_Y)]⟩) :: .box 24 [.int .i32 0, .int .i32 0] :: .box 24 [.int .i32 0, .int .i32 0] :: .st 13 (fun H bq_ itq_ => itq_ = some (bq_, .cells ⟨[.int .i32 ((rd z_1 i).f_X), .int .i32 ((rd z_1 i).f_Y)]⟩ 24 (0, 0))) (by rintro _ _ _ _ hle rfl; exact rfl) :: [])) (fun m_ => pk (m_ 15) (m_ 13) :: m_ 14 :: some (b_z, .cells ⟨[.string z_0, v_z_1]⟩ 29 (0, 0)) :: L) (fun _ => none) mixed (by kernel_rfl) (by kernel_rfl) rfl (fct_mono (by kernel_rfl)) ⟨(fun H' m_ hH hm_ hu_ => depK_nil <| s_d (m_ 0) rfl (d_fld (o' := 1) Tryd.underlying29 rfl sz27 rfl rfl rfl) (by exact rfl) rfl), (by rintro H' m_ hH hm_ hu_ _ rfl; exact depK_nil <| s_d (m_ 1) rfl (d_loado (v := v_z_1) ty27 rfl (.there (.there .here)) rfl rfl rfl rfl) (by exact rfl) rfl), (fun H' m_ hH hm_ hu_ => depK_nil <| s_d (m_ 2) rfl (d_move (v := .int .i64 i) rfl) (by exact rfl) rfl), (by rintro H' m_ hH hm_ hu_ _ rfl _ rfl; exact depK_nil <| s_d (m_ 3) rfl (d_index (sz := 2) Tryd.underlying27 sz24 rfl (h_z_1.mono hH).src rfl c6) (by exact rfl) rfl), (by rintro H' m_ hH hm_ hu_ _ rfl; exact depK_nil <| s_d (m_ 4) rfl (d_load (v := .agg ⟨[.int .i32 ((rd z_1 i).f_X), .int .i32 ((rd z_1 i).f_Y)]⟩) (cs := [.int .i32 ((rd z_1 i).f_X), .int .i32 ((rd z_1 i).f_Y)]) ty24 rfl rfl (by decide) (l7.mono hH).lies rfl) (by exact rfl) rfl), (fun H' m_ hH hm_ hu_ => depK_nil <| s_d (m_ 5) rfl (d_fld (o' := 1) Tryd.underlying29 rfl sz27 rfl rfl rfl) (by exact rfl) rfl), (by rintro H' m_ hH hm_ hu_ _ rfl; exact depK_nil <| s_d (m_ 6) rfl (d_loado (v := v_z_1) ty27 rfl (.there (.there .here)) rfl rfl rfl rfl) (by exact rfl) rfl), (fun H' m_ hH hm_ hu_ => depK_nil <| s_d (m_ 7) rfl (d_move (v := .int .i64 i) rfl) (by exact rfl) rfl), (by rintro H' m_ hH hm_ hu_ _ rfl; exact depK_nil <| s_d (m_ 8) rfl (d_add (c := w64 (i + 1)) rfl rfl rfl) (by exact rfl) rfl), (fun H' m_ hH hm_ hu_ => depK_nil <| s_d (m_ 9) rfl (d_move (v := .int .i64 n) rfl) (by exact rfl) rfl), (by rintro H' m_ hH hm_ hu_ _ rfl _ rfl; exact depK_nil <| s_d (m_ 10) rfl (d_rem rfl rfl c9) (by exact rfl) rfl), (by rintro H' m_ hH hm_ hu_ _ rfl _ rfl; exact depK_nil <| s_d (m_ 11) rfl (d_index (sz := 2) Tryd.underlying27 sz24 rfl (h_z_1.mono hH).src rfl c10) (by exact rfl) rfl), (by rintro H' m_ hH hm_ hu_ _ rfl; exact depK_nil <| s_d (m_ 12) rfl (d_load (v := .agg ⟨[.int .i32 ((rd z_1 (Int.tmod (w64 (i + 1)) n)).f_X), .int .i32 ((rd z_1 (Int.tmod (w64 (i + 1)) n)).f_Y)]⟩) (cs := [.int .i32 ((rd z_1 (Int.tmod (w64 (i + 1)) n)).f_X), .int .i32 ((rd z_1 (Int.tmod (w64 (i + 1)) n)).f_Y)]) ty24 rfl rfl (by decide) (l11.mono hH).lies rfl) (by exact rfl) rfl), (fun H' m_ hH hm_ hu_ => depK_nil <| s_box hm_ rfl rfl (o_alloc zr24 rfl) rfl (fun _ => (pk_upd (hu_ 15 (by kernel_rfl)))) (by exact fun b_ => ⟨b_, rfl, rfl⟩)), (fun H' m_ hH hm_ hu_ => depK_nil <| s_box hm_ rfl rfl (o_alloc zr24 rfl) rfl (fun _ => (.there .here)) (by exact fun b_ => ⟨b_, rfl, rfl⟩)), (by rintro H' m_ hH hm_ hu_ _ rfl _ ⟨b13, rfl, hb13_⟩; exact depK_nil <| s_store2 (Λ' := fun z_ => z_ :: m_ 14 :: some (b_z, .cells ⟨[.string z_0, v_z_1]⟩ 29 (0, 0)) :: L) (some (b13, .cells ⟨[.int .i32 ((rd z_1 i).f_X), .int .i32 ((rd z_1 i).f_Y)]⟩ 24 (0, 0))) hm_ rfl hb13_ rfl (o_store (v := .agg ⟨[.int .i32 ((rd z_1 i).f_X), .int .i32 ((rd z_1 i).f_Y)]⟩) sz24 rfl rfl rfl rfl (one_cons rfl (one_cons rfl one_nil)) .here (.here (.here .done))) rfl rfl (by exact ⟨rfl, congrArg (fun b_ => (some (b_, Obj.cells ⟨[.int .i32 ((rd z_1 i).f_X), .int .i32 ((rd z_1 i).f_Y)]⟩ 24 (0, 0)) : Item')) (bof_eq hb13_).symm⟩)), trivial⟩ ?_
  intro H17 e18
  rintro _ _ rfl _ _ rfl _ _ rfl _ _ rfl _ _ rfl _ _ rfl _ _ rfl _ _ rfl _ _ rfl _ _ rfl _ _ rfl _ _ rfl _ _ rfl _ _ ⟨b13, rfl, rfl⟩ _ _ ⟨b14, rfl, rfl⟩ _ i15 ⟨rfl, h16⟩
  replace h16 : i15 = some (b13, .cells ⟨[.int .i32 ((rd z_1 i).f_X), .int .i32 ((rd z_1 i).f_Y)]⟩ 24 (0, 0)) := h16
  subst h16
  refine w_it (L' := some (b13, .cells ⟨[.int .i32 ((rd z_1 i).f_X), .int .i32 ((rd z_1 i).f_Y)]⟩ 24 (0, 0)) :: some (b14, .cells ⟨[.int .i32 0, .int .i32 0]⟩ 24 (0, 0)) :: some (b_z, .cells ⟨[.string z_0, v_z_1]⟩ 29 (0, 0)) :: L) rfl <| w_a0 rfl (o_store (v := .agg ⟨[.int .i32 ((rd z_1 (Int.tmod (w64 (i + 1)) n)).f_X), .int .i32 ((rd z_1 (Int.tmod (w64 (i + 1)) n)).f_Y)]⟩) sz24 rfl rfl rfl rfl (one_cons rfl (one_cons rfl one_nil)) (.there .here) (.here (.here .done))) ?_
  rintro _ _ _ ⟨rfl, rfl, rfl⟩
  refine w_done <| w_seq <| w_seq <| w_region rfl <| w_d rfl (d_fld (o' := 1) Tryd.underlying24 rfl sz21 rfl rfl rfl) <| w_d rfl (d_loado (v := .int .i32 ((rd z_1 i).f_Y)) ty21 rfl .here rfl rfl rfl rfl) <| w_d rfl (d_fld (o' := 1) Tryd.underlying24 rfl sz21 rfl rfl rfl) <| w_d rfl (d_loado (v := .int .i32 ((rd z_1 (Int.tmod (w64 (i + 1)) n)).f_Y)) ty21 rfl (.there .here) rfl rfl rfl rfl) <| w_d rfl (d_gtr rfl rfl) <| w_done ?_
  rcases its he with ⟨c19, he⟩ | ⟨c19, he⟩
  ·
   refine w_then rfl (decide_eq_true c19) <| w_region rfl <| w_d rfl (d_loado (v := .agg ⟨[.int .i32 ((rd z_1 (Int.tmod (w64 (i + 1)) n)).f_X), .int .i32 ((rd z_1 (Int.tmod (w64 (i + 1)) n)).f_Y)]⟩) ty24 rfl (.there .here) rfl rfl rfl rfl) <| w_d rfl (d_loado (v := .agg ⟨[.int .i32 ((rd z_1 i).f_X), .int .i32 ((rd z_1 i).f_Y)]⟩) ty24 rfl .here rfl rfl rfl rfl) <| w_a0 rfl (o_store (v := .agg ⟨[.int .i32 ((rd z_1 (Int.tmod (w64 (i + 1)) n)).f_X), .int .i32 ((rd z_1 (Int.tmod (w64 (i + 1)) n)).f_Y)]⟩) sz24 rfl rfl rfl rfl (one_cons rfl (one_cons rfl one_nil)) .here (.here (.here .done))) ?_
   rintro _ _ _ ⟨rfl, rfl, rfl⟩
   refine w_a0 rfl (o_store (v := .agg ⟨[.int .i32 ((rd z_1 i).f_X), .int .i32 ((rd z_1 i).f_Y)]⟩) sz24 rfl rfl rfl rfl (one_cons rfl (one_cons rfl one_nil)) (.there .here) (.here (.here .done))) ?_
   rintro _ _ _ ⟨rfl, rfl, rfl⟩
   refine w_done <| w_sl 2 (.pointer (some ⟨b_z, 0, none⟩)) rfl <| w_sl 4 (.int .i64 t4) rfl <| w_sl 5 (.int .i64 n) rfl <| w_sl 6 (.bool odd) rfl <| w_sl 7 (.int .i64 x) rfl <| w_sl 8 (.int .i64 y) rfl <| w_sl 9 (.int .i64 i) rfl <| w_sl 10 (.pointer (some ⟨b13, 0, none⟩)) rfl <| w_sl 11 (.pointer (some ⟨b14, 0, none⟩)) rfl <| radomeref39_Where.j2_ok (k := k) hh (hle.trans e18) he (h_z_1.mono e18)
  ·
   refine w_else rfl (decide_eq_false c19) <| w_skip <| w_sl 2 (.pointer (some ⟨b_z, 0, none⟩)) rfl <| w_sl 4 (.int .i64 t4) rfl <| w_sl 5 (.int .i64 n) rfl <| w_sl 6 (.bool odd) rfl <| w_sl 7 (.int .i64 x) rfl <| w_sl 8 (.int .i64 y) rfl <| w_sl 9 (.int .i64 i) rfl <| w_sl 10 (.pointer (some ⟨b13, 0, none⟩)) rfl <| w_sl 11 (.pointer (some ⟨b14, 0, none⟩)) rfl <| radomeref39_Where.j2_ok (k := k) hh (hle.trans e18) he (h_z_1.mono e18)
 ·
  refine w_else rfl (decide_eq_false c5) <| w_exit rfl <| w_seq <| w_seq <| w_region rfl <| w_d rfl (d_move (v := .bool odd) rfl) <| w_done ?_
  rcases its he with ⟨c20, he⟩ | ⟨c20, he⟩
  ·
   refine w_then rfl c20 <| w_seq <| w_region rfl <| w_d rfl (d_assign (v := .int .i64 2) rfl) <| w_done ?_
   obtain rfl := Option.some.inj he
   refine w_return fn_19 rs_19 (.tmp (v := .int .i64 2) rfl .nil) <| ⟨⟨[_], rfl⟩, hle, rfl⟩
  ·
   refine w_else rfl (Bool.eq_false_iff.2 c20) <| w_skip <| w_seq <| w_region rfl <| w_d rfl (d_assign (v := .int .i64 0) rfl) <| w_done ?_
   obtain rfl := Option.some.inj he
   refine w_return fn_19 rs_19 (.tmp (v := .int .i64 0) rfl .nil) <| ⟨⟨[_], rfl⟩, hle, rfl⟩
theorem radomeref39_Where.ok : ∀ k, radomeref39_Where.OK (radomeref39_Where.hs k)
 | 0 => ⟨(by intros; exact nomatch (show none = some _ from by assumption))⟩
 | k + 1 => ⟨radomeref39_Where.b0_ok (k := k) (radomeref39_Where.ok k)⟩
theorem radomeref39_Where.calls (k : Nat) {H : Hp} {L : Items} {z : radomeref39_Zone} {p : radomeref39_Spot} {v0_z : Value} {r : Int} (he : radomeref39_Where.f k z p = some r) (h0_z : Ro k_radomeref39_Spot H v0_z z.f_Corners) : Ct Tryd.prog 19 ⟨[.agg ⟨[.string z.f_Name, v0_z]⟩, .agg ⟨[.int .i32 p.f_X, .int .i32 p.f_Y]⟩]⟩ H L (fun v H' L' => L = L' ∧ H = H' ∧ v = .int .i64 r) := by
 refine ct_outs (O := radomeref39_Where.out r) (fun _ _ h => h) ?_
 have hle : H.le H := .refl _
 have hh := radomeref39_Where.ok k
 unfold radomeref39_Where.f at he
 refine ct_enter (args := [.agg ⟨[.string z.f_Name, v0_z]⟩, .agg ⟨[.int .i32 p.f_X, .int .i32 p.f_Y]⟩]) fn_19 rfl nt_19 rfl <| w_seq <| w_region rfl <| w_a rfl (o_box (v := .agg ⟨[.string z.f_Name, v0_z]⟩) rfl rfl) ?_
 rintro _ _ _ ⟨b1, rfl, rfl, rfl⟩
 refine w_a rfl (o_box (v := .agg ⟨[.int .i32 p.f_X, .int .i32 p.f_Y]⟩) rfl rfl) ?_
 rintro _ _ _ ⟨b2, rfl, rfl, rfl⟩
 refine w_d rfl (d_assign (v := .int .i64 0) rfl) <| w_done <| w_seq <| w_region rfl <| w_d rfl (d_fld (o' := 1) Tryd.underlying29 rfl sz27 rfl rfl rfl) <| w_d rfl (d_loado (v := v0_z) ty27 rfl (.there .here) rfl rfl rfl rfl) <| w_d rfl (d_len Tryd.underlying27 rfl h0_z.src) <| w_d rfl (d_assign (v := .int .i64 (z.f_Corners.length : Int)) rfl) <| w_done <| w_seq <| w_region rfl <| w_d rfl (d_assign (v := .bool false) rfl) ?_
 refine w_done <| w_seq <| w_drawn (p := 7) (tl := [7]) [[], [(0, some 20)], [(1, some 21)], [], [(3, some 23)], [(4, some 24)], [(2, some 22)]] [some 20, some 21, some 22, some 23, some 24, some 25, some 7] (fctF (.is (.pointer (some ⟨b2, 0, none⟩)) :: .is (.int .i32 p.f_X) :: .is (.int .i64 (w64 (p.f_X))) :: .is (.pointer (some ⟨b2, 1, none⟩)) :: .is (.int .i32 p.f_Y) :: .is (.int .i64 (w64 (p.f_Y))) :: .is (.int .i64 (w64 (p.f_X))) :: [])) (fun m_ => some (b2, .cells ⟨[.int .i32 p.f_X, .int .i32 p.f_Y]⟩ 24 (0, 0)) :: some (b1, .cells ⟨[.string z.f_Name, v0_z]⟩ 29 (0, 0)) :: L) (fun _ => none) mixed (by kernel_rfl) (by kernel_rfl) rfl (fct_mono (by kernel_rfl)) ⟨(fun H' m_ hH hm_ hu_ => depK_nil <| s_d (m_ 0) rfl (d_fld (o' := 0) Tryd.underlying24 rfl sz21 rfl rfl rfl) (by exact rfl) rfl), (by rintro H' m_ hH hm_ hu_ _ rfl; exact depK_nil <| s_d (m_ 1) rfl (d_loado (v := .int .i32 p.f_X) ty21 rfl .here rfl rfl rfl rfl) (by exact rfl) rfl), (by rintro H' m_ hH hm_ hu_ _ rfl; exact depK_nil <| s_d (m_ 2) rfl (d_conv (c := w64 (p.f_X)) Tryd.underlying21 Tryd.underlying2 rfl rfl) (by exact rfl) rfl), (fun H' m_ hH hm_ hu_ => depK_nil <| s_d (m_ 3) rfl (d_fld (o' := 1) Tryd.underlying24 rfl sz21 rfl rfl rfl) (by exact rfl) rfl), (by rintro H' m_ hH hm_ hu_ _ rfl; exact depK_nil <| s_d (m_ 4) rfl (d_loado (v := .int .i32 p.f_Y) ty21 rfl .here rfl rfl rfl rfl) (by exact rfl) rfl), (by rintro H' m_ hH hm_ hu_ _ rfl; exact depK_nil <| s_d (m_ 5) rfl (d_conv (c := w64 (p.f_Y)) Tryd.underlying21 Tryd.underlying2 rfl rfl) (by exact rfl) rfl), (by rintro H' m_ hH hm_ hu_ _ rfl; exact depK_nil <| s_d (m_ 6) rfl (d_assign (v := .int .i64 (w64 (p.f_X))) rfl) (by exact rfl) rfl), trivial⟩ ?_
 intro H3 e4
 rintro _ _ rfl _ _ rfl _ _ rfl _ _ rfl _ _ rfl _ _ rfl _ _ rfl
 refine w_d rfl (d_assign (v := .int .i64 (w64 (p.f_Y))) rfl) <| w_done <| w_seq <| w_seq <| w_region rfl <| w_d rfl (d_assign (v := .int .i64 0) rfl) <| w_done <| w_block <| w_loop <| w_del .here <| w_sl 2 (.pointer (some ⟨b1, 0, none⟩)) rfl <| w_sl 4 (.int .i64 0) rfl ?_
 refine w_sl 5 (.int .i64 (z.f_Corners.length : Int)) rfl <| w_sl 6 (.bool false) rfl <| w_sl 7 (.int .i64 (w64 (p.f_X))) rfl <| w_sl 8 (.int .i64 (w64 (p.f_Y))) rfl <| w_sl 9 (.int .i64 0) rfl <| hh.l0 (hle.trans e4) he (h0_z.mono e4)
/-! ### radome/radomeref39.Hits -/
noncomputable def radomeref39_Hits.C : Code := (Tryd.f12.body).getD .skip
def radomeref39_Hits.out (r : (List ByteArray) × Int) (H : Hp) (v : Value) : Prop := ∃ v0, v = .tuple ⟨[v0, .int .i64 r.2]⟩ ∧ Ro Kd.str H v0 r.1
theorem radomeref39_Hits.out_mono (r : (List ByteArray) × Int) {H H' : Hp} {v : Value} (hle : H.le H') (h : radomeref39_Hits.out r H v) : radomeref39_Hits.out r H' v := by
 obtain ⟨v0, rfl, h0⟩ := h; exact ⟨v0, rfl, h0.mono hle⟩
abbrev radomeref39_Hits.R (H0 : Hp) (L : Items) (r : (List ByteArray) × Int) : Value → Hp → Items → Prop := fun v H' L' => (∃ p, L' = p ++ L) ∧ H0.le H' ∧ radomeref39_Hits.out r H' v
structure radomeref39_Hits.Hs where
 l0 : (List radomeref39_Zone) → Int → Int → (List ByteArray) → Int → Int → Option ((List ByteArray) × Int)
 l1 : (List radomeref39_Zone) → Int → Int → (List ByteArray) → Int → (List ByteArray) → Int → Option ((List ByteArray) × Int)
 l2 : (List radomeref39_Zone) → Int → Int → (List ByteArray) → Int → (List ByteArray) → Int → Int → Option ((List ByteArray) × Int)
noncomputable def radomeref39_Hits.b0 (k : Nat) (h : radomeref39_Hits.Hs)  (l : List radomeref39_Zone) (p_0 : Int) (p_1 : Int) (t4 : List ByteArray) (t5 : Int) (i : Int) : Option ((List ByteArray) × Int) := if i < (l.length : Int) then (if (0 : Int) ≤ i ∧ i < (l.length : Int) then ((radomeref39_May.f k (rd l i)).bind fun y9 => if (!y9) = true then (some ([], 1)) else (h.l0 l p_0 p_1 t4 t5 (w64 (i + 1)))) else none) else (h.l1 l p_0 p_1 t4 t5 [] 0)
noncomputable def radomeref39_Hits.b1 (k : Nat) (h : radomeref39_Hits.Hs)  (l : List radomeref39_Zone) (p_0 : Int) (p_1 : Int) (t4 : List ByteArray) (t5 : Int) (out : List ByteArray) (i : Int) : Option ((List ByteArray) × Int) := if i < (l.length : Int) then (h.l2 l p_0 p_1 t4 t5 out i 0) else (some (out, 0))
noncomputable def radomeref39_Hits.b2 (k : Nat) (h : radomeref39_Hits.Hs)  (l : List radomeref39_Zone) (p_0 : Int) (p_1 : Int) (t4 : List ByteArray) (t5 : Int) (out : List ByteArray) (i : Int) (k_ : Int) : Option ((List ByteArray) × Int) := if k_ < i then (if (0 : Int) ≤ i ∧ i < (l.length : Int) then (if (0 : Int) ≤ k_ ∧ k_ < (l.length : Int) then (if ((rd l i).f_Name) = ((rd l k_).f_Name) then (some ([], 9)) else (h.l2 l p_0 p_1 t4 t5 out i (w64 (k_ + 1)))) else none) else none) else (if (0 : Int) ≤ i ∧ i < (l.length : Int) then ((radomeref39_Where.f k (rd l i) (⟨p_0, p_1⟩ : radomeref39_Spot)).bind fun y39 => if 0 < y39 then (if (0 : Int) ≤ i ∧ i < (l.length : Int) then (if out.length + 1 ≤ 8796093022080 then (h.l1 l p_0 p_1 t4 t5 (out ++ [(rd l i).f_Name]) (w64 (i + 1))) else none) else none) else (h.l1 l p_0 p_1 t4 t5 out (w64 (i + 1)))) else none)
noncomputable def radomeref39_Hits.hs : Nat → radomeref39_Hits.Hs
 | 0 => ⟨fun _ _ _ _ _ _ => none, fun _ _ _ _ _ _ _ => none, fun _ _ _ _ _ _ _ _ => none⟩
 | k + 1 => ⟨fun x0 x1 x2 x3 x4 x5 => radomeref39_Hits.b0 k (radomeref39_Hits.hs k) x0 x1 x2 x3 x4 x5, fun x0 x1 x2 x3 x4 x5 x6 => radomeref39_Hits.b1 k (radomeref39_Hits.hs k) x0 x1 x2 x3 x4 x5 x6, fun x0 x1 x2 x3 x4 x5 x6 x7 => radomeref39_Hits.b2 k (radomeref39_Hits.hs k) x0 x1 x2 x3 x4 x5 x6 x7⟩
noncomputable def radomeref39_Hits.f (k : Nat) (l : List radomeref39_Zone) (p : radomeref39_Spot) : Option ((List ByteArray) × Int) := (fun h : radomeref39_Hits.Hs => if 64 < (l.length : Int) then (some ([], 2)) else (h.l0 l p.f_X p.f_Y [] 0 0)) (radomeref39_Hits.hs k)
structure radomeref39_Hits.LE (h h' : radomeref39_Hits.Hs) : Prop where
 l0 : ∀ y0 y1 y2 y3 y4 y5, LeO (h.l0 y0 y1 y2 y3 y4 y5) (h'.l0 y0 y1 y2 y3 y4 y5)
 l1 : ∀ y0 y1 y2 y3 y4 y5 y6, LeO (h.l1 y0 y1 y2 y3 y4 y5 y6) (h'.l1 y0 y1 y2 y3 y4 y5 y6)
 l2 : ∀ y0 y1 y2 y3 y4 y5 y6 y7, LeO (h.l2 y0 y1 y2 y3 y4 y5 y6 y7) (h'.l2 y0 y1 y2 y3 y4 y5 y6 y7)
theorem radomeref39_Hits.b0_mono {k : Nat} {h h' : radomeref39_Hits.Hs} (hl : radomeref39_Hits.LE h h') : ∀ y0 y1 y2 y3 y4 y5, LeO (radomeref39_Hits.b0 k h y0 y1 y2 y3 y4 y5) (radomeref39_Hits.b0 (k + 1) h' y0 y1 y2 y3 y4 y5) := fun _ _ _ _ _ _ => (LeO.ite (LeO.ite (LeO.bind (radomeref39_May.mono k _) fun _ => LeO.ite (LeO.refl _) (hl.l0 _ _ _ _ _ _)) (LeO.refl _)) (hl.l1 _ _ _ _ _ _ _))
theorem radomeref39_Hits.b1_mono {k : Nat} {h h' : radomeref39_Hits.Hs} (hl : radomeref39_Hits.LE h h') : ∀ y0 y1 y2 y3 y4 y5 y6, LeO (radomeref39_Hits.b1 k h y0 y1 y2 y3 y4 y5 y6) (radomeref39_Hits.b1 (k + 1) h' y0 y1 y2 y3 y4 y5 y6) := fun _ _ _ _ _ _ _ => (LeO.ite (hl.l2 _ _ _ _ _ _ _ _) (LeO.refl _))
theorem radomeref39_Hits.b2_mono {k : Nat} {h h' : radomeref39_Hits.Hs} (hl : radomeref39_Hits.LE h h') : ∀ y0 y1 y2 y3 y4 y5 y6 y7, LeO (radomeref39_Hits.b2 k h y0 y1 y2 y3 y4 y5 y6 y7) (radomeref39_Hits.b2 (k + 1) h' y0 y1 y2 y3 y4 y5 y6 y7) := fun _ _ _ _ _ _ _ _ => (LeO.ite (LeO.ite (LeO.ite (LeO.ite (LeO.refl _) (hl.l2 _ _ _ _ _ _ _ _)) (LeO.refl _)) (LeO.refl _)) (LeO.ite (LeO.bind (radomeref39_Where.mono k _ _) fun _ => LeO.ite (LeO.ite (LeO.ite (hl.l1 _ _ _ _ _ _ _) (LeO.refl _)) (LeO.refl _)) (hl.l1 _ _ _ _ _ _ _)) (LeO.refl _)))
theorem radomeref39_Hits.hs_mono : ∀ k, radomeref39_Hits.LE (radomeref39_Hits.hs k) (radomeref39_Hits.hs (k + 1))
 | 0 => ⟨fun _ _ _ _ _ _ => LeO.none _, fun _ _ _ _ _ _ _ => LeO.none _, fun _ _ _ _ _ _ _ _ => LeO.none _⟩
 | k + 1 => ⟨radomeref39_Hits.b0_mono (k := k) (radomeref39_Hits.hs_mono k), radomeref39_Hits.b1_mono (k := k) (radomeref39_Hits.hs_mono k), radomeref39_Hits.b2_mono (k := k) (radomeref39_Hits.hs_mono k)⟩
theorem radomeref39_Hits.mono : ∀ k y0 y1, LeO (radomeref39_Hits.f k y0 y1) (radomeref39_Hits.f (k + 1) y0 y1) := fun k _ _ => have hl := radomeref39_Hits.hs_mono k; by unfold radomeref39_Hits.f; exact (LeO.ite (LeO.refl _) (hl.l0 _ _ _ _ _ _))
noncomputable def radomeref39_Hits.Kl0 : List Item := .code (lopB (blkB (seqR (seqL (seqR (seqR radomeref39_Hits.C)))))) :: .inLoop (lopB (blkB (seqR (seqL (seqR (seqR radomeref39_Hits.C)))))) :: .inBlock 0 :: .code (seqR (seqR (seqR radomeref39_Hits.C))) :: []
noncomputable def radomeref39_Hits.Kl1 : List Item := .code (lopB (blkB (seqR (seqL (seqR (seqR (seqR (seqR radomeref39_Hits.C)))))))) :: .inLoop (lopB (blkB (seqR (seqL (seqR (seqR (seqR (seqR radomeref39_Hits.C)))))))) :: .inBlock 2 :: .code (seqR (seqR (seqR (seqR (seqR radomeref39_Hits.C))))) :: []
noncomputable def radomeref39_Hits.Kl2 : List Item := .code (lopB (blkB (seqR (seqL (blkB (seqL (seqR (lopB (blkB (seqR (seqL (seqR (seqR (seqR (seqR radomeref39_Hits.C))))))))))))))) :: .inLoop (lopB (blkB (seqR (seqL (blkB (seqL (seqR (lopB (blkB (seqR (seqL (seqR (seqR (seqR (seqR radomeref39_Hits.C))))))))))))))) :: .inBlock 4 :: .code (seqR (blkB (seqL (seqR (lopB (blkB (seqR (seqL (seqR (seqR (seqR (seqR radomeref39_Hits.C)))))))))))) :: .inBlock 3 :: .code (seqR (seqR (lopB (blkB (seqR (seqL (seqR (seqR (seqR (seqR radomeref39_Hits.C)))))))))) :: .inLoop (lopB (blkB (seqR (seqL (seqR (seqR (seqR (seqR radomeref39_Hits.C)))))))) :: .inBlock 2 :: .code (seqR (seqR (seqR (seqR (seqR radomeref39_Hits.C))))) :: []
structure radomeref39_Hits.OK (h : radomeref39_Hits.Hs) : Prop where
 l0 : ∀ {H0 H : Hp} {L : Items} {r : (List ByteArray) × Int} {jk_ : Nat → Value} {l : List radomeref39_Zone} {p_0 : Int} {p_1 : Int} {t4 : List ByteArray} {t5 : Int} {i : Int} {v_l : Value} {v_t4 : Value} {b_p : Nat} (_ : H0.le H) (_he : h.l0 l p_0 p_1 t4 t5 i = some r) (_h_l : Src k_radomeref39_Zone H L v_l l) (_h_t4 : Ro Kd.str H v_t4 t4), Wp Tryd.prog 12 63 radomeref39_Hits.Kl0 (upd (upd (upd (upd (upd jk_ 0 (v_l)) 3 (.pointer (some ⟨b_p, 0, none⟩))) 4 (v_t4)) 5 (.int .i64 t5)) 6 (.int .i64 i)) H (some (b_p, .cells ⟨[.int .i32 p_0, .int .i32 p_1]⟩ 24 (0, 0)) :: L) (radomeref39_Hits.R H0 L r)
 l1 : ∀ {H0 H : Hp} {L : Items} {r : (List ByteArray) × Int} {jk_ : Nat → Value} {l : List radomeref39_Zone} {p_0 : Int} {p_1 : Int} {t4 : List ByteArray} {t5 : Int} {out : List ByteArray} {i : Int} {v_l : Value} {v_t4 : Value} {v_out : Value} {i_out : Item'} {b_p : Nat} (_ : H0.le H) (_he : h.l1 l p_0 p_1 t4 t5 out i = some r) (_h_l : Src k_radomeref39_Zone H L v_l l) (_h_t4 : Ro Kd.str H v_t4 t4) (_h_out : Sl Kd.str H 9 i_out v_out out), Wp Tryd.prog 12 63 radomeref39_Hits.Kl1 (upd (upd (upd (upd (upd (upd jk_ 0 (v_l)) 3 (.pointer (some ⟨b_p, 0, none⟩))) 4 (v_t4)) 5 (.int .i64 t5)) 7 (v_out)) 8 (.int .i64 i)) H (i_out :: some (b_p, .cells ⟨[.int .i32 p_0, .int .i32 p_1]⟩ 24 (0, 0)) :: L) (radomeref39_Hits.R H0 L r)
 l2 : ∀ {H0 H : Hp} {L : Items} {r : (List ByteArray) × Int} {jk_ : Nat → Value} {l : List radomeref39_Zone} {p_0 : Int} {p_1 : Int} {t4 : List ByteArray} {t5 : Int} {out : List ByteArray} {i : Int} {k_ : Int} {v_l : Value} {v_t4 : Value} {v_out : Value} {i_out : Item'} {b_p : Nat} (_ : H0.le H) (_he : h.l2 l p_0 p_1 t4 t5 out i k_ = some r) (_h_l : Src k_radomeref39_Zone H L v_l l) (_h_t4 : Ro Kd.str H v_t4 t4) (_h_out : Sl Kd.str H 9 i_out v_out out), Wp Tryd.prog 12 63 radomeref39_Hits.Kl2 (upd (upd (upd (upd (upd (upd (upd jk_ 0 (v_l)) 3 (.pointer (some ⟨b_p, 0, none⟩))) 4 (v_t4)) 5 (.int .i64 t5)) 7 (v_out)) 8 (.int .i64 i)) 9 (.int .i64 k_)) H (i_out :: some (b_p, .cells ⟨[.int .i32 p_0, .int .i32 p_1]⟩ 24 (0, 0)) :: L) (radomeref39_Hits.R H0 L r)
theorem radomeref39_Hits.b0_ok {k : Nat} {h : radomeref39_Hits.Hs} (hh : radomeref39_Hits.OK h) {H0 H : Hp} {L : Items} {r : (List ByteArray) × Int} {jk_ : Nat → Value} {l : List radomeref39_Zone} {p_0 : Int} {p_1 : Int} {t4 : List ByteArray} {t5 : Int} {i : Int} {v_l : Value} {v_t4 : Value} {b_p : Nat} (hle : H0.le H) (he : radomeref39_Hits.b0 k h l p_0 p_1 t4 t5 i = some r) (h_l : Src k_radomeref39_Zone H L v_l l) (h_t4 : Ro Kd.str H v_t4 t4) : Wp Tryd.prog 12 63 radomeref39_Hits.Kl0 (upd (upd (upd (upd (upd jk_ 0 (v_l)) 3 (.pointer (some ⟨b_p, 0, none⟩))) 4 (v_t4)) 5 (.int .i64 t5)) 6 (.int .i64 i)) H (some (b_p, .cells ⟨[.int .i32 p_0, .int .i32 p_1]⟩ 24 (0, 0)) :: L) (radomeref39_Hits.R H0 L r) := by
 unfold radomeref39_Hits.b0 at he
 unfold radomeref39_Hits.Kl0
 refine w_seq <| w_seq <| w_region rfl <| w_d rfl (d_move (v := .int .i64 i) rfl) <| w_d rfl (d_move (v := v_l) rfl) <| w_d rfl (d_len Tryd.underlying22 rfl h_l.th) <| w_d rfl (d_lss rfl rfl) <| w_done ?_
 rcases its he with ⟨c3, he⟩ | ⟨c3, he⟩
 ·
  refine w_then rfl (decide_eq_true c3) <| w_skip <| w_seq <| w_block <| w_seq <| w_region rfl <| w_d rfl (d_move (v := v_l) rfl) <| w_d rfl (d_move (v := .int .i64 i) rfl) ?_
  obtain ⟨c4, he⟩ := rq he
  refine w_d rfl (d_index (sz := 2) Tryd.underlying22 sz29 rfl h_l.th rfl c4) ?_
  obtain ⟨_, l5, r6⟩ := el_of (kd := k_radomeref39_Zone) h_l.th c4
  obtain ⟨v7, rfl, h8⟩ := k_radomeref39_Zone_out r6
  refine w_d rfl (d_load (v := .agg ⟨[.string ((rd l i).f_Name), v7]⟩) (cs := [.string ((rd l i).f_Name), v7]) ty29 rfl rfl (by decide) l5 rfl) ?_
  obtain ⟨y9, hy10, he⟩ := Option.bind_eq_some_iff.1 he
  refine w_d rfl (call_d (o_call co18 (vs := [.agg ⟨[.string ((rd l i).f_Name), v7]⟩]) rfl (radomeref39_May.calls k (z := (rd l i)) hy10 h8))) <| w_d rfl (d_not (b := y9) rfl) <| w_done ?_
  rcases its he with ⟨c13, he⟩ | ⟨c13, he⟩
  ·
   refine w_then rfl c13 <| w_seq <| w_region rfl <| w_d rfl (d_assign (v := .slice none 0 0) rfl) <| w_d rfl (d_assign (v := .int .i64 1) rfl) <| w_done ?_
   obtain rfl := Option.some.inj he
   refine w_return fn_12 rs_12 (.tmp (v := .slice none 0 0) rfl (.tmp (v := .int .i64 1) rfl .nil)) <| ⟨⟨[_], rfl⟩, hle, ⟨.slice none 0 0, rfl, (ro_nil _ _)⟩⟩
  ·
   refine w_else rfl (Bool.eq_false_iff.2 c13) <| w_skip <| w_inBlock <| w_region rfl <| w_d rfl (d_move (v := .int .i64 i) rfl) <| w_d rfl (d_add (c := w64 (i + 1)) rfl rfl rfl) <| w_d rfl (d_assign (v := .int .i64 (w64 (i + 1))) rfl) <| w_done <| w_inLoop <| w_sl 0 (v_l) rfl <| w_sl 3 (.pointer (some ⟨b_p, 0, none⟩)) rfl <| w_sl 4 (v_t4) rfl ?_
   refine w_sl 5 (.int .i64 t5) rfl <| w_sl 6 (.int .i64 (w64 (i + 1))) rfl <| hh.l0 hle he h_l h_t4
 ·
  refine w_else rfl (decide_eq_false c3) <| w_exit rfl <| w_seq <| w_region rfl <| w_d rfl (d_assign (v := .slice none 0 0) rfl) <| w_done <| w_seq <| w_seq <| w_region rfl <| w_d rfl (d_assign (v := .int .i64 0) rfl) <| w_done <| w_block ?_
  refine w_loop <| w_none <| w_sl 0 (v_l) rfl <| w_sl 3 (.pointer (some ⟨b_p, 0, none⟩)) rfl <| w_sl 4 (v_t4) rfl <| w_sl 5 (.int .i64 t5) rfl <| w_sl 7 (.slice none 0 0) rfl <| w_sl 8 (.int .i64 0) rfl <| hh.l1 hle he h_l h_t4 (sl_nil _ _ _)
theorem radomeref39_Hits.b1_ok {k : Nat} {h : radomeref39_Hits.Hs} (hh : radomeref39_Hits.OK h) {H0 H : Hp} {L : Items} {r : (List ByteArray) × Int} {jk_ : Nat → Value} {l : List radomeref39_Zone} {p_0 : Int} {p_1 : Int} {t4 : List ByteArray} {t5 : Int} {out : List ByteArray} {i : Int} {v_l : Value} {v_t4 : Value} {v_out : Value} {i_out : Item'} {b_p : Nat} (hle : H0.le H) (he : radomeref39_Hits.b1 k h l p_0 p_1 t4 t5 out i = some r) (h_l : Src k_radomeref39_Zone H L v_l l) (h_t4 : Ro Kd.str H v_t4 t4) (h_out : Sl Kd.str H 9 i_out v_out out) : Wp Tryd.prog 12 63 radomeref39_Hits.Kl1 (upd (upd (upd (upd (upd (upd jk_ 0 (v_l)) 3 (.pointer (some ⟨b_p, 0, none⟩))) 4 (v_t4)) 5 (.int .i64 t5)) 7 (v_out)) 8 (.int .i64 i)) H (i_out :: some (b_p, .cells ⟨[.int .i32 p_0, .int .i32 p_1]⟩ 24 (0, 0)) :: L) (radomeref39_Hits.R H0 L r) := by
 unfold radomeref39_Hits.b1 at he
 unfold radomeref39_Hits.Kl1
 refine w_seq <| w_seq <| w_region rfl <| w_d rfl (d_move (v := .int .i64 i) rfl) <| w_d rfl (d_move (v := v_l) rfl) <| w_d rfl (d_len Tryd.underlying22 rfl h_l.th.th) <| w_d rfl (d_lss rfl rfl) <| w_done ?_
 rcases its he with ⟨c14, he⟩ | ⟨c14, he⟩
 ·
  refine w_then rfl (decide_eq_true c14) <| w_skip <| w_seq <| w_block <| w_seq <| w_seq <| w_region rfl <| w_d rfl (d_assign (v := .int .i64 0) rfl) <| w_done <| w_block <| w_loop <| w_sl 0 (v_l) rfl ?_
  refine w_sl 3 (.pointer (some ⟨b_p, 0, none⟩)) rfl <| w_sl 4 (v_t4) rfl <| w_sl 5 (.int .i64 t5) rfl <| w_sl 7 (v_out) rfl <| w_sl 8 (.int .i64 i) rfl <| w_sl 9 (.int .i64 0) rfl <| hh.l2 hle he h_l h_t4 h_out
 ·
  refine w_else rfl (decide_eq_false c14) <| w_exit rfl <| w_seq <| w_region rfl <| w_d rfl (d_move (v := v_out) rfl) <| w_d rfl (d_assign (v := v_out) rfl) <| w_d rfl (d_assign (v := .int .i64 0) rfl) <| w_done <| w_freeze h_out .here ?_
  intro H15 e16 h17
  obtain rfl := Option.some.inj he
  refine w_return fn_12 rs_12 (.tmp (v := v_out) rfl (.tmp (v := .int .i64 0) rfl .nil)) <| ⟨⟨[_, _], rfl⟩, hle.trans e16, ⟨v_out, rfl, h17⟩⟩
theorem radomeref39_Hits.b2_ok {k : Nat} {h : radomeref39_Hits.Hs} (hh : radomeref39_Hits.OK h) {H0 H : Hp} {L : Items} {r : (List ByteArray) × Int} {jk_ : Nat → Value} {l : List radomeref39_Zone} {p_0 : Int} {p_1 : Int} {t4 : List ByteArray} {t5 : Int} {out : List ByteArray} {i : Int} {k_ : Int} {v_l : Value} {v_t4 : Value} {v_out : Value} {i_out : Item'} {b_p : Nat} (hle : H0.le H) (he : radomeref39_Hits.b2 k h l p_0 p_1 t4 t5 out i k_ = some r) (h_l : Src k_radomeref39_Zone H L v_l l) (h_t4 : Ro Kd.str H v_t4 t4) (h_out : Sl Kd.str H 9 i_out v_out out) : Wp Tryd.prog 12 63 radomeref39_Hits.Kl2 (upd (upd (upd (upd (upd (upd (upd jk_ 0 (v_l)) 3 (.pointer (some ⟨b_p, 0, none⟩))) 4 (v_t4)) 5 (.int .i64 t5)) 7 (v_out)) 8 (.int .i64 i)) 9 (.int .i64 k_)) H (i_out :: some (b_p, .cells ⟨[.int .i32 p_0, .int .i32 p_1]⟩ 24 (0, 0)) :: L) (radomeref39_Hits.R H0 L r) := by
 unfold radomeref39_Hits.b2 at he
 unfold radomeref39_Hits.Kl2
 refine w_seq <| w_seq <| w_region rfl <| w_d rfl (d_move (v := .int .i64 k_) rfl) <| w_d rfl (d_move (v := .int .i64 i) rfl) <| w_d rfl (d_lss rfl rfl) <| w_done ?_
 rcases its he with ⟨c18, he⟩ | ⟨c18, he⟩
 ·
  refine w_then rfl (decide_eq_true c18) <| w_skip <| w_seq <| w_block <| w_seq ?_
  obtain ⟨c19, he⟩ := rq he
  obtain ⟨_, l20, r21⟩ := el_of (kd := k_radomeref39_Zone) h_l.th.th c19
  obtain ⟨v22, rfl, h23⟩ := k_radomeref39_Zone_out r21
  obtain ⟨c24, he⟩ := rq he
  obtain ⟨_, l25, r26⟩ := el_of (kd := k_radomeref39_Zone) h_l.th.th c24
  obtain ⟨v27, rfl, h28⟩ := k_radomeref39_Zone_out r26
  refine w_drawn (p := 10) (tl := [10]) [[], [], [(0, some 36), (1, some 37)], [(2, some 38)], [(3, some 39)], [], [], [(5, some 41), (6, some 42)], [(7, some 43)], [(8, some 44)]] [some 36, some 37, some 38, some 39, some 40, some 41, some 42, some 43, some 44, some 45] (fctF (.is (v_l) :: .is (.int .i64 i) :: .is (.pointer (some (pel v_l i 2))) :: .is (.pointer (some (pel v_l i 2))) :: .is (.string ((rd l i).f_Name)) :: .is (v_l) :: .is (.int .i64 k_) :: .is (.pointer (some (pel v_l k_ 2))) :: .is (.pointer (some (pel v_l k_ 2))) :: .is (.string ((rd l k_).f_Name)) :: [])) (fun m_ => i_out :: some (b_p, .cells ⟨[.int .i32 p_0, .int .i32 p_1]⟩ 24 (0, 0)) :: L) (fun _ => none) mixed (by kernel_rfl) (by kernel_rfl) rfl (fct_mono (by kernel_rfl)) ⟨(fun H' m_ hH hm_ hu_ => depK_nil <| s_d (m_ 0) rfl (d_move (v := v_l) rfl) (by exact rfl) rfl), (fun H' m_ hH hm_ hu_ => depK_nil <| s_d (m_ 1) rfl (d_move (v := .int .i64 i) rfl) (by exact rfl) rfl), (by rintro H' m_ hH hm_ hu_ _ rfl _ rfl; exact depK_nil <| s_d (m_ 2) rfl (d_index (sz := 2) Tryd.underlying22 sz29 rfl (h_l.mono hH).th.th rfl c19) (by exact rfl) rfl), (by rintro H' m_ hH hm_ hu_ _ rfl; exact depK_nil <| s_d (m_ 3) rfl (d_fieldAddr Tryd.underlying29 rfl sz9 rfl rfl) (by exact rfl) rfl), (by rintro H' m_ hH hm_ hu_ _ rfl; exact depK_nil <| s_d (m_ 4) rfl (d_load (v := .string ((rd l i).f_Name)) (cs := [.string ((rd l i).f_Name)]) ty9 rfl rfl (by decide) (((l20.mono hH)).part 0 1) rfl) (by exact rfl) rfl), (fun H' m_ hH hm_ hu_ => depK_nil <| s_d (m_ 5) rfl (d_move (v := v_l) rfl) (by exact rfl) rfl), (fun H' m_ hH hm_ hu_ => depK_nil <| s_d (m_ 6) rfl (d_move (v := .int .i64 k_) rfl) (by exact rfl) rfl), (by rintro H' m_ hH hm_ hu_ _ rfl _ rfl; exact depK_nil <| s_d (m_ 7) rfl (d_index (sz := 2) Tryd.underlying22 sz29 rfl (h_l.mono hH).th.th rfl c24) (by exact rfl) rfl), (by rintro H' m_ hH hm_ hu_ _ rfl; exact depK_nil <| s_d (m_ 8) rfl (d_fieldAddr Tryd.underlying29 rfl sz9 rfl rfl) (by exact rfl) rfl), (by rintro H' m_ hH hm_ hu_ _ rfl; exact depK_nil <| s_d (m_ 9) rfl (d_load (v := .string ((rd l k_).f_Name)) (cs := [.string ((rd l k_).f_Name)]) ty9 rfl rfl (by decide) (((l25.mono hH)).part 0 1) rfl) (by exact rfl) rfl), trivial⟩ ?_
  intro H29 e30
  rintro _ _ rfl _ _ rfl _ _ rfl _ _ rfl _ _ rfl _ _ rfl _ _ rfl _ _ rfl _ _ rfl _ _ rfl
  refine w_d rfl (d_eqs rfl rfl) <| w_done ?_
  rcases its he with ⟨c31, he⟩ | ⟨c31, he⟩
  ·
   refine w_then rfl (decide_eq_true c31) <| w_seq <| w_region rfl <| w_d rfl (d_assign (v := .slice none 0 0) rfl) <| w_d rfl (d_assign (v := .int .i64 9) rfl) <| w_done ?_
   obtain rfl := Option.some.inj he
   refine w_return fn_12 rs_12 (.tmp (v := .slice none 0 0) rfl (.tmp (v := .int .i64 9) rfl .nil)) <| ⟨⟨[_, _], rfl⟩, hle.trans e30, ⟨.slice none 0 0, rfl, (ro_nil _ _)⟩⟩
  ·
   refine w_else rfl (decide_eq_false c31) <| w_skip <| w_inBlock <| w_region rfl <| w_d rfl (d_move (v := .int .i64 k_) rfl) <| w_d rfl (d_add (c := w64 (k_ + 1)) rfl rfl rfl) <| w_d rfl (d_assign (v := .int .i64 (w64 (k_ + 1))) rfl) <| w_done <| w_inLoop <| w_sl 0 (v_l) rfl <| w_sl 3 (.pointer (some ⟨b_p, 0, none⟩)) rfl <| w_sl 4 (v_t4) rfl ?_
   refine w_sl 5 (.int .i64 t5) rfl <| w_sl 7 (v_out) rfl <| w_sl 8 (.int .i64 i) rfl <| w_sl 9 (.int .i64 (w64 (k_ + 1))) rfl <| hh.l2 (hle.trans e30) he (h_l.mono e30) (h_t4.mono e30) (h_out.mono e30)
 ·
  refine w_else rfl (decide_eq_false c18) <| w_exit rfl <| w_seq ?_
  obtain ⟨c32, he⟩ := rq he
  obtain ⟨_, l33, r34⟩ := el_of (kd := k_radomeref39_Zone) h_l.th.th c32
  obtain ⟨v35, rfl, h36⟩ := k_radomeref39_Zone_out r34
  refine w_drawn (p := 5) (tl := [5, 6]) [[], [], [(0, some 47), (1, some 48)], [(2, some 49)], []] [some 47, some 48, some 49, some 50, some 51] (fctF (.is (v_l) :: .is (.int .i64 i) :: .is (.pointer (some (pel v_l i 2))) :: .is (.agg ⟨[.string ((rd l i).f_Name), v35]⟩) :: .is (.agg ⟨[.int .i32 p_0, .int .i32 p_1]⟩) :: [])) (fun m_ => i_out :: some (b_p, .cells ⟨[.int .i32 p_0, .int .i32 p_1]⟩ 24 (0, 0)) :: L) (fun _ => none) mixed (by kernel_rfl) (by kernel_rfl) rfl (fct_mono (by kernel_rfl)) ⟨(fun H' m_ hH hm_ hu_ => depK_nil <| s_d (m_ 0) rfl (d_move (v := v_l) rfl) (by exact rfl) rfl), (fun H' m_ hH hm_ hu_ => depK_nil <| s_d (m_ 1) rfl (d_move (v := .int .i64 i) rfl) (by exact rfl) rfl), (by rintro H' m_ hH hm_ hu_ _ rfl _ rfl; exact depK_nil <| s_d (m_ 2) rfl (d_index (sz := 2) Tryd.underlying22 sz29 rfl (h_l.mono hH).th.th rfl c32) (by exact rfl) rfl), (by rintro H' m_ hH hm_ hu_ _ rfl; exact depK_nil <| s_d (m_ 3) rfl (d_load (v := .agg ⟨[.string ((rd l i).f_Name), v35]⟩) (cs := [.string ((rd l i).f_Name), v35]) ty29 rfl rfl (by decide) (l33.mono hH) rfl) (by exact rfl) rfl), (fun H' m_ hH hm_ hu_ => depK_nil <| s_d (m_ 4) rfl (d_loado (v := .agg ⟨[.int .i32 p_0, .int .i32 p_1]⟩) ty24 rfl (.there .here) rfl rfl rfl rfl) (by exact rfl) rfl), trivial⟩ ?_
  intro H37 e38
  rintro _ _ rfl _ _ rfl _ _ rfl _ _ rfl _ _ rfl
  obtain ⟨y39, hy40, he⟩ := Option.bind_eq_some_iff.1 he
  refine w_d rfl (call_d (o_call co19 (vs := [.agg ⟨[.string ((rd l i).f_Name), v35]⟩, .agg ⟨[.int .i32 p_0, .int .i32 p_1]⟩]) rfl (radomeref39_Where.calls k (z := (rd l i)) (p := ⟨p_0, p_1⟩) hy40 (h36.mono e38)))) <| w_d rfl (d_gtr rfl rfl) <| w_done ?_
  rcases its he with ⟨c43, he⟩ | ⟨c43, he⟩
  ·
   refine w_then rfl (decide_eq_true c43) <| w_region rfl <| w_d rfl (d_move (v := v_out) rfl) <| w_d rfl (d_move (v := v_l) rfl) <| w_d rfl (d_move (v := .int .i64 i) rfl) ?_
   obtain ⟨c44, he⟩ := rq he
   refine w_d rfl (d_index (sz := 2) Tryd.underlying22 sz29 rfl (h_l.mono e38).th.th rfl c44) <| w_d rfl (d_fieldAddr Tryd.underlying29 rfl sz9 rfl rfl) ?_
   obtain ⟨_, l45, r46⟩ := el_of (kd := k_radomeref39_Zone) (h_l.mono e38).th.th c44
   obtain ⟨v47, rfl, h48⟩ := k_radomeref39_Zone_out r46
   refine w_d rfl (d_load (v := .string ((rd l i).f_Name)) (cs := [.string ((rd l i).f_Name)]) ty9 rfl rfl (by decide) ((l45).part 0 1) rfl) <| w_a rfl (o_buildSlice' (kd := Kd.str) (css := [[.string ((rd l i).f_Name)]]) (xs := [(rd l i).f_Name]) (parts := [(0, .string ((rd l i).f_Name))]) Tryd.underlying34 ti9 rfl ⟨_, _, rfl, rfl, rfl⟩ ⟨rfl, trivial⟩ rfl (by decide)) ?_
   rintro v49 _ _ ⟨i50, rfl, rfl, h51⟩
   obtain ⟨c52, he⟩ := rq he
   refine w_a rfl (o_append' (kd := Kd.str) (F := fun z_ => i50 :: z_ :: some (b_p, .cells ⟨[.int .i32 p_0, .int .i32 p_1]⟩ 24 (0, 0)) :: L) Tryd.underlying34 Tryd.underlying34 ti9 rfl (by first | omega | (simp only [List.nil_append, List.length_cons, List.length_nil]; omega)) rfl rfl (h_out.mono e38) (h51.src .here) (fun _ => (.there .here))) ?_
   rintro v53 _ _ ⟨i54, rfl, rfl, h55⟩
   refine w_d rfl (d_assign (v := v53) rfl) <| w_done <| w_inBlock <| w_region rfl <| w_d rfl (d_move (v := .int .i64 i) rfl) <| w_d rfl (d_add (c := w64 (i + 1)) rfl rfl rfl) <| w_d rfl (d_assign (v := .int .i64 (w64 (i + 1))) rfl) <| w_done <| w_inLoop <| w_del .here <| w_sl 0 (v_l) rfl <| w_sl 3 (.pointer (some ⟨b_p, 0, none⟩)) rfl ?_
   refine w_sl 4 (v_t4) rfl <| w_sl 5 (.int .i64 t5) rfl <| w_sl 7 (v53) rfl <| w_sl 8 (.int .i64 (w64 (i + 1))) rfl <| hh.l1 (hle.trans e38) he (h_l.mono e38) (h_t4.mono e38) h55
  ·
   refine w_else rfl (decide_eq_false c43) <| w_skip <| w_inBlock <| w_region rfl <| w_d rfl (d_move (v := .int .i64 i) rfl) <| w_d rfl (d_add (c := w64 (i + 1)) rfl rfl rfl) <| w_d rfl (d_assign (v := .int .i64 (w64 (i + 1))) rfl) <| w_done <| w_inLoop <| w_sl 0 (v_l) rfl <| w_sl 3 (.pointer (some ⟨b_p, 0, none⟩)) rfl <| w_sl 4 (v_t4) rfl ?_
   refine w_sl 5 (.int .i64 t5) rfl <| w_sl 7 (v_out) rfl <| w_sl 8 (.int .i64 (w64 (i + 1))) rfl <| hh.l1 (hle.trans e38) he (h_l.mono e38) (h_t4.mono e38) (h_out.mono e38)
theorem radomeref39_Hits.ok : ∀ k, radomeref39_Hits.OK (radomeref39_Hits.hs k)
 | 0 => ⟨(by intros; exact nomatch (show none = some _ from by assumption)), (by intros; exact nomatch (show none = some _ from by assumption)), (by intros; exact nomatch (show none = some _ from by assumption))⟩
 | k + 1 => ⟨radomeref39_Hits.b0_ok (k := k) (radomeref39_Hits.ok k), radomeref39_Hits.b1_ok (k := k) (radomeref39_Hits.ok k), radomeref39_Hits.b2_ok (k := k) (radomeref39_Hits.ok k)⟩
theorem radomeref39_Hits.calls (k : Nat) {H : Hp} {L : Items} {l : List radomeref39_Zone} {p : radomeref39_Spot} {v0_l : Value} {r : (List ByteArray) × Int} (he : radomeref39_Hits.f k l p = some r) (h0_l : Src k_radomeref39_Zone H L v0_l l) : Ct Tryd.prog 12 ⟨[v0_l, .agg ⟨[.int .i32 p.f_X, .int .i32 p.f_Y]⟩]⟩ H L (fun v H' L' => L = L' ∧ H.le H' ∧ radomeref39_Hits.out r H' v) := by
 refine ct_out (O := radomeref39_Hits.out r) ?_
 have hle : H.le H := .refl _
 have hh := radomeref39_Hits.ok k
 unfold radomeref39_Hits.f at he
 refine ct_enter (args := [v0_l, .agg ⟨[.int .i32 p.f_X, .int .i32 p.f_Y]⟩]) fn_12 rfl nt_12 rfl <| w_seq <| w_region rfl <| w_a rfl (o_box (v := .agg ⟨[.int .i32 p.f_X, .int .i32 p.f_Y]⟩) rfl rfl) ?_
 rintro _ _ _ ⟨b1, rfl, rfl, rfl⟩
 refine w_d rfl (d_assign (v := .slice none 0 0) rfl) <| w_d rfl (d_assign (v := .int .i64 0) rfl) <| w_done <| w_seq <| w_seq <| w_region rfl <| w_d rfl (d_move (v := v0_l) rfl) <| w_d rfl (d_len Tryd.underlying22 rfl h0_l.th) <| w_d rfl (d_gtr rfl rfl) <| w_done ?_
 rcases its he with ⟨c2, he⟩ | ⟨c2, he⟩
 ·
  refine w_then rfl (decide_eq_true c2) <| w_seq <| w_region rfl <| w_d rfl (d_assign (v := .slice none 0 0) rfl) <| w_d rfl (d_assign (v := .int .i64 2) rfl) <| w_done ?_
  obtain rfl := Option.some.inj he
  refine w_return fn_12 rs_12 (.tmp (v := .slice none 0 0) rfl (.tmp (v := .int .i64 2) rfl .nil)) <| ⟨⟨[_], rfl⟩, hle, ⟨.slice none 0 0, rfl, (ro_nil _ _)⟩⟩
 ·
  refine w_else rfl (decide_eq_false c2) <| w_skip <| w_seq <| w_seq <| w_region rfl <| w_d rfl (d_assign (v := .int .i64 0) rfl) <| w_done <| w_block <| w_loop <| w_sl 0 (v0_l) rfl <| w_sl 3 (.pointer (some ⟨b1, 0, none⟩)) rfl <| w_sl 4 (.slice none 0 0) rfl ?_
  refine w_sl 5 (.int .i64 0) rfl <| w_sl 6 (.int .i64 0) rfl <| hh.l0 hle he h0_l (ro_nil _ _)
/-! ### radome/radomelaw39.ZoneHits -/
noncomputable def radomelaw39_ZoneHits.C : Code := (Tryd.f3.body).getD .skip
def radomelaw39_ZoneHits.out (r : Bool) (H : Hp) (v : Value) : Prop := v = .bool r
abbrev radomelaw39_ZoneHits.R (H0 : Hp) (L : Items) (r : Bool) : Value → Hp → Items → Prop := fun v H' L' => (∃ p, L' = p ++ L) ∧ H0.le H' ∧ radomelaw39_ZoneHits.out r H' v
structure radomelaw39_ZoneHits.Hs where
 l0 : (List radomeref39_Zone) → Int → Int → Bool → (List zone_Zone) → Int → Option Bool
 l1 : Bool → (List ByteArray) → (List ByteArray) → Int → Option Bool
noncomputable def radomelaw39_ZoneHits.b0 (k : Nat) (h : radomelaw39_ZoneHits.Hs)  (l : List radomeref39_Zone) (p_0 : Int) (p_1 : Int) (t4 : Bool) (own : List zone_Zone) (i : Int) : Option Bool := if i < (l.length : Int) then (if (0 : Int) ≤ i ∧ i < (l.length : Int) then (if (!(decide (100 < (((rd l i).f_Corners).length : Int)))) = true → (0 : Int) ≤ i ∧ i < (l.length : Int) then (if ((decide (100 < (((rd l i).f_Corners).length : Int))) || (decide (1000 < (((rd l i).f_Name).size : Int)))) = true then ((radomelaw39_sure.f k).bind fun y25 => some (y25)) else (if (0 : Int) ≤ i ∧ i < (l.length : Int) then ((radomelaw39_give.f k (rd l i)).bind fun y34 => if own.length + 1 ≤ 3518437208755 then (h.l0 l p_0 p_1 t4 (own ++ [y34]) (w64 (i + 1))) else none) else none)) else none) else none) else ((zone_Hits.f k own (⟨p_0, p_1⟩ : zone_Spot)).bind fun y47 => (radomeref39_Hits.f k l (⟨p_0, p_1⟩ : radomeref39_Spot)).bind fun y53 => if ((!decide ((errN y47.2) = y53.2)) || (!decide ((y47.1.length : Int) = (y53.1.length : Int)))) = true then (some (false)) else (h.l1 t4 y47.1 y53.1 0))
noncomputable def radomelaw39_ZoneHits.b1 (k : Nat) (h : radomelaw39_ZoneHits.Hs)  (t4 : Bool) (n : List ByteArray) (x : List ByteArray) (i : Int) : Option Bool := if i < (n.length : Int) then (if (0 : Int) ≤ i ∧ i < (n.length : Int) then (if (0 : Int) ≤ i ∧ i < (x.length : Int) then (if (rd n i) = (rd x i) then (h.l1 t4 n x (w64 (i + 1))) else (some (false))) else none) else none) else ((radomelaw39_sure.f k).bind fun y71 => some (y71))
noncomputable def radomelaw39_ZoneHits.hs : Nat → radomelaw39_ZoneHits.Hs
 | 0 => ⟨fun _ _ _ _ _ _ => none, fun _ _ _ _ => none⟩
 | k + 1 => ⟨fun x0 x1 x2 x3 x4 x5 => radomelaw39_ZoneHits.b0 k (radomelaw39_ZoneHits.hs k) x0 x1 x2 x3 x4 x5, fun x0 x1 x2 x3 => radomelaw39_ZoneHits.b1 k (radomelaw39_ZoneHits.hs k) x0 x1 x2 x3⟩
noncomputable def radomelaw39_ZoneHits.f (k : Nat) (l : List radomeref39_Zone) (p : radomeref39_Spot) : Option Bool := (fun h : radomelaw39_ZoneHits.Hs => if 100 < (l.length : Int) then ((radomelaw39_sure.f k).bind fun y3 => some (y3)) else (h.l0 l p.f_X p.f_Y false [] 0)) (radomelaw39_ZoneHits.hs k)
structure radomelaw39_ZoneHits.LE (h h' : radomelaw39_ZoneHits.Hs) : Prop where
 l0 : ∀ y0 y1 y2 y3 y4 y5, LeO (h.l0 y0 y1 y2 y3 y4 y5) (h'.l0 y0 y1 y2 y3 y4 y5)
 l1 : ∀ y0 y1 y2 y3, LeO (h.l1 y0 y1 y2 y3) (h'.l1 y0 y1 y2 y3)
theorem radomelaw39_ZoneHits.b0_mono {k : Nat} {h h' : radomelaw39_ZoneHits.Hs} (hl : radomelaw39_ZoneHits.LE h h') : ∀ y0 y1 y2 y3 y4 y5, LeO (radomelaw39_ZoneHits.b0 k h y0 y1 y2 y3 y4 y5) (radomelaw39_ZoneHits.b0 (k + 1) h' y0 y1 y2 y3 y4 y5) := fun _ _ _ _ _ _ => (LeO.ite (LeO.ite (LeO.ite (LeO.ite (LeO.bind (radomelaw39_sure.mono k) fun _ => LeO.refl _) (LeO.ite (LeO.bind (radomelaw39_give.mono k _) fun _ => LeO.ite (hl.l0 _ _ _ _ _ _) (LeO.refl _)) (LeO.refl _))) (LeO.refl _)) (LeO.refl _)) (LeO.bind (zone_Hits.mono k _ _) fun _ => LeO.bind (radomeref39_Hits.mono k _ _) fun _ => LeO.ite (LeO.refl _) (hl.l1 _ _ _ _)))
theorem radomelaw39_ZoneHits.b1_mono {k : Nat} {h h' : radomelaw39_ZoneHits.Hs} (hl : radomelaw39_ZoneHits.LE h h') : ∀ y0 y1 y2 y3, LeO (radomelaw39_ZoneHits.b1 k h y0 y1 y2 y3) (radomelaw39_ZoneHits.b1 (k + 1) h' y0 y1 y2 y3) := fun _ _ _ _ => (LeO.ite (LeO.ite (LeO.ite (LeO.ite (hl.l1 _ _ _ _) (LeO.refl _)) (LeO.refl _)) (LeO.refl _)) (LeO.bind (radomelaw39_sure.mono k) fun _ => LeO.refl _))
theorem radomelaw39_ZoneHits.hs_mono : ∀ k, radomelaw39_ZoneHits.LE (radomelaw39_ZoneHits.hs k) (radomelaw39_ZoneHits.hs (k + 1))
 | 0 => ⟨fun _ _ _ _ _ _ => LeO.none _, fun _ _ _ _ => LeO.none _⟩
 | k + 1 => ⟨radomelaw39_ZoneHits.b0_mono (k := k) (radomelaw39_ZoneHits.hs_mono k), radomelaw39_ZoneHits.b1_mono (k := k) (radomelaw39_ZoneHits.hs_mono k)⟩
theorem radomelaw39_ZoneHits.mono : ∀ k y0 y1, LeO (radomelaw39_ZoneHits.f k y0 y1) (radomelaw39_ZoneHits.f (k + 1) y0 y1) := fun k _ _ => have hl := radomelaw39_ZoneHits.hs_mono k; by unfold radomelaw39_ZoneHits.f; exact (LeO.ite (LeO.bind (radomelaw39_sure.mono k) fun _ => LeO.refl _) (hl.l0 _ _ _ _ _ _))
noncomputable def radomelaw39_ZoneHits.Kl0 : List Item := .code (lopB (blkB (seqR (seqL (seqR (seqR (seqR radomelaw39_ZoneHits.C))))))) :: .inLoop (lopB (blkB (seqR (seqL (seqR (seqR (seqR radomelaw39_ZoneHits.C))))))) :: .inBlock 0 :: .code (seqR (seqR (seqR (seqR radomelaw39_ZoneHits.C)))) :: []
noncomputable def radomelaw39_ZoneHits.Kl1 : List Item := .code (lopB (blkB (seqR (seqL (seqR (seqR (seqR (seqR (seqR (seqR (seqR radomelaw39_ZoneHits.C))))))))))) :: .inLoop (lopB (blkB (seqR (seqL (seqR (seqR (seqR (seqR (seqR (seqR (seqR radomelaw39_ZoneHits.C))))))))))) :: .inBlock 2 :: .code (seqR (seqR (seqR (seqR (seqR (seqR (seqR (seqR radomelaw39_ZoneHits.C)))))))) :: []
structure radomelaw39_ZoneHits.OK (h : radomelaw39_ZoneHits.Hs) : Prop where
 l0 : ∀ {H0 H : Hp} {L : Items} {r : Bool} {jk_ : Nat → Value} {l : List radomeref39_Zone} {p_0 : Int} {p_1 : Int} {t4 : Bool} {own : List zone_Zone} {i : Int} {v_l : Value} {v_own : Value} {i_own : Item'} {b_p : Nat} (_ : H0.le H) (_ : GH H) (_he : h.l0 l p_0 p_1 t4 own i = some r) (_h_l : Ro k_radomeref39_Zone H v_l l) (_h_own : Sl k_zone_Zone H 32 i_own v_own own), Wp Tryd.prog 3 86 radomelaw39_ZoneHits.Kl0 (upd (upd (upd (upd (upd jk_ 0 (v_l)) 3 (.pointer (some ⟨b_p, 0, none⟩))) 4 (.bool t4)) 5 (v_own)) 6 (.int .i64 i)) H (i_own :: some (b_p, .cells ⟨[.int .i32 p_0, .int .i32 p_1]⟩ 24 (0, 0)) :: L) (radomelaw39_ZoneHits.R H0 L r)
 l1 : ∀ {H0 H : Hp} {L : Items} {r : Bool} {jk_ : Nat → Value} {t4 : Bool} {n : List ByteArray} {x : List ByteArray} {i : Int} {v_n : Value} {v_x : Value} (_ : H0.le H) (_ : GH H) (_he : h.l1 t4 n x i = some r) (_h_n : Ro Kd.str H v_n n) (_h_x : Ro Kd.str H v_x x), Wp Tryd.prog 3 86 radomelaw39_ZoneHits.Kl1 (upd (upd (upd (upd jk_ 4 (.bool t4)) 7 (v_n)) 9 (v_x)) 11 (.int .i64 i)) H (L) (radomelaw39_ZoneHits.R H0 L r)
theorem radomelaw39_ZoneHits.b0_ok {k : Nat} {h : radomelaw39_ZoneHits.Hs} (hh : radomelaw39_ZoneHits.OK h) {H0 H : Hp} {L : Items} {r : Bool} {jk_ : Nat → Value} {l : List radomeref39_Zone} {p_0 : Int} {p_1 : Int} {t4 : Bool} {own : List zone_Zone} {i : Int} {v_l : Value} {v_own : Value} {i_own : Item'} {b_p : Nat} (hle : H0.le H) (hG : GH H) (he : radomelaw39_ZoneHits.b0 k h l p_0 p_1 t4 own i = some r) (h_l : Ro k_radomeref39_Zone H v_l l) (h_own : Sl k_zone_Zone H 32 i_own v_own own) : Wp Tryd.prog 3 86 radomelaw39_ZoneHits.Kl0 (upd (upd (upd (upd (upd jk_ 0 (v_l)) 3 (.pointer (some ⟨b_p, 0, none⟩))) 4 (.bool t4)) 5 (v_own)) 6 (.int .i64 i)) H (i_own :: some (b_p, .cells ⟨[.int .i32 p_0, .int .i32 p_1]⟩ 24 (0, 0)) :: L) (radomelaw39_ZoneHits.R H0 L r) := by
 unfold radomelaw39_ZoneHits.b0 at he
 unfold radomelaw39_ZoneHits.Kl0
 refine w_seq <| w_seq <| w_region rfl <| w_d rfl (d_move (v := .int .i64 i) rfl) <| w_d rfl (d_move (v := v_l) rfl) <| w_d rfl (d_len Tryd.underlying22 rfl h_l.src) <| w_d rfl (d_lss rfl rfl) <| w_done ?_
 rcases its he with ⟨c7, he⟩ | ⟨c7, he⟩
 ·
  refine w_then rfl (decide_eq_true c7) <| w_skip <| w_seq <| w_block <| w_seq <| w_seq <| w_region rfl <| w_d rfl (d_move (v := v_l) rfl) <| w_d rfl (d_move (v := .int .i64 i) rfl) ?_
  obtain ⟨c8, he⟩ := rq he
  refine w_d rfl (d_index (sz := 2) Tryd.underlying22 sz29 rfl h_l.src rfl c8) <| w_d rfl (d_fieldAddr Tryd.underlying29 rfl sz27 rfl rfl) ?_
  obtain ⟨_, l9, r10⟩ := el_ro (kd := k_radomeref39_Zone) h_l c8
  obtain ⟨v11, rfl, h12⟩ := k_radomeref39_Zone_out r10
  refine w_d rfl (d_load (v := v11) (cs := [v11]) ty27 rfl rfl (by decide) (((l9).lies).part 1 1) rfl) <| w_d rfl (d_len Tryd.underlying27 rfl h12.src) <| w_d rfl (d_gtr rfl rfl) <| w_d rfl (d_move (v := .bool (decide (100 < (((rd l i).f_Corners).length : Int)))) rfl) <| w_g (g := !(decide (100 < (((rd l i).f_Corners).length : Int)))) rfl rfl rfl wn_f (fun g13 => d_move (v := v_l) rfl) <| w_g (g := !(decide (100 < (((rd l i).f_Corners).length : Int)))) rfl rfl rfl wn_f (fun g14 => d_move (v := .int .i64 i) rfl) ?_
  obtain ⟨c16, he⟩ := rq he
  refine w_g (g := !(decide (100 < (((rd l i).f_Corners).length : Int)))) rfl rfl rfl wn_f (fun g15 => d_index (sz := 2) Tryd.underlying22 sz29 (cvt g15) h_l.src (cvt g15) (c16 g15)) <| w_g (g := !(decide (100 < (((rd l i).f_Corners).length : Int)))) rfl rfl rfl wn_f (fun g17 => d_fieldAddr Tryd.underlying29 rfl sz9 rfl (cvt g17)) ?_
  obtain ⟨v20, l19, h21⟩ : ∃ v20 : Value, ((!(decide (100 < (((rd l i).f_Corners).length : Int)))) = true → Cells H (pel v_l i 2) [.string ((rd l i).f_Name), v20]) ∧ ((!(decide (100 < (((rd l i).f_Corners).length : Int)))) = true → Ro k_radomeref39_Spot H v20 ((rd l i).f_Corners)) := if g_ : (!(decide (100 < (((rd l i).f_Corners).length : Int)))) = true then (by obtain ⟨_, l_, r_⟩ := el_ro (kd := k_radomeref39_Zone) h_l (c16 g_); obtain ⟨v20, rfl, h21⟩ := k_radomeref39_Zone_out r_; exact ⟨v20, fun _ => l_, fun _ => h21⟩) else ⟨undef, fun h_ => absurd h_ g_, fun h_ => absurd h_ g_⟩
  refine w_g (g := !(decide (100 < (((rd l i).f_Corners).length : Int)))) rfl rfl rfl wn_f (fun g18 => d_load (v := .string ((rd l i).f_Name)) (cs := [.string ((rd l i).f_Name)]) ty9 (cvt g18) rfl (by decide) ((((l19 g18)).lies).part 0 1) rfl) <| w_g (g := !(decide (100 < (((rd l i).f_Corners).length : Int)))) rfl rfl rfl wn_f (fun g22 => d_lens Tryd.underlying9 (cvt g22)) <| w_g (g := !(decide (100 < (((rd l i).f_Corners).length : Int)))) rfl rfl rfl wn_f (fun g23 => d_gtr (cvt g23) rfl) <| w_d rfl (d_or' (b := (decide (100 < (((rd l i).f_Corners).length : Int)))) (p := (decide (1000 < (((rd l i).f_Name).size : Int)))) rfl rfl rfl) <| w_done ?_
  rcases its he with ⟨c24, he⟩ | ⟨c24, he⟩
  ·
   refine w_then rfl c24 <| w_seq <| w_region rfl ?_
   obtain ⟨y25, hy26, he⟩ := Option.bind_eq_some_iff.1 he
   refine w_d rfl (call_d (o_call co9 (vs := []) rfl (radomelaw39_sure.calls k hy26))) <| w_d rfl (d_assign (v := .bool y25) rfl) <| w_done ?_
   obtain rfl := Option.some.inj he
   refine w_return fn_3 rs_3 (.tmp (v := .bool y25) rfl .nil) <| ⟨⟨[_, _], rfl⟩, hle, rfl⟩
  ·
   refine w_else rfl (Bool.eq_false_iff.2 c24) <| w_skip <| w_region rfl <| w_d rfl (d_move (v := v_own) rfl) <| w_d rfl (d_move (v := v_l) rfl) <| w_d rfl (d_move (v := .int .i64 i) rfl) ?_
   obtain ⟨c29, he⟩ := rq he
   refine w_d rfl (d_index (sz := 2) Tryd.underlying22 sz29 rfl h_l.src rfl c29) ?_
   obtain ⟨_, l30, r31⟩ := el_ro (kd := k_radomeref39_Zone) h_l c29
   obtain ⟨v32, rfl, h33⟩ := k_radomeref39_Zone_out r31
   refine w_d rfl (d_load (v := .agg ⟨[.string ((rd l i).f_Name), v32]⟩) (cs := [.string ((rd l i).f_Name), v32]) ty29 rfl rfl (by decide) (l30).lies rfl) ?_
   obtain ⟨y34, hy35, he⟩ := Option.bind_eq_some_iff.1 he
   refine w_a rfl (o_call co10 (vs := [.agg ⟨[.string ((rd l i).f_Name), v32]⟩]) rfl (radomelaw39_give.calls k (z := (rd l i)) hy35 h33)) ?_
   rintro _ H36 _ ⟨rfl, e37, ⟨v38, rfl, h39⟩⟩
   refine w_a rfl (o_buildSlice' (kd := k_zone_Zone) (css := [[.string y34.f_Name, v38]]) (xs := [y34]) (parts := [(0, .agg ⟨[.string y34.f_Name, v38]⟩)]) Tryd.underlying26 ti32 rfl ⟨_, _, rfl, rfl, rfl⟩ ⟨(k_zone_Zone_in (x := y34) h39), trivial⟩ rfl (by decide)) ?_
   rintro v40 _ _ ⟨i41, rfl, rfl, h42⟩
   obtain ⟨c43, he⟩ := rq he
   refine w_a rfl (o_append' (kd := k_zone_Zone) (F := fun z_ => i41 :: z_ :: some (b_p, .cells ⟨[.int .i32 p_0, .int .i32 p_1]⟩ 24 (0, 0)) :: L) Tryd.underlying26 Tryd.underlying26 ti32 rfl (by first | omega | (simp only [List.nil_append, List.length_cons, List.length_nil]; omega)) rfl rfl (h_own.mono e37) (h42.src .here) (fun _ => (.there .here))) ?_
   rintro v44 _ _ ⟨i45, rfl, rfl, h46⟩
   refine w_d rfl (d_assign (v := v44) rfl) <| w_done <| w_inBlock <| w_region rfl <| w_d rfl (d_move (v := .int .i64 i) rfl) <| w_d rfl (d_add (c := w64 (i + 1)) rfl rfl rfl) <| w_d rfl (d_assign (v := .int .i64 (w64 (i + 1))) rfl) <| w_done <| w_inLoop <| w_del .here <| w_sl 0 (v_l) rfl <| w_sl 3 (.pointer (some ⟨b_p, 0, none⟩)) rfl ?_
   refine w_sl 4 (.bool t4) rfl <| w_sl 5 (v44) rfl <| w_sl 6 (.int .i64 (w64 (i + 1))) rfl <| hh.l0 (hle.trans e37) (hG.mono e37) he (h_l.mono e37) h46
 ·
  refine w_else rfl (decide_eq_false c7) <| w_exit rfl <| w_seq <| w_region rfl <| w_d rfl (d_move (v := v_own) rfl) <| w_d rfl (d_loado (v := .agg ⟨[.int .i32 p_0, .int .i32 p_1]⟩) ty24 rfl (.there .here) rfl rfl rfl rfl) ?_
  obtain ⟨y47, hy48, he⟩ := Option.bind_eq_some_iff.1 he
  refine w_a rfl (o_call co11 (vs := [v_own, .agg ⟨[.int .i32 p_0, .int .i32 p_1]⟩]) rfl (zone_Hits.calls k (p := ⟨p_0, p_1⟩) hy48 (h_own.src .here))) ?_
  rintro _ H49 _ ⟨rfl, e50, ⟨v51, rfl, h52⟩⟩
  refine w_d rfl (d_move (v := .tuple ⟨[v51, errV 99 y47.2]⟩) rfl) <| w_d rfl (d_ext (vs := [v51, errV 99 y47.2]) rfl rfl) <| w_d rfl (d_ext (vs := [v51, errV 99 y47.2]) rfl rfl) <| w_d rfl (d_assign (v := v51) rfl) <| w_d rfl (d_assign (v := errV 99 y47.2) rfl) <| w_done <| w_seq <| w_region rfl <| w_d rfl (d_move (v := v_l) rfl) <| w_d rfl (d_loado (v := .agg ⟨[.int .i32 p_0, .int .i32 p_1]⟩) ty24 rfl (.there .here) rfl rfl rfl rfl) ?_
  obtain ⟨y53, hy54, he⟩ := Option.bind_eq_some_iff.1 he
  refine w_a rfl (o_call co12 (vs := [v_l, .agg ⟨[.int .i32 p_0, .int .i32 p_1]⟩]) rfl (radomeref39_Hits.calls k (p := ⟨p_0, p_1⟩) hy54 ((h_l.mono e50).src))) ?_
  rintro _ H55 _ ⟨rfl, e56, ⟨v57, rfl, h58⟩⟩
  refine w_d rfl (d_move (v := .tuple ⟨[v57, .int .i64 y53.2]⟩) rfl) <| w_d rfl (d_ext (vs := [v57, .int .i64 y53.2]) rfl rfl) <| w_d rfl (d_ext (vs := [v57, .int .i64 y53.2]) rfl rfl) <| w_d rfl (d_assign (v := v57) rfl) <| w_d rfl (d_assign (v := .int .i64 y53.2) rfl) <| w_done <| w_seq <| w_seq <| w_region rfl <| w_d rfl (d_move (v := errV 99 y47.2) rfl) <| w_d rfl (call_d (o_call co13 (vs := [errV 99 y47.2]) rfl (num13.calls (hG.mono (e50.trans e56)) rfl))) <| w_d rfl (d_move (v := .int .i64 y53.2) rfl) ?_
  refine w_d rfl (d_neq rfl rfl) <| w_d rfl (d_move (v := .bool (!decide ((errN y47.2) = y53.2))) rfl) <| w_g (g := !(!decide ((errN y47.2) = y53.2))) rfl rfl rfl wn_f (fun g59 => d_move (v := v51) rfl) <| w_g (g := !(!decide ((errN y47.2) = y53.2))) rfl rfl rfl wn_f (fun g60 => d_len Tryd.underlying34 (cvt g60) (h52.mono e56).src) <| w_g (g := !(!decide ((errN y47.2) = y53.2))) rfl rfl rfl wn_f (fun g61 => d_move (v := v57) rfl) <| w_g (g := !(!decide ((errN y47.2) = y53.2))) rfl rfl rfl wn_f (fun g62 => d_len Tryd.underlying34 (cvt g62) h58.src) <| w_g (g := !(!decide ((errN y47.2) = y53.2))) rfl rfl rfl wn_f (fun g63 => d_neq (cvt g63) (cvt g63)) <| w_d rfl (d_or' (b := (!decide ((errN y47.2) = y53.2))) (p := (!decide ((y47.1.length : Int) = (y53.1.length : Int)))) rfl rfl rfl) <| w_done ?_
  rcases its he with ⟨c64, he⟩ | ⟨c64, he⟩
  ·
   refine w_then rfl c64 <| w_seq <| w_region rfl <| w_d rfl (d_assign (v := .bool false) rfl) <| w_done ?_
   obtain rfl := Option.some.inj he
   refine w_return fn_3 rs_3 (.tmp (v := .bool false) rfl .nil) <| ⟨⟨[_, _], rfl⟩, hle.trans (e50.trans e56), rfl⟩
  ·
   refine w_else rfl (Bool.eq_false_iff.2 c64) <| w_skip <| w_seq <| w_seq <| w_region rfl <| w_d rfl (d_assign (v := .int .i64 0) rfl) <| w_done <| w_block <| w_loop <| w_del (.there .here) <| w_del .here <| w_sl 4 (.bool t4) rfl ?_
   refine w_sl 7 (v51) rfl <| w_sl 9 (v57) rfl <| w_sl 11 (.int .i64 0) rfl <| hh.l1 (hle.trans (e50.trans e56)) (hG.mono (e50.trans e56)) he (h52.mono e56) h58
theorem radomelaw39_ZoneHits.b1_ok {k : Nat} {h : radomelaw39_ZoneHits.Hs} (hh : radomelaw39_ZoneHits.OK h) {H0 H : Hp} {L : Items} {r : Bool} {jk_ : Nat → Value} {t4 : Bool} {n : List ByteArray} {x : List ByteArray} {i : Int} {v_n : Value} {v_x : Value} (hle : H0.le H) (hG : GH H) (he : radomelaw39_ZoneHits.b1 k h t4 n x i = some r) (h_n : Ro Kd.str H v_n n) (h_x : Ro Kd.str H v_x x) : Wp Tryd.prog 3 86 radomelaw39_ZoneHits.Kl1 (upd (upd (upd (upd jk_ 4 (.bool t4)) 7 (v_n)) 9 (v_x)) 11 (.int .i64 i)) H (L) (radomelaw39_ZoneHits.R H0 L r) := by
 unfold radomelaw39_ZoneHits.b1 at he
 unfold radomelaw39_ZoneHits.Kl1
 refine w_seq <| w_seq <| w_region rfl <| w_d rfl (d_move (v := .int .i64 i) rfl) <| w_d rfl (d_move (v := v_n) rfl) <| w_d rfl (d_len Tryd.underlying34 rfl h_n.src) <| w_d rfl (d_lss rfl rfl) <| w_done ?_
 rcases its he with ⟨c65, he⟩ | ⟨c65, he⟩
 ·
  refine w_then rfl (decide_eq_true c65) <| w_skip <| w_seq <| w_block <| w_seq ?_
  obtain ⟨c66, he⟩ := rq he
  obtain ⟨c67, he⟩ := rq he
  refine w_drawn (p := 8) (tl := [8]) [[], [], [(0, some 76), (1, some 77)], [(2, some 78)], [], [], [(4, some 80), (5, some 81)], [(6, some 82)]] [some 76, some 77, some 78, some 79, some 80, some 81, some 82, some 83] (fctF (.is (v_n) :: .is (.int .i64 i) :: .is (.pointer (some (pel v_n i 1))) :: .is (.string (rd n i)) :: .is (v_x) :: .is (.int .i64 i) :: .is (.pointer (some (pel v_x i 1))) :: .is (.string (rd x i)) :: [])) (fun m_ => L) (fun _ => none) mixed (by kernel_rfl) (by kernel_rfl) rfl (fct_mono (by kernel_rfl)) ⟨(fun H' m_ hH hm_ hu_ => depK_nil <| s_d (m_ 0) rfl (d_move (v := v_n) rfl) (by exact rfl) rfl), (fun H' m_ hH hm_ hu_ => depK_nil <| s_d (m_ 1) rfl (d_move (v := .int .i64 i) rfl) (by exact rfl) rfl), (by rintro H' m_ hH hm_ hu_ _ rfl _ rfl; exact depK_nil <| s_d (m_ 2) rfl (d_index (sz := 1) Tryd.underlying34 sz9 rfl (h_n.mono hH).src rfl c66) (by exact rfl) rfl), (by rintro H' m_ hH hm_ hu_ _ rfl; exact depK_nil <| s_d (m_ 3) rfl (d_ldstr ty9 rfl (h_n.mono hH).src c66) (by exact rfl) rfl), (fun H' m_ hH hm_ hu_ => depK_nil <| s_d (m_ 4) rfl (d_move (v := v_x) rfl) (by exact rfl) rfl), (fun H' m_ hH hm_ hu_ => depK_nil <| s_d (m_ 5) rfl (d_move (v := .int .i64 i) rfl) (by exact rfl) rfl), (by rintro H' m_ hH hm_ hu_ _ rfl _ rfl; exact depK_nil <| s_d (m_ 6) rfl (d_index (sz := 1) Tryd.underlying34 sz9 rfl (h_x.mono hH).src rfl c67) (by exact rfl) rfl), (by rintro H' m_ hH hm_ hu_ _ rfl; exact depK_nil <| s_d (m_ 7) rfl (d_ldstr ty9 rfl (h_x.mono hH).src c67) (by exact rfl) rfl), trivial⟩ ?_
  intro H68 e69
  rintro _ _ rfl _ _ rfl _ _ rfl _ _ rfl _ _ rfl _ _ rfl _ _ rfl _ _ rfl
  refine w_d rfl (d_nes rfl rfl) <| w_done ?_
  rcases its he with ⟨c70, he⟩ | ⟨c70, he⟩
  ·
   refine w_else rfl (nd_t c70) <| w_skip <| w_inBlock <| w_region rfl <| w_d rfl (d_move (v := .int .i64 i) rfl) <| w_d rfl (d_add (c := w64 (i + 1)) rfl rfl rfl) <| w_d rfl (d_assign (v := .int .i64 (w64 (i + 1))) rfl) <| w_done <| w_inLoop <| w_sl 4 (.bool t4) rfl <| w_sl 7 (v_n) rfl <| w_sl 9 (v_x) rfl ?_
   refine w_sl 11 (.int .i64 (w64 (i + 1))) rfl <| hh.l1 (hle.trans e69) (hG.mono e69) he (h_n.mono e69) (h_x.mono e69)
  ·
   refine w_then rfl (nd_f c70) <| w_seq <| w_region rfl <| w_d rfl (d_assign (v := .bool false) rfl) <| w_done ?_
   obtain rfl := Option.some.inj he
   refine w_return fn_3 rs_3 (.tmp (v := .bool false) rfl .nil) <| ⟨⟨[], rfl⟩, hle.trans e69, rfl⟩
 ·
  refine w_else rfl (decide_eq_false c65) <| w_exit rfl <| w_seq <| w_region rfl ?_
  obtain ⟨y71, hy72, he⟩ := Option.bind_eq_some_iff.1 he
  refine w_d rfl (call_d (o_call co9 (vs := []) rfl (radomelaw39_sure.calls k hy72))) <| w_d rfl (d_assign (v := .bool y71) rfl) <| w_done ?_
  obtain rfl := Option.some.inj he
  refine w_return fn_3 rs_3 (.tmp (v := .bool y71) rfl .nil) <| ⟨⟨[], rfl⟩, hle, rfl⟩
theorem radomelaw39_ZoneHits.ok : ∀ k, radomelaw39_ZoneHits.OK (radomelaw39_ZoneHits.hs k)
 | 0 => ⟨(by intros; exact nomatch (show none = some _ from by assumption)), (by intros; exact nomatch (show none = some _ from by assumption))⟩
 | k + 1 => ⟨radomelaw39_ZoneHits.b0_ok (k := k) (radomelaw39_ZoneHits.ok k), radomelaw39_ZoneHits.b1_ok (k := k) (radomelaw39_ZoneHits.ok k)⟩
theorem radomelaw39_ZoneHits.calls (k : Nat) {H : Hp} {L : Items} {l : List radomeref39_Zone} {p : radomeref39_Spot} {v0_l : Value} {r : Bool} (hG : GH H) (he : radomelaw39_ZoneHits.f k l p = some r) (h0_l : Ro k_radomeref39_Zone H v0_l l) : Ct Tryd.prog 3 ⟨[v0_l, .agg ⟨[.int .i32 p.f_X, .int .i32 p.f_Y]⟩]⟩ H L (fun v H' L' => L = L' ∧ H = H' ∧ v = .bool r) := by
 refine ct_outs (O := radomelaw39_ZoneHits.out r) (fun _ _ h => h) ?_
 have hle : H.le H := .refl _
 have hh := radomelaw39_ZoneHits.ok k
 unfold radomelaw39_ZoneHits.f at he
 refine ct_enter (args := [v0_l, .agg ⟨[.int .i32 p.f_X, .int .i32 p.f_Y]⟩]) fn_3 rfl nt_3 rfl <| w_seq <| w_region rfl <| w_a rfl (o_box (v := .agg ⟨[.int .i32 p.f_X, .int .i32 p.f_Y]⟩) rfl rfl) ?_
 rintro _ _ _ ⟨b1, rfl, rfl, rfl⟩
 refine w_d rfl (d_assign (v := .bool false) rfl) <| w_done <| w_seq <| w_seq <| w_region rfl <| w_d rfl (d_move (v := v0_l) rfl) <| w_d rfl (d_len Tryd.underlying22 rfl h0_l.src) <| w_d rfl (d_gtr rfl rfl) <| w_done ?_
 rcases its he with ⟨c2, he⟩ | ⟨c2, he⟩
 ·
  refine w_then rfl (decide_eq_true c2) <| w_seq <| w_region rfl ?_
  obtain ⟨y3, hy4, he⟩ := Option.bind_eq_some_iff.1 he
  refine w_d rfl (call_d (o_call co9 (vs := []) rfl (radomelaw39_sure.calls k hy4))) <| w_d rfl (d_assign (v := .bool y3) rfl) <| w_done ?_
  obtain rfl := Option.some.inj he
  refine w_return fn_3 rs_3 (.tmp (v := .bool y3) rfl .nil) <| ⟨⟨[_], rfl⟩, hle, rfl⟩
 ·
  refine w_else rfl (decide_eq_false c2) <| w_skip <| w_seq <| w_region rfl <| w_d rfl (d_assign (v := .slice none 0 0) rfl) <| w_done <| w_seq <| w_seq <| w_region rfl <| w_d rfl (d_assign (v := .int .i64 0) rfl) <| w_done <| w_block ?_
  refine w_loop <| w_none <| w_sl 0 (v0_l) rfl <| w_sl 3 (.pointer (some ⟨b1, 0, none⟩)) rfl <| w_sl 4 (.bool false) rfl <| w_sl 5 (.slice none 0 0) rfl <| w_sl 6 (.int .i64 0) rfl <| hh.l0 hle hG he h0_l (sl_nil _ _ _)
end Go.Proofs.YtoijknggnlbopaaDoor.GZH

/- printed by gen.py -/
import Derived.Test.YtkccpkccdbfomaaGreatDoorGBHx3
namespace Go.Proofs.YtkccpkccdbfomaaGreatDoor.GBH
open Go Go.RowKit Go.Proofs.YtkccpkccdbfomaaGreatDoorK Go.Proofs.YtkccpkccdbfomaaGreatDoor
set_option maxRecDepth 100000
set_option maxHeartbeats 2000000
set_option linter.unusedVariables false
set_option linter.unusedSimpArgs false
noncomputable def Q2.C : Code := (Tryz.f156.body).getD .skip
def Q2.out (r : Int) (H : Hp) (v : Value) : Prop := v = .int .u64 r
abbrev Q2.R (H0 : Hp) (L : Items) (r : Int) := fR H0 L (Q2.out r)
structure Q2.Hs where
 l0 : (List Int) → (List Int) → Int → Int → Int → Int → Option Int
noncomputable def Q2.b0 (k : Nat) (h : Q2.Hs) (r_ d : List Int) (i n q left : Int) : Option Int := if (!(decide (4294967296 ≤ q))) = true → (0 : Int) ≤ w64 (n - 2) ∧ w64 (n - 2) < (d.length : Int) then (if (!(decide (4294967296 ≤ q))) = true → (0 : Int) ≤ w64 ((w64 (i + n)) - 2) ∧ w64 ((w64 (i + n)) - 2) < (r_.length : Int) then (if ((decide (4294967296 ≤ q)) || (decide ((ior .u64 ((left * 4294967296) % 18446744073709551616) ((rd r_ (w64 ((w64 (i + n)) - 2))) % 18446744073709551616)) < ((q * ((rd d (w64 (n - 2))) % 18446744073709551616)) % 18446744073709551616)))) = true then (if (0 : Int) ≤ w64 (n - 1) ∧ w64 (n - 1) < (d.length : Int) then (if 4294967296 ≤ ((left + ((rd d (w64 (n - 1))) % 18446744073709551616)) % 18446744073709551616) then (some ((q - 1) % 18446744073709551616)) else (h.l0 r_ d i n ((q - 1) % 18446744073709551616) ((left + ((rd d (w64 (n - 1))) % 18446744073709551616)) % 18446744073709551616))) else none) else (some (q))) else none) else none
noncomputable def Q2.hs : Nat → Q2.Hs
 | 0 => ⟨fun _ _ _ _ _ _ => none⟩
 | k + 1 => ⟨fun x0 x1 x2 x3 x4 x5 => Q2.b0 k (Q2.hs k) x0 x1 x2 x3 x4 x5⟩
noncomputable def Q2.f (k : Nat) (r_ d : List Int) (i : Int) : Option Int := (fun h : Q2.Hs => if (0 : Int) ≤ w64 (i + (d.length : Int)) ∧ w64 (i + (d.length : Int)) < (r_.length : Int) then (if (0 : Int) ≤ w64 ((w64 (i + (d.length : Int))) - 1) ∧ w64 ((w64 (i + (d.length : Int))) - 1) < (r_.length : Int) then (if (0 : Int) ≤ w64 ((d.length : Int) - 1) ∧ w64 ((d.length : Int) - 1) < (d.length : Int) then (if ((rd d (w64 ((d.length : Int) - 1))) % 18446744073709551616) ≠ 0 then (if (0 : Int) ≤ w64 ((d.length : Int) - 1) ∧ w64 ((d.length : Int) - 1) < (d.length : Int) then (if ((rd d (w64 ((d.length : Int) - 1))) % 18446744073709551616) ≠ 0 then (h.l0 r_ d i (d.length : Int) ((Int.tdiv (ior .u64 ((((rd r_ (w64 (i + (d.length : Int)))) % 18446744073709551616) * 4294967296) % 18446744073709551616) ((rd r_ (w64 ((w64 (i + (d.length : Int))) - 1))) % 18446744073709551616)) ((rd d (w64 ((d.length : Int) - 1))) % 18446744073709551616)) % 18446744073709551616) (Int.tmod (ior .u64 ((((rd r_ (w64 (i + (d.length : Int)))) % 18446744073709551616) * 4294967296) % 18446744073709551616) ((rd r_ (w64 ((w64 (i + (d.length : Int))) - 1))) % 18446744073709551616)) ((rd d (w64 ((d.length : Int) - 1))) % 18446744073709551616))) else none) else none) else none) else none) else none) else none) (Q2.hs k)
structure Q2.LE (h h' : Q2.Hs) : Prop where
 l0 : ∀ y0 y1 y2 y3 y4 y5, LeO (h.l0 y0 y1 y2 y3 y4 y5) (h'.l0 y0 y1 y2 y3 y4 y5)
theorem Q2.b0_mono {k : Nat} {h h' : Q2.Hs} (hl : Q2.LE h h') : ∀ y0 y1 y2 y3 y4 y5, LeO (Q2.b0 k h y0 y1 y2 y3 y4 y5) (Q2.b0 (k + 1) h' y0 y1 y2 y3 y4 y5) := fun _ _ _ _ _ _ => (LeO.ite (LeO.ite (LeO.ite (LeO.ite (LeO.ite (LeO.refl _) (hl.l0 _ _ _ _ _ _)) (LeO.refl _)) (LeO.refl _)) (LeO.refl _)) (LeO.refl _))
theorem Q2.hs_mono : ∀ k, Q2.LE (Q2.hs k) (Q2.hs (k + 1))
 | 0 => ⟨fun _ _ _ _ _ _ => LeO.none _⟩
 | k + 1 => ⟨Q2.b0_mono (k := k) (Q2.hs_mono k)⟩
theorem Q2.mono : ∀ k y0 y1 y2, LeO (Q2.f k y0 y1 y2) (Q2.f (k + 1) y0 y1 y2) := fun k _ _ _ => have hl := Q2.hs_mono k; by unfold Q2.f; exact (LeO.ite (LeO.ite (LeO.ite (LeO.ite (LeO.ite (LeO.ite (hl.l0 _ _ _ _ _ _) (LeO.refl _)) (LeO.refl _)) (LeO.refl _)) (LeO.refl _)) (LeO.refl _)) (LeO.refl _))
noncomputable def Q2.Kl0 : List Item := .code (lopB (blkB (seqL (seqR (seqR (seqR (seqR Q2.C))))))) :: .inLoop (lopB (blkB (seqL (seqR (seqR (seqR (seqR Q2.C))))))) :: .inBlock 0 :: .code (seqR (seqR (seqR (seqR (seqR Q2.C))))) :: []
structure Q2.OK (h : Q2.Hs) : Prop where
 l0 : ∀ {H0 H : Hp} {L : Items} {r : Int} {jk_ : Nat → Value} {r_ : List Int} {d : List Int} {i : Int} {n : Int} {q : Int} {left : Int} {v_r_ : Value} {v_d : Value} (_ : H0.le H) (_he : h.l0 r_ d i n q left = some r) (_h_r_ : Src kU32 H L v_r_ r_) (_h_d : Src kU32 H L v_d d), Wp Tryz.prog 156 83 Q2.Kl0 (upd (upd (upd (upd (upd (upd (upd jk_ 0 (v_r_)) 1 (v_d)) 2 (.int .i64 i)) 6 (.int .u64 0)) 7 (.int .i64 n)) 9 (.int .u64 q)) 10 (.int .u64 left)) H (L) (Q2.R H0 L r)
theorem Q2.b0_ok {k : Nat} {h : Q2.Hs} (hh : Q2.OK h) {H0 H : Hp} {L : Items} {r : Int} {jk_ : Nat → Value} {r_ d : List Int} {i n q left : Int} {v_r_ v_d : Value} (hle : H0.le H) (he : Q2.b0 k h r_ d i n q left = some r) (h_r_ : Src kU32 H L v_r_ r_) (h_d : Src kU32 H L v_d d) : Wp Tryz.prog 156 83 Q2.Kl0 (upd (upd (upd (upd (upd (upd (upd jk_ 0 (v_r_)) 1 (v_d)) 2 (.int .i64 i)) 6 (.int .u64 0)) 7 (.int .i64 n)) 9 (.int .u64 q)) 10 (.int .u64 left)) H (L) (Q2.R H0 L r) := by
 unfold Q2.b0 at he
 unfold Q2.Kl0
 refine QV <| QV <| rK he fun c16 he => rK he fun c28 he => XJ (p := 22) (tl := [22, 23]) [[], [(0, some 46)], [(1, some 47)], [(2, some 48)], [(2, some 48)], [(2, some 48)], [(2, some 48), (5, some 51)], [(2, some 48), (4, some 50), (6, some 52)], [(2, some 48), (7, some 53)], [(2, some 48), (8, some 54)], [(2, some 48), (3, some 49), (9, some 55)], [(2, some 48)], [(2, some 48), (11, some 57)], [(2, some 48)], [(2, some 48)], [(2, some 48)], [(2, some 48), (14, some 60), (15, some 61)], [(2, some 48), (16, some 62)], [(2, some 48), (13, some 59), (17, some 63)], [(2, some 48), (18, some 64)], [(2, some 48), (19, some 65)], [(2, some 48), (12, some 58), (20, some 66)]] [some 46, some 47, some 48, some 49, some 50, some 51, some 52, some 53, some 54, some 55, some 56, some 57, some 58, some 59, some 60, some 61, some 62, some 63, some 64, some 65, some 66, some 67] (fctF (.is (.int .u64 q) :: .is (.bool (decide (4294967296 ≤ q))) :: .is (.bool (decide (4294967296 ≤ q))) :: .is (cond (!(decide (4294967296 ≤ q))) (.int .u64 q) undef) :: .is (cond (!(decide (4294967296 ≤ q))) v_d undef) :: .is (cond (!(decide (4294967296 ≤ q))) (.int .i64 n) undef) :: .is (cond (!(decide (4294967296 ≤ q))) (.int .i64 (w64 (n - 2))) undef) :: .is (cond (!(decide (4294967296 ≤ q))) (.pointer (some (pel v_d (w64 (n - 2)) 1))) undef) :: .is (cond (!(decide (4294967296 ≤ q))) (.int .u32 (rd d (w64 (n - 2)))) undef) :: .is (cond (!(decide (4294967296 ≤ q))) (.int .u64 ((rd d (w64 (n - 2))) % 18446744073709551616)) undef) :: .is (cond (!(decide (4294967296 ≤ q))) (.int .u64 ((q * ((rd d (w64 (n - 2))) % 18446744073709551616)) % 18446744073709551616)) undef) :: .is (cond (!(decide (4294967296 ≤ q))) (.int .u64 left) undef) :: .is (cond (!(decide (4294967296 ≤ q))) (.int .u64 ((left * 4294967296) % 18446744073709551616)) undef) :: .is (cond (!(decide (4294967296 ≤ q))) v_r_ undef) :: .is (cond (!(decide (4294967296 ≤ q))) (.int .i64 i) undef) :: .is (cond (!(decide (4294967296 ≤ q))) (.int .i64 n) undef) :: .is (cond (!(decide (4294967296 ≤ q))) (.int .i64 (w64 (i + n))) undef) :: .is (cond (!(decide (4294967296 ≤ q))) (.int .i64 (w64 ((w64 (i + n)) - 2))) undef) :: .is (cond (!(decide (4294967296 ≤ q))) (.pointer (some (pel v_r_ (w64 ((w64 (i + n)) - 2)) 1))) undef) :: .is (cond (!(decide (4294967296 ≤ q))) (.int .u32 (rd r_ (w64 ((w64 (i + n)) - 2)))) undef) :: .is (cond (!(decide (4294967296 ≤ q))) (.int .u64 ((rd r_ (w64 ((w64 (i + n)) - 2))) % 18446744073709551616)) undef) :: .is (cond (!(decide (4294967296 ≤ q))) (.int .u64 (ior .u64 ((left * 4294967296) % 18446744073709551616) ((rd r_ (w64 ((w64 (i + n)) - 2))) % 18446744073709551616))) undef) :: [])) (fun m_ => L) (fun _ => none) mixed (by kernel_rfl) (by kernel_rfl) rfl (Xv (by kernel_rfl)) ⟨(fun H' m_ hH hm_ hu_ => dn <| s_d (m_ 0) rfl (QF (v := .int .u64 q) rfl) (by exact rfl) rfl), (by rintro H' m_ hH hm_ hu_ _ rfl; exact dn <| s_d (m_ 1) rfl (ZB rfl rfl) (by exact rfl) rfl), (by rintro H' m_ hH hm_ hu_ _ rfl; exact dn <| s_d (m_ 2) rfl (QF (v := .bool (decide (4294967296 ≤ q))) rfl) (by exact rfl) rfl), (by rintro H' m_ hH hm_ hu_ _ rfl; exact dn <| s_g (g := !(decide (4294967296 ≤ q))) (m_ 3) rfl rfl rfl wn_f (fun g11 => QF (v := .int .u64 q) rfl) rfl (by exact fun g_ => cvt g_) (by exact fun g_ => cnt g_)), (by rintro H' m_ hH hm_ hu_ _ rfl; exact dn <| s_g (g := !(decide (4294967296 ≤ q))) (m_ 4) rfl rfl rfl wn_f (fun g12 => QF (v := v_d) rfl) rfl (by exact fun g_ => cvt g_) (by exact fun g_ => cnt g_)), (by rintro H' m_ hH hm_ hu_ _ rfl; exact dn <| s_g (g := !(decide (4294967296 ≤ q))) (m_ 5) rfl rfl rfl wn_f (fun g13 => QF (v := .int .i64 n) rfl) rfl (by exact fun g_ => cvt g_) (by exact fun g_ => cnt g_)), (by rintro H' m_ hH hm_ hu_ _ rfl _ rfl; exact dn <| s_g (g := !(decide (4294967296 ≤ q))) (m_ 6) rfl rfl rfl wn_f (fun g14 => Ys (c := w64 (n - 2)) (cvt g14) rfl rfl) rfl (by exact fun g_ => cvt g_) (by exact fun g_ => cnt g_)), (by rintro H' m_ hH hm_ hu_ _ rfl _ rfl _ rfl; exact dn <| s_g (g := !(decide (4294967296 ≤ q))) (m_ 7) rfl rfl rfl wn_f (fun g15 => XM (sz := 1) Tryz.underlying22 sz167 (cvt g15) (h_d.mono hH) (cvt g15) (c16 g15)) rfl (by exact fun g_ => cvt g_) (by exact fun g_ => cnt g_)), (by rintro H' m_ hH hm_ hu_ _ rfl _ rfl; exact dn <| s_g (g := !(decide (4294967296 ≤ q))) (m_ 8) rfl rfl rfl wn_f (fun g17 => XL ty167 (cvt g17) (h_d.mono hH) (c16 g17)) rfl (by exact fun g_ => cvt g_) (by exact fun g_ => cnt g_)), (by rintro H' m_ hH hm_ hu_ _ rfl _ rfl; exact dn <| s_g (g := !(decide (4294967296 ≤ q))) (m_ 9) rfl rfl rfl wn_f (fun g18 => XY (c := (rd d (w64 (n - 2))) % 18446744073709551616) Tryz.underlying167 Tryz.underlying113 (cvt g18) rfl) rfl (by exact fun g_ => cvt g_) (by exact fun g_ => cnt g_)), (by rintro H' m_ hH hm_ hu_ _ rfl _ rfl _ rfl; exact dn <| s_g (g := !(decide (4294967296 ≤ q))) (m_ 10) rfl rfl rfl wn_f (fun g19 => ZA (c := (q * ((rd d (w64 (n - 2))) % 18446744073709551616)) % 18446744073709551616) (cvt g19) (cvt g19) rfl) rfl (by exact fun g_ => cvt g_) (by exact fun g_ => cnt g_)), (by rintro H' m_ hH hm_ hu_ _ rfl; exact dn <| s_g (g := !(decide (4294967296 ≤ q))) (m_ 11) rfl rfl rfl wn_f (fun g20 => QF (v := .int .u64 left) rfl) rfl (by exact fun g_ => cvt g_) (by exact fun g_ => cnt g_)), (by rintro H' m_ hH hm_ hu_ _ rfl _ rfl; exact dn <| s_g (g := !(decide (4294967296 ≤ q))) (m_ 12) rfl rfl rfl wn_f (fun g21 => Z9 (c := (left * 4294967296) % 18446744073709551616) (cvt g21) rfl (by decide) rfl) rfl (by exact fun g_ => cvt g_) (by exact fun g_ => cnt g_)), (by rintro H' m_ hH hm_ hu_ _ rfl; exact dn <| s_g (g := !(decide (4294967296 ≤ q))) (m_ 13) rfl rfl rfl wn_f (fun g22 => QF (v := v_r_) rfl) rfl (by exact fun g_ => cvt g_) (by exact fun g_ => cnt g_)), (by rintro H' m_ hH hm_ hu_ _ rfl; exact dn <| s_g (g := !(decide (4294967296 ≤ q))) (m_ 14) rfl rfl rfl wn_f (fun g23 => QF (v := .int .i64 i) rfl) rfl (by exact fun g_ => cvt g_) (by exact fun g_ => cnt g_)), (by rintro H' m_ hH hm_ hu_ _ rfl; exact dn <| s_g (g := !(decide (4294967296 ≤ q))) (m_ 15) rfl rfl rfl wn_f (fun g24 => QF (v := .int .i64 n) rfl) rfl (by exact fun g_ => cvt g_) (by exact fun g_ => cnt g_)), (by rintro H' m_ hH hm_ hu_ _ rfl _ rfl _ rfl; exact dn <| s_g (g := !(decide (4294967296 ≤ q))) (m_ 16) rfl rfl rfl wn_f (fun g25 => Xt (c := w64 (i + n)) (cvt g25) (cvt g25) rfl) rfl (by exact fun g_ => cvt g_) (by exact fun g_ => cnt g_)), (by rintro H' m_ hH hm_ hu_ _ rfl _ rfl; exact dn <| s_g (g := !(decide (4294967296 ≤ q))) (m_ 17) rfl rfl rfl wn_f (fun g26 => Ys (c := w64 ((w64 (i + n)) - 2)) (cvt g26) rfl rfl) rfl (by exact fun g_ => cvt g_) (by exact fun g_ => cnt g_)), (by rintro H' m_ hH hm_ hu_ _ rfl _ rfl _ rfl; exact dn <| s_g (g := !(decide (4294967296 ≤ q))) (m_ 18) rfl rfl rfl wn_f (fun g27 => XM (sz := 1) Tryz.underlying22 sz167 (cvt g27) (h_r_.mono hH) (cvt g27) (c28 g27)) rfl (by exact fun g_ => cvt g_) (by exact fun g_ => cnt g_)), (by rintro H' m_ hH hm_ hu_ _ rfl _ rfl; exact dn <| s_g (g := !(decide (4294967296 ≤ q))) (m_ 19) rfl rfl rfl wn_f (fun g29 => XL ty167 (cvt g29) (h_r_.mono hH) (c28 g29)) rfl (by exact fun g_ => cvt g_) (by exact fun g_ => cnt g_)), (by rintro H' m_ hH hm_ hu_ _ rfl _ rfl; exact dn <| s_g (g := !(decide (4294967296 ≤ q))) (m_ 20) rfl rfl rfl wn_f (fun g30 => XY (c := (rd r_ (w64 ((w64 (i + n)) - 2))) % 18446744073709551616) Tryz.underlying167 Tryz.underlying113 (cvt g30) rfl) rfl (by exact fun g_ => cvt g_) (by exact fun g_ => cnt g_)), (by rintro H' m_ hH hm_ hu_ _ rfl _ rfl _ rfl; exact dn <| s_g (g := !(decide (4294967296 ≤ q))) (m_ 21) rfl rfl rfl wn_f (fun g31 => Js (cvt g31) (cvt g31)) rfl (by exact fun g_ => cvt g_) (by exact fun g_ => cnt g_)), trivial⟩ ?_
 intro H32 e33
 rintro _ _ rfl _ _ rfl _ _ rfl _ _ rfl _ _ rfl _ _ rfl _ _ rfl _ _ rfl _ _ rfl _ _ rfl _ _ rfl _ _ rfl _ _ rfl _ _ rfl _ _ rfl _ _ rfl _ _ rfl _ _ rfl _ _ rfl _ _ rfl _ _ rfl _ _ rfl
 refine w_g (g := !(decide (4294967296 ≤ q))) rfl rfl rfl wn_f (fun g34 => YR (cvt g34) (cvt g34)) <| w_d rfl (d_or' (b := (decide (4294967296 ≤ q))) (p := (decide ((ior .u64 ((left * 4294967296) % 18446744073709551616) ((rd r_ (w64 ((w64 (i + n)) - 2))) % 18446744073709551616)) < ((q * ((rd d (w64 (n - 2))) % 18446744073709551616)) % 18446744073709551616)))) rfl rfl rfl) <| Qa ?_
 rcases its he with ⟨c35, he⟩ | ⟨c35, he⟩
 ·
  refine Qy rfl c35 <| QA <| QU <| wR rfl <| wM (.int .u64 q) rfl rfl <| w_d rfl (Ys (c := (q - 1) % 18446744073709551616) rfl rfl rfl) <| wA (.int .u64 ((q - 1) % 18446744073709551616)) rfl rfl <| wQ rfl <| wM (.int .u64 left) rfl rfl ?_
  refine wM v_d rfl rfl <| wM (.int .i64 n) rfl rfl <| w_d rfl (Ys (c := w64 (n - 1)) rfl rfl rfl) <| rK he fun c36 he => w_d rfl (XM (sz := 1) Tryz.underlying22 sz167 rfl (h_d.mono e33) rfl c36) <| w_d rfl (XL ty167 rfl (h_d.mono e33) c36) <| w_d rfl (XY (c := (rd d (w64 (n - 1))) % 18446744073709551616) Tryz.underlying167 Tryz.underlying113 rfl rfl) <| w_d rfl (Xt (c := (left + ((rd d (w64 (n - 1))) % 18446744073709551616)) % 18446744073709551616) rfl rfl rfl) <| wA (.int .u64 ((left + ((rd d (w64 (n - 1))) % 18446744073709551616)) % 18446744073709551616)) rfl rfl <| wQ rfl ?_
  refine wM (.int .u64 ((left + ((rd d (w64 (n - 1))) % 18446744073709551616)) % 18446744073709551616)) rfl rfl <| w_d rfl (ZB rfl rfl) <| Qa ?_
  rcases its he with ⟨c37, he⟩ | ⟨c37, he⟩
  ·
   refine Qy rfl (dt c37) <| X1 rfl <| wR rfl <| wM (.int .u64 ((q - 1) % 18446744073709551616)) rfl rfl <| wA (.int .u64 ((q - 1) % 18446744073709551616)) rfl rfl <| Qa ?_
   obtain rfl := sj he
   refine Qi fn_156 rs_156 (.tmp (v := .int .u64 ((q - 1) % 18446744073709551616)) rfl .nil) <| ⟨⟨[], rfl⟩, hle.trans e33, rfl⟩
  ·
   refine QB rfl (df c37) <| QA <| Xk <| Xy <| w_sl 0 (v_r_) rfl <| w_sl 1 (v_d) rfl <| w_sl 2 (.int .i64 i) rfl <| w_sl 6 (.int .u64 0) rfl <| w_sl 7 (.int .i64 n) rfl <| w_sl 9 (.int .u64 ((q - 1) % 18446744073709551616)) rfl <| w_sl 10 (.int .u64 ((left + ((rd d (w64 (n - 1))) % 18446744073709551616)) % 18446744073709551616)) rfl <| hh.l0 (hle.trans e33) he (h_r_.mono e33) (h_d.mono e33)
 ·
  refine QB rfl (Bool.eq_false_iff.2 c35) <| X1 rfl <| wR rfl <| wM (.int .u64 q) rfl rfl <| wA (.int .u64 q) rfl rfl <| Qa ?_
  obtain rfl := sj he
  refine Qi fn_156 rs_156 (.tmp (v := .int .u64 q) rfl .nil) <| ⟨⟨[], rfl⟩, hle.trans e33, rfl⟩
theorem Q2.ok : ∀ k, Q2.OK (Q2.hs k)
 | 0 => ⟨(by intros; exact nomatch (show none = some _ from by assumption))⟩
 | k + 1 => ⟨Q2.b0_ok (k := k) (Q2.ok k)⟩
theorem Q2.calls (k : Nat) {H : Hp} {L : Items} {r_ d : List Int} {i : Int} {v0_r_ v1_d : Value} {r : Int} (he : Q2.f k r_ d i = some r) (h0_r_ : Src kU32 H L v0_r_ r_) (h1_d : Src kU32 H L v1_d d) : Ct Tryz.prog 156 ⟨[v0_r_, v1_d, .int .i64 i]⟩ H L (fun v H' L' => L = L' ∧ H = H' ∧ v = .int .u64 r) := by
 refine X6 (O := Q2.out r) (fun _ _ h => h) ?_
 have hle : H.le H := .refl _
 have hh := Q2.ok k
 unfold Q2.f at he
 refine QP (args := [_, _, _]) fn_156 rfl nt_156 rfl <| wR rfl <| wA (.int .u64 0) rfl rfl <| wQ rfl <| wM v1_d rfl rfl <| w_d rfl (Xq Tryz.underlying22 rfl h1_d) <| wA (.int .i64 (d.length : Int)) rfl rfl <| wE ?_
 refine rK he fun c1 he => rK he fun c2 he => XJ (p := 16) (tl := [16, 17]) [[], [], [], [(1, some 14), (2, some 15)], [(0, some 13), (3, some 16)], [(4, some 17)], [(5, some 18)], [(6, some 19)], [], [], [], [(9, some 22), (10, some 23)], [(11, some 24)], [(8, some 21), (12, some 25)], [(13, some 26)], [(14, some 27)]] [some 13, some 14, some 15, some 16, some 17, some 18, some 19, some 20, some 21, some 22, some 23, some 24, some 25, some 26, some 27, some 28] (fctF (.is (v0_r_) :: .is (.int .i64 i) :: .is (.int .i64 (d.length : Int)) :: .is (.int .i64 (w64 (i + (d.length : Int)))) :: .is (.pointer (some (pel v0_r_ (w64 (i + (d.length : Int))) 1))) :: .is (.int .u32 (rd r_ (w64 (i + (d.length : Int))))) :: .is (.int .u64 ((rd r_ (w64 (i + (d.length : Int)))) % 18446744073709551616)) :: .is (.int .u64 ((((rd r_ (w64 (i + (d.length : Int)))) % 18446744073709551616) * 4294967296) % 18446744073709551616)) :: .is (v0_r_) :: .is (.int .i64 i) :: .is (.int .i64 (d.length : Int)) :: .is (.int .i64 (w64 (i + (d.length : Int)))) :: .is (.int .i64 (w64 ((w64 (i + (d.length : Int))) - 1))) :: .is (.pointer (some (pel v0_r_ (w64 ((w64 (i + (d.length : Int))) - 1)) 1))) :: .is (.int .u32 (rd r_ (w64 ((w64 (i + (d.length : Int))) - 1)))) :: .is (.int .u64 ((rd r_ (w64 ((w64 (i + (d.length : Int))) - 1))) % 18446744073709551616)) :: [])) (fun m_ => L) (fun _ => none) mixed (by kernel_rfl) (by kernel_rfl) rfl (Xv (by kernel_rfl)) ⟨(fun H' m_ hH hm_ hu_ => dn <| s_d (m_ 0) rfl (QF (v := v0_r_) rfl) (by exact rfl) rfl), (fun H' m_ hH hm_ hu_ => dn <| s_d (m_ 1) rfl (QF (v := .int .i64 i) rfl) (by exact rfl) rfl), (fun H' m_ hH hm_ hu_ => dn <| s_d (m_ 2) rfl (QF (v := .int .i64 (d.length : Int)) rfl) (by exact rfl) rfl), (by rintro H' m_ hH hm_ hu_ _ rfl _ rfl; exact dn <| s_d (m_ 3) rfl (Xt (c := w64 (i + (d.length : Int))) rfl rfl rfl) (by exact rfl) rfl), (by rintro H' m_ hH hm_ hu_ _ rfl _ rfl; exact dn <| s_d (m_ 4) rfl (XM (sz := 1) Tryz.underlying22 sz167 rfl (h0_r_.mono hH) rfl c1) (by exact rfl) rfl), (by rintro H' m_ hH hm_ hu_ _ rfl; exact dn <| s_d (m_ 5) rfl (XL ty167 rfl (h0_r_.mono hH) c1) (by exact rfl) rfl), (by rintro H' m_ hH hm_ hu_ _ rfl; exact dn <| s_d (m_ 6) rfl (XY (c := (rd r_ (w64 (i + (d.length : Int)))) % 18446744073709551616) Tryz.underlying167 Tryz.underlying113 rfl rfl) (by exact rfl) rfl), (by rintro H' m_ hH hm_ hu_ _ rfl; exact dn <| s_d (m_ 7) rfl (Z9 (c := (((rd r_ (w64 (i + (d.length : Int)))) % 18446744073709551616) * 4294967296) % 18446744073709551616) rfl rfl (by decide) rfl) (by exact rfl) rfl), (fun H' m_ hH hm_ hu_ => dn <| s_d (m_ 8) rfl (QF (v := v0_r_) rfl) (by exact rfl) rfl), (fun H' m_ hH hm_ hu_ => dn <| s_d (m_ 9) rfl (QF (v := .int .i64 i) rfl) (by exact rfl) rfl), (fun H' m_ hH hm_ hu_ => dn <| s_d (m_ 10) rfl (QF (v := .int .i64 (d.length : Int)) rfl) (by exact rfl) rfl), (by rintro H' m_ hH hm_ hu_ _ rfl _ rfl; exact dn <| s_d (m_ 11) rfl (Xt (c := w64 (i + (d.length : Int))) rfl rfl rfl) (by exact rfl) rfl), (by rintro H' m_ hH hm_ hu_ _ rfl; exact dn <| s_d (m_ 12) rfl (Ys (c := w64 ((w64 (i + (d.length : Int))) - 1)) rfl rfl rfl) (by exact rfl) rfl), (by rintro H' m_ hH hm_ hu_ _ rfl _ rfl; exact dn <| s_d (m_ 13) rfl (XM (sz := 1) Tryz.underlying22 sz167 rfl (h0_r_.mono hH) rfl c2) (by exact rfl) rfl), (by rintro H' m_ hH hm_ hu_ _ rfl; exact dn <| s_d (m_ 14) rfl (XL ty167 rfl (h0_r_.mono hH) c2) (by exact rfl) rfl), (by rintro H' m_ hH hm_ hu_ _ rfl; exact dn <| s_d (m_ 15) rfl (XY (c := (rd r_ (w64 ((w64 (i + (d.length : Int))) - 1))) % 18446744073709551616) Tryz.underlying167 Tryz.underlying113 rfl rfl) (by exact rfl) rfl), trivial⟩ ?_
 intro H3 e4
 rintro _ _ rfl _ _ rfl _ _ rfl _ _ rfl _ _ rfl _ _ rfl _ _ rfl _ _ rfl _ _ rfl _ _ rfl _ _ rfl _ _ rfl _ _ rfl _ _ rfl _ _ rfl _ _ rfl
 refine w_d rfl (Js rfl rfl) <| wA (.int .u64 (ior .u64 ((((rd r_ (w64 (i + (d.length : Int)))) % 18446744073709551616) * 4294967296) % 18446744073709551616) ((rd r_ (w64 ((w64 (i + (d.length : Int))) - 1))) % 18446744073709551616))) rfl rfl <| wE <| rK he fun c5 he => rK he fun c6 he => rK he fun c7 he => rK he fun c8 he => XJ (p := 17) (tl := [17]) [[], [], [], [(2, some 32)], [(1, some 31), (3, some 33)], [(4, some 34)], [(5, some 35)], [(0, some 30), (6, some 36)], [], [], [], [(10, some 40)], [(9, some 39), (11, some 41)], [(12, some 42)], [(13, some 43)], [(8, some 38), (14, some 44)], [(7, some 37)]] [some 30, some 31, some 32, some 33, some 34, some 35, some 36, some 37, some 38, some 39, some 40, some 41, some 42, some 43, some 44, some 45, some 9] (fctF (.is (.int .u64 (ior .u64 ((((rd r_ (w64 (i + (d.length : Int)))) % 18446744073709551616) * 4294967296) % 18446744073709551616) ((rd r_ (w64 ((w64 (i + (d.length : Int))) - 1))) % 18446744073709551616))) :: .is (v1_d) :: .is (.int .i64 (d.length : Int)) :: .is (.int .i64 (w64 ((d.length : Int) - 1))) :: .is (.pointer (some (pel v1_d (w64 ((d.length : Int) - 1)) 1))) :: .is (.int .u32 (rd d (w64 ((d.length : Int) - 1)))) :: .is (.int .u64 ((rd d (w64 ((d.length : Int) - 1))) % 18446744073709551616)) :: .is (.int .u64 ((Int.tdiv (ior .u64 ((((rd r_ (w64 (i + (d.length : Int)))) % 18446744073709551616) * 4294967296) % 18446744073709551616) ((rd r_ (w64 ((w64 (i + (d.length : Int))) - 1))) % 18446744073709551616)) ((rd d (w64 ((d.length : Int) - 1))) % 18446744073709551616)) % 18446744073709551616)) :: .is (.int .u64 (ior .u64 ((((rd r_ (w64 (i + (d.length : Int)))) % 18446744073709551616) * 4294967296) % 18446744073709551616) ((rd r_ (w64 ((w64 (i + (d.length : Int))) - 1))) % 18446744073709551616))) :: .is (v1_d) :: .is (.int .i64 (d.length : Int)) :: .is (.int .i64 (w64 ((d.length : Int) - 1))) :: .is (.pointer (some (pel v1_d (w64 ((d.length : Int) - 1)) 1))) :: .is (.int .u32 (rd d (w64 ((d.length : Int) - 1)))) :: .is (.int .u64 ((rd d (w64 ((d.length : Int) - 1))) % 18446744073709551616)) :: .is (.int .u64 (Int.tmod (ior .u64 ((((rd r_ (w64 (i + (d.length : Int)))) % 18446744073709551616) * 4294967296) % 18446744073709551616) ((rd r_ (w64 ((w64 (i + (d.length : Int))) - 1))) % 18446744073709551616)) ((rd d (w64 ((d.length : Int) - 1))) % 18446744073709551616))) :: .is (.int .u64 ((Int.tdiv (ior .u64 ((((rd r_ (w64 (i + (d.length : Int)))) % 18446744073709551616) * 4294967296) % 18446744073709551616) ((rd r_ (w64 ((w64 (i + (d.length : Int))) - 1))) % 18446744073709551616)) ((rd d (w64 ((d.length : Int) - 1))) % 18446744073709551616)) % 18446744073709551616)) :: [])) (fun m_ => L) (fun _ => none) mixed (by kernel_rfl) (by kernel_rfl) rfl (Xv (by kernel_rfl)) ⟨(fun H' m_ hH hm_ hu_ => dn <| s_d (m_ 0) rfl (QF (v := .int .u64 (ior .u64 ((((rd r_ (w64 (i + (d.length : Int)))) % 18446744073709551616) * 4294967296) % 18446744073709551616) ((rd r_ (w64 ((w64 (i + (d.length : Int))) - 1))) % 18446744073709551616))) rfl) (by exact rfl) rfl), (fun H' m_ hH hm_ hu_ => dn <| s_d (m_ 1) rfl (QF (v := v1_d) rfl) (by exact rfl) rfl), (fun H' m_ hH hm_ hu_ => dn <| s_d (m_ 2) rfl (QF (v := .int .i64 (d.length : Int)) rfl) (by exact rfl) rfl), (by rintro H' m_ hH hm_ hu_ _ rfl; exact dn <| s_d (m_ 3) rfl (Ys (c := w64 ((d.length : Int) - 1)) rfl rfl rfl) (by exact rfl) rfl), (by rintro H' m_ hH hm_ hu_ _ rfl _ rfl; exact dn <| s_d (m_ 4) rfl (XM (sz := 1) Tryz.underlying22 sz167 rfl (h1_d.mono (e4.trans hH)) rfl c5) (by exact rfl) rfl), (by rintro H' m_ hH hm_ hu_ _ rfl; exact dn <| s_d (m_ 5) rfl (XL ty167 rfl (h1_d.mono (e4.trans hH)) c5) (by exact rfl) rfl), (by rintro H' m_ hH hm_ hu_ _ rfl; exact dn <| s_d (m_ 6) rfl (XY (c := (rd d (w64 ((d.length : Int) - 1))) % 18446744073709551616) Tryz.underlying167 Tryz.underlying113 rfl rfl) (by exact rfl) rfl), (by rintro H' m_ hH hm_ hu_ _ rfl _ rfl; exact dn <| s_d (m_ 7) rfl (Ju (c := (Int.tdiv (ior .u64 ((((rd r_ (w64 (i + (d.length : Int)))) % 18446744073709551616) * 4294967296) % 18446744073709551616) ((rd r_ (w64 ((w64 (i + (d.length : Int))) - 1))) % 18446744073709551616)) ((rd d (w64 ((d.length : Int) - 1))) % 18446744073709551616)) % 18446744073709551616) rfl rfl c6 rfl) (by exact rfl) rfl), (fun H' m_ hH hm_ hu_ => dn <| s_d (m_ 8) rfl (QF (v := .int .u64 (ior .u64 ((((rd r_ (w64 (i + (d.length : Int)))) % 18446744073709551616) * 4294967296) % 18446744073709551616) ((rd r_ (w64 ((w64 (i + (d.length : Int))) - 1))) % 18446744073709551616))) rfl) (by exact rfl) rfl), (fun H' m_ hH hm_ hu_ => dn <| s_d (m_ 9) rfl (QF (v := v1_d) rfl) (by exact rfl) rfl), (fun H' m_ hH hm_ hu_ => dn <| s_d (m_ 10) rfl (QF (v := .int .i64 (d.length : Int)) rfl) (by exact rfl) rfl), (by rintro H' m_ hH hm_ hu_ _ rfl; exact dn <| s_d (m_ 11) rfl (Ys (c := w64 ((d.length : Int) - 1)) rfl rfl rfl) (by exact rfl) rfl), (by rintro H' m_ hH hm_ hu_ _ rfl _ rfl; exact dn <| s_d (m_ 12) rfl (XM (sz := 1) Tryz.underlying22 sz167 rfl (h1_d.mono (e4.trans hH)) rfl c7) (by exact rfl) rfl), (by rintro H' m_ hH hm_ hu_ _ rfl; exact dn <| s_d (m_ 13) rfl (XL ty167 rfl (h1_d.mono (e4.trans hH)) c7) (by exact rfl) rfl), (by rintro H' m_ hH hm_ hu_ _ rfl; exact dn <| s_d (m_ 14) rfl (XY (c := (rd d (w64 ((d.length : Int) - 1))) % 18446744073709551616) Tryz.underlying167 Tryz.underlying113 rfl rfl) (by exact rfl) rfl), (by rintro H' m_ hH hm_ hu_ _ rfl _ rfl; exact dn <| s_d (m_ 15) rfl (Jk rfl rfl c8) (by exact rfl) rfl), (by rintro H' m_ hH hm_ hu_ _ rfl; exact dn <| s_d (m_ 16) rfl (J9 (v := .int .u64 ((Int.tdiv (ior .u64 ((((rd r_ (w64 (i + (d.length : Int)))) % 18446744073709551616) * 4294967296) % 18446744073709551616) ((rd r_ (w64 ((w64 (i + (d.length : Int))) - 1))) % 18446744073709551616)) ((rd d (w64 ((d.length : Int) - 1))) % 18446744073709551616)) % 18446744073709551616)) rfl) (by exact rfl) rfl), trivial⟩ ?_
 intro H9 e10
 rintro _ _ rfl _ _ rfl _ _ rfl _ _ rfl _ _ rfl _ _ rfl _ _ rfl _ _ rfl _ _ rfl _ _ rfl _ _ rfl _ _ rfl _ _ rfl _ _ rfl _ _ rfl _ _ rfl _ _ rfl
 refine wA (.int .u64 (Int.tmod (ior .u64 ((((rd r_ (w64 (i + (d.length : Int)))) % 18446744073709551616) * 4294967296) % 18446744073709551616) ((rd r_ (w64 ((w64 (i + (d.length : Int))) - 1))) % 18446744073709551616)) ((rd d (w64 ((d.length : Int) - 1))) % 18446744073709551616))) rfl rfl <| wE <| QU <| X3 <| w_sl 0 (v0_r_) rfl <| w_sl 1 (v1_d) rfl <| w_sl 2 (.int .i64 i) rfl <| w_sl 6 (.int .u64 0) rfl <| w_sl 7 (.int .i64 (d.length : Int)) rfl <| w_sl 9 (.int .u64 ((Int.tdiv (ior .u64 ((((rd r_ (w64 (i + (d.length : Int)))) % 18446744073709551616) * 4294967296) % 18446744073709551616) ((rd r_ (w64 ((w64 (i + (d.length : Int))) - 1))) % 18446744073709551616)) ((rd d (w64 ((d.length : Int) - 1))) % 18446744073709551616)) % 18446744073709551616)) rfl <| w_sl 10 (.int .u64 (Int.tmod (ior .u64 ((((rd r_ (w64 (i + (d.length : Int)))) % 18446744073709551616) * 4294967296) % 18446744073709551616) ((rd r_ (w64 ((w64 (i + (d.length : Int))) - 1))) % 18446744073709551616)) ((rd d (w64 ((d.length : Int) - 1))) % 18446744073709551616))) rfl <| hh.l0 (hle.trans (e4.trans e10)) he (h0_r_.mono (e4.trans e10)) (h1_d.mono (e4.trans e10))
noncomputable def Qv.C : Code := (Tryz.f157.body).getD .skip
def Qv.out (r : Bool × (List Int)) (H : Hp) (v : Value) : Prop := v = .bool r.1
abbrev Qv.R (vr_ : Value) (H0 : Hp) (L : Items) (r : Bool × (List Int)) : Value → Hp → Items → Prop := fun v H' L' => (∃ p it', L' = p ++ it' :: L ∧ Sl kU32 H' 167 it' vr_ r.2) ∧ H0.le H' ∧ v = .bool r.1
structure Qv.Hs where
 l0 : (List Int) → (List Int) → Int → Int → Int → Int → Int → Option (Bool × (List Int))
noncomputable def Qv.j2 (k : Nat) (h : Qv.Hs) (r_ d : List Int) (i q borrow carry j_ p : Int) : Option (Bool × (List Int)) := if (0 : Int) ≤ w64 (i + j_) ∧ w64 (i + j_) < (r_.length : Int) then (if (0 : Int) ≤ w64 (i + j_) ∧ w64 (i + j_) < (r_.length : Int) then (h.l0 (r_.set (w64 (i + j_) : Int).toNat ((w64 ((w64 ((w64 (rd r_ (w64 (i + j_)))) - (w64 ((p) % 4294967296)))) + borrow)) % 4294967296)) d i q ((w64 ((w64 ((w64 (rd r_ (w64 (i + j_)))) - (w64 ((p) % 4294967296)))) + borrow)) / 4294967296) (p / 4294967296) (w64 (j_ + 1))) else none) else none
noncomputable def Qv.b0 (k : Nat) (h : Qv.Hs) (r_ d : List Int) (i q borrow carry j_ : Int) : Option (Bool × (List Int)) := if j_ ≤ (d.length : Int) then (if j_ < (d.length : Int) then (if (0 : Int) ≤ j_ ∧ j_ < (d.length : Int) then (Qv.j2 k h r_ d i q borrow carry j_ ((carry + ((q * ((rd d j_) % 18446744073709551616)) % 18446744073709551616)) % 18446744073709551616)) else none) else (Qv.j2 k h r_ d i q borrow carry j_ carry)) else (some (decide (borrow < 0), r_))
noncomputable def Qv.hs : Nat → Qv.Hs
 | 0 => ⟨fun _ _ _ _ _ _ _ => none⟩
 | k + 1 => ⟨fun x0 x1 x2 x3 x4 x5 x6 => Qv.b0 k (Qv.hs k) x0 x1 x2 x3 x4 x5 x6⟩
noncomputable def Qv.f (k : Nat) (r_ d : List Int) (i q : Int) : Option (Bool × (List Int)) := (fun h : Qv.Hs => h.l0 r_ d i q 0 0 0) (Qv.hs k)
structure Qv.LE (h h' : Qv.Hs) : Prop where
 l0 : ∀ y0 y1 y2 y3 y4 y5 y6, LeO (h.l0 y0 y1 y2 y3 y4 y5 y6) (h'.l0 y0 y1 y2 y3 y4 y5 y6)
theorem Qv.j2_mono {k : Nat} {h h' : Qv.Hs} (hl : Qv.LE h h') : ∀ y0 y1 y2 y3 y4 y5 y6 y7, LeO (Qv.j2 k h y0 y1 y2 y3 y4 y5 y6 y7) (Qv.j2 (k + 1) h' y0 y1 y2 y3 y4 y5 y6 y7) := fun _ _ _ _ _ _ _ _ => (LeO.ite (LeO.ite (hl.l0 _ _ _ _ _ _ _) (LeO.refl _)) (LeO.refl _))
theorem Qv.b0_mono {k : Nat} {h h' : Qv.Hs} (hl : Qv.LE h h') : ∀ y0 y1 y2 y3 y4 y5 y6, LeO (Qv.b0 k h y0 y1 y2 y3 y4 y5 y6) (Qv.b0 (k + 1) h' y0 y1 y2 y3 y4 y5 y6) := fun _ _ _ _ _ _ _ => (LeO.ite (LeO.ite (LeO.ite (Qv.j2_mono (k := k) hl _ _ _ _ _ _ _ _) (LeO.refl _)) (Qv.j2_mono (k := k) hl _ _ _ _ _ _ _ _)) (LeO.refl _))
theorem Qv.hs_mono : ∀ k, Qv.LE (Qv.hs k) (Qv.hs (k + 1))
 | 0 => ⟨fun _ _ _ _ _ _ _ => LeO.none _⟩
 | k + 1 => ⟨Qv.b0_mono (k := k) (Qv.hs_mono k)⟩
theorem Qv.mono : ∀ k y0 y1 y2 y3, LeO (Qv.f k y0 y1 y2 y3) (Qv.f (k + 1) y0 y1 y2 y3) := fun k _ _ _ _ => have hl := Qv.hs_mono k; by unfold Qv.f; exact (hl.l0 _ _ _ _ _ _ _)
noncomputable def Qv.Kl0 : List Item := .code (lopB (blkB (seqR (seqL (seqR (seqR (seqR Qv.C))))))) :: .inLoop (lopB (blkB (seqR (seqL (seqR (seqR (seqR Qv.C))))))) :: .inBlock 0 :: .code (seqR (seqR (seqR (seqR Qv.C)))) :: []
noncomputable def Qv.Kj2 : List Item := .code (seqR (seqR (blkB (seqL (seqR (lopB (blkB (seqR (seqL (seqR (seqR (seqR Qv.C)))))))))))) :: .inBlock 1 :: .code (seqR (seqR (lopB (blkB (seqR (seqL (seqR (seqR (seqR Qv.C))))))))) :: .inLoop (lopB (blkB (seqR (seqL (seqR (seqR (seqR Qv.C))))))) :: .inBlock 0 :: .code (seqR (seqR (seqR (seqR Qv.C)))) :: []
structure Qv.OK (h : Qv.Hs) : Prop where
 l0 : ∀ {H0 H : Hp} {L : Items} {r : Bool × (List Int)} {jk_ : Nat → Value} {r_ : List Int} {d : List Int} {i : Int} {q : Int} {borrow : Int} {carry : Int} {j_ : Int} {vr_ : Value} {v_d : Value} {i_r_ : Item'} (_ : H0.le H) (_he : h.l0 r_ d i q borrow carry j_ = some r) (_h_r_ : Sl kU32 H 167 i_r_ vr_ r_) (_h_d : Src kU32 H L v_d d), Wp Tryz.prog 157 60 Qv.Kl0 (upd (upd (upd (upd (upd (upd (upd (upd jk_ 0 (vr_)) 1 (v_d)) 2 (.int .i64 i)) 3 (.int .u64 q)) 8 (.bool false)) 9 (.int .i64 borrow)) 10 (.int .u64 carry)) 11 (.int .i64 j_)) H (i_r_ :: L) (Qv.R vr_ H0 L r)
theorem Qv.j2_ok {k : Nat} {h : Qv.Hs} (hh : Qv.OK h) {H0 H : Hp} {L : Items} {r : Bool × (List Int)} {jk_ : Nat → Value} {r_ d : List Int} {i q borrow carry j_ p : Int} {vr_ v_d : Value} {i_r_ : Item'} (hle : H0.le H) (he : Qv.j2 k h r_ d i q borrow carry j_ p = some r) (h_r_ : Sl kU32 H 167 i_r_ vr_ r_) (h_d : Src kU32 H L v_d d) : Wp Tryz.prog 157 60 Qv.Kj2 (upd (upd (upd (upd (upd (upd (upd (upd (upd jk_ 0 (vr_)) 1 (v_d)) 2 (.int .i64 i)) 3 (.int .u64 q)) 8 (.bool false)) 9 (.int .i64 borrow)) 10 (.int .u64 carry)) 11 (.int .i64 j_)) 12 (.int .u64 p)) H (i_r_ :: L) (Qv.R vr_ H0 L r) := by
 unfold Qv.j2 at he
 unfold Qv.Kj2
 refine wR rfl <| wM (.int .u64 p) rfl rfl <| w_d rfl (Y0 (c := p / 4294967296) rfl rfl (by decide) rfl) <| wA (.int .u64 (p / 4294967296)) rfl rfl <| wQ rfl <| wM vr_ rfl rfl <| wM (.int .i64 i) rfl rfl <| wM (.int .i64 j_) rfl rfl <| w_d rfl (Xt (c := w64 (i + j_)) rfl rfl rfl) ?_
 refine rK he fun c4 he => w_d rfl (YF (sz := 1) Tryz.underlying22 sz167 rfl h_r_.shp rfl c4) <| w_d rfl (XL ty167 rfl (h_r_.src .here) c4) <| w_d rfl (XY (c := w64 (rd r_ (w64 (i + j_)))) Tryz.underlying167 Tryz.underlying2 rfl rfl) <| wM (.int .u64 p) rfl rfl <| w_d rfl (XY (c := (p) % 4294967296) Tryz.underlying113 Tryz.underlying167 rfl rfl) <| w_d rfl (XY (c := w64 ((p) % 4294967296)) Tryz.underlying167 Tryz.underlying2 rfl rfl) <| w_d rfl (Ys (c := w64 ((w64 (rd r_ (w64 (i + j_)))) - (w64 ((p) % 4294967296)))) rfl rfl rfl) <| wM (.int .i64 borrow) rfl rfl <| w_d rfl (Xt (c := w64 ((w64 ((w64 (rd r_ (w64 (i + j_)))) - (w64 ((p) % 4294967296)))) + borrow)) rfl rfl rfl) <| wA (.int .i64 (w64 ((w64 ((w64 (rd r_ (w64 (i + j_)))) - (w64 ((p) % 4294967296)))) + borrow))) rfl rfl <| Qa ?_
 refine wR rfl <| wM vr_ rfl rfl <| wM (.int .i64 i) rfl rfl <| wM (.int .i64 j_) rfl rfl <| w_d rfl (Xt (c := w64 (i + j_)) rfl rfl rfl) <| wM (.int .i64 (w64 ((w64 ((w64 (rd r_ (w64 (i + j_)))) - (w64 ((p) % 4294967296)))) + borrow))) rfl rfl <| w_d rfl (XY (c := (w64 ((w64 ((w64 (rd r_ (w64 (i + j_)))) - (w64 ((p) % 4294967296)))) + borrow)) % 4294967296) Tryz.underlying2 Tryz.underlying167 rfl rfl) <| rK he fun c5 he => w_d rfl (YF (sz := 1) Tryz.underlying22 sz167 rfl h_r_.shp rfl c5) <| w_a0 rfl (Y4 (kd := kU32) (v := .int .u32 ((w64 ((w64 ((w64 (rd r_ (w64 (i + j_)))) - (w64 ((p) % 4294967296)))) + borrow)) % 4294967296)) (F := fun z_ => z_ :: L) sz167 rfl rfl rfl rfl h_r_ c5 (fun _ => .here)) ?_
 rintro _ _ _ ⟨i6, rfl, rfl, rfl, h7⟩
 refine Qa <| QD rfl <| wM (.int .i64 (w64 ((w64 ((w64 (rd r_ (w64 (i + j_)))) - (w64 ((p) % 4294967296)))) + borrow))) rfl rfl <| w_d rfl (Y0 (c := (w64 ((w64 ((w64 (rd r_ (w64 (i + j_)))) - (w64 ((p) % 4294967296)))) + borrow)) / 4294967296) rfl rfl (by decide) rfl) <| wA (.int .i64 ((w64 ((w64 ((w64 (rd r_ (w64 (i + j_)))) - (w64 ((p) % 4294967296)))) + borrow)) / 4294967296)) rfl rfl <| Qa <| Xk <| QD rfl <| wM (.int .i64 j_) rfl rfl <| w_d rfl (Xt (c := w64 (j_ + 1)) rfl rfl rfl) <| wA (.int .i64 (w64 (j_ + 1))) rfl rfl <| Qa ?_
 refine Xy <| w_sl 0 (vr_) rfl <| w_sl 1 (v_d) rfl <| w_sl 2 (.int .i64 i) rfl <| w_sl 3 (.int .u64 q) rfl <| w_sl 8 (.bool false) rfl <| w_sl 9 (.int .i64 ((w64 ((w64 ((w64 (rd r_ (w64 (i + j_)))) - (w64 ((p) % 4294967296)))) + borrow)) / 4294967296)) rfl <| w_sl 10 (.int .u64 (p / 4294967296)) rfl <| w_sl 11 (.int .i64 (w64 (j_ + 1))) rfl <| hh.l0 hle he h7 h_d
theorem Qv.b0_ok {k : Nat} {h : Qv.Hs} (hh : Qv.OK h) {H0 H : Hp} {L : Items} {r : Bool × (List Int)} {jk_ : Nat → Value} {r_ d : List Int} {i q borrow carry j_ : Int} {vr_ v_d : Value} {i_r_ : Item'} (hle : H0.le H) (he : Qv.b0 k h r_ d i q borrow carry j_ = some r) (h_r_ : Sl kU32 H 167 i_r_ vr_ r_) (h_d : Src kU32 H L v_d d) : Wp Tryz.prog 157 60 Qv.Kl0 (upd (upd (upd (upd (upd (upd (upd (upd jk_ 0 (vr_)) 1 (v_d)) 2 (.int .i64 i)) 3 (.int .u64 q)) 8 (.bool false)) 9 (.int .i64 borrow)) 10 (.int .u64 carry)) 11 (.int .i64 j_)) H (i_r_ :: L) (Qv.R vr_ H0 L r) := by
 unfold Qv.b0 at he
 unfold Qv.Kl0
 refine QV <| wR rfl <| wM (.int .i64 j_) rfl rfl <| wM v_d rfl rfl <| w_d rfl (Xq Tryz.underlying22 rfl h_d.th) <| w_d rfl (Gf rfl rfl) <| Qa ?_
 rcases its he with ⟨c1, he⟩ | ⟨c1, he⟩
 ·
  refine Qy rfl (dt c1) <| QA <| QV <| QU <| wR rfl <| wM (.int .u64 carry) rfl rfl <| wA (.int .u64 carry) rfl rfl <| wE <| wR rfl ?_
  refine wM (.int .i64 j_) rfl rfl <| wM v_d rfl rfl <| w_d rfl (Xq Tryz.underlying22 rfl h_d.th) <| w_d rfl (XG rfl rfl) <| Qa ?_
  rcases its he with ⟨c2, he⟩ | ⟨c2, he⟩
  ·
   refine Qy rfl (dt c2) <| QD rfl <| wM (.int .u64 carry) rfl rfl <| wM (.int .u64 q) rfl rfl <| wM v_d rfl rfl <| wM (.int .i64 j_) rfl rfl <| rK he fun c3 he => w_d rfl (XM (sz := 1) Tryz.underlying22 sz167 rfl h_d.th rfl c3) <| w_d rfl (XL ty167 rfl h_d.th c3) <| w_d rfl (XY (c := (rd d j_) % 18446744073709551616) Tryz.underlying167 Tryz.underlying113 rfl rfl) <| w_d rfl (ZA (c := (q * ((rd d j_) % 18446744073709551616)) % 18446744073709551616) rfl rfl rfl) <| w_d rfl (Xt (c := (carry + ((q * ((rd d j_) % 18446744073709551616)) % 18446744073709551616)) % 18446744073709551616) rfl rfl rfl) ?_
   refine wA (.int .u64 ((carry + ((q * ((rd d j_) % 18446744073709551616)) % 18446744073709551616)) % 18446744073709551616)) rfl rfl <| Qa <| w_sl 0 (vr_) rfl <| w_sl 1 (v_d) rfl <| w_sl 2 (.int .i64 i) rfl <| w_sl 3 (.int .u64 q) rfl <| w_sl 8 (.bool false) rfl <| w_sl 9 (.int .i64 borrow) rfl <| w_sl 10 (.int .u64 carry) rfl <| w_sl 11 (.int .i64 j_) rfl <| w_sl 12 (.int .u64 ((carry + ((q * ((rd d j_) % 18446744073709551616)) % 18446744073709551616)) % 18446744073709551616)) rfl <| Qv.j2_ok (k := k) hh hle he h_r_ h_d
  ·
   refine QB rfl (df c2) <| QA <| w_sl 0 (vr_) rfl <| w_sl 1 (v_d) rfl <| w_sl 2 (.int .i64 i) rfl <| w_sl 3 (.int .u64 q) rfl <| w_sl 8 (.bool false) rfl <| w_sl 9 (.int .i64 borrow) rfl <| w_sl 10 (.int .u64 carry) rfl <| w_sl 11 (.int .i64 j_) rfl <| w_sl 12 (.int .u64 carry) rfl <| Qv.j2_ok (k := k) hh hle he h_r_ h_d
 ·
  refine QB rfl (df c1) <| X1 rfl <| wR rfl <| wM (.int .i64 borrow) rfl rfl <| w_d rfl (XG rfl rfl) <| wA (.bool (decide (borrow < 0))) rfl rfl <| Qa ?_
  obtain rfl := sj he
  refine Qi fn_157 rs_157 (.tmp (v := .bool (decide (borrow < 0))) rfl .nil) <| ⟨⟨[], _, rfl, h_r_⟩, hle, rfl⟩
theorem Qv.ok : ∀ k, Qv.OK (Qv.hs k)
 | 0 => ⟨(by intros; exact nomatch (show none = some _ from by assumption))⟩
 | k + 1 => ⟨Qv.b0_ok (k := k) (Qv.ok k)⟩
theorem Qv.calls (k : Nat) {H : Hp} {L : Items} {r_ d : List Int} {i q : Int} {vr_ : Value} {it_ : Item'} {v0_d : Value} {r : Bool × (List Int)} (he : Qv.f k r_ d i q = some r) (hr_ : Sl kU32 H 167 it_ vr_ r_) (h0_d : Src kU32 H L v0_d d) : Ct Tryz.prog 157 ⟨[vr_, v0_d, .int .i64 i, .int .u64 q]⟩ H (it_ :: L) (fun v H' L' => ∃ it', L' = it' :: L ∧ H.le H' ∧ Sl kU32 H' 167 it' vr_ r.2 ∧ v = .bool r.1) := by
 refine N2 (Q := fun v => v = .bool r.1) ?_
 have hle : H.le H := .refl _
 have hh := Qv.ok k
 unfold Qv.f at he
 refine QP (args := [_, _, _, _]) fn_157 rfl nt_157 rfl <| wR rfl <| wA (.bool false) rfl rfl <| wQ rfl <| wA (.int .i64 0) rfl rfl <| wQ rfl <| wA (.int .u64 0) rfl rfl ?_
 refine wE <| wR rfl <| wA (.int .i64 0) rfl rfl <| Qa <| QU <| X3 <| w_sl 0 (vr_) rfl <| w_sl 1 (v0_d) rfl <| w_sl 2 (.int .i64 i) rfl <| w_sl 3 (.int .u64 q) rfl ?_
 refine w_sl 8 (.bool false) rfl <| w_sl 9 (.int .i64 0) rfl <| w_sl 10 (.int .u64 0) rfl <| w_sl 11 (.int .i64 0) rfl <| hh.l0 hle he hr_ h0_d
noncomputable def Qn.C : Code := (Tryz.f158.body).getD .skip
def Qn.out (r : (List Int)) (H : Hp) (v : Value) : Prop := v = .tuple ⟨[]⟩
abbrev Qn.R (vr_ : Value) (H0 : Hp) (L : Items) (r : (List Int)) : Value → Hp → Items → Prop := fun v H' L' => (∃ p it', L' = p ++ it' :: L ∧ Sl kU32 H' 167 it' vr_ r) ∧ H0.le H' ∧ v = .tuple ⟨[]⟩
structure Qn.Hs where
 l0 : (List Int) → (List Int) → Int → Int → Int → Option (List Int)
noncomputable def Qn.j2 (k : Nat) (h : Qn.Hs) (r_ d : List Int) (i carry j_ s : Int) : Option (List Int) := if (0 : Int) ≤ w64 (i + j_) ∧ w64 (i + j_) < (r_.length : Int) then (h.l0 (r_.set (w64 (i + j_) : Int).toNat ((s) % 4294967296)) d i (s / 4294967296) (w64 (j_ + 1))) else none
noncomputable def Qn.b0 (k : Nat) (h : Qn.Hs) (r_ d : List Int) (i carry j_ : Int) : Option (List Int) := if j_ ≤ (d.length : Int) then (if (0 : Int) ≤ w64 (i + j_) ∧ w64 (i + j_) < (r_.length : Int) then (if j_ < (d.length : Int) then (if (0 : Int) ≤ j_ ∧ j_ < (d.length : Int) then (Qn.j2 k h r_ d i carry j_ ((((((rd r_ (w64 (i + j_))) % 18446744073709551616) + carry) % 18446744073709551616) + ((rd d j_) % 18446744073709551616)) % 18446744073709551616)) else none) else (Qn.j2 k h r_ d i carry j_ ((((rd r_ (w64 (i + j_))) % 18446744073709551616) + carry) % 18446744073709551616))) else none) else (some (r_))
noncomputable def Qn.hs : Nat → Qn.Hs
 | 0 => ⟨fun _ _ _ _ _ => none⟩
 | k + 1 => ⟨fun x0 x1 x2 x3 x4 => Qn.b0 k (Qn.hs k) x0 x1 x2 x3 x4⟩
noncomputable def Qn.f (k : Nat) (r_ d : List Int) (i : Int) : Option (List Int) := (fun h : Qn.Hs => h.l0 r_ d i 0 0) (Qn.hs k)
structure Qn.LE (h h' : Qn.Hs) : Prop where
 l0 : ∀ y0 y1 y2 y3 y4, LeO (h.l0 y0 y1 y2 y3 y4) (h'.l0 y0 y1 y2 y3 y4)
theorem Qn.j2_mono {k : Nat} {h h' : Qn.Hs} (hl : Qn.LE h h') : ∀ y0 y1 y2 y3 y4 y5, LeO (Qn.j2 k h y0 y1 y2 y3 y4 y5) (Qn.j2 (k + 1) h' y0 y1 y2 y3 y4 y5) := fun _ _ _ _ _ _ => (LeO.ite (hl.l0 _ _ _ _ _) (LeO.refl _))
theorem Qn.b0_mono {k : Nat} {h h' : Qn.Hs} (hl : Qn.LE h h') : ∀ y0 y1 y2 y3 y4, LeO (Qn.b0 k h y0 y1 y2 y3 y4) (Qn.b0 (k + 1) h' y0 y1 y2 y3 y4) := fun _ _ _ _ _ => (LeO.ite (LeO.ite (LeO.ite (LeO.ite (Qn.j2_mono (k := k) hl _ _ _ _ _ _) (LeO.refl _)) (Qn.j2_mono (k := k) hl _ _ _ _ _ _)) (LeO.refl _)) (LeO.refl _))
theorem Qn.hs_mono : ∀ k, Qn.LE (Qn.hs k) (Qn.hs (k + 1))
 | 0 => ⟨fun _ _ _ _ _ => LeO.none _⟩
 | k + 1 => ⟨Qn.b0_mono (k := k) (Qn.hs_mono k)⟩
theorem Qn.mono : ∀ k y0 y1 y2, LeO (Qn.f k y0 y1 y2) (Qn.f (k + 1) y0 y1 y2) := fun k _ _ _ => have hl := Qn.hs_mono k; by unfold Qn.f; exact (hl.l0 _ _ _ _ _)
noncomputable def Qn.Kl0 : List Item := .code (lopB (blkB (seqR (seqR Qn.C)))) :: .inLoop (lopB (blkB (seqR (seqR Qn.C)))) :: .inBlock 0 :: []
noncomputable def Qn.Kj2 : List Item := .code (seqR (seqR (blkB (seqL (seqR (lopB (blkB (seqR (seqR Qn.C))))))))) :: .inBlock 1 :: .code (seqR (seqR (lopB (blkB (seqR (seqR Qn.C)))))) :: .inLoop (lopB (blkB (seqR (seqR Qn.C)))) :: .inBlock 0 :: []
structure Qn.OK (h : Qn.Hs) : Prop where
 l0 : ∀ {H0 H : Hp} {L : Items} {r : (List Int)} {jk_ : Nat → Value} {r_ : List Int} {d : List Int} {i : Int} {carry : Int} {j_ : Int} {vr_ : Value} {v_d : Value} {i_r_ : Item'} (_ : H0.le H) (_he : h.l0 r_ d i carry j_ = some r) (_h_r_ : Sl kU32 H 167 i_r_ vr_ r_) (_h_d : Src kU32 H L v_d d), Wp Tryz.prog 158 44 Qn.Kl0 (upd (upd (upd (upd (upd jk_ 0 (vr_)) 1 (v_d)) 2 (.int .i64 i)) 6 (.int .u64 carry)) 7 (.int .i64 j_)) H (i_r_ :: L) (Qn.R vr_ H0 L r)
theorem Qn.j2_ok {k : Nat} {h : Qn.Hs} (hh : Qn.OK h) {H0 H : Hp} {L : Items} {r : (List Int)} {jk_ : Nat → Value} {r_ d : List Int} {i carry j_ s : Int} {vr_ v_d : Value} {i_r_ : Item'} (hle : H0.le H) (he : Qn.j2 k h r_ d i carry j_ s = some r) (h_r_ : Sl kU32 H 167 i_r_ vr_ r_) (h_d : Src kU32 H L v_d d) : Wp Tryz.prog 158 44 Qn.Kj2 (upd (upd (upd (upd (upd (upd jk_ 0 (vr_)) 1 (v_d)) 2 (.int .i64 i)) 6 (.int .u64 carry)) 7 (.int .i64 j_)) 8 (.int .u64 s)) H (i_r_ :: L) (Qn.R vr_ H0 L r) := by
 unfold Qn.j2 at he
 unfold Qn.Kj2
 refine wR rfl <| wM vr_ rfl rfl <| wM (.int .i64 i) rfl rfl <| wM (.int .i64 j_) rfl rfl <| w_d rfl (Xt (c := w64 (i + j_)) rfl rfl rfl) <| wM (.int .u64 s) rfl rfl <| w_d rfl (XY (c := (s) % 4294967296) Tryz.underlying113 Tryz.underlying167 rfl rfl) <| rK he fun c5 he => w_d rfl (YF (sz := 1) Tryz.underlying22 sz167 rfl h_r_.shp rfl c5) <| w_a0 rfl (Y4 (kd := kU32) (v := .int .u32 ((s) % 4294967296)) (F := fun z_ => z_ :: L) sz167 rfl rfl rfl rfl h_r_ c5 (fun _ => .here)) ?_
 rintro _ _ _ ⟨i6, rfl, rfl, rfl, h7⟩
 refine Qa <| QD rfl <| wM (.int .u64 s) rfl rfl <| w_d rfl (Y0 (c := s / 4294967296) rfl rfl (by decide) rfl) <| wA (.int .u64 (s / 4294967296)) rfl rfl <| Qa <| Xk <| QD rfl <| wM (.int .i64 j_) rfl rfl <| w_d rfl (Xt (c := w64 (j_ + 1)) rfl rfl rfl) <| wA (.int .i64 (w64 (j_ + 1))) rfl rfl <| Qa ?_
 refine Xy <| w_sl 0 (vr_) rfl <| w_sl 1 (v_d) rfl <| w_sl 2 (.int .i64 i) rfl <| w_sl 6 (.int .u64 (s / 4294967296)) rfl <| w_sl 7 (.int .i64 (w64 (j_ + 1))) rfl <| hh.l0 hle he h7 h_d
theorem Qn.b0_ok {k : Nat} {h : Qn.Hs} (hh : Qn.OK h) {H0 H : Hp} {L : Items} {r : (List Int)} {jk_ : Nat → Value} {r_ d : List Int} {i carry j_ : Int} {vr_ v_d : Value} {i_r_ : Item'} (hle : H0.le H) (he : Qn.b0 k h r_ d i carry j_ = some r) (h_r_ : Sl kU32 H 167 i_r_ vr_ r_) (h_d : Src kU32 H L v_d d) : Wp Tryz.prog 158 44 Qn.Kl0 (upd (upd (upd (upd (upd jk_ 0 (vr_)) 1 (v_d)) 2 (.int .i64 i)) 6 (.int .u64 carry)) 7 (.int .i64 j_)) H (i_r_ :: L) (Qn.R vr_ H0 L r) := by
 unfold Qn.b0 at he
 unfold Qn.Kl0
 refine QV <| wR rfl <| wM (.int .i64 j_) rfl rfl <| wM v_d rfl rfl <| w_d rfl (Xq Tryz.underlying22 rfl h_d.th) <| w_d rfl (Gf rfl rfl) <| Qa ?_
 rcases its he with ⟨c1, he⟩ | ⟨c1, he⟩
 ·
  refine Qy rfl (dt c1) <| QA <| QV <| QU <| wR rfl <| wM vr_ rfl rfl <| wM (.int .i64 i) rfl rfl <| wM (.int .i64 j_) rfl rfl <| w_d rfl (Xt (c := w64 (i + j_)) rfl rfl rfl) <| rK he fun c2 he => w_d rfl (YF (sz := 1) Tryz.underlying22 sz167 rfl h_r_.shp rfl c2) ?_
  refine w_d rfl (XL ty167 rfl (h_r_.src .here) c2) <| w_d rfl (XY (c := (rd r_ (w64 (i + j_))) % 18446744073709551616) Tryz.underlying167 Tryz.underlying113 rfl rfl) <| wM (.int .u64 carry) rfl rfl <| w_d rfl (Xt (c := (((rd r_ (w64 (i + j_))) % 18446744073709551616) + carry) % 18446744073709551616) rfl rfl rfl) <| wA (.int .u64 ((((rd r_ (w64 (i + j_))) % 18446744073709551616) + carry) % 18446744073709551616)) rfl rfl <| wE <| wR rfl <| wM (.int .i64 j_) rfl rfl <| wM v_d rfl rfl <| w_d rfl (Xq Tryz.underlying22 rfl h_d.th) ?_
  refine w_d rfl (XG rfl rfl) <| Qa ?_
  rcases its he with ⟨c3, he⟩ | ⟨c3, he⟩
  ·
   refine Qy rfl (dt c3) <| QD rfl <| wM (.int .u64 ((((rd r_ (w64 (i + j_))) % 18446744073709551616) + carry) % 18446744073709551616)) rfl rfl <| wM v_d rfl rfl <| wM (.int .i64 j_) rfl rfl <| rK he fun c4 he => w_d rfl (XM (sz := 1) Tryz.underlying22 sz167 rfl h_d.th rfl c4) <| w_d rfl (XL ty167 rfl h_d.th c4) <| w_d rfl (XY (c := (rd d j_) % 18446744073709551616) Tryz.underlying167 Tryz.underlying113 rfl rfl) <| w_d rfl (Xt (c := (((((rd r_ (w64 (i + j_))) % 18446744073709551616) + carry) % 18446744073709551616) + ((rd d j_) % 18446744073709551616)) % 18446744073709551616) rfl rfl rfl) <| wA (.int .u64 ((((((rd r_ (w64 (i + j_))) % 18446744073709551616) + carry) % 18446744073709551616) + ((rd d j_) % 18446744073709551616)) % 18446744073709551616)) rfl rfl <| Qa ?_
   refine w_sl 0 (vr_) rfl <| w_sl 1 (v_d) rfl <| w_sl 2 (.int .i64 i) rfl <| w_sl 6 (.int .u64 carry) rfl <| w_sl 7 (.int .i64 j_) rfl <| w_sl 8 (.int .u64 ((((((rd r_ (w64 (i + j_))) % 18446744073709551616) + carry) % 18446744073709551616) + ((rd d j_) % 18446744073709551616)) % 18446744073709551616)) rfl <| Qn.j2_ok (k := k) hh hle he h_r_ h_d
  ·
   refine QB rfl (df c3) <| QA <| w_sl 0 (vr_) rfl <| w_sl 1 (v_d) rfl <| w_sl 2 (.int .i64 i) rfl <| w_sl 6 (.int .u64 carry) rfl <| w_sl 7 (.int .i64 j_) rfl <| w_sl 8 (.int .u64 ((((rd r_ (w64 (i + j_))) % 18446744073709551616) + carry) % 18446744073709551616)) rfl <| Qn.j2_ok (k := k) hh hle he h_r_ h_d
 ·
  refine QB rfl (df c1) <| X1 rfl ?_
  obtain rfl := sj he
  refine NQ fn_158 rs_158 .nil <| ⟨⟨[], _, rfl, h_r_⟩, hle, rfl⟩
theorem Qn.ok : ∀ k, Qn.OK (Qn.hs k)
 | 0 => ⟨(by intros; exact nomatch (show none = some _ from by assumption))⟩
 | k + 1 => ⟨Qn.b0_ok (k := k) (Qn.ok k)⟩
theorem Qn.calls (k : Nat) {H : Hp} {L : Items} {r_ d : List Int} {i : Int} {vr_ : Value} {it_ : Item'} {v0_d : Value} {r : (List Int)} (he : Qn.f k r_ d i = some r) (hr_ : Sl kU32 H 167 it_ vr_ r_) (h0_d : Src kU32 H L v0_d d) : Ct Tryz.prog 158 ⟨[vr_, v0_d, .int .i64 i]⟩ H (it_ :: L) (fun v H' L' => ∃ it', L' = it' :: L ∧ H.le H' ∧ Sl kU32 H' 167 it' vr_ r ∧ v = .tuple ⟨[]⟩) := by
 refine N2 (Q := fun v => v = .tuple ⟨[]⟩) ?_
 have hle : H.le H := .refl _
 have hh := Qn.ok k
 unfold Qn.f at he
 refine QP (args := [_, _, _]) fn_158 rfl nt_158 rfl <| wR rfl <| wA (.int .u64 0) rfl rfl <| wQ rfl <| wA (.int .i64 0) rfl rfl <| Qa <| QU <| X3 <| w_sl 0 (vr_) rfl ?_
 refine w_sl 1 (v0_d) rfl <| w_sl 2 (.int .i64 i) rfl <| w_sl 6 (.int .u64 0) rfl <| w_sl 7 (.int .i64 0) rfl <| hh.l0 hle he hr_ h0_d
noncomputable def Q7.C : Code := (Tryz.f119.body).getD .skip
abbrev Q7.out (r : (List Int)) (H : Hp) (v : Value) : Prop := Ro kU32 H v r
noncomputable def Q7.f (k : Nat) (s : List Int) : Option (List Int) := if 0 + s.length ≤ 35184372088704 then (some (s)) else none
theorem Q7.mono : ∀ k y0, LeO (Q7.f k y0) (Q7.f (k + 1) y0) := fun k _ => by unfold Q7.f; exact (LeO.ite (LeO.refl _) (LeO.refl _))
theorem Q7.calls (k : Nat) {H : Hp} {L : Items} {s : List Int} {v0_s : Value} {r : (List Int)} (he : Q7.f k s = some r) (h0_s : Ro kU32 H v0_s s) : Ct Tryz.prog 119 ⟨[v0_s]⟩ H L (fun v H' L' => ∃ it, L' = it :: L ∧ H.le H' ∧ Sl kU32 H' 167 it v r) := by
 refine Vm ?_
 have hle : H.le H := .refl _
 unfold Q7.f at he
 obtain ⟨A_, n_, rfl, hc_, h1_⟩ := h0_s
 cases A_ with
 | none =>
  have e_ : s = [] := h1_.elim id fun h => (by obtain ⟨_, _, h, _⟩ := h; cases h)
  subst e_
  refine rK he fun _ he => QP (args := [.slice none 0 n_]) fn_119 rfl nt_119 rfl <| wR rfl <| wA (.slice none 0 0) rfl rfl <| wE <| wR rfl <| wM (.slice none 0 n_) rfl rfl <| w_d rfl (Un Tryz.underlying22 rfl) <| Qa ?_
  refine Qy rfl rfl <| wR rfl <| wA (.slice none 0 0) rfl rfl <| Qa <| YM ?_
  obtain rfl := sj he
  refine Qi fn_119 rs_119 (.tmp (v := .slice none 0 0) rfl .nil) <| ⟨⟨[], _, rfl, (Jd _ _ _)⟩, hle⟩
 | some a_ =>
  have h0_s : Ro kU32 H (.slice (some a_) s.length n_) s := ⟨some a_, n_, rfl, hc_, h1_⟩
  refine QP (args := [.slice (some a_) s.length n_]) fn_119 rfl nt_119 rfl <| wR rfl <| wA (.slice none 0 0) rfl rfl <| wE <| wR rfl <| wM (.slice (some a_) s.length n_) rfl rfl <| w_d rfl (Ub Tryz.underlying22 rfl rfl) <| Qa <| QB rfl rfl ?_
  refine QA <| wR rfl <| w_a rfl (o_buildSlice' (kd := kU32) (css := []) (xs := []) (parts := []) Tryz.underlying22 ti167 rfl rfl trivial rfl (by decide)) ?_
  rintro v1 _ _ ⟨i2, rfl, rfl, h3⟩
  refine wM (.slice (some a_) s.length n_) rfl rfl <| rK he fun c4 he => w_a rfl (o_append' (kd := kU32) (F := fun z_ => z_ :: L) Tryz.underlying22 Tryz.underlying22 ti167 rfl (by first | omega | (simp only [List.nil_append, List.length_cons, List.length_nil]; omega)) rfl rfl h3 h0_s.src (fun _ => .here)) ?_
  rintro v5 _ _ ⟨i6, rfl, rfl, h7⟩
  refine wA v5 rfl rfl <| Qa ?_
  obtain rfl := sj he
  refine Qi fn_119 rs_119 (.tmp (v := v5) rfl .nil) <| ⟨⟨[], _, rfl, h7⟩, hle⟩
theorem Q7.callsR (k : Nat) {H : Hp} {L : Items} {s : List Int} {v0_s : Value} {r : (List Int)} (he : Q7.f k s = some r) (h0_s : Ro kU32 H v0_s s) : Ct Tryz.prog 119 ⟨[v0_s]⟩ H L (cR H L (Q7.out r)) := Wh (Q7.calls k he h0_s)
noncomputable def QI.C : Code := (Tryz.f118.body).getD .skip
abbrev QI.out (r : (List Int)) (H : Hp) (v : Value) : Prop := Ro kU32 H v r
abbrev QI.R (H0 : Hp) (L : Items) (r : (List Int)) := fR H0 L (QI.out r)
structure QI.Hs where
 l0 : Int → (List Int) → Int → Int → Option (List Int)
noncomputable def QI.j2 (k : Nat) (h : QI.Hs) (n : Int) (out : List Int) (i v_ t11 t12 : Int) : Option (List Int) := if 0 ≤ n then (if (0 : Int) ≤ i ∧ i < (out.length : Int) then (h.l0 n (out.set (i : Int).toNat ((v_ / 2 ^ shn .u64 n) % 4294967296)) t11 (w64 (t12 + 1))) else none) else none
noncomputable def QI.b0 (k : Nat) (h : QI.Hs) (n : Int) (out : List Int) (t11 t12 : Int) : Option (List Int) := if t12 < t11 then (if (0 : Int) ≤ t12 ∧ t12 < (out.length : Int) then (if (w64 (t12 + 1)) < (out.length : Int) then (if (0 : Int) ≤ w64 (t12 + 1) ∧ w64 (t12 + 1) < (out.length : Int) then (QI.j2 k h n out t12 (ior .u64 ((rd out t12) % 18446744073709551616) ((((rd out (w64 (t12 + 1))) % 18446744073709551616) * 4294967296) % 18446744073709551616)) t11 t12) else none) else (QI.j2 k h n out t12 ((rd out t12) % 18446744073709551616) t11 t12)) else none) else ((QQ.f k out).bind fun y17 => some (y17))
noncomputable def QI.hs : Nat → QI.Hs
 | 0 => ⟨fun _ _ _ _ => none⟩
 | k + 1 => ⟨fun x0 x1 x2 x3 => QI.b0 k (QI.hs k) x0 x1 x2 x3⟩
noncomputable def QI.f (k : Nat) (w : List Int) (n : Int) : Option (List Int) := (fun h : QI.Hs => (Q7.f k w).bind fun y1 => h.l0 n y1 (y1.length : Int) 0) (QI.hs k)
structure QI.LE (h h' : QI.Hs) : Prop where
 l0 : ∀ y0 y1 y2 y3, LeO (h.l0 y0 y1 y2 y3) (h'.l0 y0 y1 y2 y3)
theorem QI.j2_mono {k : Nat} {h h' : QI.Hs} (hl : QI.LE h h') : ∀ y0 y1 y2 y3 y4 y5, LeO (QI.j2 k h y0 y1 y2 y3 y4 y5) (QI.j2 (k + 1) h' y0 y1 y2 y3 y4 y5) := fun _ _ _ _ _ _ => (LeO.ite (LeO.ite (hl.l0 _ _ _ _) (LeO.refl _)) (LeO.refl _))
theorem QI.b0_mono {k : Nat} {h h' : QI.Hs} (hl : QI.LE h h') : ∀ y0 y1 y2 y3, LeO (QI.b0 k h y0 y1 y2 y3) (QI.b0 (k + 1) h' y0 y1 y2 y3) := fun _ _ _ _ => (LeO.ite (LeO.ite (LeO.ite (LeO.ite (QI.j2_mono (k := k) hl _ _ _ _ _ _) (LeO.refl _)) (QI.j2_mono (k := k) hl _ _ _ _ _ _)) (LeO.refl _)) (LeO.bind (QQ.mono k _) fun _ => LeO.refl _))
theorem QI.hs_mono : ∀ k, QI.LE (QI.hs k) (QI.hs (k + 1))
 | 0 => ⟨fun _ _ _ _ => LeO.none _⟩
 | k + 1 => ⟨QI.b0_mono (k := k) (QI.hs_mono k)⟩
theorem QI.mono : ∀ k y0 y1, LeO (QI.f k y0 y1) (QI.f (k + 1) y0 y1) := fun k _ _ => have hl := QI.hs_mono k; by unfold QI.f; exact (LeO.bind (Q7.mono k _) fun _ => hl.l0 _ _ _ _)
noncomputable def QI.Kl0 : List Item := .code (lopB (blkB (seqR (seqL (seqR (seqR QI.C)))))) :: .inLoop (lopB (blkB (seqR (seqL (seqR (seqR QI.C)))))) :: .inBlock 0 :: .code (seqR (seqR (seqR QI.C))) :: []
noncomputable def QI.Kj2 : List Item := .code (seqR (seqR (seqR (blkB (seqL (seqR (seqR (lopB (blkB (seqR (seqL (seqR (seqR QI.C))))))))))))) :: .inBlock 1 :: .code (seqR (seqR (seqR (lopB (blkB (seqR (seqL (seqR (seqR QI.C))))))))) :: .inLoop (lopB (blkB (seqR (seqL (seqR (seqR QI.C)))))) :: .inBlock 0 :: .code (seqR (seqR (seqR QI.C))) :: []
structure QI.OK (h : QI.Hs) : Prop where
 l0 : ∀ {H0 H : Hp} {L : Items} {r : (List Int)} {jk_ : Nat → Value} {n : Int} {out : List Int} {t11 : Int} {t12 : Int} {v_out : Value} {i_out : Item'} (_ : H0.le H) (_he : h.l0 n out t11 t12 = some r) (_h_out : Sl kU32 H 167 i_out v_out out), Wp Tryz.prog 118 44 QI.Kl0 (upd (upd (upd (upd (upd jk_ 1 (.int .i64 n)) 4 (.slice none 0 0)) 5 (v_out)) 11 (.int .i64 t11)) 12 (.int .i64 t12)) H (i_out :: L) (QI.R H0 L r)
theorem QI.j2_ok {k : Nat} {h : QI.Hs} (hh : QI.OK h) {H0 H : Hp} {L : Items} {r : (List Int)} {jk_ : Nat → Value} {n : Int} {out : List Int} {i v_ t11 t12 : Int} {v_out : Value} {i_out : Item'} (hle : H0.le H) (he : QI.j2 k h n out i v_ t11 t12 = some r) (h_out : Sl kU32 H 167 i_out v_out out) : Wp Tryz.prog 118 44 QI.Kj2 (upd (upd (upd (upd (upd (upd (upd jk_ 1 (.int .i64 n)) 4 (.slice none 0 0)) 5 (v_out)) 6 (.int .i64 i)) 7 (.int .u64 v_)) 11 (.int .i64 t11)) 12 (.int .i64 t12)) H (i_out :: L) (QI.R H0 L r) := by
 unfold QI.j2 at he
 unfold QI.Kj2
 refine QD rfl <| wM v_out rfl rfl <| wM (.int .i64 i) rfl rfl <| wM (.int .u64 v_) rfl rfl <| wM (.int .i64 n) rfl rfl <| rK he fun c23 he => w_d rfl (Y0 (c := v_ / 2 ^ shn .u64 n) rfl rfl c23 rfl) <| w_d rfl (XY (c := (v_ / 2 ^ shn .u64 n) % 4294967296) Tryz.underlying113 Tryz.underlying167 rfl rfl) <| rK he fun c24 he => w_d rfl (YF (sz := 1) Tryz.underlying22 sz167 rfl h_out.shp rfl c24) <| w_a0 rfl (Y4 (kd := kU32) (v := .int .u32 ((v_ / 2 ^ shn .u64 n) % 4294967296)) (F := fun z_ => z_ :: L) sz167 rfl rfl rfl rfl h_out c24 (fun _ => .here)) ?_
 rintro _ _ _ ⟨i25, rfl, rfl, rfl, h26⟩
 refine Qa <| Xk <| QD rfl <| w_d rfl (Xt (c := w64 (t12 + 1)) rfl rfl rfl) <| wM (.int .i64 (w64 (t12 + 1))) rfl rfl <| Qa <| Xy <| w_sl 1 (.int .i64 n) rfl <| w_sl 4 (.slice none 0 0) rfl <| w_sl 5 (v_out) rfl <| w_sl 11 (.int .i64 t11) rfl <| w_sl 12 (.int .i64 (w64 (t12 + 1))) rfl <| hh.l0 hle he h26
theorem QI.b0_ok {k : Nat} {h : QI.Hs} (hh : QI.OK h) {H0 H : Hp} {L : Items} {r : (List Int)} {jk_ : Nat → Value} {n : Int} {out : List Int} {t11 t12 : Int} {v_out : Value} {i_out : Item'} (hle : H0.le H) (he : QI.b0 k h n out t11 t12 = some r) (h_out : Sl kU32 H 167 i_out v_out out) : Wp Tryz.prog 118 44 QI.Kl0 (upd (upd (upd (upd (upd jk_ 1 (.int .i64 n)) 4 (.slice none 0 0)) 5 (v_out)) 11 (.int .i64 t11)) 12 (.int .i64 t12)) H (i_out :: L) (QI.R H0 L r) := by
 unfold QI.b0 at he
 unfold QI.Kl0
 refine wR rfl <| w_d rfl (XG rfl rfl) <| wE ?_
 rcases its he with ⟨c10, he⟩ | ⟨c10, he⟩
 ·
  refine Qy rfl (dt c10) <| QA <| QV <| QU <| wR rfl <| wM (.int .i64 t12) rfl rfl <| wA (.int .i64 t12) rfl rfl <| wQ rfl <| wM v_out rfl rfl ?_
  refine wM (.int .i64 t12) rfl rfl <| rK he fun c11 he => w_d rfl (YF (sz := 1) Tryz.underlying22 sz167 rfl h_out.shp rfl c11) <| w_d rfl (XL ty167 rfl (h_out.src .here) c11) <| w_d rfl (XY (c := (rd out t12) % 18446744073709551616) Tryz.underlying167 Tryz.underlying113 rfl rfl) <| wA (.int .u64 ((rd out t12) % 18446744073709551616)) rfl rfl <| wE <| wR rfl <| wM (.int .i64 t12) rfl rfl <| w_d rfl (Xt (c := w64 (t12 + 1)) rfl rfl rfl) ?_
  refine wM v_out rfl rfl <| w_d rfl (Gy Tryz.underlying22 rfl h_out.shp) <| w_d rfl (XG rfl rfl) <| Qa ?_
  rcases its he with ⟨c12, he⟩ | ⟨c12, he⟩
  ·
   refine Qy rfl (dt c12) <| QD rfl <| wM (.int .u64 ((rd out t12) % 18446744073709551616)) rfl rfl <| wM v_out rfl rfl <| wM (.int .i64 t12) rfl rfl <| w_d rfl (Xt (c := w64 (t12 + 1)) rfl rfl rfl) <| rK he fun c13 he => w_d rfl (YF (sz := 1) Tryz.underlying22 sz167 rfl h_out.shp rfl c13) <| w_d rfl (XL ty167 rfl (h_out.src .here) c13) <| w_d rfl (XY (c := (rd out (w64 (t12 + 1))) % 18446744073709551616) Tryz.underlying167 Tryz.underlying113 rfl rfl) <| w_d rfl (Z9 (c := (((rd out (w64 (t12 + 1))) % 18446744073709551616) * 4294967296) % 18446744073709551616) rfl rfl (by decide) rfl) <| w_d rfl (Js rfl rfl) ?_
   refine wA (.int .u64 (ior .u64 ((rd out t12) % 18446744073709551616) ((((rd out (w64 (t12 + 1))) % 18446744073709551616) * 4294967296) % 18446744073709551616))) rfl rfl <| Qa <| w_sl 1 (.int .i64 n) rfl <| w_sl 4 (.slice none 0 0) rfl <| w_sl 5 (v_out) rfl <| w_sl 6 (.int .i64 t12) rfl <| w_sl 7 (.int .u64 (ior .u64 ((rd out t12) % 18446744073709551616) ((((rd out (w64 (t12 + 1))) % 18446744073709551616) * 4294967296) % 18446744073709551616))) rfl <| w_sl 11 (.int .i64 t11) rfl <| w_sl 12 (.int .i64 t12) rfl <| QI.j2_ok (k := k) hh hle he h_out
  ·
   refine QB rfl (df c12) <| QA <| w_sl 1 (.int .i64 n) rfl <| w_sl 4 (.slice none 0 0) rfl <| w_sl 5 (v_out) rfl <| w_sl 6 (.int .i64 t12) rfl <| w_sl 7 (.int .u64 ((rd out t12) % 18446744073709551616)) rfl <| w_sl 11 (.int .i64 t11) rfl <| w_sl 12 (.int .i64 t12) rfl <| QI.j2_ok (k := k) hh hle he h_out
 ·
  refine QB rfl (df c10) <| X1 rfl <| wR rfl <| wM v_out rfl rfl <| Yv h_out .here ?_
  intro H14 e15 h16
  refine bK he fun y17 hy18 he => w_a rfl (Qm co113 (vs := [v_out]) rfl (QQ.calls k hy18 h16)) ?_
  rintro v21 H19 _ ⟨rfl, e20, h22⟩
  refine wA v21 rfl rfl <| Qa ?_
  obtain rfl := sj he
  refine Qi fn_118 rs_118 (.tmp (v := v21) rfl .nil) <| ⟨⟨[_], rfl⟩, hle.trans (e15.trans e20), h22⟩
theorem QI.ok : ∀ k, QI.OK (QI.hs k)
 | 0 => ⟨(by intros; exact nomatch (show none = some _ from by assumption))⟩
 | k + 1 => ⟨QI.b0_ok (k := k) (QI.ok k)⟩
theorem QI.calls (k : Nat) {H : Hp} {L : Items} {w : List Int} {n : Int} {v0_w : Value} {r : (List Int)} (he : QI.f k w n = some r) (h0_w : Ro kU32 H v0_w w) : Ct Tryz.prog 118 ⟨[v0_w, .int .i64 n]⟩ H L (cR H L (QI.out r)) := by
 refine XR (O := QI.out r) ?_
 have hle : H.le H := .refl _
 have hh := QI.ok k
 unfold QI.f at he
 refine QP (args := [_, _]) fn_118 rfl nt_118 rfl <| wR rfl <| wA (.slice none 0 0) rfl rfl <| wQ rfl <| wM v0_w rfl rfl <| bK he fun y1 hy2 he => w_a rfl (Qm co119 (vs := [v0_w]) rfl (Q7.calls k hy2 h0_w)) ?_
 rintro v7 H3 _ ⟨i8, rfl, e4, h9⟩
 refine wA v7 rfl rfl <| wE <| wR rfl <| wM v7 rfl rfl <| w_d rfl (Gy Tryz.underlying22 rfl h9.shp) <| wM (.int .i64 0) rfl rfl <| Qa <| QU <| X3 <| w_sl 1 (.int .i64 n) rfl ?_
 refine w_sl 4 (.slice none 0 0) rfl <| w_sl 5 (v7) rfl <| w_sl 11 (.int .i64 (y1.length : Int)) rfl <| w_sl 12 (.int .i64 0) rfl <| hh.l0 (hle.trans e4) he h9
noncomputable def QJ.C : Code := (Tryz.f142.body).getD .skip
def QJ.out (r : (List Int) × (List Int)) (H : Hp) (v : Value) : Prop := ∃ v0 v1, v = .tuple ⟨[v0, v1]⟩ ∧ Ro kU32 H v0 r.1 ∧ Ro kU32 H v1 r.2
abbrev QJ.R (H0 : Hp) (L : Items) (r : (List Int) × (List Int)) := fR H0 L (QJ.out r)
structure QJ.Hs where
 l0 : Int → (List Int) → (List Int) → (List Int) → Int → Option ((List Int) × (List Int))
noncomputable def QJ.j2 (k : Nat) (h : QJ.Hs) (n : Int) (d r_ q : List Int) (i g : Int) : Option ((List Int) × (List Int)) := if (0 : Int) ≤ i ∧ i < (q.length : Int) then (h.l0 n d r_ (q.set (i : Int).toNat ((g) % 4294967296)) (w64 (i - 1))) else none
noncomputable def QJ.b0 (k : Nat) (h : QJ.Hs) (n : Int) (d r_ q : List Int) (i : Int) : Option ((List Int) × (List Int)) := if 0 ≤ i then ((Q2.f k r_ d i).bind fun y63 => (Qv.f k r_ d i y63).bind fun y67 => if y67.1 = true then ((Qn.f k y67.2 d i).bind fun y74 => QJ.j2 k h n d y74 q i ((y63 - 1) % 18446744073709551616)) else (QJ.j2 k h n d y67.2 q i y63)) else ((QQ.f k q).bind fun y83 => (QI.f k r_ n).bind fun y92 => some (y83, y92))
noncomputable def QJ.hs : Nat → QJ.Hs
 | 0 => ⟨fun _ _ _ _ _ => none⟩
 | k + 1 => ⟨fun x0 x1 x2 x3 x4 => QJ.b0 k (QJ.hs k) x0 x1 x2 x3 x4⟩
noncomputable def QJ.f (k : Nat) (a b : List Int) : Option ((List Int) × (List Int)) := (fun h : QJ.Hs => (Q0.f k a b).bind fun y1 => if y1 < 0 then (some ([], a)) else (if (b.length : Int) = 1 then (if (0 : Int) ≤ 0 ∧ 0 < (b.length : Int) then ((QW.f k a (rd b 0)).bind fun y8 => (QQ.f k [y8.2]).bind fun y20 => some (y8.1, y20)) else none) else (if (0 : Int) ≤ w64 ((b.length : Int) - 1) ∧ w64 ((b.length : Int) - 1) < (b.length : Int) then ((XU.f k (rd b (w64 ((b.length : Int) - 1)))).bind fun y27 => (Xi.f k b y27).bind fun y31 => (QQ.f k y31).bind fun y43 => (Xi.f k a y27).bind fun y49 => if 0 ≤ w64 ((y49.length : Int) - (y43.length : Int)) ∧ w64 ((y49.length : Int) - (y43.length : Int)) ≤ 70368744177664 then (h.l0 y27 y43 y49 (List.replicate (w64 ((y49.length : Int) - (y43.length : Int)) : Int).toNat (0 : Int)) (w64 (((List.replicate (w64 ((y49.length : Int) - (y43.length : Int)) : Int).toNat (0 : Int)).length : Int) - 1))) else none) else none))) (QJ.hs k)
structure QJ.LE (h h' : QJ.Hs) : Prop where
 l0 : ∀ y0 y1 y2 y3 y4, LeO (h.l0 y0 y1 y2 y3 y4) (h'.l0 y0 y1 y2 y3 y4)
theorem QJ.j2_mono {k : Nat} {h h' : QJ.Hs} (hl : QJ.LE h h') : ∀ y0 y1 y2 y3 y4 y5, LeO (QJ.j2 k h y0 y1 y2 y3 y4 y5) (QJ.j2 (k + 1) h' y0 y1 y2 y3 y4 y5) := fun _ _ _ _ _ _ => (LeO.ite (hl.l0 _ _ _ _ _) (LeO.refl _))
theorem QJ.b0_mono {k : Nat} {h h' : QJ.Hs} (hl : QJ.LE h h') : ∀ y0 y1 y2 y3 y4, LeO (QJ.b0 k h y0 y1 y2 y3 y4) (QJ.b0 (k + 1) h' y0 y1 y2 y3 y4) := fun _ _ _ _ _ => (LeO.ite (LeO.bind (Q2.mono k _ _ _) fun _ => LeO.bind (Qv.mono k _ _ _ _) fun _ => LeO.ite (LeO.bind (Qn.mono k _ _ _) fun _ => QJ.j2_mono (k := k) hl _ _ _ _ _ _) (QJ.j2_mono (k := k) hl _ _ _ _ _ _)) (LeO.bind (QQ.mono k _) fun _ => LeO.bind (QI.mono k _ _) fun _ => LeO.refl _))
theorem QJ.hs_mono : ∀ k, QJ.LE (QJ.hs k) (QJ.hs (k + 1))
 | 0 => ⟨fun _ _ _ _ _ => LeO.none _⟩
 | k + 1 => ⟨QJ.b0_mono (k := k) (QJ.hs_mono k)⟩
theorem QJ.mono : ∀ k y0 y1, LeO (QJ.f k y0 y1) (QJ.f (k + 1) y0 y1) := fun k _ _ => have hl := QJ.hs_mono k; by unfold QJ.f; exact (LeO.bind (Q0.mono k _ _) fun _ => LeO.ite (LeO.refl _) (LeO.ite (LeO.ite (LeO.bind (QW.mono k _ _) fun _ => LeO.bind (QQ.mono k _) fun _ => LeO.refl _) (LeO.refl _)) (LeO.ite (LeO.bind (XU.mono k _) fun _ => LeO.bind (Xi.mono k _ _) fun _ => LeO.bind (QQ.mono k _) fun _ => LeO.bind (Xi.mono k _ _) fun _ => LeO.ite (hl.l0 _ _ _ _ _) (LeO.refl _)) (LeO.refl _))))
noncomputable def QJ.Kl0 : List Item := .code (lopB (blkB (seqR (seqL (seqR (seqR (seqR (seqR (seqR (seqR (seqR QJ.C))))))))))) :: .inLoop (lopB (blkB (seqR (seqL (seqR (seqR (seqR (seqR (seqR (seqR (seqR QJ.C))))))))))) :: .inBlock 0 :: .code (seqR (seqR (seqR (seqR (seqR (seqR (seqR (seqR QJ.C)))))))) :: []
noncomputable def QJ.Kj2 : List Item := .code (seqR (seqR (blkB (seqL (seqR (lopB (blkB (seqR (seqL (seqR (seqR (seqR (seqR (seqR (seqR (seqR QJ.C)))))))))))))))) :: .inBlock 1 :: .code (seqR (seqR (lopB (blkB (seqR (seqL (seqR (seqR (seqR (seqR (seqR (seqR (seqR QJ.C))))))))))))) :: .inLoop (lopB (blkB (seqR (seqL (seqR (seqR (seqR (seqR (seqR (seqR (seqR QJ.C))))))))))) :: .inBlock 0 :: .code (seqR (seqR (seqR (seqR (seqR (seqR (seqR (seqR QJ.C)))))))) :: []
structure QJ.OK (h : QJ.Hs) : Prop where
 l0 : ∀ {H0 H : Hp} {L : Items} {r : (List Int) × (List Int)} {jk_ : Nat → Value} {n : Int} {d : List Int} {r_ : List Int} {q : List Int} {i : Int} {v_d : Value} {v_r_ : Value} {v_q : Value} {i_r_ : Item'} {i_q : Item'} (_ : H0.le H) (_he : h.l0 n d r_ q i = some r) (_h_d : Ro kU32 H v_d d) (_h_r_ : Sl kU32 H 167 i_r_ v_r_ r_) (_h_q : Sl kU32 H 167 i_q v_q q), Wp Tryz.prog 142 86 QJ.Kl0 (upd (upd (upd (upd (upd (upd (upd jk_ 4 (.slice none 0 0)) 5 (.slice none 0 0)) 8 (.int .i64 n)) 9 (v_d)) 10 (v_r_)) 11 (v_q)) 12 (.int .i64 i)) H (i_q :: i_r_ :: L) (QJ.R H0 L r)
theorem QJ.j2_ok {k : Nat} {h : QJ.Hs} (hh : QJ.OK h) {H0 H : Hp} {L : Items} {r : (List Int) × (List Int)} {jk_ : Nat → Value} {n : Int} {d r_ q : List Int} {i g : Int} {v_d v_r_ v_q : Value} {i_r_ i_q : Item'} (hle : H0.le H) (he : QJ.j2 k h n d r_ q i g = some r) (h_d : Ro kU32 H v_d d) (h_r_ : Sl kU32 H 167 i_r_ v_r_ r_) (h_q : Sl kU32 H 167 i_q v_q q) : Wp Tryz.prog 142 86 QJ.Kj2 (upd (upd (upd (upd (upd (upd (upd (upd jk_ 4 (.slice none 0 0)) 5 (.slice none 0 0)) 8 (.int .i64 n)) 9 (v_d)) 10 (v_r_)) 11 (v_q)) 12 (.int .i64 i)) 13 (.int .u64 g)) H (i_q :: i_r_ :: L) (QJ.R H0 L r) := by
 unfold QJ.j2 at he
 unfold QJ.Kj2
 refine QD rfl <| wM v_q rfl rfl <| wM (.int .i64 i) rfl rfl <| wM (.int .u64 g) rfl rfl <| w_d rfl (XY (c := (g) % 4294967296) Tryz.underlying113 Tryz.underlying167 rfl rfl) <| rK he fun c98 he => w_d rfl (YF (sz := 1) Tryz.underlying22 sz167 rfl h_q.shp rfl c98) <| w_a0 rfl (Y4 (kd := kU32) (v := .int .u32 ((g) % 4294967296)) (F := fun z_ => z_ :: i_r_ :: L) sz167 rfl rfl rfl rfl h_q c98 (fun _ => .here)) ?_
 rintro _ _ _ ⟨i99, rfl, rfl, rfl, h100⟩
 refine Qa <| Xk <| QD rfl <| wM (.int .i64 i) rfl rfl <| w_d rfl (Ys (c := w64 (i - 1)) rfl rfl rfl) <| wA (.int .i64 (w64 (i - 1))) rfl rfl <| Qa <| Xy <| w_sl 4 (.slice none 0 0) rfl <| w_sl 5 (.slice none 0 0) rfl <| w_sl 8 (.int .i64 n) rfl <| w_sl 9 (v_d) rfl ?_
 refine w_sl 10 (v_r_) rfl <| w_sl 11 (v_q) rfl <| w_sl 12 (.int .i64 (w64 (i - 1))) rfl <| hh.l0 hle he h_d h_r_ h100
theorem QJ.b0_ok {k : Nat} {h : QJ.Hs} (hh : QJ.OK h) {H0 H : Hp} {L : Items} {r : (List Int) × (List Int)} {jk_ : Nat → Value} {n : Int} {d r_ q : List Int} {i : Int} {v_d v_r_ v_q : Value} {i_r_ i_q : Item'} (hle : H0.le H) (he : QJ.b0 k h n d r_ q i = some r) (h_d : Ro kU32 H v_d d) (h_r_ : Sl kU32 H 167 i_r_ v_r_ r_) (h_q : Sl kU32 H 167 i_q v_q q) : Wp Tryz.prog 142 86 QJ.Kl0 (upd (upd (upd (upd (upd (upd (upd jk_ 4 (.slice none 0 0)) 5 (.slice none 0 0)) 8 (.int .i64 n)) 9 (v_d)) 10 (v_r_)) 11 (v_q)) 12 (.int .i64 i)) H (i_q :: i_r_ :: L) (QJ.R H0 L r) := by
 unfold QJ.b0 at he
 unfold QJ.Kl0
 refine QV <| wR rfl <| wM (.int .i64 i) rfl rfl <| w_d rfl (ZB rfl rfl) <| Qa ?_
 rcases its he with ⟨c62, he⟩ | ⟨c62, he⟩
 ·
  refine Qy rfl (dt c62) <| QA <| QV <| QU <| wR rfl <| wM v_r_ rfl rfl <| wM v_d rfl rfl <| wM (.int .i64 i) rfl rfl <| bK he fun y63 hy64 he => w_d rfl (Xs (Qm co156 (vs := [v_r_, v_d, .int .i64 i]) rfl (Q2.calls k hy64 (h_r_.src .h1) h_d.src))) <| wA (.int .u64 y63) rfl rfl ?_
  refine wE <| wR rfl <| wM v_r_ rfl rfl <| wM v_d rfl rfl <| wM (.int .i64 i) rfl rfl <| wM (.int .u64 y63) rfl rfl <| bK he fun y67 hy68 he => w_a rfl (Qm co157 (vs := [v_r_, v_d, .int .i64 i, .int .u64 y63]) rfl (Nj (F := fun z_ => i_q :: z_ :: L) (Qv.calls k hy68 h_r_ h_d.src) .h1 (fun _ => .h1))) ?_
  rintro _ H69 _ ⟨i71, rfl, e70, h72, rfl⟩
  refine Qa ?_
  rcases its he with ⟨c73, he⟩ | ⟨c73, he⟩
  ·
   refine Qy rfl c73 <| wR rfl <| wM (.int .u64 y63) rfl rfl <| w_d rfl (Ys (c := (y63 - 1) % 18446744073709551616) rfl rfl rfl) <| wA (.int .u64 ((y63 - 1) % 18446744073709551616)) rfl rfl <| Qa <| QD rfl <| wM v_r_ rfl rfl <| wM v_d rfl rfl <| wM (.int .i64 i) rfl rfl <| bK he fun y74 hy75 he => ?_
   refine w_a rfl (Qm co158 (vs := [v_r_, v_d, .int .i64 i]) rfl (Nj (F := fun z_ => i_q :: z_ :: L) (Qn.calls k hy75 h72 ((h_d.mono e70).src)) .h1 (fun _ => .h1))) ?_
   rintro _ H76 _ ⟨i78, rfl, e77, h79, rfl⟩
   refine Qa <| w_sl 4 (.slice none 0 0) rfl <| w_sl 5 (.slice none 0 0) rfl <| w_sl 8 (.int .i64 n) rfl <| w_sl 9 (v_d) rfl <| w_sl 10 (v_r_) rfl <| w_sl 11 (v_q) rfl <| w_sl 12 (.int .i64 i) rfl <| w_sl 13 (.int .u64 ((y63 - 1) % 18446744073709551616)) rfl <| QJ.j2_ok (k := k) hh (hle.trans (e70.trans e77)) he (h_d.mono (e70.trans e77)) h79 (h_q.mono (e70.trans e77))
  ·
   refine QB rfl (Bool.eq_false_iff.2 c73) <| QA <| w_sl 4 (.slice none 0 0) rfl <| w_sl 5 (.slice none 0 0) rfl <| w_sl 8 (.int .i64 n) rfl <| w_sl 9 (v_d) rfl <| w_sl 10 (v_r_) rfl <| w_sl 11 (v_q) rfl <| w_sl 12 (.int .i64 i) rfl <| w_sl 13 (.int .u64 y63) rfl <| QJ.j2_ok (k := k) hh (hle.trans e70) he (h_d.mono e70) h72 (h_q.mono e70)
 ·
  refine QB rfl (df c62) <| X1 rfl <| wR rfl <| wM v_q rfl rfl <| Yv h_q .here ?_
  intro H80 e81 h82
  refine bK he fun y83 hy84 he => w_a rfl (Qm co113 (vs := [v_q]) rfl (QQ.calls k hy84 h82)) ?_
  rintro v87 H85 _ ⟨rfl, e86, h88⟩
  refine wM v_r_ rfl rfl <| wM (.int .i64 n) rfl rfl <| Yv (h_r_.mono (e81.trans e86)) .h1 ?_
  intro H89 e90 h91
  refine bK he fun y92 hy93 he => w_a rfl (Qm co118 (vs := [v_r_, .int .i64 n]) rfl (QI.calls k hy93 h91)) ?_
  rintro v96 H94 _ ⟨rfl, e95, h97⟩
  refine wA v87 rfl rfl <| wA v96 rfl rfl <| Qa ?_
  obtain rfl := sj he
  refine Qi fn_142 rs_142 (.tmp (v := v87) rfl (.tmp (v := v96) rfl .nil)) <| ⟨⟨[_, _], rfl⟩, hle.trans (((e81.trans e86).trans e90).trans e95), ⟨v87, v96, rfl, (h88.mono (e90.trans e95)), h97⟩⟩
theorem QJ.ok : ∀ k, QJ.OK (QJ.hs k)
 | 0 => ⟨(by intros; exact nomatch (show none = some _ from by assumption))⟩
 | k + 1 => ⟨QJ.b0_ok (k := k) (QJ.ok k)⟩
theorem QJ.calls (k : Nat) {H : Hp} {L : Items} {a b : List Int} {v0_a v1_b : Value} {r : (List Int) × (List Int)} (he : QJ.f k a b = some r) (h0_a : Ro kU32 H v0_a a) (h1_b : Src kU32 H L v1_b b) : Ct Tryz.prog 142 ⟨[v0_a, v1_b]⟩ H L (cR H L (QJ.out r)) := by
 refine XR (O := QJ.out r) ?_
 have hle : H.le H := .refl _
 have hh := QJ.ok k
 unfold QJ.f at he
 refine QP (args := [_, _]) fn_142 rfl nt_142 rfl <| wR rfl <| wA (.slice none 0 0) rfl rfl <| wA (.slice none 0 0) rfl rfl <| wE <| wR rfl <| wM v0_a rfl rfl <| wM v1_b rfl rfl <| bK he fun y1 hy2 he => ?_
 refine w_d rfl (Xs (Qm co137 (vs := [v0_a, v1_b]) rfl (Q0.calls k hy2 h0_a.src h1_b))) <| w_d rfl (XG rfl rfl) <| Qa ?_
 rcases its he with ⟨c5, he⟩ | ⟨c5, he⟩
 ·
  refine Qy rfl (dt c5) <| wR rfl <| wM v0_a rfl rfl <| wA (.slice none 0 0) rfl rfl <| wA v0_a rfl rfl <| Qa ?_
  obtain rfl := sj he
  refine Qi fn_142 rs_142 (.tmp (v := .slice none 0 0) rfl (.tmp (v := v0_a) rfl .nil)) <| ⟨⟨[], rfl⟩, hle, ⟨.slice none 0 0, v0_a, rfl, (Q9 _ _), h0_a⟩⟩
 ·
  refine QB rfl (df c5) <| QA <| QV <| wR rfl <| wM v1_b rfl rfl <| w_d rfl (Xq Tryz.underlying22 rfl h1_b) <| w_d rfl (Y1 rfl rfl) <| Qa ?_
  rcases its he with ⟨c6, he⟩ | ⟨c6, he⟩
  ·
   refine Qy rfl (dt c6) <| wR rfl <| wM v0_a rfl rfl <| wM v1_b rfl rfl <| rK he fun c7 he => w_d rfl (XM (sz := 1) Tryz.underlying22 sz167 rfl h1_b rfl c7) <| w_d rfl (XL ty167 rfl h1_b c7) <| bK he fun y8 hy9 he => w_a rfl (Qm co130 (vs := [v0_a, .int .u32 (rd b 0)]) rfl (QW.calls k hy9 h0_a.src)) ?_
   rintro _ H10 _ ⟨rfl, e11, v12, rfl, h13⟩
   refine wM (.tuple ⟨[v12, .int .u32 y8.2]⟩) rfl rfl <| w_d rfl (QO rfl rfl) <| w_d rfl (QO rfl rfl) <| wA v12 rfl rfl <| wA (.int .u32 y8.2) rfl rfl <| wQ rfl <| wM v12 rfl rfl <| wM (.int .u32 y8.2) rfl rfl <| w_a rfl (o_buildSlice' (kd := kU32) (css := [[.int .u32 y8.2]]) (xs := [y8.2]) (parts := [(0, .int .u32 y8.2)]) Tryz.underlying22 ti167 rfl ⟨_, _, rfl, rfl, rfl⟩ ⟨rfl, trivial⟩ rfl (by decide)) ?_
   rintro v14 _ _ ⟨i15, rfl, rfl, h16⟩
   refine Yv h16 .here ?_
   intro H17 e18 h19
   refine bK he fun y20 hy21 he => w_a rfl (Qm co113 (vs := [v14]) rfl (QQ.calls k hy21 h19)) ?_
   rintro v24 H22 _ ⟨rfl, e23, h25⟩
   refine wA v12 rfl rfl <| wA v24 rfl rfl <| Qa ?_
   obtain rfl := sj he
   refine Qi fn_142 rs_142 (.tmp (v := v12) rfl (.tmp (v := v24) rfl .nil)) <| ⟨⟨[_], rfl⟩, hle.trans ((e11.trans e18).trans e23), ⟨v12, v24, rfl, (h13.mono (e18.trans e23)), h25⟩⟩
  ·
   refine QB rfl (df c6) <| QA <| wR rfl <| wM v1_b rfl rfl <| wM v1_b rfl rfl <| w_d rfl (Xq Tryz.underlying22 rfl h1_b) <| w_d rfl (Ys (c := w64 ((b.length : Int) - 1)) rfl rfl rfl) <| rK he fun c26 he => w_d rfl (XM (sz := 1) Tryz.underlying22 sz167 rfl h1_b rfl c26) <| w_d rfl (XL ty167 rfl h1_b c26) <| bK he fun y27 hy28 he => ?_
   refine w_d rfl (Xs (Qm co155 (vs := [.int .u32 (rd b (w64 ((b.length : Int) - 1)))]) rfl (XU.calls k hy28))) <| wA (.int .i64 y27) rfl rfl <| wQ rfl <| wM v1_b rfl rfl <| wM (.int .i64 y27) rfl rfl <| bK he fun y31 hy32 he => w_a rfl (Qm co114 (vs := [v1_b, .int .i64 y27]) rfl (Xi.calls k hy32 h1_b)) ?_
   rintro v37 H33 _ ⟨i38, rfl, e34, h39⟩
   refine Yv h39 .here ?_
   intro H40 e41 h42
   refine bK he fun y43 hy44 he => w_a rfl (Qm co113 (vs := [v37]) rfl (QQ.calls k hy44 h42)) ?_
   rintro v47 H45 _ ⟨rfl, e46, h48⟩
   refine wA v47 rfl rfl <| wQ rfl <| wM v0_a rfl rfl <| wM (.int .i64 y27) rfl rfl <| bK he fun y49 hy50 he => w_a rfl (Qm co114 (vs := [v0_a, .int .i64 y27]) rfl (Xi.calls k hy50 ((h0_a.mono ((e34.trans e41).trans e46)).src))) ?_
   rintro v55 H51 _ ⟨i56, rfl, e52, h57⟩
   refine wA v55 rfl rfl <| wQ rfl <| wM v55 rfl rfl <| w_d rfl (Gy Tryz.underlying22 rfl h57.shp) <| wM v47 rfl rfl <| w_d rfl (Xq Tryz.underlying22 rfl (h48.mono e52).src) <| w_d rfl (Ys (c := w64 ((y49.length : Int) - (y43.length : Int))) rfl rfl rfl) <| rK he fun c58 he => w_a rfl (o_make' (kd := kU32) (z0 := 0) Tryz.underlying22 ti167 (zp167 _) rfl rfl (by omega) (by omega) (by omega)) ?_
   rintro v59 _ _ ⟨i60, rfl, rfl, h61⟩
   refine wA v59 rfl rfl <| wE <| wR rfl <| wM v59 rfl rfl <| w_d rfl (Gy Tryz.underlying22 rfl h61.shp) <| w_d rfl (Ys (c := w64 (((List.replicate (w64 ((y49.length : Int) - (y43.length : Int)) : Int).toNat (0 : Int)).length : Int) - 1)) rfl rfl rfl) <| wA (.int .i64 (w64 (((List.replicate (w64 ((y49.length : Int) - (y43.length : Int)) : Int).toNat (0 : Int)).length : Int) - 1))) rfl rfl <| Qa <| QU <| X3 ?_
   refine YD .h2 <| w_sl 4 (.slice none 0 0) rfl <| w_sl 5 (.slice none 0 0) rfl <| w_sl 8 (.int .i64 y27) rfl <| w_sl 9 (v47) rfl <| w_sl 10 (v55) rfl <| w_sl 11 (v59) rfl <| w_sl 12 (.int .i64 (w64 (((List.replicate (w64 ((y49.length : Int) - (y43.length : Int)) : Int).toNat (0 : Int)).length : Int) - 1))) rfl <| hh.l0 (hle.trans (((e34.trans e41).trans e46).trans e52)) he (h48.mono e52) h57 h61
noncomputable def XH.C : Code := (Tryz.f71.body).getD .skip
def XH.out (r : Qq) (H : Hp) (v : Value) : Prop := ∃ v0, v = (Qc r v0) ∧ Ro kU32 H v0 r.f_w
theorem XH.out_mono (r : Qq) {H H' : Hp} {v : Value} (hle : H.le H') (h : XH.out r H v) : XH.out r H' v := by
 obtain ⟨v0, rfl, h0⟩ := h; exact ⟨v0, rfl, h0.mono hle⟩
abbrev XH.R (H0 : Hp) (L : Items) (r : Qq) := fR H0 L (XH.out r)
noncomputable def XH.j1 (k : Nat) (n v_ : Int) : Option Qq := (QQ.f k [(v_) % 4294967296, (v_ / 4294967296) % 4294967296]).bind fun y9 => some (⟨decide (n < 0), y9⟩)
noncomputable def XH.f (k : Nat) (n : Int) : Option Qq := if n < 0 then (XH.j1 k n ((0 - ((n) % 18446744073709551616)) % 18446744073709551616)) else (XH.j1 k n ((n) % 18446744073709551616))
theorem XH.j1_mono {k : Nat} : ∀ y0 y1, LeO (XH.j1 k y0 y1) (XH.j1 (k + 1) y0 y1) := fun _ _ => (LeO.bind (QQ.mono k _) fun _ => LeO.refl _)
theorem XH.mono : ∀ k y0, LeO (XH.f k y0) (XH.f (k + 1) y0) := fun k _ => by unfold XH.f; exact (LeO.ite (XH.j1_mono (k := k)  _ _) (XH.j1_mono (k := k)  _ _))
noncomputable def XH.Kj1 : List Item := .code (seqR (seqR (seqR XH.C))) :: []
theorem XH.j1_ok {k : Nat} {H0 H : Hp} {L : Items} {r : Qq} {jk_ : Nat → Value} {n v_ : Int} {b_t2 : Nat} (hle : H0.le H) (he : XH.j1 k n v_ = some r) : Wp Tryz.prog 71 20 XH.Kj1 (upd (upd (upd jk_ 0 (.int .i64 n)) 2 (pt b_t2)) 3 (.int .u64 v_)) H (bx b_t2 [.bool false, .slice none 0 0] 24 :: L) (XH.R H0 L r) := by
 unfold XH.j1 at he
 unfold XH.Kj1
 refine wR rfl <| wM (.int .i64 n) rfl rfl <| w_d rfl (XG rfl rfl) <| wM (.int .u64 v_) rfl rfl <| w_d rfl (XY (c := (v_) % 4294967296) Tryz.underlying113 Tryz.underlying167 rfl rfl) <| wM (.int .u64 v_) rfl rfl <| w_d rfl (Y0 (c := v_ / 4294967296) rfl rfl (by decide) rfl) <| w_d rfl (XY (c := (v_ / 4294967296) % 4294967296) Tryz.underlying113 Tryz.underlying167 rfl rfl) <| w_a rfl (o_buildSlice' (kd := kU32) (css := [[.int .u32 ((v_) % 4294967296)], [.int .u32 ((v_ / 4294967296) % 4294967296)]]) (xs := [(v_) % 4294967296, (v_ / 4294967296) % 4294967296]) (parts := [(0, .int .u32 ((v_) % 4294967296)), (1, .int .u32 ((v_ / 4294967296) % 4294967296))]) Tryz.underlying22 ti167 rfl ⟨_, _, rfl, rfl, ⟨_, _, rfl, rfl, rfl⟩⟩ ⟨rfl, ⟨rfl, trivial⟩⟩ rfl (by decide)) ?_
 rintro v3 _ _ ⟨i4, rfl, rfl, h5⟩
 refine Yv h5 .here ?_
 intro H6 e7 h8
 refine bK he fun y9 hy10 he => w_a rfl (Qm co113 (vs := [v3]) rfl (QQ.calls k hy10 h8)) ?_
 rintro v13 H11 _ ⟨rfl, e12, h14⟩
 refine w_d rfl (XD (cs' := [.bool (decide (n < 0)), v13]) Tryz.underlying24 zr24 rfl (by kernel_rfl) (parts := [(0, .bool (decide (n < 0))), (1, v13)]) rfl (.cons (YC rfl sz4 rfl) rfl rfl u1 (.cons (YC rfl sz22 rfl) h14.cells rfl (.there u1) .nil))) <| wS (.agg ⟨[.bool (decide (n < 0)), v13]⟩) sz24 rfl rfl rfl rfl rfl (oc rfl (oc (h14.one) oz)) .h1 u2 <| Qa ?_
 obtain rfl := sj he
 refine Qi fn_71 rs_71 (.box (v := .agg ⟨[.bool (decide (n < 0)), v13]⟩) rfl ty24 rfl rfl .h1 rfl .nil) <| ⟨⟨[_, _], rfl⟩, hle.trans (e7.trans e12), ⟨v13, rfl, h14⟩⟩
theorem XH.calls (k : Nat) {H : Hp} {L : Items} {n : Int} {r : Qq} (he : XH.f k n = some r) : Ct Tryz.prog 71 ⟨[.int .i64 n]⟩ H L (cR H L (XH.out r)) := by
 refine XR (O := XH.out r) ?_
 have hle : H.le H := .refl _
 unfold XH.f at he
 refine QP (args := [_]) fn_71 rfl nt_71 rfl <| wR rfl <| wN zr24 rfl rfl fun b1 => wQ rfl <| wM (.int .i64 n) rfl rfl <| w_d rfl (XY (c := (n) % 18446744073709551616) Tryz.underlying2 Tryz.underlying113 rfl rfl) <| wA (.int .u64 ((n) % 18446744073709551616)) rfl rfl <| wE ?_
 refine wR rfl <| wM (.int .i64 n) rfl rfl <| w_d rfl (XG rfl rfl) <| Qa ?_
 rcases its he with ⟨c2, he⟩ | ⟨c2, he⟩
 ·
  refine Qy rfl (dt c2) <| QD rfl <| wM (.int .u64 ((n) % 18446744073709551616)) rfl rfl <| w_d rfl (GI (c := (0 - ((n) % 18446744073709551616)) % 18446744073709551616) rfl rfl) <| wA (.int .u64 ((0 - ((n) % 18446744073709551616)) % 18446744073709551616)) rfl rfl <| Qa <| w_sl 0 (.int .i64 n) rfl <| w_sl 2 (pt b1) rfl <| w_sl 3 (.int .u64 ((0 - ((n) % 18446744073709551616)) % 18446744073709551616)) rfl <| XH.j1_ok (k := k) hle he
 ·
  refine QB rfl (df c2) <| QA <| w_sl 0 (.int .i64 n) rfl <| w_sl 2 (pt b1) rfl <| w_sl 3 (.int .u64 ((n) % 18446744073709551616)) rfl <| XH.j1_ok (k := k) hle he
noncomputable def YJ.C : Code := (Tryz.f159.body).getD .skip
def YJ.out (r : Int × Int) (H : Hp) (v : Value) : Prop := v = .tuple ⟨[.int .u32 r.1, .int .u32 r.2]⟩
noncomputable def YJ.f (k : Nat) (x y borrow : Int) : Option (Int × Int) := some ((((x - y) % 4294967296) - borrow) % 4294967296, (ior .u32 (iand .u32 (ixor .u32 4294967295 x) y) (iand .u32 (ixor .u32 4294967295 (ixor .u32 x y)) ((((x - y) % 4294967296) - borrow) % 4294967296))) / 2147483648)
theorem YJ.mono : ∀ k y0 y1 y2, LeO (YJ.f k y0 y1 y2) (YJ.f (k + 1) y0 y1 y2) := fun k _ _ _ => by unfold YJ.f; exact (LeO.refl _)
theorem YJ.calls (k : Nat) {H : Hp} {L : Items} {x y borrow : Int} {r : Int × Int} (he : YJ.f k x y borrow = some r) : Ct Tryz.prog 159 ⟨[.int .u32 x, .int .u32 y, .int .u32 borrow]⟩ H L (fun v H' L' => L = L' ∧ H = H' ∧ v = .tuple ⟨[.int .u32 r.1, .int .u32 r.2]⟩) := by
 refine X6 (O := YJ.out r) (fun _ _ h => h) ?_
 have hle : H.le H := .refl _
 unfold YJ.f at he
 refine QP (args := [_, _, _]) fn_159 rfl nt_159 rfl <| wR rfl <| wA (.int .u32 0) rfl rfl <| wA (.int .u32 0) rfl rfl <| wQ rfl <| wM (.int .u32 x) rfl rfl <| wM (.int .u32 y) rfl rfl <| w_d rfl (Ys (c := (x - y) % 4294967296) rfl rfl rfl) <| wM (.int .u32 borrow) rfl rfl ?_
 refine w_d rfl (Ys (c := (((x - y) % 4294967296) - borrow) % 4294967296) rfl rfl rfl) <| wA (.int .u32 ((((x - y) % 4294967296) - borrow) % 4294967296)) rfl rfl <| wQ rfl <| wM (.int .u32 x) rfl rfl <| w_d rfl (Mf rfl) <| wM (.int .u32 y) rfl rfl <| w_d rfl (Jp rfl rfl) <| wM (.int .u32 x) rfl rfl <| wM (.int .u32 y) rfl rfl <| w_d rfl (Qac rfl rfl) ?_
 refine w_d rfl (Mf rfl) <| wM (.int .u32 ((((x - y) % 4294967296) - borrow) % 4294967296)) rfl rfl <| w_d rfl (Jp rfl rfl) <| w_d rfl (Js rfl rfl) <| w_d rfl (Y0 (c := (ior .u32 (iand .u32 (ixor .u32 4294967295 x) y) (iand .u32 (ixor .u32 4294967295 (ixor .u32 x y)) ((((x - y) % 4294967296) - borrow) % 4294967296))) / 2147483648) rfl rfl (by decide) rfl) <| wA (.int .u32 ((ior .u32 (iand .u32 (ixor .u32 4294967295 x) y) (iand .u32 (ixor .u32 4294967295 (ixor .u32 x y)) ((((x - y) % 4294967296) - borrow) % 4294967296))) / 2147483648)) rfl rfl <| Qa ?_
 obtain rfl := sj he
 refine Qi fn_159 rs_159 (.tmp (v := .int .u32 ((((x - y) % 4294967296) - borrow) % 4294967296)) rfl (.tmp (v := .int .u32 ((ior .u32 (iand .u32 (ixor .u32 4294967295 x) y) (iand .u32 (ixor .u32 4294967295 (ixor .u32 x y)) ((((x - y) % 4294967296) - borrow) % 4294967296))) / 2147483648)) rfl .nil)) <| ⟨⟨[], rfl⟩, hle, rfl⟩
noncomputable def QC.C : Code := (Tryz.f143.body).getD .skip
abbrev QC.out (r : (List Int)) (H : Hp) (v : Value) : Prop := Ro kU32 H v r
abbrev QC.R (H0 : Hp) (L : Items) (r : (List Int)) := fR H0 L (QC.out r)
structure QC.Hs where
 l0 : (List Int) → (List Int) → Int → (List Int) → Int → Int → Option (List Int)
noncomputable def QC.j2 (k : Nat) (h : QC.Hs) (b out : List Int) (borrow x y : Int) (t14 : List Int) (t15 t16 : Int) : Option (List Int) := (YJ.f k x y borrow).bind fun y18 => if out.length + 1 ≤ 35184372088704 then (h.l0 b (out ++ [y18.1]) y18.2 t14 t15 (w64 (t16 + 1))) else none
noncomputable def QC.b0 (k : Nat) (h : QC.Hs) (b out : List Int) (borrow : Int) (t14 : List Int) (t15 t16 : Int) : Option (List Int) := if t16 < t15 then (if (0 : Int) ≤ t16 ∧ t16 < (t14.length : Int) then (if t16 < (b.length : Int) then (if (0 : Int) ≤ t16 ∧ t16 < (b.length : Int) then (QC.j2 k h b out borrow (rd t14 t16) (rd b t16) t14 t15 t16) else none) else (QC.j2 k h b out borrow (rd t14 t16) 0 t14 t15 t16)) else none) else ((QQ.f k out).bind fun y12 => some (y12))
noncomputable def QC.hs : Nat → QC.Hs
 | 0 => ⟨fun _ _ _ _ _ _ => none⟩
 | k + 1 => ⟨fun x0 x1 x2 x3 x4 x5 => QC.b0 k (QC.hs k) x0 x1 x2 x3 x4 x5⟩
noncomputable def QC.f (k : Nat) (a b : List Int) : Option (List Int) := (fun h : QC.Hs => if 0 ≤ 0 ∧ 0 ≤ (a.length : Int) ∧ (a.length : Int) ≤ 70368744177664 then (h.l0 b (List.replicate (0 : Int).toNat (0 : Int)) 0 a (a.length : Int) 0) else none) (QC.hs k)
structure QC.LE (h h' : QC.Hs) : Prop where
 l0 : ∀ y0 y1 y2 y3 y4 y5, LeO (h.l0 y0 y1 y2 y3 y4 y5) (h'.l0 y0 y1 y2 y3 y4 y5)
theorem QC.j2_mono {k : Nat} {h h' : QC.Hs} (hl : QC.LE h h') : ∀ y0 y1 y2 y3 y4 y5 y6 y7, LeO (QC.j2 k h y0 y1 y2 y3 y4 y5 y6 y7) (QC.j2 (k + 1) h' y0 y1 y2 y3 y4 y5 y6 y7) := fun _ _ _ _ _ _ _ _ => (LeO.bind (YJ.mono k _ _ _) fun _ => LeO.ite (hl.l0 _ _ _ _ _ _) (LeO.refl _))
theorem QC.b0_mono {k : Nat} {h h' : QC.Hs} (hl : QC.LE h h') : ∀ y0 y1 y2 y3 y4 y5, LeO (QC.b0 k h y0 y1 y2 y3 y4 y5) (QC.b0 (k + 1) h' y0 y1 y2 y3 y4 y5) := fun _ _ _ _ _ _ => (LeO.ite (LeO.ite (LeO.ite (LeO.ite (QC.j2_mono (k := k) hl _ _ _ _ _ _ _ _) (LeO.refl _)) (QC.j2_mono (k := k) hl _ _ _ _ _ _ _ _)) (LeO.refl _)) (LeO.bind (QQ.mono k _) fun _ => LeO.refl _))
theorem QC.hs_mono : ∀ k, QC.LE (QC.hs k) (QC.hs (k + 1))
 | 0 => ⟨fun _ _ _ _ _ _ => LeO.none _⟩
 | k + 1 => ⟨QC.b0_mono (k := k) (QC.hs_mono k)⟩
theorem QC.mono : ∀ k y0 y1, LeO (QC.f k y0 y1) (QC.f (k + 1) y0 y1) := fun k _ _ => have hl := QC.hs_mono k; by unfold QC.f; exact (LeO.ite (hl.l0 _ _ _ _ _ _) (LeO.refl _))
noncomputable def QC.Kl0 : List Item := .code (lopB (blkB (seqR (seqL (seqR (seqR (seqR QC.C))))))) :: .inLoop (lopB (blkB (seqR (seqL (seqR (seqR (seqR QC.C))))))) :: .inBlock 0 :: .code (seqR (seqR (seqR (seqR QC.C)))) :: []
noncomputable def QC.Kj2 : List Item := .code (seqR (seqR (seqR (blkB (seqL (seqR (seqR (lopB (blkB (seqR (seqL (seqR (seqR (seqR QC.C)))))))))))))) :: .inBlock 1 :: .code (seqR (seqR (seqR (lopB (blkB (seqR (seqL (seqR (seqR (seqR QC.C)))))))))) :: .inLoop (lopB (blkB (seqR (seqL (seqR (seqR (seqR QC.C))))))) :: .inBlock 0 :: .code (seqR (seqR (seqR (seqR QC.C)))) :: []
structure QC.OK (h : QC.Hs) : Prop where
 l0 : ∀ {H0 H : Hp} {L : Items} {r : (List Int)} {jk_ : Nat → Value} {b : List Int} {out : List Int} {borrow : Int} {t14 : List Int} {t15 : Int} {t16 : Int} {v_b : Value} {v_out : Value} {v_t14 : Value} {i_out : Item'} (_ : H0.le H) (_he : h.l0 b out borrow t14 t15 t16 = some r) (_h_b : Src kU32 H L v_b b) (_h_out : Sl kU32 H 167 i_out v_out out) (_h_t14 : Src kU32 H L v_t14 t14), Wp Tryz.prog 143 43 QC.Kl0 (upd (upd (upd (upd (upd (upd (upd jk_ 1 (v_b)) 4 (.slice none 0 0)) 5 (v_out)) 6 (.int .u32 borrow)) 14 (v_t14)) 15 (.int .i64 t15)) 16 (.int .i64 t16)) H (i_out :: L) (QC.R H0 L r)
theorem QC.j2_ok {k : Nat} {h : QC.Hs} (hh : QC.OK h) {H0 H : Hp} {L : Items} {r : (List Int)} {jk_ : Nat → Value} {b out : List Int} {borrow x y : Int} {t14 : List Int} {t15 t16 : Int} {v_b v_out v_t14 : Value} {i_out : Item'} (hle : H0.le H) (he : QC.j2 k h b out borrow x y t14 t15 t16 = some r) (h_b : Src kU32 H L v_b b) (h_out : Sl kU32 H 167 i_out v_out out) (h_t14 : Src kU32 H L v_t14 t14) : Wp Tryz.prog 143 43 QC.Kj2 (upd (upd (upd (upd (upd (upd (upd (upd (upd jk_ 1 (v_b)) 4 (.slice none 0 0)) 5 (v_out)) 6 (.int .u32 borrow)) 8 (.int .u32 x)) 9 (.int .u32 y)) 14 (v_t14)) 15 (.int .i64 t15)) 16 (.int .i64 t16)) H (i_out :: L) (QC.R H0 L r) := by
 unfold QC.j2 at he
 unfold QC.Kj2
 refine wR rfl <| wA (.int .u32 0) rfl rfl <| wQ rfl <| wM (.int .u32 x) rfl rfl <| wM (.int .u32 y) rfl rfl <| wM (.int .u32 borrow) rfl rfl <| bK he fun y18 hy19 he => w_d rfl (Xs (Qm co159 (vs := [.int .u32 x, .int .u32 y, .int .u32 borrow]) rfl (YJ.calls k hy19))) <| wM (.tuple ⟨[.int .u32 y18.1, .int .u32 y18.2]⟩) rfl rfl ?_
 refine w_d rfl (QO rfl rfl) <| w_d rfl (QO rfl rfl) <| wA (.int .u32 y18.1) rfl rfl <| wA (.int .u32 y18.2) rfl rfl <| Qa <| QD rfl <| wM v_out rfl rfl <| wM (.int .u32 y18.1) rfl rfl <| w_a rfl (o_buildSlice' (kd := kU32) (css := [[.int .u32 y18.1]]) (xs := [y18.1]) (parts := [(0, .int .u32 y18.1)]) Tryz.underlying22 ti167 rfl ⟨_, _, rfl, rfl, rfl⟩ ⟨rfl, trivial⟩ rfl (by decide)) ?_
 rintro v22 _ _ ⟨i23, rfl, rfl, h24⟩
 refine rK he fun c25 he => w_a rfl (o_append' (kd := kU32) (F := fun z_ => i23 :: z_ :: L) Tryz.underlying22 Tryz.underlying22 ti167 rfl (by first | omega | (simp only [List.nil_append, List.length_cons, List.length_nil]; omega)) rfl rfl h_out (h24.src .here) (fun _ => .h1)) ?_
 rintro v26 _ _ ⟨i27, rfl, rfl, h28⟩
 refine wA v26 rfl rfl <| Qa <| Xk <| QD rfl <| w_d rfl (Xt (c := w64 (t16 + 1)) rfl rfl rfl) <| wM (.int .i64 (w64 (t16 + 1))) rfl rfl <| Qa <| Xy <| YD .here <| w_sl 1 (v_b) rfl <| w_sl 4 (.slice none 0 0) rfl <| w_sl 5 (v26) rfl ?_
 refine w_sl 6 (.int .u32 y18.2) rfl <| w_sl 14 (v_t14) rfl <| w_sl 15 (.int .i64 t15) rfl <| w_sl 16 (.int .i64 (w64 (t16 + 1))) rfl <| hh.l0 hle he h_b h28 h_t14
theorem QC.b0_ok {k : Nat} {h : QC.Hs} (hh : QC.OK h) {H0 H : Hp} {L : Items} {r : (List Int)} {jk_ : Nat → Value} {b out : List Int} {borrow : Int} {t14 : List Int} {t15 t16 : Int} {v_b v_out v_t14 : Value} {i_out : Item'} (hle : H0.le H) (he : QC.b0 k h b out borrow t14 t15 t16 = some r) (h_b : Src kU32 H L v_b b) (h_out : Sl kU32 H 167 i_out v_out out) (h_t14 : Src kU32 H L v_t14 t14) : Wp Tryz.prog 143 43 QC.Kl0 (upd (upd (upd (upd (upd (upd (upd jk_ 1 (v_b)) 4 (.slice none 0 0)) 5 (v_out)) 6 (.int .u32 borrow)) 14 (v_t14)) 15 (.int .i64 t15)) 16 (.int .i64 t16)) H (i_out :: L) (QC.R H0 L r) := by
 unfold QC.b0 at he
 unfold QC.Kl0
 refine wR rfl <| w_d rfl (XG rfl rfl) <| wE ?_
 rcases its he with ⟨c5, he⟩ | ⟨c5, he⟩
 ·
  refine Qy rfl (dt c5) <| QA <| QV <| QU <| wR rfl <| wM (.int .i64 t16) rfl rfl <| rK he fun c6 he => w_d rfl (XM (sz := 1) Tryz.underlying22 sz167 rfl h_t14.th rfl c6) <| w_d rfl (XL ty167 rfl h_t14.th c6) <| wA (.int .i64 t16) rfl rfl <| wA (.int .u32 (rd t14 t16)) rfl rfl ?_
  refine wQ rfl <| wA (.int .u32 0) rfl rfl <| wE <| wR rfl <| wM (.int .i64 t16) rfl rfl <| wM v_b rfl rfl <| w_d rfl (Xq Tryz.underlying22 rfl h_b.th) <| w_d rfl (XG rfl rfl) ?_
  refine Qa ?_
  rcases its he with ⟨c7, he⟩ | ⟨c7, he⟩
  ·
   refine Qy rfl (dt c7) <| QD rfl <| wM v_b rfl rfl <| wM (.int .i64 t16) rfl rfl <| rK he fun c8 he => w_d rfl (XM (sz := 1) Tryz.underlying22 sz167 rfl h_b.th rfl c8) <| w_d rfl (XL ty167 rfl h_b.th c8) <| wA (.int .u32 (rd b t16)) rfl rfl <| Qa <| w_sl 1 (v_b) rfl <| w_sl 4 (.slice none 0 0) rfl <| w_sl 5 (v_out) rfl ?_
   refine w_sl 6 (.int .u32 borrow) rfl <| w_sl 8 (.int .u32 (rd t14 t16)) rfl <| w_sl 9 (.int .u32 (rd b t16)) rfl <| w_sl 14 (v_t14) rfl <| w_sl 15 (.int .i64 t15) rfl <| w_sl 16 (.int .i64 t16) rfl <| QC.j2_ok (k := k) hh hle he h_b h_out h_t14
  ·
   refine QB rfl (df c7) <| QA <| w_sl 1 (v_b) rfl <| w_sl 4 (.slice none 0 0) rfl <| w_sl 5 (v_out) rfl <| w_sl 6 (.int .u32 borrow) rfl <| w_sl 8 (.int .u32 (rd t14 t16)) rfl <| w_sl 9 (.int .u32 0) rfl <| w_sl 14 (v_t14) rfl <| w_sl 15 (.int .i64 t15) rfl <| w_sl 16 (.int .i64 t16) rfl <| QC.j2_ok (k := k) hh hle he h_b h_out h_t14
 ·
  refine QB rfl (df c5) <| X1 rfl <| wR rfl <| wM v_out rfl rfl <| Yv h_out .here ?_
  intro H9 e10 h11
  refine bK he fun y12 hy13 he => w_a rfl (Qm co113 (vs := [v_out]) rfl (QQ.calls k hy13 h11)) ?_
  rintro v16 H14 _ ⟨rfl, e15, h17⟩
  refine wA v16 rfl rfl <| Qa ?_
  obtain rfl := sj he
  refine Qi fn_143 rs_143 (.tmp (v := v16) rfl .nil) <| ⟨⟨[_], rfl⟩, hle.trans (e10.trans e15), h17⟩
theorem QC.ok : ∀ k, QC.OK (QC.hs k)
 | 0 => ⟨(by intros; exact nomatch (show none = some _ from by assumption))⟩
 | k + 1 => ⟨QC.b0_ok (k := k) (QC.ok k)⟩
theorem QC.calls (k : Nat) {H : Hp} {L : Items} {a b : List Int} {v0_a v1_b : Value} {r : (List Int)} (he : QC.f k a b = some r) (h0_a : Src kU32 H L v0_a a) (h1_b : Src kU32 H L v1_b b) : Ct Tryz.prog 143 ⟨[v0_a, v1_b]⟩ H L (cR H L (QC.out r)) := by
 refine XR (O := QC.out r) ?_
 have hle : H.le H := .refl _
 have hh := QC.ok k
 unfold QC.f at he
 refine QP (args := [_, _]) fn_143 rfl nt_143 rfl <| wR rfl <| wA (.slice none 0 0) rfl rfl <| wQ rfl <| wM v0_a rfl rfl <| w_d rfl (Xq Tryz.underlying22 rfl h0_a) <| rK he fun c1 he => w_a rfl (o_make' (kd := kU32) (z0 := 0) Tryz.underlying22 ti167 (zp167 _) rfl rfl (by omega) (by omega) (by omega)) ?_
 rintro v2 _ _ ⟨i3, rfl, rfl, h4⟩
 refine wA v2 rfl rfl <| wQ rfl <| wA (.int .u32 0) rfl rfl <| wE <| wR rfl <| wM v0_a rfl rfl <| w_d rfl (Xq Tryz.underlying22 rfl h0_a.th) <| wM (.int .i64 0) rfl rfl ?_
 refine Qa <| QU <| X3 <| w_sl 1 (v1_b) rfl <| w_sl 4 (.slice none 0 0) rfl <| w_sl 5 (v2) rfl <| w_sl 6 (.int .u32 0) rfl <| w_sl 14 (v0_a) rfl <| w_sl 15 (.int .i64 (a.length : Int)) rfl <| w_sl 16 (.int .i64 0) rfl <| hh.l0 hle he h1_b h4 h0_a
noncomputable def Xc.C : Code := (Tryz.f127.body).getD .skip
def Xc.out (r : Qq × (Option Int)) (H : Hp) (v : Value) : Prop := ∃ v0, v = .tuple ⟨[(Qc r.1 v0), errV 104 r.2]⟩ ∧ Ro kU32 H v0 r.1.f_w
theorem Xc.out_mono (r : Qq × (Option Int)) {H H' : Hp} {v : Value} (hle : H.le H') (h : Xc.out r H v) : Xc.out r H' v := by
 obtain ⟨v0, rfl, h0⟩ := h; exact ⟨v0, rfl, h0.mono hle⟩
abbrev Xc.R (H0 : Hp) (L : Items) (r : Qq × (Option Int)) := fR H0 L (Xc.out r)
noncomputable def Xc.j1 (k : Nat) (a_0 : Bool) (a_1 : List Int) (b_0 : Bool) (b_1 : List Int) : Option (Qq × (Option Int)) := (QC.f k a_1 b_1).bind fun y26 => (XF.f k a_0 y26).bind fun y32 => some (y32.1, y32.2)
noncomputable def Xc.f (k : Nat) (a b : Qq) : Option (Qq × (Option Int)) := if (a.f_neg == b.f_neg) = true then ((Qt.f k a.f_w b.f_w).bind fun y5 => (XF.f k a.f_neg y5).bind fun y11 => some (y11.1, y11.2)) else ((Q0.f k a.f_w b.f_w).bind fun y21 => if y21 < 0 then (Xc.j1 k b.f_neg b.f_w a.f_neg a.f_w) else (Xc.j1 k a.f_neg a.f_w b.f_neg b.f_w))
theorem Xc.j1_mono {k : Nat} : ∀ y0 y1 y2 y3, LeO (Xc.j1 k y0 y1 y2 y3) (Xc.j1 (k + 1) y0 y1 y2 y3) := fun _ _ _ _ => (LeO.bind (QC.mono k _ _) fun _ => LeO.bind (XF.mono k _ _) fun _ => LeO.refl _)
theorem Xc.mono : ∀ k y0 y1, LeO (Xc.f k y0 y1) (Xc.f (k + 1) y0 y1) := fun k _ _ => by unfold Xc.f; exact (LeO.ite (LeO.bind (Qt.mono k _ _) fun _ => LeO.bind (XF.mono k _ _) fun _ => LeO.refl _) (LeO.bind (Q0.mono k _ _) fun _ => LeO.ite (Xc.j1_mono (k := k)  _ _ _ _) (Xc.j1_mono (k := k)  _ _ _ _)))
noncomputable def Xc.Kj1 : List Item := .code (seqR (seqR (seqR Xc.C))) :: []
theorem Xc.j1_ok {k : Nat} {H0 H : Hp} {L : Items} {r : Qq × (Option Int)} {jk_ : Nat → Value} {a_0 : Bool} {a_1 : List Int} {b_0 : Bool} {b_1 : List Int} {v_a_1 v_b_1 : Value} {b_a b_b b_t4 : Nat} (hle : H0.le H) (he : Xc.j1 k a_0 a_1 b_0 b_1 = some r) (h_a_1 : Ro kU32 H v_a_1 a_1) (h_b_1 : Ro kU32 H v_b_1 b_1) : Wp Tryz.prog 127 39 Xc.Kj1 (upd (upd (upd (upd jk_ 2 (pt b_a)) 3 (pt b_b)) 4 (pt b_t4)) 5 (errV 104 none)) H (bx b_t4 [.bool false, .slice none 0 0] 24 :: bx b_b [.bool b_0, v_b_1] 24 :: bx b_a [.bool a_0, v_a_1] 24 :: L) (Xc.R H0 L r) := by
 unfold Xc.j1 at he
 unfold Xc.Kj1
 refine QV <| bK he fun y26 hy27 he => bK he fun y32 hy33 he => XJ (p := 10) (tl := [10, 11]) [[], [(0, some 29)], [], [(2, some 31)], [], [(4, some 33)], [(3, some 32), (5, some 34)], [(1, some 30), (6, some 35)], [(7, some 36)], [(7, some 36)]] [some 29, some 30, some 31, some 32, some 33, some 34, some 35, some 36, some 37, some 38] (fctF (.is (pt b_a) :: .is (.bool a_0) :: .is (po b_a 1) :: .is (v_a_1) :: .is (po b_b 1) :: .is (v_b_1) :: .ro kU32 (y26) :: .of (XF.out y32) (XF.out_mono _) :: .of (fun H v => ∃ v38, v = (Qc y32.1 v38) ∧ Ro kU32 H v38 y32.1.f_w) (by rintro _ _ _ hle ⟨v38, rfl, h39⟩; exact ⟨v38, rfl, h39.mono hle⟩) :: .is (errV 104 y32.2) :: [])) (fun m_ => bx b_t4 [.bool false, .slice none 0 0] 24 :: bx b_b [.bool b_0, v_b_1] 24 :: bx b_a [.bool a_0, v_a_1] 24 :: L) (fun _ => none) mixed (by kernel_rfl) (by kernel_rfl) rfl (Xv (by kernel_rfl)) ⟨(fun H' m_ hH hm_ hu_ => dn <| s_d (m_ 0) rfl (Xe (o' := 0) Tryz.underlying24 rfl sz4 rfl rfl rfl) (by exact rfl) rfl), (by rintro H' m_ hH hm_ hu_ _ rfl; exact dn <| s_d (m_ 1) rfl (QS (v := .bool a_0) ty4 rfl .h2 rfl rfl rfl rfl) (by exact rfl) rfl), (fun H' m_ hH hm_ hu_ => dn <| s_d (m_ 2) rfl (Xe (o' := 1) Tryz.underlying24 rfl sz22 rfl rfl rfl) (by exact rfl) rfl), (by rintro H' m_ hH hm_ hu_ _ rfl; exact dn <| s_d (m_ 3) rfl (QS (v := v_a_1) ty22 rfl .h2 rfl rfl rfl rfl) (by exact rfl) rfl), (fun H' m_ hH hm_ hu_ => dn <| s_d (m_ 4) rfl (Xe (o' := 1) Tryz.underlying24 rfl sz22 rfl rfl rfl) (by exact rfl) rfl), (by rintro H' m_ hH hm_ hu_ _ rfl; exact dn <| s_d (m_ 5) rfl (QS (v := v_b_1) ty22 rfl .h1 rfl rfl rfl rfl) (by exact rfl) rfl), (by rintro H' m_ hH hm_ hu_ _ rfl _ rfl; exact dn <| s_k (m_ 6) rfl (Qm co143 (vs := [v_a_1, v_b_1]) rfl (QC.calls k hy27 ((h_a_1.mono hH).src) ((h_b_1.mono hH).src))) rfl (by rintro v_ H_ _ ⟨rfl, e_, h_⟩; exact ⟨rfl, e_, h_⟩)), (by rintro H' m_ hH hm_ hu_ _ rfl v30 (h31 : Ro kU32 H' v30 y26); exact dn <| s_k (m_ 7) rfl (Qm co115 (vs := [.bool a_0, v30]) rfl (XF.calls k hy33 h31)) rfl (by rintro v_ H_ _ ⟨rfl, e_, h_⟩; exact ⟨rfl, e_, h_⟩)), (by rintro H' m_ hH hm_ hu_ _ ⟨v36, rfl, h37⟩; exact dn <| s_d (m_ 8) rfl (QO rfl rfl) (by exact ⟨v36, rfl, h37⟩) rfl), (by rintro H' m_ hH hm_ hu_ _ ⟨v36, rfl, h37⟩; exact dn <| s_d (m_ 9) rfl (QO rfl rfl) (by exact rfl) rfl), trivial⟩ ?_
 intro H40 e41
 rintro _ _ rfl _ _ rfl _ _ rfl _ _ rfl _ _ rfl _ _ rfl v30 _ (h31 : Ro kU32 H40 v30 y26) _ _ ⟨v36, rfl, h37⟩ _ _ ⟨v38, rfl, h39⟩ _ _ rfl
 refine wS (Qc y32.1 v38) sz24 rfl rfl rfl rfl rfl (XC h39) .here u2 <| wA (errV 104 y32.2) rfl rfl <| Qa ?_
 obtain rfl := sj he
 refine Qi fn_127 rs_127 (.box (v := (Qc y32.1 v38)) rfl ty24 rfl rfl .here rfl (.tmp (v := errV 104 y32.2) rfl .nil)) <| ⟨⟨[_, _, _], rfl⟩, hle.trans e41, ⟨v38, rfl, h39⟩⟩
theorem Xc.calls (k : Nat) {H : Hp} {L : Items} {a b : Qq} {v0_a v1_b : Value} {r : Qq × (Option Int)} (he : Xc.f k a b = some r) (h0_a : Ro kU32 H v0_a a.f_w) (h1_b : Ro kU32 H v1_b b.f_w) : Ct Tryz.prog 127 ⟨[(Qc a v0_a), (Qc b v1_b)]⟩ H L (cR H L (Xc.out r)) := by
 refine XR (O := Xc.out r) ?_
 have hle : H.le H := .refl _
 unfold Xc.f at he
 refine QP (args := [_, _]) fn_127 rfl nt_127 rfl <| wR rfl <| wB (Qc a v0_a) rfl rfl rfl <| fun b1 => wB (Qc b v1_b) rfl rfl rfl <| fun b2 => wN zr24 rfl rfl fun b3 => wA (errV 104 none) rfl rfl <| wE <| wR rfl <| w_d rfl (Xe (o' := 0) Tryz.underlying24 rfl sz4 rfl rfl rfl) ?_
 refine wL (.bool a.f_neg) ty4 rfl rfl .h2 rfl rfl <| w_d rfl (Xe (o' := 0) Tryz.underlying24 rfl sz4 rfl rfl rfl) <| wL (.bool b.f_neg) ty4 rfl rfl .h1 rfl rfl <| w_d rfl (Wc (a := a.f_neg) (b := b.f_neg) Tryz.underlying4 rfl rfl) <| Qa ?_
 rcases its he with ⟨c4, he⟩ | ⟨c4, he⟩
 ·
  refine Qy rfl c4 <| QV <| bK he fun y5 hy6 he => bK he fun y11 hy12 he => XJ (p := 10) (tl := [10, 11]) [[], [(0, some 11)], [], [(2, some 13)], [], [(4, some 15)], [(3, some 14), (5, some 16)], [(1, some 12), (6, some 17)], [(7, some 18)], [(7, some 18)]] [some 11, some 12, some 13, some 14, some 15, some 16, some 17, some 18, some 19, some 20] (fctF (.is (pt b1) :: .is (.bool a.f_neg) :: .is (po b1 1) :: .is (v0_a) :: .is (po b2 1) :: .is (v1_b) :: .ro kU32 (y5) :: .of (XF.out y11) (XF.out_mono _) :: .of (fun H v => ∃ v17, v = (Qc y11.1 v17) ∧ Ro kU32 H v17 y11.1.f_w) (by rintro _ _ _ hle ⟨v17, rfl, h18⟩; exact ⟨v17, rfl, h18.mono hle⟩) :: .is (errV 104 y11.2) :: [])) (fun m_ => bx b3 [.bool false, .slice none 0 0] 24 :: bx b2 (QK b v1_b) 24 :: bx b1 (QK a v0_a) 24 :: L) (fun _ => none) mixed (by kernel_rfl) (by kernel_rfl) rfl (Xv (by kernel_rfl)) ⟨(fun H' m_ hH hm_ hu_ => dn <| s_d (m_ 0) rfl (Xe (o' := 0) Tryz.underlying24 rfl sz4 rfl rfl rfl) (by exact rfl) rfl), (by rintro H' m_ hH hm_ hu_ _ rfl; exact dn <| s_d (m_ 1) rfl (QS (v := .bool a.f_neg) ty4 rfl .h2 rfl rfl rfl rfl) (by exact rfl) rfl), (fun H' m_ hH hm_ hu_ => dn <| s_d (m_ 2) rfl (Xe (o' := 1) Tryz.underlying24 rfl sz22 rfl rfl rfl) (by exact rfl) rfl), (by rintro H' m_ hH hm_ hu_ _ rfl; exact dn <| s_d (m_ 3) rfl (QS (v := v0_a) ty22 rfl .h2 rfl rfl rfl rfl) (by exact rfl) rfl), (fun H' m_ hH hm_ hu_ => dn <| s_d (m_ 4) rfl (Xe (o' := 1) Tryz.underlying24 rfl sz22 rfl rfl rfl) (by exact rfl) rfl), (by rintro H' m_ hH hm_ hu_ _ rfl; exact dn <| s_d (m_ 5) rfl (QS (v := v1_b) ty22 rfl .h1 rfl rfl rfl rfl) (by exact rfl) rfl), (by rintro H' m_ hH hm_ hu_ _ rfl _ rfl; exact dn <| s_k (m_ 6) rfl (Qm co144 (vs := [v0_a, v1_b]) rfl (Qt.calls k hy6 ((h0_a.mono hH).src) ((h1_b.mono hH).src))) rfl (by rintro v_ H_ _ ⟨rfl, e_, h_⟩; exact ⟨rfl, e_, h_⟩)), (by rintro H' m_ hH hm_ hu_ _ rfl v9 (h10 : Ro kU32 H' v9 y5); exact dn <| s_k (m_ 7) rfl (Qm co115 (vs := (QK a v9)) rfl (XF.calls k hy12 h10)) rfl (by rintro v_ H_ _ ⟨rfl, e_, h_⟩; exact ⟨rfl, e_, h_⟩)), (by rintro H' m_ hH hm_ hu_ _ ⟨v15, rfl, h16⟩; exact dn <| s_d (m_ 8) rfl (QO rfl rfl) (by exact ⟨v15, rfl, h16⟩) rfl), (by rintro H' m_ hH hm_ hu_ _ ⟨v15, rfl, h16⟩; exact dn <| s_d (m_ 9) rfl (QO rfl rfl) (by exact rfl) rfl), trivial⟩ ?_
  intro H19 e20
  rintro _ _ rfl _ _ rfl _ _ rfl _ _ rfl _ _ rfl _ _ rfl v9 _ (h10 : Ro kU32 H19 v9 y5) _ _ ⟨v15, rfl, h16⟩ _ _ ⟨v17, rfl, h18⟩ _ _ rfl
  refine wS (Qc y11.1 v17) sz24 rfl rfl rfl rfl rfl (XC h18) .here u2 <| wA (errV 104 y11.2) rfl rfl <| Qa ?_
  obtain rfl := sj he
  refine Qi fn_127 rs_127 (.box (v := (Qc y11.1 v17)) rfl ty24 rfl rfl .here rfl (.tmp (v := errV 104 y11.2) rfl .nil)) <| ⟨⟨[_, _, _], rfl⟩, hle.trans e20, ⟨v17, rfl, h18⟩⟩
 ·
  refine QB rfl (Bool.eq_false_iff.2 c4) <| QA <| QV <| wR rfl <| w_d rfl (Xe (o' := 1) Tryz.underlying24 rfl sz22 rfl rfl rfl) <| wL v0_a ty22 rfl rfl .h2 rfl rfl <| w_d rfl (Xe (o' := 1) Tryz.underlying24 rfl sz22 rfl rfl rfl) <| wL v1_b ty22 rfl rfl .h1 rfl rfl <| bK he fun y21 hy22 he => w_d rfl (Xs (Qm co137 (vs := [v0_a, v1_b]) rfl (Q0.calls k hy22 h0_a.src h1_b.src))) <| w_d rfl (XG rfl rfl) ?_
  refine Qa ?_
  rcases its he with ⟨c25, he⟩ | ⟨c25, he⟩
  ·
   refine Qy rfl (dt c25) <| QD rfl <| wL (Qc b v1_b) ty24 rfl rfl .h1 rfl rfl <| wL (Qc a v0_a) ty24 rfl rfl .h2 rfl rfl <| wS (Qc b v1_b) sz24 rfl rfl rfl rfl rfl (XC h1_b) .h2 u2 <| wS (Qc a v0_a) sz24 rfl rfl rfl rfl rfl (XC h0_a) .h1 u2 <| Qa <| w_sl 2 (pt b1) rfl <| w_sl 3 (pt b2) rfl <| w_sl 4 (pt b3) rfl <| w_sl 5 (errV 104 none) rfl <| Xc.j1_ok (k := k) hle he h1_b h0_a
  ·
   refine QB rfl (df c25) <| QA <| w_sl 2 (pt b1) rfl <| w_sl 3 (pt b2) rfl <| w_sl 4 (pt b3) rfl <| w_sl 5 (errV 104 none) rfl <| Xc.j1_ok (k := k) hle he h0_a h1_b
end Go.Proofs.YtkccpkccdbfomaaGreatDoor.GBH
